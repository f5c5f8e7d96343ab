/- The program's PlanToCells returns what the reference's returns, for all texts, dice and cells (the law lets longer ones by). No further condition. -/
import Derived.Test.YthhiiceligjleaaGreatDoorKFnExactPlanToCells3
import Derived.Lib.SliceRun
import Derived.KernelRfl
import Derived.Deep.QuietTactic
import Derived.BigQuiet

namespace Go.Proofs.YthhiiceligjleaaGreatDoor
open Go.RowKit Go.Proofs.YthhiiceligjleaaGreatDoor.P Go.Proofs.YthhiiceligjleaaGreatDoorW.PrintWords Go.Proofs.YthhiiceligjleaaGreatDoorW.PrintLast
set_option linter.unusedVariables false
set_option linter.unusedSimpArgs false
def inFace (n : Int) : Bool := decide (0 ≤ n) && decide (n ≤ 9)
def dieB (a b c d e f : Int) : Bool := [a, b, c, d, e, f].all inFace
theorem rdn (l : List Int) (i : Nat) (h : i < l.length) : rd l (i : Int) = l[i] := by
 unfold rd
 rw [Int.toNat_natCast, List.getD_eq_getElem?_getD, List.getElem?_eq_getElem h]; rfl
theorem spec_l1In_eq (n a b : Int) : qmA.f n a b = some (decide (a ≤ n) && decide (n ≤ b)) := by
 unfold qmA.f
 by_cases h : n ≥ a
 case pos => rw [if_pos h, decide_eq_true (show a ≤ n from h), Bool.true_and]
 rw [if_neg h, decide_eq_false (show ¬ a ≤ n from h), Bool.false_and]
theorem impl_in_eq (n a b : Int) : qlA.f n a b = some (decide (a ≤ n) && decide (n ≤ b)) := by
 unfold qlA.f
 by_cases h : a ≤ n
 case pos => rw [if_pos h, decide_eq_true h, Bool.true_and]
 rw [if_neg h, decide_eq_false h, Bool.false_and]
theorem l1All_loop (l : List Int) (a b : Int) (hl : l.length ≤ 140737488355328) (d : Nat) : ∀ i : Nat, i ≤ l.length → l.length - i = d →
  Ev (fun k => qnA.l0 k a b l (l.length : Int) (i : Int)) ((l.drop i).all fun n => decide (a ≤ n) && decide (n ≤ b)) := by
 induction d with
 | zero =>
  intro i hi hd
  refine Ev.step (f := fun k => _) (fun k => by rw [qnA.l0]) (Ev.neg (by omega) (Ev.some_ ?_))
  rw [List.drop_eq_nil_of_le (by omega)]; rfl
 | succ d ih =>
  intro i hi hd
  have h : i < l.length := by omega
  refine Ev.step (f := fun k => _) (fun k => by rw [qnA.l0]) (Ev.pos (by omega) (Ev.pos (by omega) (Ev.pos (by omega) (Ev.bindc (spec_l1In_eq _ _ _) ?_))))
  rw [rdn l i h, List.drop_eq_getElem_cons h, List.all_cons, show wrap64 ((i : Int) + 1) = ((i + 1 : Nat) : Int) by unfold wrap64; omega]
  cases hb : (decide (a ≤ l[i]) && decide (l[i] ≤ b)) with
  | true => exact Ev.pos rfl (ih (i + 1) (by omega) (by omega))
  | false => exact Ev.neg (by decide) (Ev.some_ rfl)
theorem spec_l1All_ev (l : List Int) (a b : Int) (hl : l.length ≤ 140737488355328) : Ev (fun k => qnA.f k l a b) (l.all fun n => decide (a ≤ n) && decide (n ≤ b)) := by
 have := l1All_loop l a b hl l.length 0 (by omega) (by omega)
 simpa [qnA.f] using this
theorem spec_diGood_ev (a b c d e f : Int) : Ev (fun k => qnB.f k a b c d e f) (dieB a b c d e f) := by
 unfold qnB.f
 exact Ev.bindc rfl (Ev.bind (spec_l1All_ev [a, b, c, d, e, f] 0 9 (by simp)) (Ev.some_ rfl))
theorem isDie1_eq (n : Int) : qeB.f n = some (!inFace n) := by
 unfold qeB.f
 rw [impl_in_eq]; rfl
theorem idxDie_loop (l : List Int) (hl : l.length ≤ 140737488355328) (d : Nat) : ∀ i : Nat, i ≤ l.length → l.length - i = d →
  ∃ r : Int, Ev (fun k => qI.l0 k l (l.length : Int) (i : Int)) r ∧ decide (r ≥ 0) = !((l.drop i).all inFace) := by
 induction d with
 | zero =>
  intro i hi hd
  refine ⟨-1, Ev.step (f := fun k => _) (fun k => by rw [qI.l0]) (Ev.neg (by omega) (Ev.some_ rfl)), ?_⟩
  rw [List.drop_eq_nil_of_le (by omega)]; rfl
 | succ d ih =>
  intro i hi hd
  have h : i < l.length := by omega
  rw [List.drop_eq_getElem_cons h, List.all_cons]
  cases hb : inFace l[i] with
  | true =>
   obtain ⟨r, h1, h2⟩ := ih (i + 1) (by omega) (by omega)
   refine ⟨r, Ev.step (f := fun k => _) (fun k => by rw [qI.l0]) (Ev.pos (by omega) (Ev.pos (by omega) (Ev.pos (by omega) (Ev.bindc (isDie1_eq _) ?_)))), by rw [Bool.true_and]; exact h2⟩
   rw [rdn l i h, hb, show wrap64 ((i : Int) + 1) = ((i + 1 : Nat) : Int) by unfold wrap64; omega]
   exact Ev.neg (by decide) h1
  | false =>
   refine ⟨(i : Int), Ev.step (f := fun k => _) (fun k => by rw [qI.l0]) (Ev.pos (by omega) (Ev.pos (by omega) (Ev.pos (by omega) (Ev.bindc (isDie1_eq _) ?_)))), ?_⟩
   ·rw [rdn l i h, hb]
    exact Ev.pos rfl (Ev.now _)
   ·rw [Bool.false_and]; exact decide_eq_true (by omega)
theorem impl_IsDie_ev (a b c d e f : Int) : Ev (fun k => qrB.f k a b c d e f) (dieB a b c d e f) := by
 obtain ⟨r, h1, h2⟩ := idxDie_loop [a, b, c, d, e, f] (by simp) 6 0 (by simp) (by simp)
 unfold qrB.f qo.f qI.f
 refine Ev.bindc rfl (Ev.bind (a := decide (r ≥ 0)) (Ev.bind h1 (Ev.now _)) (Ev.some_ ?_))
 rw [h2]
 simp [dieB]
theorem dieB_face {a b c d e f : Int} (h : dieB a b c d e f = true) : ∀ n ∈ [a, b, c, d, e, f], 0 ≤ n ∧ n ≤ 9 := by
 intro n hn
 have := List.all_eq_true.1 h n hn
 simpa [inFace] using this
end Go.Proofs.YthhiiceligjleaaGreatDoor
namespace Go.Proofs.YthhiiceligjleaaGreatDoor.P
open Go.RowKit Go.Proofs.YthhiiceligjleaaGreatDoorW.PrintWords Go.Proofs.YthhiiceligjleaaGreatDoorW.PrintLast Go.Proofs.YthhiiceligjleaaGreatDoorW.PrintMore
attribute [local go_sem] qh qf qr qq qZ qY qg qe
set_option linter.unusedVariables false
set_option linter.unusedSimpArgs false
def qrA.f (k : Nat) (l0 : List ByteArray) (a1_0 : Int) (a1_1 : Int) (a1_2 : Int) (a1_3 : Int) (a1_4 : Int) (a1_5 : Int) (a1_6 : Int) (a1_7 : Int) : Option (Bool) := (qrB.f k a1_2 a1_3 a1_4 a1_5 a1_6 a1_7).bind fun t424 => (if t424 = true then ((qgA.f l0 a1_0 a1_1).bind fun t425 => (some (t425 == 46))) else (some false))
set_option maxHeartbeats 8000000 in
set_option maxRecDepth 100000 in
theorem qrA.calls (k : Nat) (A0 : Option Addr) (c0 : Nat) (l0 : List ByteArray) (a1_0 : Int) (a1_1 : Int) (a1_2 : Int) (a1_3 : Int) (a1_4 : Int) (a1_5 : Int) (a1_6 : Int) (a1_7 : Int) (r : Bool) (w : World) (hr0 : Kd.C Kd.string w A0 l0.length l0) (hc0 : l0.length ≤ c0) (h : qrA.f k l0 a1_0 a1_1 a1_2 a1_3 a1_4 a1_5 a1_6 a1_7 = some r) :
  Calls Tryz.prog 73 #[.slice A0 l0.length c0, .agg #[.int .i64 a1_0, .int .i64 a1_1, .int .i64 a1_2, .int .i64 a1_3, .int .i64 a1_4, .int .i64 a1_5, .int .i64 a1_6, .int .i64 a1_7]] w fun e w' => e = .returned (.bool r) ∧ Below w.heap.size w w' := by
 have hu53 := Tryz.underlying53
 have hu51 := Tryz.underlying51
 have HR0 := aM hr0
 have HC0 := aM hc0
 clear hr0 hc0
 have HB := aM (Below.refl w.heap.size w)
 have H : ((qrB.f k a1_2 a1_3 a1_4 a1_5 a1_6 a1_7).bind fun t424 => (if t424 = true then ((qgA.f l0 a1_0 a1_1).bind fun t425 => (some (t425 == 46))) else (some false))) = some r := h
 clear h
 replace H := bO H
 obtain ⟨t424, A3, H⟩ := H
 by_cases c4 : t424 = true
 ·subst c4
  replace H := iT H
  replace H := bO H
  obtain ⟨t425, A5, H⟩ := H
  obtain rfl := Option.some.inj H
  go_enter Tryz.func73, Tryz.ntmps73
  go_wp2_with (first | ((with_reducible refine qH (N := 3) rfl ?_); refine bE (N := 3) (cs := #[.int .i64 a1_0, .int .i64 a1_1, .int .i64 a1_2, .int .i64 a1_3, .int .i64 a1_4, .int .i64 a1_5, .int .i64 a1_6, .int .i64 a1_7]) (t := 53) ?_; intro gb423 hg w6 hbox hb; have BK423 := aM (hbox); have GW423 := aM ((gg hg)); have GE423 := aM ((gg hg)); replace HB := aM (qB bl hb); clear hb hbox hg; (refine cb8 BK423 ?_; intro _ _ _ _ _ _ _ _); (refine cz8 BK423 ?_; intro _ _ _ _ _ _ _ _)) | ((with_reducible refine qE (f := 87) rfl ?_); refine qm (some 7) rfl rfl Tryz.func87 (by kernel_rfl) rfl #[.agg #[.int .i64 a1_2, .int .i64 a1_3, .int .i64 a1_4, .int .i64 a1_5, .int .i64 a1_6, .int .i64 a1_7]] rfl gA ?_; (with_reducible refine (qrB.calls k a1_2 a1_3 a1_4 a1_5 a1_6 a1_7 true _ A3.out).mono ?_); rintro e w8 ⟨rfl, hb⟩; refine ⟨_, rfl, ?_⟩; replace BK423 := aM (bb BK423 hb); replace HB := aM (qB bl hb); (try clear hb); (try clear hb2); (try clear hk); (try clear hi); (refine cb8 BK423 ?_; intro _ _ _ _ _ _ _ _); (refine cz8 BK423 ?_; intro _ _ _ _ _ _ _ _)) | (go_at_call 85; (with_reducible refine (qgA.calls _ _ l0 a1_0 a1_1 t425 _ ?side1 ?side2 A5.out).mono ?_); (case side1 => repeat (first | exact (Kd.qV HR0.out HB.out) | (with_reducible refine Kd.qL ?_ _) | (with_reducible refine Kd.qK ?_ _) | (with_reducible refine Kd.qX ?_))); (case side2 => exact HC0.out); rintro e w' ⟨rfl, ⟨nd, rfl⟩⟩))
  go_ret
  exact ⟨sR, bl⟩
 ·replace c4 := Bool.eq_false_iff.mpr c4
  subst c4
  replace H := iF H
  obtain rfl := Option.some.inj H
  go_enter Tryz.func73, Tryz.ntmps73
  go_wp2_with (first | ((with_reducible refine qH (N := 3) rfl ?_); refine bE (N := 3) (cs := #[.int .i64 a1_0, .int .i64 a1_1, .int .i64 a1_2, .int .i64 a1_3, .int .i64 a1_4, .int .i64 a1_5, .int .i64 a1_6, .int .i64 a1_7]) (t := 53) ?_; intro gb423 hg w10 hbox hb; have BK423 := aM (hbox); have GW423 := aM ((gg hg)); have GE423 := aM ((gg hg)); replace HB := aM (qB bl hb); clear hb hbox hg; (refine cb8 BK423 ?_; intro _ _ _ _ _ _ _ _); (refine cz8 BK423 ?_; intro _ _ _ _ _ _ _ _)) | ((with_reducible refine qE (f := 87) rfl ?_); refine qm (some 7) rfl rfl Tryz.func87 (by kernel_rfl) rfl #[.agg #[.int .i64 a1_2, .int .i64 a1_3, .int .i64 a1_4, .int .i64 a1_5, .int .i64 a1_6, .int .i64 a1_7]] rfl gA ?_; (with_reducible refine (qrB.calls k a1_2 a1_3 a1_4 a1_5 a1_6 a1_7 false _ A3.out).mono ?_); rintro e w12 ⟨rfl, hb⟩; refine ⟨_, rfl, ?_⟩; replace BK423 := aM (bb BK423 hb); replace HB := aM (qB bl hb); (try clear hb); (try clear hb2); (try clear hk); (try clear hi)))
  go_ret
  exact ⟨sR, bl⟩
end Go.Proofs.YthhiiceligjleaaGreatDoor.P
namespace Go.Proofs.YthhiiceligjleaaGreatDoor
open Go.RowKit Go.Proofs.YthhiiceligjleaaGreatDoor.P Go.Proofs.YthhiiceligjleaaGreatDoorW.PrintWords Go.Proofs.YthhiiceligjleaaGreatDoorW.PrintLast
set_option linter.unusedVariables false
set_option linter.unusedSimpArgs false
def qGD.f (l : List S53) (y0 y1 y2 y3 y4 y5 y6 y7 : Int) : Option Bool := some (l.any fun x => decide (x.f0 = y0) && decide (x.f1 = y1))
theorem at1_any_isAt (x : S53) (y0 y1 : Int) : qbA.f x.f0 x.f1 x.f2.f0 x.f2.f1 x.f2.f2 x.f2.f3 x.f2.f4 x.f2.f5 y0 y1 = some (decide (x.f0 = y0) && decide (x.f1 = y1)) := by
 unfold qbA.f
 by_cases h : x.f0 = y0
 case pos => rw [if_pos h, decide_eq_true h, Bool.true_and]; rfl
 rw [if_neg h, decide_eq_false h, Bool.false_and]
set_option maxHeartbeats 1000000 in
set_option maxRecDepth 100000 in
theorem at1_any_calls (x : S53) (b : Nat) (y0 y1 : Int) (w : World) (h0 : w.cell? ⟨b, 0, none⟩ = some (.int .i64 y0)) (h1 : w.cell? ⟨b, 1, none⟩ = some (.int .i64 y1)) :
  Calls Tryz.prog 74 (#[encState x] ++ #[.pointer (some ⟨b, 0, none⟩)]) w fun e w' => e = .returned (.bool (decide (x.f0 = y0) && decide (x.f1 = y1))) ∧ Below w.heap.size w w' := by
 have hu := Tryz.underlying53
 show Calls Tryz.prog 74 #[encState x, .pointer (some ⟨b, 0, none⟩)] w _
 unfold encState
 have g7 := World.block_lt_of_cell? w _ h0
 have HH := fun (W : World) => Lib.hid (qbA.calls x.f0 x.f1 x.f2.f0 x.f2.f1 x.f2.f2 x.f2.f3 x.f2.f4 x.f2.f5 y0 y1 _ W (at1_any_isAt x y0 y1))
 go_enter Tryz.func74, Tryz.ntmps74
 go_wp2_with (first | (go_at_call 39; refine (HH _).out.mono ?_; rintro e w1 ⟨rfl, hb⟩; have HB := Lib.hid (qEA (qt (Below.refl w.heap.size w) _) (qJ (qt (Below.refl w.heap.size w) _)) hb); clear hb))
 go_ret
 exact ⟨rfl, HB.out⟩
theorem qGD.calls (A0 : Option Addr) (c0 : Nat) (l0 : List S53) (b : Nat) (y0 y1 y2 y3 y4 y5 y6 y7 : Int) (r : Bool) (w : World) (hr0 : Kd.C k53 w A0 l0.length l0) (hc0 : l0.length ≤ c0) (h0 : w.cell? ⟨b, 0, none⟩ = some (.int .i64 y0)) (h1 : w.cell? ⟨b, 1, none⟩ = some (.int .i64 y1)) (_h2 : w.cell? ⟨b, 2, none⟩ = some (.int .i64 y2)) (_h3 : w.cell? ⟨b, 3, none⟩ = some (.int .i64 y3)) (_h4 : w.cell? ⟨b, 4, none⟩ = some (.int .i64 y4)) (_h5 : w.cell? ⟨b, 5, none⟩ = some (.int .i64 y5)) (_h6 : w.cell? ⟨b, 6, none⟩ = some (.int .i64 y6)) (_h7 : w.cell? ⟨b, 7, none⟩ = some (.int .i64 y7))
  (h : qGD.f l0 y0 y1 y2 y3 y4 y5 y6 y7 = some r) :
  Calls Tryz.prog 70 #[.slice A0 l0.length c0, .func (.func 74) #[] #[.pointer (some ⟨b, 0, none⟩)]] w fun e w' => e = .returned (.bool r) ∧ Below w.heap.size w w' := by
 obtain rfl := Option.some.inj h
 have eg := Go.Proofs.enters_of Tryz.func74 (by kernel_rfl) rfl
 exact containsFunc_State (fun x => decide (x.f0 = y0) && decide (x.f1 = y1)) 74 _ eg A0 c0 l0 w hr0 fun W x hx hb => at1_any_calls x b y0 y1 W (qFA hb h0) (qFA hb h1)
end Go.Proofs.YthhiiceligjleaaGreatDoor
namespace Go.Proofs.YthhiiceligjleaaGreatDoor.P
open Go.RowKit Go.Proofs.YthhiiceligjleaaGreatDoorW.PrintWords Go.Proofs.YthhiiceligjleaaGreatDoorW.PrintLast Go.Proofs.YthhiiceligjleaaGreatDoorW.PrintMore
attribute [local go_sem] qh qf qr qq qZ qY qg qe
set_option linter.unusedVariables false
set_option linter.unusedSimpArgs false
def qv.l0 : Nat → List ByteArray → List (S53) → List (S53) → Int → Int → Option (Bool)
 | 0, _, _, _, _, _ => none
 | k + 1, x0, x1, x7, x8, x9 => if x9 < x8 then (if 0 ≤ x9 then (if x9 < (x7.length : Int) then ((qrA.f k x0 ((qA x7 x9).f0) ((qA x7 x9).f1) ((qA x7 x9).f2.f0) ((qA x7 x9).f2.f1) ((qA x7 x9).f2.f2) ((qA x7 x9).f2.f3) ((qA x7 x9).f2.f4) ((qA x7 x9).f2.f5)).bind fun t429 => (if t429 = true then (if x9 ≤ (x1.length : Int) then ((qGD.f (x1.take (x9 : Int).toNat) ((qA x7 x9).f0) ((qA x7 x9).f1) ((qA x7 x9).f2.f0) ((qA x7 x9).f2.f1) ((qA x7 x9).f2.f2) ((qA x7 x9).f2.f3) ((qA x7 x9).f2.f4) ((qA x7 x9).f2.f5)).bind fun t434 => (if t434 = true then (some false) else (qv.l0 k x0 x1 x7 x8 (wrap64 (x9 + 1))))) else (none)) else (some false))) else (none)) else (none)) else ((qlA.f (x1.length : Int) 1 3).bind fun t426 => (some t426))
def qv.f (k : Nat) (l0 : List ByteArray) (l1 : List (S53)) : Option (Bool) := qv.l0 k l0 l1 l1 (l1.length : Int) 0
set_option maxHeartbeats 8000000 in
set_option maxRecDepth 100000 in
theorem qv.calls (k : Nat) (A0 : Option Addr) (c0 : Nat) (l0 : List ByteArray) (A1 : Option Addr) (c1 : Nat) (l1 : List (S53)) (r : Bool) (w : World) (hr0 : Kd.C Kd.string w A0 l0.length l0) (hc0 : l0.length ≤ c0) (hr1 : Kd.C k53 w A1 l1.length l1) (hc1 : l1.length ≤ c1) (h : qv.f k l0 l1 = some r) :
  Calls Tryz.prog 54 #[.slice A0 l0.length c0, .slice A1 l1.length c1] w fun e w' => e = .returned (.bool r) ∧ Below w.heap.size w w' := by
 have hu53 := Tryz.underlying53
 have HR0 := aM hr0
 have HC0 := aM hc0
 clear hr0 hc0
 have HR1 := aM hr1
 have HC1 := aM hc1
 clear hr1 hc1
 have HB := aM (Below.refl w.heap.size w)
 have H : (qv.l0 k l0 l1 l1 (l1.length : Int) 0) = some r := h
 clear h
 have H' := aM H
 clear H
 go_enter Tryz.func54, Tryz.ntmps54
 go_wp2
 go_loopg [9] k (fun kq v9 w' => ∃ (x9_1 : Int), v9 = .int .i64 x9_1 ∧ Aside0 (qv.l0 kq l0 l1 l1 (l1.length : Int) x9_1 = some r) ∧ Aside0 (kq ≤ k) ∧ Aside0 (Below w.heap.size w w'))
 case atStart => exact ⟨(0), sD, H', ⟨Nat.le_refl _⟩, ⟨bl⟩⟩
 case round =>
  clear H'; (try clear c1); (try clear p2)
  obtain ⟨x9_1, rfl, HA, HK1, HB⟩ := hrel
  cases gk with
  | zero => exact absurd HA.out (by simp [qv.l0])
  | succ k1 =>
   have H := HA.out
   clear HA
   simp only [qv.l0] at H
   by_cases c3 : x9_1 < (l1.length : Int)
   ·rw [if_pos c3] at H
    have c3b0 := decide_eq_true c3
    clear c3
    by_cases c4 : 0 ≤ x9_1
    case neg => exact nN c4 H
    rw [if_pos c4] at H
    have c4b0 := decide_eq_true c4
    clear c4
    by_cases c5 : x9_1 < (l1.length : Int)
    case neg => exact nN c5 H
    rw [if_pos c5] at H
    have c5b0 := decide_eq_true c5
    clear c5
    replace H := bO H
    obtain ⟨t429, A6, H⟩ := H
    by_cases c7 : t429 = true
    ·subst c7
     replace H := iT H
     have c8b0 := eq_true (of_decide_eq_true am : 0 ≤ x9_1)
     by_cases c9 : x9_1 ≤ (l1.length : Int)
     case neg => exact nN c9 H
     rw [if_pos c9] at H
     have c9b0 := eq_true c9
     have c9b1 := decide_eq_true c9
     clear c9
     obtain ⟨y430, hy430⟩ : ∃ y_ : List (S53), y_ = (l1.take (x9_1 : Int).toNat) := ⟨_, rfl⟩
     replace H : ((qGD.f y430 ((qA l1 x9_1).f0) ((qA l1 x9_1).f1) ((qA l1 x9_1).f2.f0) ((qA l1 x9_1).f2.f1) ((qA l1 x9_1).f2.f2) ((qA l1 x9_1).f2.f3) ((qA l1 x9_1).f2.f4) ((qA l1 x9_1).f2.f5)).bind fun t434 => (if t434 = true then (some false) else (qv.l0 k1 l0 l1 l1 (l1.length : Int) (wrap64 (x9_1 + 1))))) = some r := by first | (rw [hy430]; with_reducible exact H) | (have H2_ := (Option.bind_some _ _).symm.trans H; rw [hy430]; with_reducible exact H2_) | (have H2_ := (Option.bind_some _ _).symm.trans H; with_reducible exact H2_) | with_reducible exact H | (rw [hy430]; exact H) | exact H
     have Ny430 := aM hy430
     clear hy430
     replace H := bO H
     obtain ⟨t434, A10, H⟩ := H
     by_cases c11 : t434 = true
     ·subst c11
      replace H := iT H
      obtain rfl := Option.some.inj H
      have p427 : 0 ≤ (x9_1 : Int) := of_decide_eq_true am
      have q427 : x9_1 < (l1.length : Int) := of_decide_eq_true am
      obtain ⟨ad427, e427, hx427_0, hx427_1, hx427_2, hx427_3, hx427_4, hx427_5, hx427_6, hx427_7⟩ := qYB HR1.out x9_1 p427 q427
      cases e427
      replace hx427_0 := hB HB hx427_0
      replace hx427_1 := hB HB hx427_1
      replace hx427_2 := hB HB hx427_2
      replace hx427_3 := hB HB hx427_3
      replace hx427_4 := hB HB hx427_4
      replace hx427_5 := hB HB hx427_5
      replace hx427_6 := hB HB hx427_6
      replace hx427_7 := hB HB hx427_7
      replace p427 := eq_true p427
      replace q427 := eq_true q427
      go_wp2_with (first | ((with_reducible refine qH (N := 6) rfl ?_); refine bE (N := 6) (cs := #[.int .i64 0, .int .i64 0, .int .i64 0, .int .i64 0, .int .i64 0, .int .i64 0, .int .i64 0, .int .i64 0]) (t := 53) ?_; intro gb428 hg w12 hbox hb; have BK428 := aM (hbox); have GW428 := aM ((gg hg)); have GE428 := aM ((gg hg)); replace HB := aM (qB bl hb); clear hb hbox hg; (refine cb8 BK428 ?_; intro _ _ _ _ _ _ _ _); (refine cz8 BK428 ?_; intro _ _ _ _ _ _ _ _)) | ((with_reducible refine qE (f := 73) rfl ?_); refine qm (some 16) rfl rfl Tryz.func73 (by kernel_rfl) rfl #[.slice A0 l0.length c0, .agg #[.int .i64 ((qA l1 x9_1).f0), .int .i64 ((qA l1 x9_1).f1), .int .i64 ((qA l1 x9_1).f2.f0), .int .i64 ((qA l1 x9_1).f2.f1), .int .i64 ((qA l1 x9_1).f2.f2), .int .i64 ((qA l1 x9_1).f2.f3), .int .i64 ((qA l1 x9_1).f2.f4), .int .i64 ((qA l1 x9_1).f2.f5)]] rfl gA ?_; (with_reducible refine (qrA.calls k1 _ _ l0 ((qA l1 x9_1).f0) ((qA l1 x9_1).f1) ((qA l1 x9_1).f2.f0) ((qA l1 x9_1).f2.f1) ((qA l1 x9_1).f2.f2) ((qA l1 x9_1).f2.f3) ((qA l1 x9_1).f2.f4) ((qA l1 x9_1).f2.f5) true _ ?side1 ?side2 A6.out).mono ?_); (case side1 => exact Kd.qV HR0.out bl); (case side2 => exact HC0.out); rintro e w14 ⟨rfl, hb⟩; refine ⟨_, rfl, ?_⟩; replace BK428 := aM (qCA (g := gb428) (o := .cells #[.int .i64 ((qA l1 x9_1).f0), .int .i64 ((qA l1 x9_1).f1), .int .i64 ((qA l1 x9_1).f2.f0), .int .i64 ((qA l1 x9_1).f2.f1), .int .i64 ((qA l1 x9_1).f2.f2), .int .i64 ((qA l1 x9_1).f2.f3), .int .i64 ((qA l1 x9_1).f2.f4), .int .i64 ((qA l1 x9_1).f2.f5)] 53 (0, 0)) (by (with_reducible repeat (first | refine qG ?_ _ | refine qD ?_ | refine qF ?_ _)); exact bP8 BK428) hb); replace HB := aM (qB bl hb); (try clear hb); (try clear hb2); (try clear hk); (try clear hi); have q15 : (x9_1 : Int) ≤ ((l1.length : Int) : Int) := of_decide_eq_true am; obtain ⟨i015, hi015, _, hsz15, _⟩ := info_parts info53; have hroom15 : l1.length ≤ c1 := HC1.out; have hC15 : Kd.C k53 _ (some ad427) l1.length l1 := HR1.out; have hcut15 := qEE (P := Tryz.prog) 26 53 .i64 Tryz.underlying26 hi015 (some ad427) l1.length c1 x9_1 (of_decide_eq_true am) q15 hroom15; have hr15 := Kd.qgC (m := (x9_1 : Int).toNat) hC15 (by omega); have hy15 : y430.length = (x9_1 : Int).toNat := (by rw [Ny430.out, List.length_take]; omega); rw [← Ny430.out] at hr15; rw [← hy15] at hcut15; have HR433 := aM hr15; have HC433 := aM (show y430.length ≤ c1 from by omega); clear hr15 hC15 hroom15 hi015 hsz15; have KY15 := aM hy15; clear hy15; replace q15 := eq_true q15) | (go_at_call 70; (with_reducible refine (qGD.calls _ _ y430 gb428 ((qA l1 x9_1).f0) ((qA l1 x9_1).f1) ((qA l1 x9_1).f2.f0) ((qA l1 x9_1).f2.f1) ((qA l1 x9_1).f2.f2) ((qA l1 x9_1).f2.f3) ((qA l1 x9_1).f2.f4) ((qA l1 x9_1).f2.f5) true _ ?side1 ?side2 ?side3 ?side4 ?side5 ?side6 ?side7 ?side8 ?side9 ?side10 A10.out).mono ?_); (case side1 => repeat (first | exact (Kd.qV HR433.out HB.out) | (with_reducible refine Kd.qL ?_ _) | (with_reducible refine Kd.qK ?_ _) | (with_reducible refine Kd.qX ?_))); (case side2 => exact HC433.out); (case side3 => exact (cell_of_row _ gb428 0 _ 53 (0, 0) (rB BK428)).trans rfl); (case side4 => exact (cell_of_row _ gb428 1 _ 53 (0, 0) (rB BK428)).trans rfl); (case side5 => exact (cell_of_row _ gb428 2 _ 53 (0, 0) (rB BK428)).trans rfl); (case side6 => exact (cell_of_row _ gb428 3 _ 53 (0, 0) (rB BK428)).trans rfl); (case side7 => exact (cell_of_row _ gb428 4 _ 53 (0, 0) (rB BK428)).trans rfl); (case side8 => exact (cell_of_row _ gb428 5 _ 53 (0, 0) (rB BK428)).trans rfl); (case side9 => exact (cell_of_row _ gb428 6 _ 53 (0, 0) (rB BK428)).trans rfl); (case side10 => exact (cell_of_row _ gb428 7 _ 53 (0, 0) (rB BK428)).trans rfl); rintro e w16 ⟨rfl, hb⟩; replace BK428 := aM (bb BK428 hb); replace HB := aM (qB bl hb); (try clear hb); (try clear hb2); (try clear hk); (try clear hi)))
      go_ret
      exact ⟨sR, bl⟩
     ·replace c11 := Bool.eq_false_iff.mpr c11
      subst c11
      replace H := iF H
      have H' := aM H
      clear H
      have p427 : 0 ≤ (x9_1 : Int) := of_decide_eq_true am
      have q427 : x9_1 < (l1.length : Int) := of_decide_eq_true am
      obtain ⟨ad427, e427, hx427_0, hx427_1, hx427_2, hx427_3, hx427_4, hx427_5, hx427_6, hx427_7⟩ := qYB HR1.out x9_1 p427 q427
      cases e427
      replace hx427_0 := hB HB hx427_0
      replace hx427_1 := hB HB hx427_1
      replace hx427_2 := hB HB hx427_2
      replace hx427_3 := hB HB hx427_3
      replace hx427_4 := hB HB hx427_4
      replace hx427_5 := hB HB hx427_5
      replace hx427_6 := hB HB hx427_6
      replace hx427_7 := hB HB hx427_7
      replace p427 := eq_true p427
      replace q427 := eq_true q427
      go_wp2_with (first | ((with_reducible refine qH (N := 6) rfl ?_); refine bE (N := 6) (cs := #[.int .i64 0, .int .i64 0, .int .i64 0, .int .i64 0, .int .i64 0, .int .i64 0, .int .i64 0, .int .i64 0]) (t := 53) ?_; intro gb428 hg w17 hbox hb; have BK428 := aM (hbox); have GW428 := aM ((gg hg)); have GE428 := aM ((gg hg)); replace HB := aM (qB bl hb); clear hb hbox hg; (refine cb8 BK428 ?_; intro _ _ _ _ _ _ _ _); (refine cz8 BK428 ?_; intro _ _ _ _ _ _ _ _)) | ((with_reducible refine qE (f := 73) rfl ?_); refine qm (some 16) rfl rfl Tryz.func73 (by kernel_rfl) rfl #[.slice A0 l0.length c0, .agg #[.int .i64 ((qA l1 x9_1).f0), .int .i64 ((qA l1 x9_1).f1), .int .i64 ((qA l1 x9_1).f2.f0), .int .i64 ((qA l1 x9_1).f2.f1), .int .i64 ((qA l1 x9_1).f2.f2), .int .i64 ((qA l1 x9_1).f2.f3), .int .i64 ((qA l1 x9_1).f2.f4), .int .i64 ((qA l1 x9_1).f2.f5)]] rfl gA ?_; (with_reducible refine (qrA.calls k1 _ _ l0 ((qA l1 x9_1).f0) ((qA l1 x9_1).f1) ((qA l1 x9_1).f2.f0) ((qA l1 x9_1).f2.f1) ((qA l1 x9_1).f2.f2) ((qA l1 x9_1).f2.f3) ((qA l1 x9_1).f2.f4) ((qA l1 x9_1).f2.f5) true _ ?side1 ?side2 A6.out).mono ?_); (case side1 => exact Kd.qV HR0.out bl); (case side2 => exact HC0.out); rintro e w19 ⟨rfl, hb⟩; refine ⟨_, rfl, ?_⟩; replace BK428 := aM (qCA (g := gb428) (o := .cells #[.int .i64 ((qA l1 x9_1).f0), .int .i64 ((qA l1 x9_1).f1), .int .i64 ((qA l1 x9_1).f2.f0), .int .i64 ((qA l1 x9_1).f2.f1), .int .i64 ((qA l1 x9_1).f2.f2), .int .i64 ((qA l1 x9_1).f2.f3), .int .i64 ((qA l1 x9_1).f2.f4), .int .i64 ((qA l1 x9_1).f2.f5)] 53 (0, 0)) (by (with_reducible repeat (first | refine qG ?_ _ | refine qD ?_ | refine qF ?_ _)); exact bP8 BK428) hb); replace HB := aM (qB bl hb); (try clear hb); (try clear hb2); (try clear hk); (try clear hi); have q20 : (x9_1 : Int) ≤ ((l1.length : Int) : Int) := of_decide_eq_true am; obtain ⟨i020, hi020, _, hsz20, _⟩ := info_parts info53; have hroom20 : l1.length ≤ c1 := HC1.out; have hC20 : Kd.C k53 _ (some ad427) l1.length l1 := HR1.out; have hcut20 := qEE (P := Tryz.prog) 26 53 .i64 Tryz.underlying26 hi020 (some ad427) l1.length c1 x9_1 (of_decide_eq_true am) q20 hroom20; have hr20 := Kd.qgC (m := (x9_1 : Int).toNat) hC20 (by omega); have hy20 : y430.length = (x9_1 : Int).toNat := (by rw [Ny430.out, List.length_take]; omega); rw [← Ny430.out] at hr20; rw [← hy20] at hcut20; have HR433 := aM hr20; have HC433 := aM (show y430.length ≤ c1 from by omega); clear hr20 hC20 hroom20 hi020 hsz20; have KY20 := aM hy20; clear hy20; replace q20 := eq_true q20) | (go_at_call 70; (with_reducible refine (qGD.calls _ _ y430 gb428 ((qA l1 x9_1).f0) ((qA l1 x9_1).f1) ((qA l1 x9_1).f2.f0) ((qA l1 x9_1).f2.f1) ((qA l1 x9_1).f2.f2) ((qA l1 x9_1).f2.f3) ((qA l1 x9_1).f2.f4) ((qA l1 x9_1).f2.f5) false _ ?side1 ?side2 ?side3 ?side4 ?side5 ?side6 ?side7 ?side8 ?side9 ?side10 A10.out).mono ?_); (case side1 => repeat (first | exact (Kd.qV HR433.out HB.out) | (with_reducible refine Kd.qL ?_ _) | (with_reducible refine Kd.qK ?_ _) | (with_reducible refine Kd.qX ?_))); (case side2 => exact HC433.out); (case side3 => exact (cell_of_row _ gb428 0 _ 53 (0, 0) (rB BK428)).trans rfl); (case side4 => exact (cell_of_row _ gb428 1 _ 53 (0, 0) (rB BK428)).trans rfl); (case side5 => exact (cell_of_row _ gb428 2 _ 53 (0, 0) (rB BK428)).trans rfl); (case side6 => exact (cell_of_row _ gb428 3 _ 53 (0, 0) (rB BK428)).trans rfl); (case side7 => exact (cell_of_row _ gb428 4 _ 53 (0, 0) (rB BK428)).trans rfl); (case side8 => exact (cell_of_row _ gb428 5 _ 53 (0, 0) (rB BK428)).trans rfl); (case side9 => exact (cell_of_row _ gb428 6 _ 53 (0, 0) (rB BK428)).trans rfl); (case side10 => exact (cell_of_row _ gb428 7 _ 53 (0, 0) (rB BK428)).trans rfl); rintro e w21 ⟨rfl, hb⟩; replace BK428 := aM (bb BK428 hb); replace HB := aM (qB bl hb); (try clear hb); (try clear hb2); (try clear hk); (try clear hi)))
      go_roundg k1
      case measure => have := HK1.out; omega
      case rel => exact ⟨(wrap64 (x9_1 + 1)), sD, H', ⟨by have := HK1.out; omega⟩, ⟨bl⟩⟩
    ·replace c7 := Bool.eq_false_iff.mpr c7
     subst c7
     replace H := iF H
     obtain rfl := Option.some.inj H
     have p427 : 0 ≤ (x9_1 : Int) := of_decide_eq_true am
     have q427 : x9_1 < (l1.length : Int) := of_decide_eq_true am
     obtain ⟨ad427, e427, hx427_0, hx427_1, hx427_2, hx427_3, hx427_4, hx427_5, hx427_6, hx427_7⟩ := qYB HR1.out x9_1 p427 q427
     cases e427
     replace hx427_0 := hB HB hx427_0
     replace hx427_1 := hB HB hx427_1
     replace hx427_2 := hB HB hx427_2
     replace hx427_3 := hB HB hx427_3
     replace hx427_4 := hB HB hx427_4
     replace hx427_5 := hB HB hx427_5
     replace hx427_6 := hB HB hx427_6
     replace hx427_7 := hB HB hx427_7
     replace p427 := eq_true p427
     replace q427 := eq_true q427
     go_wp2_with (first | ((with_reducible refine qH (N := 6) rfl ?_); refine bE (N := 6) (cs := #[.int .i64 0, .int .i64 0, .int .i64 0, .int .i64 0, .int .i64 0, .int .i64 0, .int .i64 0, .int .i64 0]) (t := 53) ?_; intro gb428 hg w22 hbox hb; have BK428 := aM (hbox); have GW428 := aM ((gg hg)); have GE428 := aM ((gg hg)); replace HB := aM (qB bl hb); clear hb hbox hg; (refine cb8 BK428 ?_; intro _ _ _ _ _ _ _ _); (refine cz8 BK428 ?_; intro _ _ _ _ _ _ _ _)) | ((with_reducible refine qE (f := 73) rfl ?_); refine qm (some 16) rfl rfl Tryz.func73 (by kernel_rfl) rfl #[.slice A0 l0.length c0, .agg #[.int .i64 ((qA l1 x9_1).f0), .int .i64 ((qA l1 x9_1).f1), .int .i64 ((qA l1 x9_1).f2.f0), .int .i64 ((qA l1 x9_1).f2.f1), .int .i64 ((qA l1 x9_1).f2.f2), .int .i64 ((qA l1 x9_1).f2.f3), .int .i64 ((qA l1 x9_1).f2.f4), .int .i64 ((qA l1 x9_1).f2.f5)]] rfl gA ?_; (with_reducible refine (qrA.calls k1 _ _ l0 ((qA l1 x9_1).f0) ((qA l1 x9_1).f1) ((qA l1 x9_1).f2.f0) ((qA l1 x9_1).f2.f1) ((qA l1 x9_1).f2.f2) ((qA l1 x9_1).f2.f3) ((qA l1 x9_1).f2.f4) ((qA l1 x9_1).f2.f5) false _ ?side1 ?side2 A6.out).mono ?_); (case side1 => exact Kd.qV HR0.out bl); (case side2 => exact HC0.out); rintro e w24 ⟨rfl, hb⟩; refine ⟨_, rfl, ?_⟩; replace BK428 := aM (qCA (g := gb428) (o := .cells #[.int .i64 ((qA l1 x9_1).f0), .int .i64 ((qA l1 x9_1).f1), .int .i64 ((qA l1 x9_1).f2.f0), .int .i64 ((qA l1 x9_1).f2.f1), .int .i64 ((qA l1 x9_1).f2.f2), .int .i64 ((qA l1 x9_1).f2.f3), .int .i64 ((qA l1 x9_1).f2.f4), .int .i64 ((qA l1 x9_1).f2.f5)] 53 (0, 0)) (by (with_reducible repeat (first | refine qG ?_ _ | refine qD ?_ | refine qF ?_ _)); exact bP8 BK428) hb); replace HB := aM (qB bl hb); (try clear hb); (try clear hb2); (try clear hk); (try clear hi)))
     go_ret
     exact ⟨sR, bl⟩
   ·rw [if_neg c3] at H
    have c3b0 := decide_eq_false c3
    clear c3
    replace H := bO H
    obtain ⟨t426, A25, H⟩ := H
    obtain rfl := Option.some.inj H
    go_wp2_with (first | ((with_reducible refine qE (f := 59) rfl ?_); refine qm (some 28) rfl rfl Tryz.func59 (by kernel_rfl) rfl #[.int .i64 (l1.length : Int), .int .i64 1, .int .i64 3] rfl gA ?_; (with_reducible refine (qlA.calls (l1.length : Int) 1 3 t426 _ A25.out).mono ?_); rintro e w' ⟨rfl, ⟨nd, rfl⟩⟩; refine ⟨_, rfl, ?_⟩))
    go_ret
    exact ⟨sR, bl⟩
def qSB.f (k : Nat) (a0 : ByteArray) (l1 : List (S53)) : Option (List ByteArray × Bool) := (qWB.f k a0).bind fun bt435 => (if bt435.2 = true then ((qv.f k bt435.1 l1).bind fun t439 => (some (bt435.1, t439))) else (some (bt435.1, false)))
set_option maxHeartbeats 8000000 in
set_option maxRecDepth 100000 in
theorem qSB.calls (k : Nat) (a0 : ByteArray) (A1 : Option Addr) (c1 : Nat) (l1 : List (S53)) (r1 : List ByteArray) (r2 : Bool) (w : World) (hr1 : Kd.C k53 w A1 l1.length l1) (hc1 : l1.length ≤ c1) (hL : Laid w) (h : qSB.f k a0 l1 = some (r1, r2)) :
  Calls Tryz.prog 25 #[.string a0, .slice A1 l1.length c1] w fun e w' => ∃ v0_ : Value, e = .returned (.tuple #[v0_, .bool r2]) ∧ Kd.R Kd.string 9 w' w.heap.size (fun _ => True) v0_ r1 ∧ Below w.heap.size w w' := by
 have HR1 := aM hr1
 have HC1 := aM hc1
 clear hr1 hc1
 have HLD := aM hL
 clear hL
 have HB := aM (Below.refl w.heap.size w)
 have H : ((qWB.f k a0).bind fun bt435 => (if bt435.2 = true then ((qv.f k bt435.1 l1).bind fun t439 => (some (bt435.1, t439))) else (some (bt435.1, false)))) = some (r1, r2) := h
 clear h
 replace H := bO H
 obtain ⟨⟨t435, t436⟩, A3, H⟩ := H
 dsimp only at H A3
 by_cases c4 : t436 = true
 ·subst c4
  replace H := iT H
  replace H := bO H
  obtain ⟨t439, A5, H⟩ := H
  simp only [Option.some.injEq, Prod.mk.injEq] at H
  obtain ⟨rfl, rfl⟩ := H
  go_enter Tryz.func25, Tryz.ntmps25
  go_wp2_with (first | ((with_reducible refine qE (f := 34) rfl ?_); refine qm (some 10) rfl rfl Tryz.func34 (by kernel_rfl) rfl #[.string a0] rfl gA ?_; (with_reducible refine (qWB.calls k a0 t435 true _ ?side1 A3.out).mono ?_); (case side1 => first | (with_reducible exact HLD.out) | exact Laid.below HLD.out bl); rintro e w6 ⟨v437, rfl, ho0, hb⟩; refine ⟨_, rfl, ?_⟩; have HO438 := aM (Kd.qz ho0 (qJ bl)); replace HB := aM (qB bl hb); (try clear hb); (try clear hb2); (try clear hk); (try clear hi); (try clear ho0); obtain ⟨Ao7, co7, eo7⟩ := Kd.qDA HO438.out; subst eo7) | (go_at_call 54; (with_reducible refine (qv.calls k _ _ t435 _ _ l1 t439 _ ?side1 ?side2 ?side3 ?side4 A5.out).mono ?_); (case side1 => repeat (first | exact (Kd.qO HO438.out).2.2 | (with_reducible refine Kd.qL ?_ _) | (with_reducible refine Kd.qK ?_ _) | (with_reducible refine Kd.qX ?_))); (case side2 => exact (Kd.qO HO438.out).2.1); (case side3 => repeat (first | exact (Kd.qV HR1.out HB.out) | (with_reducible refine Kd.qL ?_ _) | (with_reducible refine Kd.qK ?_ _) | (with_reducible refine Kd.qX ?_))); (case side4 => exact HC1.out); rintro e w8 ⟨rfl, hb⟩; replace HO438 := aM (Kd.qc (rR HO438) hb); replace HB := aM (qB bl hb); (try clear hb); (try clear hb2); (try clear hk); (try clear hi)))
  go_ret2
  exact ⟨_, sR, by (with_reducible repeat (first | apply Kd.qQ | apply Kd.qR | apply Kd.qS)); exact HO438.out, bl⟩
 ·replace c4 := Bool.eq_false_iff.mpr c4
  subst c4
  replace H := iF H
  simp only [Option.some.injEq, Prod.mk.injEq] at H
  obtain ⟨rfl, rfl⟩ := H
  go_enter Tryz.func25, Tryz.ntmps25
  go_wp2_with (first | ((with_reducible refine qE (f := 34) rfl ?_); refine qm (some 10) rfl rfl Tryz.func34 (by kernel_rfl) rfl #[.string a0] rfl gA ?_; (with_reducible refine (qWB.calls k a0 t435 false _ ?side1 A3.out).mono ?_); (case side1 => first | (with_reducible exact HLD.out) | exact Laid.below HLD.out bl); rintro e w9 ⟨v437, rfl, ho0, hb⟩; refine ⟨_, rfl, ?_⟩; have HO438 := aM (Kd.qz ho0 (qJ bl)); replace HB := aM (qB bl hb); (try clear hb); (try clear hb2); (try clear hk); (try clear hi); (try clear ho0)))
  go_ret2
  exact ⟨_, sR, by (with_reducible repeat (first | apply Kd.qQ | apply Kd.qR | apply Kd.qS)); exact HO438.out, bl⟩
end Go.Proofs.YthhiiceligjleaaGreatDoor.P
namespace Go.Proofs.YthhiiceligjleaaGreatDoor
open Go.RowKit Go.Proofs.YthhiiceligjleaaGreatDoor.P Go.Proofs.YthhiiceligjleaaGreatDoorW.PrintWords Go.Proofs.YthhiiceligjleaaGreatDoorW.PrintLast
set_option linter.unusedVariables false
set_option linter.unusedSimpArgs false
def stateB (a : ByteArray) (s : XS) : Bool := floorB a s.f0 s.f1 && dieB s.f2.f0 s.f2.f1 s.f2.f2 s.f2.f3 s.f2.f4 s.f2.f5
def atCell (x y : Int) (t : XS) : Bool := decide (t.f0 = x) && decide (t.f1 = y)
abbrev csOf (a : ByteArray) : List Int := numsOf (flatT a.data.toList)
theorem boFloor_eq {a : ByteArray} (g : Gnd a) (x y : Int) : qpA.f (wideT a : Int) (highT a : Int) (csOf a) x y = some (floorB a x y) := by
 unfold qpA.f floorB
 rw [boCell_eq g, Option.bind_some]
 cases h : hasB a x y with
 | false => rw [if_neg (by decide)]; rfl
 | true =>
  obtain ⟨h1, h2, h3⟩ := spec_at g x y h
  rw [if_pos rfl, if_pos h1, if_pos h2, h3]; rfl
theorem isState_ev {a : ByteArray} (g : Gnd a) (s : XS) : Ev (fun k => qrA.f k (rowsT a) s.f0 s.f1 s.f2.f0 s.f2.f1 s.f2.f2 s.f2.f3 s.f2.f4 s.f2.f5) (stateB a s) := by
 unfold qrA.f stateB
 refine Ev.bind (impl_IsDie_ev _ _ _ _ _ _) ?_
 obtain ⟨c, h1, h2⟩ := at_floor g s.f0 s.f1
 cases hd : dieB s.f2.f0 s.f2.f1 s.f2.f2 s.f2.f3 s.f2.f4 s.f2.f5 with
 | false =>
  rw [Bool.and_false]
  exact Ev.neg (by decide) (Ev.now _)
 | true =>
  rw [Bool.and_true, ← h2]
  exact Ev.pos rfl (Ev.bindc h1 (Ev.some_ rfl))
theorem boState_ev {a : ByteArray} (g : Gnd a) (s : XS) : Ev (fun k => qRB.f k (wideT a : Int) (highT a : Int) (csOf a) s.f0 s.f1 s.f2.f0 s.f2.f1 s.f2.f2 s.f2.f3 s.f2.f4 s.f2.f5) (stateB a s) := by
 unfold qRB.f stateB
 refine Ev.bindc (boFloor_eq g _ _) ?_
 cases hd : floorB a s.f0 s.f1 with
 | false => exact Ev.neg (by decide) (Ev.now _)
 | true => exact Ev.pos rfl (Ev.bind (spec_diGood_ev _ _ _ _ _ _) (Ev.now _))
theorem myAt_loop (l : List XS) (hl : l.length ≤ 140737488355328) (x y : Int) (d : Nat) : ∀ i : Nat, i ≤ l.length → l.length - i = d →
  ∃ r : Int, Ev (fun k => qVA.l0 k x y l (l.length : Int) (i : Int)) r ∧ decide (r ≥ 0) = (l.drop i).any (atCell x y) := by
 induction d with
 | zero =>
  intro i hi hd
  refine ⟨-1, Ev.step (f := fun k => _) (fun k => by rw [qVA.l0]) (Ev.neg (by omega) (Ev.now _)), ?_⟩
  rw [List.drop_eq_nil_of_le (by omega)]; rfl
 | succ d ih =>
  intro i hi hd
  have h : i < l.length := by omega
  have w : wrap64 ((i : Int) + 1) = ((i + 1 : Nat) : Int) := by unfold wrap64; omega
  obtain ⟨r, h1, h2⟩ := ih (i + 1) (by omega) (by omega)
  rw [List.drop_eq_getElem_cons h, List.any_cons]
  by_cases hx : l[i].f0 = x
  ·by_cases hy : l[i].f1 = y
   ·refine ⟨(i : Int), Ev.step (f := fun k => _) (fun k => by rw [qVA.l0]) (Ev.pos (by omega) (Ev.pos (by omega) (Ev.pos (by omega) ?_))), ?_⟩
    ·rw [rdXS l i h]
     exact Ev.pos hx (Ev.pos hy (Ev.now _))
    ·rw [decide_eq_true (by omega)]
     unfold atCell
     rw [decide_eq_true hx, decide_eq_true hy]; rfl
   ·refine ⟨r, Ev.step (f := fun k => _) (fun k => by rw [qVA.l0]) (Ev.pos (by omega) (Ev.pos (by omega) (Ev.pos (by omega) ?_))), ?_⟩
    ·rw [rdXS l i h, w]
     exact Ev.pos hx (Ev.neg hy h1)
    ·rw [h2]
     unfold atCell
     rw [decide_eq_false hy, Bool.and_false, Bool.false_or]
  ·refine ⟨r, Ev.step (f := fun k => _) (fun k => by rw [qVA.l0]) (Ev.pos (by omega) (Ev.pos (by omega) (Ev.pos (by omega) ?_))), ?_⟩
   ·rw [rdXS l i h, w]
    exact Ev.neg hx h1
   ·rw [h2]
    unfold atCell
    rw [decide_eq_false hx, Bool.false_and, Bool.false_or]
theorem myAt_ev (l : List XS) (hl : l.length ≤ 140737488355328) (x y : Int) : ∃ r : Int, Ev (fun k => qVA.f k l x y) r ∧ decide (r ≥ 0) = l.any (atCell x y) := by
 have := myAt_loop l hl x y l.length 0 (by omega) (by omega)
 simpa [qVA.f] using this
def goodL (a : ByteArray) : List XS → List XS → Bool
 | _, [] => true
 | e, s :: r => stateB a s && !(e.any (atCell s.f0 s.f1)) && goodL a (e ++ [s]) r
def in3 (n : Nat) : Bool := decide ((1 : Int) ≤ (n : Int)) && decide ((n : Int) ≤ 3)
def goodB (a : ByteArray) (l : List XS) : Bool := in3 l.length && goodL a [] l
theorem take_succ_drop {l : List XS} {i : Nat} (h : i < l.length) : l.take (i + 1) = l.take i ++ [l[i]] := by
 rw [List.take_succ_eq_append_getElem h]
theorem areDice_loop {a : ByteArray} (g : Gnd a) (l : List XS) (hl : l.length ≤ 2000000) (d : Nat) : ∀ i : Nat, i ≤ l.length → l.length - i = d →
  Ev (fun k => qv.l0 k (rowsT a) l l (l.length : Int) (i : Int)) (goodL a (l.take i) (l.drop i) && in3 l.length) := by
 induction d with
 | zero =>
  intro i hi hd
  refine Ev.step (f := fun k => _) (fun k => by rw [qv.l0]) (Ev.neg (by omega) (Ev.bindc (quC _ _ _) (Ev.some_ ?_)))
  rw [List.drop_eq_nil_of_le (by omega)]; rfl
 | succ d ih =>
  intro i hi hd
  have h : i < l.length := by omega
  have w : wrap64 ((i : Int) + 1) = ((i + 1 : Nat) : Int) := by unfold wrap64; omega
  have hs := isState_ev g l[i]
  have hn := ih (i + 1) (by omega) (by omega)
  rw [take_succ_drop h] at hn
  rw [List.drop_eq_getElem_cons h]
  refine Ev.step (f := fun k => _) (fun k => by rw [qv.l0]) (Ev.pos (by omega) (Ev.pos (by omega) (Ev.pos (by omega) ?_)))
  rw [rdXS l i h, w]
  refine Ev.bind hs ?_
  unfold goodL
  cases hb : stateB a l[i] with
  | false => exact Ev.neg (by decide) (Ev.now _)
  | true =>
   refine Ev.pos rfl (Ev.pos (by omega) (Ev.bindc (show qGD.f _ _ _ _ _ _ _ _ _ = some _ from rfl) ?_))
   rw [Int.toNat_natCast]
   show Ev (fun k => if (l.take i).any (atCell l[i].f0 l[i].f1) = true then _ else _) _
   cases hq : (l.take i).any (atCell l[i].f0 l[i].f1) with
   | true => exact Ev.pos rfl (Ev.now _)
   | false =>
    refine Ev.neg (by decide) ?_
    simpa using hn
theorem areDice_ev {a : ByteArray} (g : Gnd a) (l : List XS) (hl : l.length ≤ 2000000) : Ev (fun k => qv.f k (rowsT a) l) (goodB a l) := by
 have := areDice_loop g l hl l.length 0 (by omega) (by omega)
 rw [Bool.and_comm] at this
 exact this
theorem myGood_loop {a : ByteArray} (g : Gnd a) (l : List XS) (hl : l.length ≤ 2000000) (d : Nat) : ∀ i : Nat, i ≤ l.length → l.length - i = d →
  Ev (fun k => qu.l0 k l l (l.length : Int) (i : Int) (wideT a : Int) (highT a : Int) (csOf a)) (goodL a (l.take i) (l.drop i)) := by
 induction d with
 | zero =>
  intro i hi hd
  refine Ev.step (f := fun k => _) (fun k => by rw [qu.l0]) (Ev.neg (by omega) (Ev.some_ ?_))
  rw [List.drop_eq_nil_of_le (by omega)]; rfl
 | succ d ih =>
  intro i hi hd
  have h : i < l.length := by omega
  have w : wrap64 ((i : Int) + 1) = ((i + 1 : Nat) : Int) := by unfold wrap64; omega
  have hs := boState_ev g l[i]
  have hn := ih (i + 1) (by omega) (by omega)
  rw [take_succ_drop h] at hn
  rw [List.drop_eq_getElem_cons h]
  refine Ev.step (f := fun k => _) (fun k => by rw [qu.l0]) (Ev.pos (by omega) (Ev.pos (by omega) (Ev.pos (by omega) ?_)))
  rw [rdXS l i h, w]
  refine Ev.bind hs ?_
  unfold goodL
  cases hb : stateB a l[i] with
  | false => exact Ev.neg (by decide) (Ev.now _)
  | true =>
   obtain ⟨r, h1, h2⟩ := myAt_ev (l.take i) (by rw [List.length_take]; omega) l[i].f0 l[i].f1
   refine Ev.pos rfl (Ev.pos (by omega) ?_)
   rw [Int.toNat_natCast]
   refine Ev.bind h1 ?_
   rw [← h2]
   by_cases hq : r ≥ 0
   case pos => rw [decide_eq_true hq]; exact Ev.pos hq (Ev.now _)
   rw [decide_eq_false hq]
   refine Ev.neg hq ?_
   simpa using hn
theorem myGood_ev {a : ByteArray} (g : Gnd a) (l : List XS) (hl : l.length ≤ 2000000) : Ev (fun k => qu.f k (wideT a : Int) (highT a : Int) (csOf a) l) (goodB a l) := by
 unfold qu.f goodB in3
 refine Ev.bindc (quD _ _ _) ?_
 cases hb : (decide ((1 : Int) ≤ (l.length : Int)) && decide ((l.length : Int) ≤ 3)) with
 | false => exact Ev.neg (by decide) (Ev.now _)
 | true =>
  refine Ev.pos rfl ?_
  rw [Bool.true_and]
  exact myGood_loop g l hl l.length 0 (by omega) (by omega)
def askD (a : ByteArray) (l : List XS) : Bool := boardB a && goodB a l
theorem qyC {a : ByteArray} {l : List XS} (h : askD a l = true) : boardB a = true := by
 unfold askD at h
 rw [Bool.and_eq_true] at h
 exact h.1
theorem askD_len {a : ByteArray} {l : List XS} (h : askD a l = true) : 1 ≤ l.length ∧ l.length ≤ 3 := by
 unfold askD goodB in3 at h
 simp only [Bool.and_eq_true, decide_eq_true_eq] at h
 omega
theorem goodL_state {a : ByteArray} : ∀ {e l : List XS}, goodL a e l = true → ∀ s ∈ l, stateB a s = true
 | _, [], _, s, hs => by cases hs
 | e, t :: r, h, s, hs => by
  unfold goodL at h
  simp only [Bool.and_eq_true] at h
  rcases List.mem_cons.1 hs with rfl | hs
  ·exact h.1.1
  ·exact goodL_state h.2 s hs
theorem askD_state {a : ByteArray} {l : List XS} (h : askD a l = true) : ∀ s ∈ l, stateB a s = true := by
 unfold askD goodB at h
 simp only [Bool.and_eq_true] at h
 exact goodL_state h.2.2
theorem together_ev (a : ByteArray) (l : List XS) (ha : a.size ≤ 1048576) (hl : l.length ≤ 2000000) : ∃ rows : List ByteArray, Ev (fun k => qSB.f k a l) (rows, askD a l) ∧ (askD a l = true → rows = rowsT a) := by
 obtain ⟨rows, h1, hr⟩ := board_ev a ha
 unfold qSB.f askD
 cases hg : boardB a with
 | false =>
  rw [hg] at h1
  exact ⟨rows, Ev.bind h1 (Ev.neg (by simp) (Ev.now _)), fun h => by cases h⟩
 | true =>
  have g := qDE hg
  have e := hr hg
  subst e
  rw [hg] at h1
  exact ⟨rowsT a, Ev.bind h1 (Ev.pos rfl (Ev.bind (areDice_ev g l hl) (Ev.now _))), fun _ => rfl⟩
theorem myAsked_ev (a : ByteArray) (l : List XS) (hl : l.length ≤ 2000000) : ∃ (w h : Int) (cs : List Int), Ev (fun k => qOA.f k a l) (w, h, cs, askD a l) ∧ (askD a l = true → w = (wideT a : Int) ∧ h = (highT a : Int) ∧ cs = csOf a) := by
 have h2 := boRead_ev a
 unfold qOA.f askD
 cases hg : boardB a with
 | false =>
  rw [hg, if_neg (by decide)] at h2
  exact ⟨_, _, _, Ev.bind h2 (Ev.neg (by simp [badG]) (Ev.now _)), fun h => by cases h⟩
 | true =>
  have g := qDE hg
  rw [hg, if_pos rfl] at h2
  exact ⟨_, _, _, Ev.bind h2 (Ev.pos rfl (Ev.bind (myGood_ev g l hl) (Ev.now _))), fun _ => ⟨rfl, rfl, rfl⟩⟩
end Go.Proofs.YthhiiceligjleaaGreatDoor
namespace Go.Proofs.YthhiiceligjleaaGreatDoor.P
open Go.RowKit Go.Proofs.YthhiiceligjleaaGreatDoorW.PrintWords Go.Proofs.YthhiiceligjleaaGreatDoorW.PrintLast Go.Proofs.YthhiiceligjleaaGreatDoorW.PrintMore
attribute [local go_sem] qh qf qr qq qZ qY qg qe
set_option linter.unusedVariables false
set_option linter.unusedSimpArgs false
def qJC.f (a0 : Int) (a1 : Int) (a2 : Int) : Option (Int × Int) := if a2 = 110 then (some (a0, wrap64 (a1 - 1))) else (if a2 = 101 then (some (wrap64 (a0 + 1), a1)) else (if a2 = 115 then (some (a0, wrap64 (a1 + 1))) else (some (wrap64 (a0 - 1), a1))))
set_option maxHeartbeats 8000000 in
set_option maxRecDepth 100000 in
theorem qJC.calls (a0 : Int) (a1 : Int) (a2 : Int) (r1 : Int) (r2 : Int) (w : World) (h : qJC.f a0 a1 a2 = some (r1, r2)) :
  Calls Tryz.prog 83 #[.int .i64 a0, .int .i64 a1, .int .u8 a2] w fun e w' => e = .returned (.tuple #[.int .i64 r1, .int .i64 r2]) ∧ Drawn0 w w' := by
 have H : (if a2 = 110 then (some (a0, wrap64 (a1 - 1))) else (if a2 = 101 then (some (wrap64 (a0 + 1), a1)) else (if a2 = 115 then (some (a0, wrap64 (a1 + 1))) else (some (wrap64 (a0 - 1), a1))))) = some (r1, r2) := h
 clear h
 by_cases c4 : a2 = 110
 ·rw [if_pos c4] at H
  have c4b0 := beq_iff_eq.mpr c4
  have c4b1 := bne_eq_false_iff_eq.mpr c4
  clear c4
  simp only [Option.some.injEq, Prod.mk.injEq] at H
  obtain ⟨rfl, rfl⟩ := H
  go_enter Tryz.func83, Tryz.ntmps83
  go_wp2
  go_ret2
  exact ⟨by first | rfl | (simp; done) | (simp [*]; done), dR⟩
 ·rw [if_neg c4] at H
  have c4b0 := beq_eq_false_iff_ne.mpr c4
  have c4b1 := bne_iff_ne.mpr c4
  by_cases c5 : a2 = 101
  ·rw [if_pos c5] at H
   have c5b0 := beq_iff_eq.mpr c5
   have c5b1 := bne_eq_false_iff_eq.mpr c5
   clear c5
   simp only [Option.some.injEq, Prod.mk.injEq] at H
   obtain ⟨rfl, rfl⟩ := H
   go_enter Tryz.func83, Tryz.ntmps83
   go_wp2
   go_ret2
   exact ⟨by first | rfl | (simp; done) | (simp [*]; done), dR⟩
  ·rw [if_neg c5] at H
   have c5b0 := beq_eq_false_iff_ne.mpr c5
   have c5b1 := bne_iff_ne.mpr c5
   by_cases c6 : a2 = 115
   ·rw [if_pos c6] at H
    have c6b0 := beq_iff_eq.mpr c6
    have c6b1 := bne_eq_false_iff_eq.mpr c6
    clear c6
    simp only [Option.some.injEq, Prod.mk.injEq] at H
    obtain ⟨rfl, rfl⟩ := H
    go_enter Tryz.func83, Tryz.ntmps83
    go_wp2
    go_ret2
    exact ⟨by first | rfl | (simp; done) | (simp [*]; done), dR⟩
   ·rw [if_neg c6] at H
    have c6b0 := beq_eq_false_iff_ne.mpr c6
    have c6b1 := bne_iff_ne.mpr c6
    simp only [Option.some.injEq, Prod.mk.injEq] at H
    obtain ⟨rfl, rfl⟩ := H
    go_enter Tryz.func83, Tryz.ntmps83
    go_wp2
    go_ret2
    exact ⟨by first | rfl | (simp; done) | (simp [*]; done), dR⟩
def qTB.f (a0_0 : Int) (a0_1 : Int) (a0_2 : Int) (a0_3 : Int) (a0_4 : Int) (a0_5 : Int) (a1 : Int) : Option (Int × Int × Int × Int × Int × Int) := if a1 = 110 then (some (a0_3, a0_0, a0_2, a0_5, a0_4, a0_1)) else (if a1 = 101 then (some (a0_4, a0_1, a0_0, a0_3, a0_5, a0_2)) else (if a1 = 115 then (some (a0_1, a0_5, a0_2, a0_0, a0_4, a0_3)) else (some (a0_2, a0_1, a0_5, a0_3, a0_0, a0_4))))
set_option maxHeartbeats 8000000 in
set_option maxRecDepth 100000 in
theorem qTB.calls (a0_0 : Int) (a0_1 : Int) (a0_2 : Int) (a0_3 : Int) (a0_4 : Int) (a0_5 : Int) (a1 : Int) (r1 : Int) (r2 : Int) (r3 : Int) (r4 : Int) (r5 : Int) (r6 : Int) (w : World) (h : qTB.f a0_0 a0_1 a0_2 a0_3 a0_4 a0_5 a1 = some (r1, r2, r3, r4, r5, r6)) :
  Calls Tryz.prog 84 #[.agg #[.int .i64 a0_0, .int .i64 a0_1, .int .i64 a0_2, .int .i64 a0_3, .int .i64 a0_4, .int .i64 a0_5], .int .u8 a1] w fun e w' => e = .returned (.agg #[.int .i64 r1, .int .i64 r2, .int .i64 r3, .int .i64 r4, .int .i64 r5, .int .i64 r6]) ∧ Below w.heap.size w w' := by
 have hu51 := Tryz.underlying51
 have HB := aM (Below.refl w.heap.size w)
 have H : (if a1 = 110 then (some (a0_3, a0_0, a0_2, a0_5, a0_4, a0_1)) else (if a1 = 101 then (some (a0_4, a0_1, a0_0, a0_3, a0_5, a0_2)) else (if a1 = 115 then (some (a0_1, a0_5, a0_2, a0_0, a0_4, a0_3)) else (some (a0_2, a0_1, a0_5, a0_3, a0_0, a0_4))))) = some (r1, r2, r3, r4, r5, r6) := h
 clear h
 by_cases c3 : a1 = 110
 ·rw [if_pos c3] at H
  have c3b0 := beq_iff_eq.mpr c3
  have c3b1 := bne_eq_false_iff_eq.mpr c3
  clear c3
  simp only [Option.some.injEq, Prod.mk.injEq] at H
  obtain ⟨rfl, rfl, rfl, rfl, rfl, rfl⟩ := H
  go_enter Tryz.func84, Tryz.ntmps84
  go_wp2_with (first | ((with_reducible refine qH (N := 2) rfl ?_); refine bE (N := 2) (cs := #[.int .i64 a0_0, .int .i64 a0_1, .int .i64 a0_2, .int .i64 a0_3, .int .i64 a0_4, .int .i64 a0_5]) (t := 51) ?_; intro gb440 hg w4 hbox hb; have BK440 := aM (hbox); have GW440 := aM ((gg hg)); have GE440 := aM ((gg hg)); replace HB := aM (qB bl hb); clear hb hbox hg) | ((with_reducible refine qH (N := 4) rfl ?_); refine bE (N := 4) (cs := #[.int .i64 0, .int .i64 0, .int .i64 0, .int .i64 0, .int .i64 0, .int .i64 0]) (t := 51) ?_; intro gb441 hg w5 hbox hb; have BK441 := aM (hbox); have GW441 := aM ((gg hg)); have GE441 := aM ((gg hg)); have NB440_441 := aM ((nl BK440 hg)); have NB441_440 := aM ((nr BK440 hg)); replace BK440 := aM (bb BK440 hb); replace HB := aM (qB bl hb); clear hb hbox hg; have hnb6 := NB440_441.out; have hnc6 := NB441_440.out; (refine cb6 BK440 ?_; intro _ _ _ _ _ _); (refine cz6 BK440 ?_; intro _ _ _ _ _ _); (refine cb6 BK441 ?_; intro _ _ _ _ _ _); (refine cz6 BK441 ?_; intro _ _ _ _ _ _)))
  refine bodyPost_ret (results_cell_row rfl _ _ gb441 51 #[.int .i64 a0_3, .int .i64 a0_0, .int .i64 a0_2, .int .i64 a0_5, .int .i64 a0_4, .int .i64 a0_1] (0, 0) _ rfl (by (with_reducible repeat (first | refine qG ?_ _ | refine qD ?_ | refine qF ?_ _)); exact bP6 BK441) Tryz.underlying51 rfl (by kernel_rfl)) rfl ?_
  exact ⟨sR, bl⟩
 ·rw [if_neg c3] at H
  have c3b0 := beq_eq_false_iff_ne.mpr c3
  have c3b1 := bne_iff_ne.mpr c3
  by_cases c9 : a1 = 101
  ·rw [if_pos c9] at H
   have c9b0 := beq_iff_eq.mpr c9
   have c9b1 := bne_eq_false_iff_eq.mpr c9
   clear c9
   simp only [Option.some.injEq, Prod.mk.injEq] at H
   obtain ⟨rfl, rfl, rfl, rfl, rfl, rfl⟩ := H
   go_enter Tryz.func84, Tryz.ntmps84
   go_wp2_with (first | ((with_reducible refine qH (N := 2) rfl ?_); refine bE (N := 2) (cs := #[.int .i64 a0_0, .int .i64 a0_1, .int .i64 a0_2, .int .i64 a0_3, .int .i64 a0_4, .int .i64 a0_5]) (t := 51) ?_; intro gb440 hg w10 hbox hb; have BK440 := aM (hbox); have GW440 := aM ((gg hg)); have GE440 := aM ((gg hg)); replace HB := aM (qB bl hb); clear hb hbox hg) | ((with_reducible refine qH (N := 4) rfl ?_); refine bE (N := 4) (cs := #[.int .i64 0, .int .i64 0, .int .i64 0, .int .i64 0, .int .i64 0, .int .i64 0]) (t := 51) ?_; intro gb441 hg w11 hbox hb; have BK441 := aM (hbox); have GW441 := aM ((gg hg)); have GE441 := aM ((gg hg)); have NB440_441 := aM ((nl BK440 hg)); have NB441_440 := aM ((nr BK440 hg)); replace BK440 := aM (bb BK440 hb); replace HB := aM (qB bl hb); clear hb hbox hg; have hnb12 := NB440_441.out; have hnc12 := NB441_440.out; (refine cb6 BK440 ?_; intro _ _ _ _ _ _); (refine cz6 BK440 ?_; intro _ _ _ _ _ _); (refine cb6 BK441 ?_; intro _ _ _ _ _ _); (refine cz6 BK441 ?_; intro _ _ _ _ _ _)))
   refine bodyPost_ret (results_cell_row rfl _ _ gb441 51 #[.int .i64 a0_4, .int .i64 a0_1, .int .i64 a0_0, .int .i64 a0_3, .int .i64 a0_5, .int .i64 a0_2] (0, 0) _ rfl (by (with_reducible repeat (first | refine qG ?_ _ | refine qD ?_ | refine qF ?_ _)); exact bP6 BK441) Tryz.underlying51 rfl (by kernel_rfl)) rfl ?_
   exact ⟨sR, bl⟩
  ·rw [if_neg c9] at H
   have c9b0 := beq_eq_false_iff_ne.mpr c9
   have c9b1 := bne_iff_ne.mpr c9
   by_cases c15 : a1 = 115
   ·rw [if_pos c15] at H
    have c15b0 := beq_iff_eq.mpr c15
    have c15b1 := bne_eq_false_iff_eq.mpr c15
    clear c15
    simp only [Option.some.injEq, Prod.mk.injEq] at H
    obtain ⟨rfl, rfl, rfl, rfl, rfl, rfl⟩ := H
    go_enter Tryz.func84, Tryz.ntmps84
    go_wp2_with (first | ((with_reducible refine qH (N := 2) rfl ?_); refine bE (N := 2) (cs := #[.int .i64 a0_0, .int .i64 a0_1, .int .i64 a0_2, .int .i64 a0_3, .int .i64 a0_4, .int .i64 a0_5]) (t := 51) ?_; intro gb440 hg w16 hbox hb; have BK440 := aM (hbox); have GW440 := aM ((gg hg)); have GE440 := aM ((gg hg)); replace HB := aM (qB bl hb); clear hb hbox hg) | ((with_reducible refine qH (N := 4) rfl ?_); refine bE (N := 4) (cs := #[.int .i64 0, .int .i64 0, .int .i64 0, .int .i64 0, .int .i64 0, .int .i64 0]) (t := 51) ?_; intro gb441 hg w17 hbox hb; have BK441 := aM (hbox); have GW441 := aM ((gg hg)); have GE441 := aM ((gg hg)); have NB440_441 := aM ((nl BK440 hg)); have NB441_440 := aM ((nr BK440 hg)); replace BK440 := aM (bb BK440 hb); replace HB := aM (qB bl hb); clear hb hbox hg; have hnb18 := NB440_441.out; have hnc18 := NB441_440.out; (refine cb6 BK440 ?_; intro _ _ _ _ _ _); (refine cz6 BK440 ?_; intro _ _ _ _ _ _); (refine cb6 BK441 ?_; intro _ _ _ _ _ _); (refine cz6 BK441 ?_; intro _ _ _ _ _ _)))
    refine bodyPost_ret (results_cell_row rfl _ _ gb441 51 #[.int .i64 a0_1, .int .i64 a0_5, .int .i64 a0_2, .int .i64 a0_0, .int .i64 a0_4, .int .i64 a0_3] (0, 0) _ rfl (by (with_reducible repeat (first | refine qG ?_ _ | refine qD ?_ | refine qF ?_ _)); exact bP6 BK441) Tryz.underlying51 rfl (by kernel_rfl)) rfl ?_
    exact ⟨sR, bl⟩
   ·rw [if_neg c15] at H
    have c15b0 := beq_eq_false_iff_ne.mpr c15
    have c15b1 := bne_iff_ne.mpr c15
    simp only [Option.some.injEq, Prod.mk.injEq] at H
    obtain ⟨rfl, rfl, rfl, rfl, rfl, rfl⟩ := H
    go_enter Tryz.func84, Tryz.ntmps84
    go_wp2_with (first | ((with_reducible refine qH (N := 2) rfl ?_); refine bE (N := 2) (cs := #[.int .i64 a0_0, .int .i64 a0_1, .int .i64 a0_2, .int .i64 a0_3, .int .i64 a0_4, .int .i64 a0_5]) (t := 51) ?_; intro gb440 hg w21 hbox hb; have BK440 := aM (hbox); have GW440 := aM ((gg hg)); have GE440 := aM ((gg hg)); replace HB := aM (qB bl hb); clear hb hbox hg) | ((with_reducible refine qH (N := 4) rfl ?_); refine bE (N := 4) (cs := #[.int .i64 0, .int .i64 0, .int .i64 0, .int .i64 0, .int .i64 0, .int .i64 0]) (t := 51) ?_; intro gb441 hg w22 hbox hb; have BK441 := aM (hbox); have GW441 := aM ((gg hg)); have GE441 := aM ((gg hg)); have NB440_441 := aM ((nl BK440 hg)); have NB441_440 := aM ((nr BK440 hg)); replace BK440 := aM (bb BK440 hb); replace HB := aM (qB bl hb); clear hb hbox hg; have hnb23 := NB440_441.out; have hnc23 := NB441_440.out; (refine cb6 BK440 ?_; intro _ _ _ _ _ _); (refine cz6 BK440 ?_; intro _ _ _ _ _ _); (refine cb6 BK441 ?_; intro _ _ _ _ _ _); (refine cz6 BK441 ?_; intro _ _ _ _ _ _)))
    refine bodyPost_ret (results_cell_row rfl _ _ gb441 51 #[.int .i64 a0_2, .int .i64 a0_1, .int .i64 a0_5, .int .i64 a0_3, .int .i64 a0_0, .int .i64 a0_4] (0, 0) _ rfl (by (with_reducible repeat (first | refine qG ?_ _ | refine qD ?_ | refine qF ?_ _)); exact bP6 BK441) Tryz.underlying51 rfl (by kernel_rfl)) rfl ?_
    exact ⟨sR, bl⟩
def quA.f (l0 : List ByteArray) (a1_0 : Int) (a1_1 : Int) (a1_2 : Int) (a1_3 : Int) (a1_4 : Int) (a1_5 : Int) (a1_6 : Int) (a1_7 : Int) (a2 : Int) : Option (Int × Int × Int × Int × Int × Int × Int × Int × Bool) := (qJC.f a1_0 a1_1 a2).bind fun bt444 => ((qTB.f a1_2 a1_3 a1_4 a1_5 a1_6 a1_7 a2).bind fun bt446 => ((qgA.f l0 bt444.1 bt444.2).bind fun t452 => (some (bt444.1, bt444.2, bt446.1, bt446.2.1, bt446.2.2.1, bt446.2.2.2.1, bt446.2.2.2.2.1, bt446.2.2.2.2.2, (t452 == 46)))))
set_option maxHeartbeats 8000000 in
set_option maxRecDepth 100000 in
theorem quA.calls (A0 : Option Addr) (c0 : Nat) (l0 : List ByteArray) (a1_0 : Int) (a1_1 : Int) (a1_2 : Int) (a1_3 : Int) (a1_4 : Int) (a1_5 : Int) (a1_6 : Int) (a1_7 : Int) (a2 : Int) (r1 : Int) (r2 : Int) (r3 : Int) (r4 : Int) (r5 : Int) (r6 : Int) (r7 : Int) (r8 : Int) (r9 : Bool) (w : World) (hr0 : Kd.C Kd.string w A0 l0.length l0) (hc0 : l0.length ≤ c0) (h : quA.f l0 a1_0 a1_1 a1_2 a1_3 a1_4 a1_5 a1_6 a1_7 a2 = some (r1, r2, r3, r4, r5, r6, r7, r8, r9)) :
  Calls Tryz.prog 69 #[.slice A0 l0.length c0, .agg #[.int .i64 a1_0, .int .i64 a1_1, .int .i64 a1_2, .int .i64 a1_3, .int .i64 a1_4, .int .i64 a1_5, .int .i64 a1_6, .int .i64 a1_7], .int .u8 a2] w fun e w' => e = .returned (.tuple #[.agg #[.int .i64 r1, .int .i64 r2, .int .i64 r3, .int .i64 r4, .int .i64 r5, .int .i64 r6, .int .i64 r7, .int .i64 r8], .bool r9]) ∧ Below w.heap.size w w' := by
 have hu53 := Tryz.underlying53
 have hu51 := Tryz.underlying51
 have HR0 := aM hr0
 have HC0 := aM hc0
 clear hr0 hc0
 have HB := aM (Below.refl w.heap.size w)
 have H : ((qJC.f a1_0 a1_1 a2).bind fun bt444 => ((qTB.f a1_2 a1_3 a1_4 a1_5 a1_6 a1_7 a2).bind fun bt446 => ((qgA.f l0 bt444.1 bt444.2).bind fun t452 => (some (bt444.1, bt444.2, bt446.1, bt446.2.1, bt446.2.2.1, bt446.2.2.2.1, bt446.2.2.2.2.1, bt446.2.2.2.2.2, (t452 == 46)))))) = some (r1, r2, r3, r4, r5, r6, r7, r8, r9) := h
 clear h
 replace H := bO H
 obtain ⟨⟨t444, t445⟩, A4, H⟩ := H
 dsimp only at H A4
 replace H := bO H
 obtain ⟨⟨t446, t447, t448, t449, t450, t451⟩, A5, H⟩ := H
 dsimp only at H A5
 replace H := bO H
 obtain ⟨t452, A6, H⟩ := H
 simp only [Option.some.injEq, Prod.mk.injEq] at H
 obtain ⟨rfl, rfl, rfl, rfl, rfl, rfl, rfl, rfl, rfl⟩ := H
 go_enter Tryz.func69, Tryz.ntmps69
 go_wp2_with (first | ((with_reducible refine qH (N := 4) rfl ?_); refine bE (N := 4) (cs := #[.int .i64 a1_0, .int .i64 a1_1, .int .i64 a1_2, .int .i64 a1_3, .int .i64 a1_4, .int .i64 a1_5, .int .i64 a1_6, .int .i64 a1_7]) (t := 53) ?_; intro gb442 hg w7 hbox hb; have BK442 := aM (hbox); have GW442 := aM ((gg hg)); have GE442 := aM ((gg hg)); replace HB := aM (qB bl hb); clear hb hbox hg) | ((with_reducible refine qH (N := 6) rfl ?_); refine bE (N := 6) (cs := #[.int .i64 0, .int .i64 0, .int .i64 0, .int .i64 0, .int .i64 0, .int .i64 0, .int .i64 0, .int .i64 0]) (t := 53) ?_; intro gb443 hg w8 hbox hb; have BK443 := aM (hbox); have GW443 := aM ((gg hg)); have GE443 := aM ((gg hg)); have NB442_443 := aM ((nl BK442 hg)); have NB443_442 := aM ((nr BK442 hg)); replace BK442 := aM (bb BK442 hb); replace HB := aM (qB bl hb); clear hb hbox hg; have hnb9 := NB442_443.out; have hnc9 := NB443_442.out; (refine cb8 BK442 ?_; intro _ _ _ _ _ _ _ _); (refine cz8 BK442 ?_; intro _ _ _ _ _ _ _ _)) | ((with_reducible refine qE (f := 83) rfl ?_); refine qm (some 16) rfl rfl Tryz.func83 (by kernel_rfl) rfl #[.int .i64 a1_0, .int .i64 a1_1, .int .u8 a2] rfl gA ?_; (with_reducible refine (qJC.calls a1_0 a1_1 a2 t444 t445 _ A4.out).mono ?_); rintro e w' ⟨rfl, ⟨nd, rfl⟩⟩; refine ⟨_, rfl, ?_⟩; (try (rw [qvC w8]; generalize hq_ : World.drewN w8 _ = w8; have n0_ : Aside0 (w8.heap[gb442]? = some (.cells #[.int .i64 a1_0, .int .i64 a1_1, .int .i64 a1_2, .int .i64 a1_3, .int .i64 a1_4, .int .i64 a1_5, .int .i64 a1_6, .int .i64 a1_7] 53 (0, 0))) := ⟨by rw [← hq_]; exact (rB BK442)⟩; have n1_ : Aside0 (w8.heap[gb443]? = some (.cells #[.int .i64 0, .int .i64 0, .int .i64 0, .int .i64 0, .int .i64 0, .int .i64 0, .int .i64 0, .int .i64 0] 53 (0, 0))) := ⟨by rw [← hq_]; exact (rB BK443)⟩; have n2_ : Aside0 (Below w.heap.size w w8) := ⟨by rw [← hq_]; exact bl⟩; clear BK442 BK443 HB hq_; have BK442 := n0_; have BK443 := n1_; have HB := n2_; clear n0_ n1_ n2_)); (refine cb8 BK442 ?_; intro _ _ _ _ _ _ _ _); (refine cz8 BK442 ?_; intro _ _ _ _ _ _ _ _)) | ((with_reducible refine qE (f := 84) rfl ?_); refine qm (some 24) rfl rfl Tryz.func84 (by kernel_rfl) rfl #[.agg #[.int .i64 a1_2, .int .i64 a1_3, .int .i64 a1_4, .int .i64 a1_5, .int .i64 a1_6, .int .i64 a1_7], .int .u8 a2] rfl gA ?_; (with_reducible refine (qTB.calls a1_2 a1_3 a1_4 a1_5 a1_6 a1_7 a2 t446 t447 t448 t449 t450 t451 _ A5.out).mono ?_); rintro e w12 ⟨rfl, hb⟩; refine ⟨_, rfl, ?_⟩; replace BK442 := aM (bb BK442 hb); replace BK443 := aM (bb BK443 hb); replace HB := aM (qB bl hb); (try clear hb); (try clear hb2); (try clear hk); (try clear hi)) | ((with_reducible refine qE (f := 85) rfl ?_); refine qm (some 29) rfl rfl Tryz.func85 (by kernel_rfl) rfl #[.slice A0 l0.length c0, .int .i64 t444, .int .i64 t445] rfl gA ?_; (with_reducible refine (qgA.calls _ _ l0 t444 t445 t452 _ ?side1 ?side2 A6.out).mono ?_); (case side1 => repeat (first | exact (Kd.qV HR0.out HB.out) | (with_reducible refine Kd.qL ?_ _) | (with_reducible refine Kd.qK ?_ _) | (with_reducible refine Kd.qX ?_))); (case side2 => exact HC0.out); rintro e w' ⟨rfl, ⟨nd, rfl⟩⟩; refine ⟨_, rfl, ?_⟩; (try (rw [qvC w12]; generalize hq_ : World.drewN w12 _ = w12; have n0_ : Aside0 (w12.heap[gb442]? = some (.cells #[.int .i64 a1_0, .int .i64 a1_1, .int .i64 a1_2, .int .i64 a1_3, .int .i64 a1_4, .int .i64 a1_5, .int .i64 a1_6, .int .i64 a1_7] 53 (0, 0))) := ⟨by rw [← hq_]; exact (rB BK442)⟩; have n1_ : Aside0 (w12.heap[gb443]? = some (.cells #[.int .i64 0, .int .i64 0, .int .i64 0, .int .i64 0, .int .i64 0, .int .i64 0, .int .i64 0, .int .i64 0] 53 (0, 0))) := ⟨by rw [← hq_]; exact (rB BK443)⟩; have n2_ : Aside0 (Below w.heap.size w w12) := ⟨by rw [← hq_]; exact bl⟩; clear BK442 BK443 HB hq_; have BK442 := n0_; have BK443 := n1_; have HB := n2_; clear n0_ n1_ n2_)); (refine cb8 BK443 ?_; intro _ _ _ _ _ _ _ _); (refine cz8 BK443 ?_; intro _ _ _ _ _ _ _ _)))
 refine bodyPost_ret (qyA rfl _ _ gb443 53 #[.int .i64 t444, .int .i64 t445, .int .i64 t446, .int .i64 t447, .int .i64 t448, .int .i64 t449, .int .i64 t450, .int .i64 t451] (0, 0) _ rfl (by (with_reducible repeat (first | refine qG ?_ _ | refine qD ?_ | refine qF ?_ _)); exact bP8 BK443) Tryz.underlying53 rfl (by kernel_rfl)) rfl ?_
 exact ⟨sR, bl⟩
end Go.Proofs.YthhiiceligjleaaGreatDoor.P
namespace Go.Proofs.YthhiiceligjleaaGreatDoor
open Go.RowKit Go.Proofs.YthhiiceligjleaaGreatDoor.P Go.Proofs.YthhiiceligjleaaGreatDoorW.PrintWords Go.Proofs.YthhiiceligjleaaGreatDoorW.PrintLast
set_option linter.unusedVariables false
set_option linter.unusedSimpArgs false
def qYD.f (l : List S53) (y0 y1 y2 y3 y4 y5 y6 y7 : Int) : Option Bool := some (l.any fun x => decide (x.f0 = y0) && decide (x.f1 = y1))
theorem at2_any_isAt (x : S53) (y0 y1 : Int) : qbA.f x.f0 x.f1 x.f2.f0 x.f2.f1 x.f2.f2 x.f2.f3 x.f2.f4 x.f2.f5 y0 y1 = some (decide (x.f0 = y0) && decide (x.f1 = y1)) := by
 unfold qbA.f
 by_cases h : x.f0 = y0
 case pos => rw [if_pos h, decide_eq_true h, Bool.true_and]; rfl
 rw [if_neg h, decide_eq_false h, Bool.false_and]
set_option maxHeartbeats 1000000 in
set_option maxRecDepth 100000 in
theorem at2_any_calls (x : S53) (b : Nat) (y0 y1 : Int) (w : World) (h0 : w.cell? ⟨b, 0, none⟩ = some (.int .i64 y0)) (h1 : w.cell? ⟨b, 1, none⟩ = some (.int .i64 y1)) :
  Calls Tryz.prog 71 (#[encState x] ++ #[.pointer (some ⟨b, 0, none⟩)]) w fun e w' => e = .returned (.bool (decide (x.f0 = y0) && decide (x.f1 = y1))) ∧ Below w.heap.size w w' := by
 have hu := Tryz.underlying53
 show Calls Tryz.prog 71 #[encState x, .pointer (some ⟨b, 0, none⟩)] w _
 unfold encState
 have g7 := World.block_lt_of_cell? w _ h0
 have HH := fun (W : World) => Lib.hid (qbA.calls x.f0 x.f1 x.f2.f0 x.f2.f1 x.f2.f2 x.f2.f3 x.f2.f4 x.f2.f5 y0 y1 _ W (at2_any_isAt x y0 y1))
 go_enter Tryz.func71, Tryz.ntmps71
 go_wp2_with (first | (go_at_call 39; refine (HH _).out.mono ?_; rintro e w1 ⟨rfl, hb⟩; have HB := Lib.hid (qEA (qt (Below.refl w.heap.size w) _) (qJ (qt (Below.refl w.heap.size w) _)) hb); clear hb))
 go_ret
 exact ⟨rfl, HB.out⟩
theorem qYD.calls (A0 : Option Addr) (c0 : Nat) (l0 : List S53) (b : Nat) (y0 y1 y2 y3 y4 y5 y6 y7 : Int) (r : Bool) (w : World) (hr0 : Kd.C k53 w A0 l0.length l0) (hc0 : l0.length ≤ c0) (h0 : w.cell? ⟨b, 0, none⟩ = some (.int .i64 y0)) (h1 : w.cell? ⟨b, 1, none⟩ = some (.int .i64 y1)) (_h2 : w.cell? ⟨b, 2, none⟩ = some (.int .i64 y2)) (_h3 : w.cell? ⟨b, 3, none⟩ = some (.int .i64 y3)) (_h4 : w.cell? ⟨b, 4, none⟩ = some (.int .i64 y4)) (_h5 : w.cell? ⟨b, 5, none⟩ = some (.int .i64 y5)) (_h6 : w.cell? ⟨b, 6, none⟩ = some (.int .i64 y6)) (_h7 : w.cell? ⟨b, 7, none⟩ = some (.int .i64 y7))
  (h : qYD.f l0 y0 y1 y2 y3 y4 y5 y6 y7 = some r) :
  Calls Tryz.prog 70 #[.slice A0 l0.length c0, .func (.func 71) #[] #[.pointer (some ⟨b, 0, none⟩)]] w fun e w' => e = .returned (.bool r) ∧ Below w.heap.size w w' := by
 obtain rfl := Option.some.inj h
 have eg := Go.Proofs.enters_of Tryz.func71 (by kernel_rfl) rfl
 exact containsFunc_State (fun x => decide (x.f0 = y0) && decide (x.f1 = y1)) 71 _ eg A0 c0 l0 w hr0 fun W x hx hb => at2_any_calls x b y0 y1 W (qFA hb h0) (qFA hb h1)
end Go.Proofs.YthhiiceligjleaaGreatDoor
namespace Go.Proofs.YthhiiceligjleaaGreatDoor
open Go.RowKit Go.Proofs.YthhiiceligjleaaGreatDoor.P Go.Proofs.YthhiiceligjleaaGreatDoorW.PrintWords Go.Proofs.YthhiiceligjleaaGreatDoorW.PrintLast Go.Proofs.YthhiiceligjleaaGreatDoorW.PrintMore
set_option linter.unusedVariables false
set_option linter.unusedSimpArgs false
def qpB.f (l : List S53) : Option (List S53) := if l.length < 2199023255552 then some l else none
set_option maxHeartbeats 1000000 in
set_option maxRecDepth 100000 in
theorem qpB.calls (A0 : Option Addr) (c0 : Nat) (l0 : List S53) (r : List S53) (w : World) (hr0 : Kd.C k53 w A0 l0.length l0) (hc0 : l0.length ≤ c0) (h : qpB.f l0 = some r) :
  Calls Tryz.prog 72 #[.slice A0 l0.length c0] w fun e w' => ∃ v0_ : Value, e = .returned v0_ ∧ Kd.R k53 53 w' w.heap.size (fun _ => True) v0_ r ∧ Below w.heap.size w w' := by
 unfold qpB.f at h
 split at h
 case isFalse => cases h
 rename_i hl
 obtain rfl := Option.some.inj h
 clear h
 have HR := aM hr0
 have HL := aM hl
 clear hl
 have HB := aM (Below.refl w.heap.size w)
 cases A0 with
 | none =>
  have hn : l0.length = 0 := by
   rcases Nat.eq_zero_or_pos l0.length with h | h
   ·exact h
   ·obtain ⟨ad, e, _⟩ := hr0.2.2 h
    cases e
  obtain rfl := List.length_eq_zero_iff.1 hn
  clear hr0 hc0
  have qT := fun (w : World) => Lib.run_eql_slice_nil w 26 53 none 0 c0 0 0 Tryz.underlying26
  go_enter Tryz.func72, Tryz.ntmps72
  go_wp2
  go_ret
  exact ⟨_, rfl, Kd.R_nil _ _ _ _ _, HB.out⟩
 | some ad =>
  clear hr0 hc0
  have qT := fun (w : World) => Lib.run_eql_slice_nil w 26 53 (some ad) l0.length c0 0 0 Tryz.underlying26
  go_enter Tryz.func72, Tryz.ntmps72
  go_wp2_with (first | ((with_reducible refine qH (N := 5) rfl ?_); refine Kd.R_lit k53 _ 53 ?hg (N := 5) ?hd (xs := ([] : List S53)) (inner := []) (ok := fun _ => True) (okp := fun _ => True) ?hr ?hp (fun _ hk => hk) trivial (Below.refl _ _) (Nat.le_refl _) (by simp) ?_; (case hd => rfl); (case hg => rfl); (case hr => exact gS); (case hp => exact (Reps.none _ _)); intro v1 w1 ho1 hb1 hg_ hnew_; clear hg_ hnew_; have HO := aM (Kd.qz ho1 (qJ HB.out)); have HB1 := aM (qB HB.out hb1); clear hb1 ho1) | ((with_reducible refine qEB (b := .append) (xs := #[.tmp 5, .tmp 6]) rfl ?_); at_builtin; refine Kd.qFC k53 (w0 := w) w.heap.size rfl (.tmp 5) (.tmp 6) 26 53 (.agg #[(.int .i64 0), (.int .i64 0), (.int .i64 0), (.int .i64 0), (.int .i64 0), (.int .i64 0), (.int .i64 0), (.int .i64 0)]) 64 rfl Tryz.underlying26 info53 rfl (by decide) (by omega) v1 [] l0 _ _ _ (fun _ => True) (fun _ => False) rfl rfl ?aO ?aR (fun _ _ h => h) (fun _ h => h.elim) ?aF ?aB ?aS ?aL ?_; (case aR => exact Kd.qV HR.out HB1.out); (case aB => exact HB1.out); (case aF => exact fun _ _ => trivial); (case aO => exact HO.out); (case aS => exact qJ HB1.out); (case aL => have := HL.out; simp only [List.length_nil]; omega); intro v2 w2 ho2 hb2 hg2 hat2; rw [List.nil_append] at ho2; have HO2 := aM ho2; have HB2 := aM hb2; clear ho2 hb2 hg2 hat2))
  go_ret
  exact ⟨_, rfl, HO2.out, HB2.out⟩
end Go.Proofs.YthhiiceligjleaaGreatDoor
namespace Go.Proofs.YthhiiceligjleaaGreatDoor.P
open Go.RowKit Go.Proofs.YthhiiceligjleaaGreatDoorW.PrintWords Go.Proofs.YthhiiceligjleaaGreatDoorW.PrintLast Go.Proofs.YthhiiceligjleaaGreatDoorW.PrintMore
attribute [local go_sem] qh qf qr qq qZ qY qg qe
set_option linter.unusedVariables false
set_option linter.unusedSimpArgs false
def qeA.f (l0 : List ByteArray) (l1 : List (S53)) (a2 : Int) (a3 : Int) : Option ((List (S53)) × Bool) := (qlA.f a2 0 (wrap64 ((l1.length : Int) - 1))).bind fun t453 => (if t453 = true then (if 0 ≤ a2 then (if a2 < (l1.length : Int) then ((quA.f l0 ((qA l1 a2).f0) ((qA l1 a2).f1) ((qA l1 a2).f2.f0) ((qA l1 a2).f2.f1) ((qA l1 a2).f2.f2) ((qA l1 a2).f2.f3) ((qA l1 a2).f2.f4) ((qA l1 a2).f2.f5) a3).bind fun bt455 => (if bt455.2.2.2.2.2.2.2.2 = true then ((qYD.f l1 bt455.1 bt455.2.1 bt455.2.2.1 bt455.2.2.2.1 bt455.2.2.2.2.1 bt455.2.2.2.2.2.1 bt455.2.2.2.2.2.2.1 bt455.2.2.2.2.2.2.2.1).bind fun t465 => (if t465 = true then (some (([] : List (S53)), false)) else ((qpB.f l1).bind fun t466 => (if a2 < (t466.length : Int) then (some ((t466.set (a2 : Int).toNat (⟨bt455.1, bt455.2.1, (⟨bt455.2.2.1, bt455.2.2.2.1, bt455.2.2.2.2.1, bt455.2.2.2.2.2.1, bt455.2.2.2.2.2.2.1, bt455.2.2.2.2.2.2.2.1⟩ : S51)⟩ : S53)), true)) else (none))))) else (some (([] : List (S53)), false)))) else (none)) else (none)) else (some (([] : List (S53)), false)))
set_option maxHeartbeats 8000000 in
set_option maxRecDepth 100000 in
theorem qeA.calls (A0 : Option Addr) (c0 : Nat) (l0 : List ByteArray) (A1 : Option Addr) (c1 : Nat) (l1 : List (S53)) (a2 : Int) (a3 : Int) (r1 : List (S53)) (r2 : Bool) (w : World) (hr0 : Kd.C Kd.string w A0 l0.length l0) (hc0 : l0.length ≤ c0) (hr1 : Kd.C k53 w A1 l1.length l1) (hc1 : l1.length ≤ c1) (h : qeA.f l0 l1 a2 a3 = some (r1, r2)) :
  Calls Tryz.prog 53 #[.slice A0 l0.length c0, .slice A1 l1.length c1, .int .i64 a2, .int .u8 a3] w fun e w' => ∃ v0_ : Value, e = .returned (.tuple #[v0_, .bool r2]) ∧ Kd.R k53 53 w' w.heap.size (fun _ => True) v0_ r1 ∧ Below w.heap.size w w' := by
 have hu53 := Tryz.underlying53
 have HR0 := aM hr0
 have HC0 := aM hc0
 clear hr0 hc0
 have HR1 := aM hr1
 have HC1 := aM hc1
 clear hr1 hc1
 have HB := aM (Below.refl w.heap.size w)
 have H : ((qlA.f a2 0 (wrap64 ((l1.length : Int) - 1))).bind fun t453 => (if t453 = true then (if 0 ≤ a2 then (if a2 < (l1.length : Int) then ((quA.f l0 ((qA l1 a2).f0) ((qA l1 a2).f1) ((qA l1 a2).f2.f0) ((qA l1 a2).f2.f1) ((qA l1 a2).f2.f2) ((qA l1 a2).f2.f3) ((qA l1 a2).f2.f4) ((qA l1 a2).f2.f5) a3).bind fun bt455 => (if bt455.2.2.2.2.2.2.2.2 = true then ((qYD.f l1 bt455.1 bt455.2.1 bt455.2.2.1 bt455.2.2.2.1 bt455.2.2.2.2.1 bt455.2.2.2.2.2.1 bt455.2.2.2.2.2.2.1 bt455.2.2.2.2.2.2.2.1).bind fun t465 => (if t465 = true then (some (([] : List (S53)), false)) else ((qpB.f l1).bind fun t466 => (if a2 < (t466.length : Int) then (some ((t466.set (a2 : Int).toNat (⟨bt455.1, bt455.2.1, (⟨bt455.2.2.1, bt455.2.2.2.1, bt455.2.2.2.2.1, bt455.2.2.2.2.2.1, bt455.2.2.2.2.2.2.1, bt455.2.2.2.2.2.2.2.1⟩ : S51)⟩ : S53)), true)) else (none))))) else (some (([] : List (S53)), false)))) else (none)) else (none)) else (some (([] : List (S53)), false)))) = some (r1, r2) := h
 clear h
 replace H := bO H
 obtain ⟨t453, A5, H⟩ := H
 by_cases c6 : t453 = true
 ·subst c6
  replace H := iT H
  by_cases c7 : 0 ≤ a2
  case neg => exact nN c7 H
  rw [if_pos c7] at H
  have c7b0 := decide_eq_true c7
  clear c7
  by_cases c8 : a2 < (l1.length : Int)
  case neg => exact nN c8 H
  rw [if_pos c8] at H
  have c8b0 := decide_eq_true c8
  clear c8
  replace H := bO H
  obtain ⟨⟨t455, t456, t457, t458, t459, t460, t461, t462, t463⟩, A9, H⟩ := H
  dsimp only at H A9
  by_cases c10 : t463 = true
  ·subst c10
   replace H := iT H
   replace H := bO H
   obtain ⟨t465, A11, H⟩ := H
   by_cases c12 : t465 = true
   ·subst c12
    replace H := iT H
    simp only [Option.some.injEq, Prod.mk.injEq] at H
    obtain ⟨rfl, rfl⟩ := H
    go_enter Tryz.func53, Tryz.ntmps53
    go_wp2_with (first | ((with_reducible refine qE (f := 59) rfl ?_); refine qm (some 17) rfl rfl Tryz.func59 (by kernel_rfl) rfl #[.int .i64 a2, .int .i64 0, .int .i64 (wrap64 ((l1.length : Int) - 1))] rfl gA ?_; (with_reducible refine (qlA.calls a2 0 (wrap64 ((l1.length : Int) - 1)) true _ A5.out).mono ?_); rintro e w' ⟨rfl, ⟨nd, rfl⟩⟩; refine ⟨_, rfl, ?_⟩; have p454 : 0 ≤ (a2 : Int) := of_decide_eq_true am; have q454 : a2 < (l1.length : Int) := of_decide_eq_true am; obtain ⟨ad454, e454, hx454_0, hx454_1, hx454_2, hx454_3, hx454_4, hx454_5, hx454_6, hx454_7⟩ := qYB HR1.out a2 p454 q454; cases e454; replace p454 := eq_true p454; replace q454 := eq_true q454) | ((with_reducible refine qE (f := 69) rfl ?_); refine qm (some 26) rfl rfl Tryz.func69 (by kernel_rfl) rfl #[.slice A0 l0.length c0, .agg #[.int .i64 ((qA l1 a2).f0), .int .i64 ((qA l1 a2).f1), .int .i64 ((qA l1 a2).f2.f0), .int .i64 ((qA l1 a2).f2.f1), .int .i64 ((qA l1 a2).f2.f2), .int .i64 ((qA l1 a2).f2.f3), .int .i64 ((qA l1 a2).f2.f4), .int .i64 ((qA l1 a2).f2.f5)], .int .u8 a3] rfl gA ?_; (with_reducible refine (quA.calls _ _ l0 ((qA l1 a2).f0) ((qA l1 a2).f1) ((qA l1 a2).f2.f0) ((qA l1 a2).f2.f1) ((qA l1 a2).f2.f2) ((qA l1 a2).f2.f3) ((qA l1 a2).f2.f4) ((qA l1 a2).f2.f5) a3 t455 t456 t457 t458 t459 t460 t461 t462 true _ ?side1 ?side2 A9.out).mono ?_); (case side1 => repeat (first | exact HR0.out | (with_reducible refine Kd.qL ?_ _) | (with_reducible refine Kd.qK ?_ _) | (with_reducible refine Kd.qX ?_))); (case side2 => exact HC0.out); rintro e w13 ⟨rfl, hb⟩; refine ⟨_, rfl, ?_⟩; replace HB := aM (qB bl hb); (try clear hb); (try clear hb2); (try clear hk); (try clear hi)) | ((with_reducible refine qH (N := 10) rfl ?_); refine bE (N := 10) (cs := #[.int .i64 0, .int .i64 0, .int .i64 0, .int .i64 0, .int .i64 0, .int .i64 0, .int .i64 0, .int .i64 0]) (t := 53) ?_; intro gb464 hg w14 hbox hb; have BK464 := aM (hbox); have GW464 := aM ((gg hg)); have GE464 := aM ((gg hg)); replace HB := aM (qB bl hb); clear hb hbox hg; (refine cb8 BK464 ?_; intro _ _ _ _ _ _ _ _); (refine cz8 BK464 ?_; intro _ _ _ _ _ _ _ _)) | (go_at_call 70; (with_reducible refine (qYD.calls _ _ l1 gb464 t455 t456 t457 t458 t459 t460 t461 t462 true _ ?side1 ?side2 ?side3 ?side4 ?side5 ?side6 ?side7 ?side8 ?side9 ?side10 A11.out).mono ?_); (case side1 => exact Kd.qV HR1.out bl); (case side2 => exact HC1.out); (case side3 => exact (cell_of_row _ gb464 0 _ 53 (0, 0) (by (with_reducible repeat (first | refine qG ?_ _ | refine qD ?_ | refine qF ?_ _)); exact bP8 BK464)).trans rfl); (case side4 => exact (cell_of_row _ gb464 1 _ 53 (0, 0) (by (with_reducible repeat (first | refine qG ?_ _ | refine qD ?_ | refine qF ?_ _)); exact bP8 BK464)).trans rfl); (case side5 => exact (cell_of_row _ gb464 2 _ 53 (0, 0) (by (with_reducible repeat (first | refine qG ?_ _ | refine qD ?_ | refine qF ?_ _)); exact bP8 BK464)).trans rfl); (case side6 => exact (cell_of_row _ gb464 3 _ 53 (0, 0) (by (with_reducible repeat (first | refine qG ?_ _ | refine qD ?_ | refine qF ?_ _)); exact bP8 BK464)).trans rfl); (case side7 => exact (cell_of_row _ gb464 4 _ 53 (0, 0) (by (with_reducible repeat (first | refine qG ?_ _ | refine qD ?_ | refine qF ?_ _)); exact bP8 BK464)).trans rfl); (case side8 => exact (cell_of_row _ gb464 5 _ 53 (0, 0) (by (with_reducible repeat (first | refine qG ?_ _ | refine qD ?_ | refine qF ?_ _)); exact bP8 BK464)).trans rfl); (case side9 => exact (cell_of_row _ gb464 6 _ 53 (0, 0) (by (with_reducible repeat (first | refine qG ?_ _ | refine qD ?_ | refine qF ?_ _)); exact bP8 BK464)).trans rfl); (case side10 => exact (cell_of_row _ gb464 7 _ 53 (0, 0) (by (with_reducible repeat (first | refine qG ?_ _ | refine qD ?_ | refine qF ?_ _)); exact bP8 BK464)).trans rfl); rintro e w16 ⟨rfl, hb⟩; replace BK464 := aM (qCA (g := gb464) (o := .cells #[.int .i64 t455, .int .i64 t456, .int .i64 t457, .int .i64 t458, .int .i64 t459, .int .i64 t460, .int .i64 t461, .int .i64 t462] 53 (0, 0)) (by (with_reducible repeat (first | refine qG ?_ _ | refine qD ?_ | refine qF ?_ _)); exact bP8 BK464) hb); replace HB := aM (qB bl hb); (try clear hb); (try clear hb2); (try clear hk); (try clear hi)))
    go_ret2
    exact ⟨_, sR, nK, bl⟩
   ·replace c12 := Bool.eq_false_iff.mpr c12
    subst c12
    replace H := iF H
    replace H := bO H
    obtain ⟨t466, A17, H⟩ := H
    by_cases c18 : a2 < (t466.length : Int)
    case neg => exact nN c18 H
    rw [if_pos c18] at H
    have c18b0 := decide_eq_true c18
    clear c18
    obtain ⟨y469, hy469⟩ : ∃ y_ : List (S53), y_ = (t466.set (a2 : Int).toNat (⟨t455, t456, (⟨t457, t458, t459, t460, t461, t462⟩ : S51)⟩ : S53)) := ⟨_, rfl⟩
    replace H : (some (y469, true)) = some (r1, r2) := by first | (rw [hy469]; with_reducible exact H) | (have H2_ := (Option.bind_some _ _).symm.trans H; rw [hy469]; with_reducible exact H2_) | (have H2_ := (Option.bind_some _ _).symm.trans H; with_reducible exact H2_) | with_reducible exact H | (rw [hy469]; exact H) | exact H
    have Ny469 := aM hy469
    clear hy469
    simp only [Option.some.injEq, Prod.mk.injEq] at H
    obtain ⟨rfl, rfl⟩ := H
    go_enter Tryz.func53, Tryz.ntmps53
    go_wp2_with (first | ((with_reducible refine qE (f := 59) rfl ?_); refine qm (some 17) rfl rfl Tryz.func59 (by kernel_rfl) rfl #[.int .i64 a2, .int .i64 0, .int .i64 (wrap64 ((l1.length : Int) - 1))] rfl gA ?_; (with_reducible refine (qlA.calls a2 0 (wrap64 ((l1.length : Int) - 1)) true _ A5.out).mono ?_); rintro e w' ⟨rfl, ⟨nd, rfl⟩⟩; refine ⟨_, rfl, ?_⟩; have p454 : 0 ≤ (a2 : Int) := of_decide_eq_true am; have q454 : a2 < (l1.length : Int) := of_decide_eq_true am; obtain ⟨ad454, e454, hx454_0, hx454_1, hx454_2, hx454_3, hx454_4, hx454_5, hx454_6, hx454_7⟩ := qYB HR1.out a2 p454 q454; cases e454; replace p454 := eq_true p454; replace q454 := eq_true q454) | ((with_reducible refine qE (f := 69) rfl ?_); refine qm (some 26) rfl rfl Tryz.func69 (by kernel_rfl) rfl #[.slice A0 l0.length c0, .agg #[.int .i64 ((qA l1 a2).f0), .int .i64 ((qA l1 a2).f1), .int .i64 ((qA l1 a2).f2.f0), .int .i64 ((qA l1 a2).f2.f1), .int .i64 ((qA l1 a2).f2.f2), .int .i64 ((qA l1 a2).f2.f3), .int .i64 ((qA l1 a2).f2.f4), .int .i64 ((qA l1 a2).f2.f5)], .int .u8 a3] rfl gA ?_; (with_reducible refine (quA.calls _ _ l0 ((qA l1 a2).f0) ((qA l1 a2).f1) ((qA l1 a2).f2.f0) ((qA l1 a2).f2.f1) ((qA l1 a2).f2.f2) ((qA l1 a2).f2.f3) ((qA l1 a2).f2.f4) ((qA l1 a2).f2.f5) a3 t455 t456 t457 t458 t459 t460 t461 t462 true _ ?side1 ?side2 A9.out).mono ?_); (case side1 => repeat (first | exact HR0.out | (with_reducible refine Kd.qL ?_ _) | (with_reducible refine Kd.qK ?_ _) | (with_reducible refine Kd.qX ?_))); (case side2 => exact HC0.out); rintro e w20 ⟨rfl, hb⟩; refine ⟨_, rfl, ?_⟩; replace HB := aM (qB bl hb); (try clear hb); (try clear hb2); (try clear hk); (try clear hi)) | ((with_reducible refine qH (N := 10) rfl ?_); refine bE (N := 10) (cs := #[.int .i64 0, .int .i64 0, .int .i64 0, .int .i64 0, .int .i64 0, .int .i64 0, .int .i64 0, .int .i64 0]) (t := 53) ?_; intro gb464 hg w21 hbox hb; have BK464 := aM (hbox); have GW464 := aM ((gg hg)); have GE464 := aM ((gg hg)); replace HB := aM (qB bl hb); clear hb hbox hg; (refine cb8 BK464 ?_; intro _ _ _ _ _ _ _ _); (refine cz8 BK464 ?_; intro _ _ _ _ _ _ _ _)) | (go_at_call 70; (with_reducible refine (qYD.calls _ _ l1 gb464 t455 t456 t457 t458 t459 t460 t461 t462 false _ ?side1 ?side2 ?side3 ?side4 ?side5 ?side6 ?side7 ?side8 ?side9 ?side10 A11.out).mono ?_); (case side1 => exact Kd.qV HR1.out bl); (case side2 => exact HC1.out); (case side3 => exact (cell_of_row _ gb464 0 _ 53 (0, 0) (by (with_reducible repeat (first | refine qG ?_ _ | refine qD ?_ | refine qF ?_ _)); exact bP8 BK464)).trans rfl); (case side4 => exact (cell_of_row _ gb464 1 _ 53 (0, 0) (by (with_reducible repeat (first | refine qG ?_ _ | refine qD ?_ | refine qF ?_ _)); exact bP8 BK464)).trans rfl); (case side5 => exact (cell_of_row _ gb464 2 _ 53 (0, 0) (by (with_reducible repeat (first | refine qG ?_ _ | refine qD ?_ | refine qF ?_ _)); exact bP8 BK464)).trans rfl); (case side6 => exact (cell_of_row _ gb464 3 _ 53 (0, 0) (by (with_reducible repeat (first | refine qG ?_ _ | refine qD ?_ | refine qF ?_ _)); exact bP8 BK464)).trans rfl); (case side7 => exact (cell_of_row _ gb464 4 _ 53 (0, 0) (by (with_reducible repeat (first | refine qG ?_ _ | refine qD ?_ | refine qF ?_ _)); exact bP8 BK464)).trans rfl); (case side8 => exact (cell_of_row _ gb464 5 _ 53 (0, 0) (by (with_reducible repeat (first | refine qG ?_ _ | refine qD ?_ | refine qF ?_ _)); exact bP8 BK464)).trans rfl); (case side9 => exact (cell_of_row _ gb464 6 _ 53 (0, 0) (by (with_reducible repeat (first | refine qG ?_ _ | refine qD ?_ | refine qF ?_ _)); exact bP8 BK464)).trans rfl); (case side10 => exact (cell_of_row _ gb464 7 _ 53 (0, 0) (by (with_reducible repeat (first | refine qG ?_ _ | refine qD ?_ | refine qF ?_ _)); exact bP8 BK464)).trans rfl); rintro e w23 ⟨rfl, hb⟩; replace BK464 := aM (qCA (g := gb464) (o := .cells #[.int .i64 t455, .int .i64 t456, .int .i64 t457, .int .i64 t458, .int .i64 t459, .int .i64 t460, .int .i64 t461, .int .i64 t462] 53 (0, 0)) (by (with_reducible repeat (first | refine qG ?_ _ | refine qD ?_ | refine qF ?_ _)); exact bP8 BK464) hb); replace HB := aM (qB bl hb); (try clear hb); (try clear hb2); (try clear hk); (try clear hi)) | ((with_reducible refine qE (f := 72) rfl ?_); refine qm (some 37) rfl rfl Tryz.func72 (by kernel_rfl) rfl #[.slice (some ad454) l1.length c1] rfl gA ?_; (with_reducible refine (qpB.calls _ _ l1 t466 _ ?side1 ?side2 A17.out).mono ?_); (case side1 => repeat (first | exact (Kd.qV HR1.out HB.out) | (with_reducible refine Kd.qL ?_ _) | (with_reducible refine Kd.qK ?_ _) | (with_reducible refine Kd.qX ?_))); (case side2 => exact HC1.out); rintro e w24 ⟨v467, rfl, ho0, hb⟩; refine ⟨_, rfl, ?_⟩; have HO468 := aM (Kd.qz (Kd.qaB ho0 (rB BK464)) (qJ bl)); replace BK464 := aM (bb BK464 hb); replace HB := aM (qB bl hb); (try clear hb); (try clear hb2); (try clear hk); (try clear hi); (try clear ho0); (refine cb8 BK464 ?_; intro _ _ _ _ _ _ _ _); (refine cz8 BK464 ?_; intro _ _ _ _ _ _ _ _); have p19 : 0 ≤ (a2 : Int) := of_decide_eq_true am; have q19 : (a2 : Int) < ((t466.length : Int) : Int) := of_decide_eq_true am; obtain ⟨go19, co19, eo19, gb19, gl19, cl19, HG19⟩ := Kd.qIE HO468.out (by omega); (first | cases eo19 | (injection eo19 with ea_ en_ ec_; (first | subst ea_ | (injection ea_ with ea_; subst ea_)); subst ec_; clear en_)); have GB19 := aM gb19; have GG19 := aM HG19; clear gb19 gl19 HG19; obtain ⟨ce19, hcl19, hM19, hcc19, hfr19⟩ := Kd.qcD HO468.out z53 (a2 : Int) p19 q19; obtain rfl := qWC hM19; have hx19_0 : w24.cell? ⟨go19, (a2 : Int).toNat * 8, none⟩ = some (.int .i64 ((qA t466 a2).f0)) := hcc19 0 _ rfl; have hx19_1 : w24.cell? ⟨go19, (a2 : Int).toNat * 8 + 1, none⟩ = some (.int .i64 ((qA t466 a2).f1)) := hcc19 1 _ rfl; have hx19_2 : w24.cell? ⟨go19, (a2 : Int).toNat * 8 + 2, none⟩ = some (.int .i64 ((qA t466 a2).f2.f0)) := hcc19 2 _ rfl; have hx19_3 : w24.cell? ⟨go19, (a2 : Int).toNat * 8 + 3, none⟩ = some (.int .i64 ((qA t466 a2).f2.f1)) := hcc19 3 _ rfl; have hx19_4 : w24.cell? ⟨go19, (a2 : Int).toNat * 8 + 4, none⟩ = some (.int .i64 ((qA t466 a2).f2.f2)) := hcc19 4 _ rfl; have hx19_5 : w24.cell? ⟨go19, (a2 : Int).toNat * 8 + 5, none⟩ = some (.int .i64 ((qA t466 a2).f2.f3)) := hcc19 5 _ rfl; have hx19_6 : w24.cell? ⟨go19, (a2 : Int).toNat * 8 + 6, none⟩ = some (.int .i64 ((qA t466 a2).f2.f4)) := hcc19 6 _ rfl; have hx19_7 : w24.cell? ⟨go19, (a2 : Int).toNat * 8 + 7, none⟩ = some (.int .i64 ((qA t466 a2).f2.f5)) := hcc19 7 _ rfl; have hf19_0 : w24.frozen? ⟨go19, (a2 : Int).toNat * 8, none⟩ = false := hfr19 0; have hf19_1 : w24.frozen? ⟨go19, (a2 : Int).toNat * 8 + 1, none⟩ = false := hfr19 1; have hf19_2 : w24.frozen? ⟨go19, (a2 : Int).toNat * 8 + 2, none⟩ = false := hfr19 2; have hf19_3 : w24.frozen? ⟨go19, (a2 : Int).toNat * 8 + 3, none⟩ = false := hfr19 3; have hf19_4 : w24.frozen? ⟨go19, (a2 : Int).toNat * 8 + 4, none⟩ = false := hfr19 4; have hf19_5 : w24.frozen? ⟨go19, (a2 : Int).toNat * 8 + 5, none⟩ = false := hfr19 5; have hf19_6 : w24.frozen? ⟨go19, (a2 : Int).toNat * 8 + 6, none⟩ = false := hfr19 6; have hf19_7 : w24.frozen? ⟨go19, (a2 : Int).toNat * 8 + 7, none⟩ = false := hfr19 7; clear hcl19 hcc19 hfr19 hM19; replace p19 := eq_true p19; replace q19 := eq_true q19; have n_ := aM (Kd.qa (ok' := (fun k_ => k_ ≠ gb464)) HO468.out (fun k_ hk => hk.2)); clear HO468; have HO468 := n_; clear n_; have HX26 := aM (show Kd.R k53 53 w24 w.heap.size (fun k_ => k_ ≠ gb464) (.slice (some ⟨go19, 0, none⟩) t466.length co19) t466 from (rR HO468)); obtain ⟨ce26, hcl26, hM26, hcc26, hfr26⟩ := Kd.qcD HX26.out z53 (a2 : Int) (of_decide_eq_true am) (by have h_ : (a2 : Int) < ((t466.length : Int) : Int) := of_decide_eq_true am; first | exact h_ | (have e_ := (Kd.qO HO468.out).1; omega) | simpa using h_); obtain rfl := qWC hM26; have HP26 := Kd.R_seg HX26.out (a2 : Int) (of_decide_eq_true am) (by have h_ : (a2 : Int) < ((t466.length : Int) : Int) := of_decide_eq_true am; first | exact h_ | (have e_ := (Kd.qO HO468.out).1; omega) | simpa using h_) (seg := [.int .i64 t455, .int .i64 t456, .int .i64 t457, .int .i64 t458, .int .i64 t459, .int .i64 t460, .int .i64 t461, .int .i64 t462]) (j := 0) hcl26 hcc26 (show 8 ≤ 8 from by decide) (x' := (⟨t455, t456, (⟨t457, t458, t459, t460, t461, t462⟩ : S51)⟩ : S53)) (qTE _ _ _ (⟨t455, t456, (⟨t457, t458, t459, t460, t461, t462⟩ : S51)⟩ : S53) ) (fun _ hk => hk); have hx26_0 := hcc26 0 _ rfl; (try simp only [show (k53).sz = 8 from rfl, Nat.mul_one, Nat.add_zero] at hx26_0); have hf26_0 := hfr26 0; (try simp only [show (k53).sz = 8 from rfl, Nat.mul_one, Nat.add_zero] at hf26_0); have hx26_1 := hcc26 1 _ rfl; (try simp only [show (k53).sz = 8 from rfl, Nat.mul_one, Nat.add_zero] at hx26_1); have hf26_1 := hfr26 1; (try simp only [show (k53).sz = 8 from rfl, Nat.mul_one, Nat.add_zero] at hf26_1); have hx26_2 := hcc26 2 _ rfl; (try simp only [show (k53).sz = 8 from rfl, Nat.mul_one, Nat.add_zero] at hx26_2); have hf26_2 := hfr26 2; (try simp only [show (k53).sz = 8 from rfl, Nat.mul_one, Nat.add_zero] at hf26_2); have hx26_3 := hcc26 3 _ rfl; (try simp only [show (k53).sz = 8 from rfl, Nat.mul_one, Nat.add_zero] at hx26_3); have hf26_3 := hfr26 3; (try simp only [show (k53).sz = 8 from rfl, Nat.mul_one, Nat.add_zero] at hf26_3); have hx26_4 := hcc26 4 _ rfl; (try simp only [show (k53).sz = 8 from rfl, Nat.mul_one, Nat.add_zero] at hx26_4); have hf26_4 := hfr26 4; (try simp only [show (k53).sz = 8 from rfl, Nat.mul_one, Nat.add_zero] at hf26_4); have hx26_5 := hcc26 5 _ rfl; (try simp only [show (k53).sz = 8 from rfl, Nat.mul_one, Nat.add_zero] at hx26_5); have hf26_5 := hfr26 5; (try simp only [show (k53).sz = 8 from rfl, Nat.mul_one, Nat.add_zero] at hf26_5); have hx26_6 := hcc26 6 _ rfl; (try simp only [show (k53).sz = 8 from rfl, Nat.mul_one, Nat.add_zero] at hx26_6); have hf26_6 := hfr26 6; (try simp only [show (k53).sz = 8 from rfl, Nat.mul_one, Nat.add_zero] at hf26_6); have hx26_7 := hcc26 7 _ rfl; (try simp only [show (k53).sz = 8 from rfl, Nat.mul_one, Nat.add_zero] at hx26_7); have hf26_7 := hfr26 7; (try simp only [show (k53).sz = 8 from rfl, Nat.mul_one, Nat.add_zero] at hf26_7); clear hcl26 hcc26 hfr26 hM26) | ((with_reducible refine qsB (t := 53) (p := 41) rfl ?_); refine qlB (t := 53) (p := 41) (v := ?vo_w27) (w1 := ((((((((w24.setCell ⟨go19, (a2 : Int).toNat * 8, none⟩ (.int .i64 t455)).setCell ⟨go19, (a2 : Int).toNat * 8 + 1, none⟩ (.int .i64 t456)).setCell ⟨go19, (a2 : Int).toNat * 8 + 2, none⟩ (.int .i64 t457)).setCell ⟨go19, (a2 : Int).toNat * 8 + 3, none⟩ (.int .i64 t458)).setCell ⟨go19, (a2 : Int).toNat * 8 + 4, none⟩ (.int .i64 t459)).setCell ⟨go19, (a2 : Int).toNat * 8 + 5, none⟩ (.int .i64 t460)).setCell ⟨go19, (a2 : Int).toNat * 8 + 6, none⟩ (.int .i64 t461)).setCell ⟨go19, (a2 : Int).toNat * 8 + 7, none⟩ (.int .i64 t462))) ?hg ?ho ?hn ?hr ?_; (case ho => rfl); (case hg => rfl); (case hn => rfl); (case hr => exact gS); intro w27 hw; have hg : w24.grownBy w27 (some go19) := (by rw [hw]; exact HP26.2); have hp_ : Kd.R k53 53 w27 w.heap.size (fun k_ => k_ ≠ gb464) (.slice (some ⟨go19, 0, none⟩) t466.length co19) y469 := (by rw [hw, Ny469.out]; exact HP26.1); clear HP26; replace BK464 := aM (qn (rB BK464) hg (Kd.qVB HO468.out (fun _ hk => hk))); replace HO468 := aM (hp_); replace HB := aM ((by rw [hw]; exact qBA (qBA (qBA (qBA (qBA (qBA (qBA (qBA (HB.out) GB19.out) GB19.out) GB19.out) GB19.out) GB19.out) GB19.out) GB19.out) GB19.out : Below w.heap.size w w27)); clear hg hw hp_))
    go_ret2
    exact ⟨_, sR, by (with_reducible repeat (first | apply Kd.qQ | apply Kd.qR | apply Kd.qS)); exact Kd.qa HO468.out (fun _ hk => trivial), bl⟩
  ·replace c10 := Bool.eq_false_iff.mpr c10
   subst c10
   replace H := iF H
   simp only [Option.some.injEq, Prod.mk.injEq] at H
   obtain ⟨rfl, rfl⟩ := H
   go_enter Tryz.func53, Tryz.ntmps53
   go_wp2_with (first | ((with_reducible refine qE (f := 59) rfl ?_); refine qm (some 17) rfl rfl Tryz.func59 (by kernel_rfl) rfl #[.int .i64 a2, .int .i64 0, .int .i64 (wrap64 ((l1.length : Int) - 1))] rfl gA ?_; (with_reducible refine (qlA.calls a2 0 (wrap64 ((l1.length : Int) - 1)) true _ A5.out).mono ?_); rintro e w' ⟨rfl, ⟨nd, rfl⟩⟩; refine ⟨_, rfl, ?_⟩; have p454 : 0 ≤ (a2 : Int) := of_decide_eq_true am; have q454 : a2 < (l1.length : Int) := of_decide_eq_true am; obtain ⟨ad454, e454, hx454_0, hx454_1, hx454_2, hx454_3, hx454_4, hx454_5, hx454_6, hx454_7⟩ := qYB HR1.out a2 p454 q454; cases e454; replace p454 := eq_true p454; replace q454 := eq_true q454) | ((with_reducible refine qE (f := 69) rfl ?_); refine qm (some 26) rfl rfl Tryz.func69 (by kernel_rfl) rfl #[.slice A0 l0.length c0, .agg #[.int .i64 ((qA l1 a2).f0), .int .i64 ((qA l1 a2).f1), .int .i64 ((qA l1 a2).f2.f0), .int .i64 ((qA l1 a2).f2.f1), .int .i64 ((qA l1 a2).f2.f2), .int .i64 ((qA l1 a2).f2.f3), .int .i64 ((qA l1 a2).f2.f4), .int .i64 ((qA l1 a2).f2.f5)], .int .u8 a3] rfl gA ?_; (with_reducible refine (quA.calls _ _ l0 ((qA l1 a2).f0) ((qA l1 a2).f1) ((qA l1 a2).f2.f0) ((qA l1 a2).f2.f1) ((qA l1 a2).f2.f2) ((qA l1 a2).f2.f3) ((qA l1 a2).f2.f4) ((qA l1 a2).f2.f5) a3 t455 t456 t457 t458 t459 t460 t461 t462 false _ ?side1 ?side2 A9.out).mono ?_); (case side1 => repeat (first | exact HR0.out | (with_reducible refine Kd.qL ?_ _) | (with_reducible refine Kd.qK ?_ _) | (with_reducible refine Kd.qX ?_))); (case side2 => exact HC0.out); rintro e w28 ⟨rfl, hb⟩; refine ⟨_, rfl, ?_⟩; replace HB := aM (qB bl hb); (try clear hb); (try clear hb2); (try clear hk); (try clear hi)) | ((with_reducible refine qH (N := 10) rfl ?_); refine bE (N := 10) (cs := #[.int .i64 0, .int .i64 0, .int .i64 0, .int .i64 0, .int .i64 0, .int .i64 0, .int .i64 0, .int .i64 0]) (t := 53) ?_; intro gb464 hg w29 hbox hb; have BK464 := aM (hbox); have GW464 := aM ((gg hg)); have GE464 := aM ((gg hg)); replace HB := aM (qB bl hb); clear hb hbox hg; (refine cb8 BK464 ?_; intro _ _ _ _ _ _ _ _); (refine cz8 BK464 ?_; intro _ _ _ _ _ _ _ _)))
   go_ret2
   exact ⟨_, sR, nK, bl⟩
 ·replace c6 := Bool.eq_false_iff.mpr c6
  subst c6
  replace H := iF H
  simp only [Option.some.injEq, Prod.mk.injEq] at H
  obtain ⟨rfl, rfl⟩ := H
  go_enter Tryz.func53, Tryz.ntmps53
  go_wp2_with (first | ((with_reducible refine qE (f := 59) rfl ?_); refine qm (some 17) rfl rfl Tryz.func59 (by kernel_rfl) rfl #[.int .i64 a2, .int .i64 0, .int .i64 (wrap64 ((l1.length : Int) - 1))] rfl gA ?_; (with_reducible refine (qlA.calls a2 0 (wrap64 ((l1.length : Int) - 1)) false _ A5.out).mono ?_); rintro e w' ⟨rfl, ⟨nd, rfl⟩⟩; refine ⟨_, rfl, ?_⟩))
  go_ret2
  exact ⟨_, sR, nK, bl⟩
end Go.Proofs.YthhiiceligjleaaGreatDoor.P
namespace Go.Proofs.YthhiiceligjleaaGreatDoor
open Go.RowKit Go.Proofs.YthhiiceligjleaaGreatDoor.P Go.Proofs.YthhiiceligjleaaGreatDoorW.PrintWords Go.Proofs.YthhiiceligjleaaGreatDoorW.PrintLast
set_option linter.unusedVariables false
set_option linter.unusedSimpArgs false
def dOf (c : Int) : Int := if c = 110 then 0 else if c = 101 then 1 else if c = 115 then 2 else 3
def nextC (x y d : Int) : Int × Int := if d = 0 then (x, wrap64 (y - 1)) else if d = 1 then (wrap64 (x + 1), y) else if d = 2 then (x, wrap64 (y + 1)) else (wrap64 (x - 1), y)
abbrev XD := S51
def rollD (x : XD) (d : Int) : XD := if d = 0 then ⟨x.f3, x.f0, x.f2, x.f5, x.f4, x.f1⟩ else if d = 1 then ⟨x.f4, x.f1, x.f0, x.f3, x.f5, x.f2⟩ else if d = 2 then ⟨x.f1, x.f5, x.f2, x.f0, x.f4, x.f3⟩ else ⟨x.f2, x.f1, x.f5, x.f3, x.f0, x.f4⟩
def tupD (x : XD) : Int × Int × Int × Int × Int × Int := (x.f0, x.f1, x.f2, x.f3, x.f4, x.f5)
def rollS (s : XS) (d : Int) : XS := ⟨(nextC s.f0 s.f1 d).1, (nextC s.f0 s.f1 d).2, rollD s.f2 d⟩
theorem implNext_eq (x y c : Int) : qJC.f x y c = some (nextC x y (dOf c)) := by
 unfold qJC.f nextC dOf
 by_cases h1 : c = 110
 ·simp [h1]
 by_cases h2 : c = 101
 ·simp [h1, h2]
 by_cases h3 : c = 115
 ·simp [h1, h2, h3]
 simp [h1, h2, h3]
theorem specNext_eq (x y d : Int) : qcB.f x y d = some (nextC x y d) := by
 unfold qcB.f nextC
 by_cases h1 : d = 0
 ·simp [h1]
 by_cases h2 : d = 1
 ·simp [h1, h2]
 by_cases h3 : d = 2
 ·simp [h1, h2, h3]
 simp [h1, h2, h3]
theorem implDie_eq (x : XD) (c : Int) : qTB.f x.f0 x.f1 x.f2 x.f3 x.f4 x.f5 c = some (tupD (rollD x (dOf c))) := by
 unfold qTB.f rollD dOf
 by_cases h1 : c = 110
 ·simp [tupD, h1]
 by_cases h2 : c = 101
 ·simp [tupD, h1, h2]
 by_cases h3 : c = 115
 ·simp [tupD, h1, h2, h3]
 simp [tupD, h1, h2, h3]
theorem specDie_eq (x : XD) (d : Int) : qFB.f x.f0 x.f1 x.f2 x.f3 x.f4 x.f5 d = some (tupD (rollD x d)) := by
 unfold qFB.f rollD
 by_cases h1 : d = 0
 ·simp [tupD, h1]
 by_cases h2 : d = 1
 ·simp [tupD, h1, h2]
 by_cases h3 : d = 2
 ·simp [tupD, h1, h2, h3]
 simp [tupD, h1, h2, h3]
theorem implRoll_eq {a : ByteArray} (g : Gnd a) (s : XS) (c : Int) : quA.f (rowsT a) s.f0 s.f1 s.f2.f0 s.f2.f1 s.f2.f2 s.f2.f3 s.f2.f4 s.f2.f5 c = some ((rollS s (dOf c)).f0, (rollS s (dOf c)).f1, (rollS s (dOf c)).f2.f0, (rollS s (dOf c)).f2.f1, (rollS s (dOf c)).f2.f2, (rollS s (dOf c)).f2.f3, (rollS s (dOf c)).f2.f4, (rollS s (dOf c)).f2.f5, floorB a (rollS s (dOf c)).f0 (rollS s (dOf c)).f1) := by
 unfold quA.f
 obtain ⟨q, h1, h2⟩ := at_floor g (rollS s (dOf c)).f0 (rollS s (dOf c)).f1
 rw [implNext_eq, Option.bind_some, implDie_eq, Option.bind_some]
 rw [show qgA.f (rowsT a) (nextC s.f0 s.f1 (dOf c)).1 (nextC s.f0 s.f1 (dOf c)).2 = some q from h1, Option.bind_some, ← h2]
 rfl
theorem specRoll_eq {a : ByteArray} (g : Gnd a) (s : XS) (d : Int) : qAB.f (wideT a : Int) (highT a : Int) (csOf a) s.f0 s.f1 s.f2.f0 s.f2.f1 s.f2.f2 s.f2.f3 s.f2.f4 s.f2.f5 d = some (if floorB a (rollS s d).f0 (rollS s d).f1 = true then ((rollS s d).f0, (rollS s d).f1, (rollS s d).f2.f0, (rollS s d).f2.f1, (rollS s d).f2.f2, (rollS s d).f2.f3, (rollS s d).f2.f4, (rollS s d).f2.f5, true) else (0, 0, 0, 0, 0, 0, 0, 0, false)) := by
 unfold qAB.f
 rw [specNext_eq, Option.bind_some, show qpA.f (wideT a : Int) (highT a : Int) (csOf a) (nextC s.f0 s.f1 d).1 (nextC s.f0 s.f1 d).2 = some (floorB a (rollS s d).f0 (rollS s d).f1) from boFloor_eq g _ _, Option.bind_some]
 cases h : floorB a (rollS s d).f0 (rollS s d).f1 with
 | true =>
  rw [if_pos rfl, specDie_eq, Option.bind_some, if_pos rfl]; rfl
 | false => rw [if_neg (by decide), if_neg (by decide)]
def moveB (a : ByteArray) (l : List XS) (k : Nat) (d : Int) : List XS × Bool :=
 if h : k < l.length then (if floorB a (rollS l[k] d).f0 (rollS l[k] d).f1 = true ∧ l.any (atCell (rollS l[k] d).f0 (rollS l[k] d).f1) = false then (l.set k (rollS l[k] d), true) else ([], false)) else ([], false)
theorem moveB_len {a : ByteArray} {l : List XS} {k : Nat} {d : Int} (h : (moveB a l k d).2 = true) : (moveB a l k d).1.length = l.length := by
 unfold moveB at h ⊢
 split
 ·rename_i hk
  rw [dif_pos hk] at h
  split
  ·simp
  ·rename_i hc
   rw [if_neg hc] at h; cases h
 ·rename_i hk
  rw [dif_neg hk] at h; cases h
theorem implMove_eq {a : ByteArray} (g : Gnd a) (l : List XS) (hl : l.length ≤ 2000000) (k : Nat) (c : Int) : qeA.f (rowsT a) l (k : Int) c = some (moveB a l k (dOf c)) := by
 unfold qeA.f moveB
 have w : wrap64 ((l.length : Int) - 1) = (l.length : Int) - 1 := by unfold wrap64; omega
 rw [quC, w, Option.bind_some]
 by_cases hk : k < l.length
 ·rw [dif_pos hk, if_pos (by simp only [Bool.and_eq_true, decide_eq_true_eq]; omega), if_pos (by omega), if_pos (by omega), rdXS l k hk, implRoll_eq g, Option.bind_some]
  show (if floorB a (rollS l[k] (dOf c)).f0 (rollS l[k] (dOf c)).f1 = true then _ else _) = _
  cases hf : floorB a (rollS l[k] (dOf c)).f0 (rollS l[k] (dOf c)).f1 with
  | false => rw [if_neg (by decide), if_neg (by simp)]
  | true =>
   rw [if_pos rfl]
   show (if l.any (atCell (rollS l[k] (dOf c)).f0 (rollS l[k] (dOf c)).f1) = true then _ else _) = _
   cases ha : l.any (atCell (rollS l[k] (dOf c)).f0 (rollS l[k] (dOf c)).f1) with
   | true => rw [if_pos rfl, if_neg (by simp)]
   | false =>
    rw [if_neg (by decide), if_pos ⟨rfl, rfl⟩]
    unfold qpB.f
    rw [if_pos (by omega), Option.bind_some, if_pos (by omega), Int.toNat_natCast]
 ·rw [dif_neg hk, if_neg (by simp only [Bool.and_eq_true, decide_eq_true_eq]; omega)]
theorem specMove_ev {a : ByteArray} (g : Gnd a) (l : List XS) (hl : l.length ≤ 2000000) (k : Nat) (hk : k < l.length) (d : Int) : Ev (fun n => qTA.f n (wideT a : Int) (highT a : Int) (csOf a) l (k : Int) d) (moveB a l k d) := by
 unfold qTA.f moveB
 rw [dif_pos hk]
 obtain ⟨r, h1, h2⟩ := myAt_ev l (by omega) (rollS l[k] d).f0 (rollS l[k] d).f1
 refine Ev.pos (by omega) (Ev.pos (by omega) ?_)
 rw [rdXS l k hk]
 refine Ev.bindc (specRoll_eq g l[k] d) ?_
 cases hf : floorB a (rollS l[k] d).f0 (rollS l[k] d).f1 with
 | false => exact Ev.neg (by simp) (Ev.some_ (by simp))
 | true =>
  refine Ev.pos rfl (Ev.bind h1 ?_)
  rw [← h2]
  by_cases hq : r ≥ 0
  case pos => rw [decide_eq_true hq]; exact Ev.pos hq (Ev.some_ (by simp))
  rw [decide_eq_false hq]
  refine Ev.neg hq (Ev.bindc rfl (Ev.pos (by simp; omega) (Ev.bindc rfl (Ev.pos (by simp; omega) (Ev.some_ ?_)))))
  rw [List.nil_append, Int.toNat_natCast]
  exact (if_pos ⟨rfl, rfl⟩).symm
end Go.Proofs.YthhiiceligjleaaGreatDoor
namespace Go.Proofs.YthhiiceligjleaaGreatDoor.P
open Go.RowKit Go.Proofs.YthhiiceligjleaaGreatDoorW.PrintWords Go.Proofs.YthhiiceligjleaaGreatDoorW.PrintLast Go.Proofs.YthhiiceligjleaaGreatDoorW.PrintMore
attribute [local go_sem] qh qf qr qq qZ qY qg qe
set_option linter.unusedVariables false
set_option linter.unusedSimpArgs false
mutual
def qd.l0 : Nat → List ByteArray → List (S53) → List ByteArray → Int → Int → Option (List ByteArray)
 | 0, _, _, _, _, _ => none
 | k + 1, x0, x1, x5, x12, x13 => if x13 < x12 then (qd.l1 k x0 x1 x5 x13 x12 x13 0) else (some x5)
def qd.l1 : Nat → List ByteArray → List (S53) → List ByteArray → Int → Int → Int → Int → Option (List ByteArray)
 | 0, _, _, _, _, _, _, _ => none
 | k + 1, x0, x1, x5, x6, x12, x13, x16 => if x16 < 4 then (if 0 ≤ x16 then ((qeA.f x0 x1 x6 (bt (⟨#[110, 101, 115, 119]⟩ : ByteArray) x16)).bind fun bt473 => (if bt473.2 = true then (if x5.length < 8796093022208 then (qd.l1 k x0 x1 (x5 ++ [strOfNums (([(wrap64 (48 + x6)) % 256, bt (⟨#[110, 101, 115, 119]⟩ : ByteArray) x16] : List Int))]) x6 x12 x13 (wrap64 (x16 + 1))) else (none)) else (qd.l1 k x0 x1 x5 x6 x12 x13 (wrap64 (x16 + 1))))) else (none)) else (qd.l0 k x0 x1 x5 x12 (wrap64 (x13 + 1)))
end
def qd.f (k : Nat) (l0 : List ByteArray) (l1 : List (S53)) : Option (List ByteArray) := qd.l0 k l0 l1 (([] : List ByteArray)) (l1.length : Int) 0
set_option maxHeartbeats 8000000 in
set_option maxRecDepth 100000 in
theorem qd.calls (k : Nat) (A0 : Option Addr) (c0 : Nat) (l0 : List ByteArray) (A1 : Option Addr) (c1 : Nat) (l1 : List (S53)) (r : List ByteArray) (w : World) (hr0 : Kd.C Kd.string w A0 l0.length l0) (hc0 : l0.length ≤ c0) (hr1 : Kd.C k53 w A1 l1.length l1) (hc1 : l1.length ≤ c1) (h : qd.f k l0 l1 = some r) :
  Calls Tryz.prog 52 #[.slice A0 l0.length c0, .slice A1 l1.length c1] w fun e w' => ∃ v0_ : Value, e = .returned (v0_) ∧ Kd.R Kd.string 9 w' w.heap.size (fun _ => True) v0_ r ∧ Below w.heap.size w w' := by
 have HR0 := aM hr0
 have HC0 := aM hc0
 clear hr0 hc0
 have HR1 := aM hr1
 have HC1 := aM hc1
 clear hr1 hc1
 have HB := aM (Below.refl w.heap.size w)
 have H : (qd.l0 k l0 l1 (([] : List ByteArray)) (l1.length : Int) 0) = some r := h
 clear h
 obtain ⟨y470, hy470⟩ : ∃ y_ : List ByteArray, y_ = (([] : List ByteArray)) := ⟨_, rfl⟩
 replace H : (qd.l0 k l0 l1 y470 (l1.length : Int) 0) = some r := by first | (rw [hy470]; with_reducible exact H) | (have H2_ := (Option.bind_some _ _).symm.trans H; rw [hy470]; with_reducible exact H2_) | (have H2_ := (Option.bind_some _ _).symm.trans H; with_reducible exact H2_) | with_reducible exact H | (rw [hy470]; exact H) | exact H
 have Ny470 := aM hy470
 clear hy470
 have H' := aM H
 clear H
 go_enter Tryz.func52, Tryz.ntmps52
 go_wp2_with (first | ((with_reducible refine qH (N := 10) rfl ?_); refine Kd.R_lit Kd.string _ 9 ?hg (N := 10) ?hd (xs := ([] : List ByteArray)) (inner := []) (ok := fun _ => True) (okp := fun _ => True) ?hr ?hp (fun _ hk => hk) trivial (Below.refl _ _) (Nat.le_refl _) (by simp) ?_; (case hd => rfl); (case hg => rfl); (case hr => exact gS); (case hp => exact (Reps.none _ _)); intro v471 w3 ho4 hb hg_ hnew_; clear hg_ hnew_; (first | rw [← Ny470.out] at ho4 | (simp only [Int.reduceToNat] at ho4; rw [← Ny470.out] at ho4)); have HO472 := aM (Kd.qz ho4 (qJ bl)); replace HB := aM (qB bl hb); clear hb ho4))
 go_loopg [5, 13] k (fun kq v5 v13 w' => ∃ (x5_1 : List ByteArray) (x13_1 : Int), v13 = .int .i64 x13_1 ∧ Aside0 (qd.l0 kq l0 l1 x5_1 (l1.length : Int) x13_1 = some r) ∧ Aside0 (kq ≤ k) ∧ Aside0 (Kd.R Kd.string 9 w' w.heap.size (fun _ => True) v5 x5_1) ∧ Aside0 (Below w.heap.size w w'))
 case atStart => exact ⟨(y470), (0), sD, H', ⟨Nat.le_refl _⟩, ⟨rR HO472⟩, ⟨bl⟩⟩
 case round =>
  clear H'; (try clear c1); (try clear p2)
  obtain ⟨x5_1, x13_1, rfl, HA, HK1, HO_5, HB⟩ := hrel
  cases gk with
  | zero => exact absurd HA.out (by simp [qd.l0])
  | succ k1 =>
   have H := HA.out
   clear HA
   simp only [qd.l0] at H
   by_cases c5 : x13_1 < (l1.length : Int)
   ·rw [if_pos c5] at H
    have c5b0 := decide_eq_true c5
    clear c5
    have H' := aM H
    clear H
    go_wp2
    go_loopg [5, 16] k1 (fun kq v5 v16 w' => ∃ (x5_2 : List ByteArray) (x16_2 : Int), v16 = .int .i64 x16_2 ∧ Aside0 (qd.l1 kq l0 l1 x5_2 x13_1 (l1.length : Int) x13_1 x16_2 = some r) ∧ Aside0 (kq ≤ k1) ∧ Aside0 (Kd.R Kd.string 9 w' w.heap.size (fun _ => True) v5 x5_2) ∧ Aside0 (Below w.heap.size w w'))
    case atStart => exact ⟨(x5_1), (0), sD, H', ⟨Nat.le_refl _⟩, ⟨rR HO_5⟩, ⟨bl⟩⟩
    case round =>
     clear H'; (try clear c1); (try clear p2); (try clear c5); (try clear c5b0); (try clear p2)
     obtain ⟨x5_2, x16_2, rfl, HA, HK2, HO_5, HB⟩ := hrel
     cases gk with
     | zero => exact absurd HA.out (by simp [qd.l1])
     | succ k2 =>
      have H := HA.out
      clear HA
      simp only [qd.l1] at H
      by_cases c6 : x16_2 < 4
      ·rw [if_pos c6] at H
       have c6b0 := decide_eq_true c6
       clear c6
       by_cases c7 : 0 ≤ x16_2
       case neg => exact nN c7 H
       rw [if_pos c7] at H
       have c7b0 := decide_eq_true c7
       clear c7
       replace H := bO H
       obtain ⟨⟨t473, t474⟩, A9, H⟩ := H
       dsimp only at H A9
       by_cases c10 : t474 = true
       ·subst c10
        replace H := iT H
        obtain ⟨y477, hy477⟩ : ∃ y_ : List Int, y_ = (([(wrap64 (48 + x13_1)) % 256, bt (⟨#[110, 101, 115, 119]⟩ : ByteArray) x16_2] : List Int)) := ⟨_, rfl⟩
        replace H : (if x5_2.length < 8796093022208 then (qd.l1 k2 l0 l1 (x5_2 ++ [strOfNums y477]) x13_1 (l1.length : Int) x13_1 (wrap64 (x16_2 + 1))) else (none)) = some r := by first | (rw [hy477]; with_reducible exact H) | (have H2_ := (Option.bind_some _ _).symm.trans H; rw [hy477]; with_reducible exact H2_) | (have H2_ := (Option.bind_some _ _).symm.trans H; with_reducible exact H2_) | with_reducible exact H | (rw [hy477]; exact H) | exact H
        have Ny477 := aM hy477
        clear hy477
        by_cases c12 : x5_2.length < 8796093022208
        case neg => exact nN c12 H
        rw [if_pos c12] at H
        have LMc12 := aM c12
        clear c12
        obtain ⟨y480, hy480⟩ : ∃ y_ : List ByteArray, y_ = (x5_2 ++ [strOfNums y477]) := ⟨_, rfl⟩
        replace H : (qd.l1 k2 l0 l1 y480 x13_1 (l1.length : Int) x13_1 (wrap64 (x16_2 + 1))) = some r := by first | (rw [hy480]; with_reducible exact H) | (have H2_ := (Option.bind_some _ _).symm.trans H; rw [hy480]; with_reducible exact H2_) | (have H2_ := (Option.bind_some _ _).symm.trans H; with_reducible exact H2_) | with_reducible exact H | (rw [hy480]; exact H) | exact H
        have Ny480 := aM hy480
        clear hy480
        have H' := aM H
        clear H
        have p8 : 0 ≤ (x16_2 : Int) := of_decide_eq_true am
        have q8 : x16_2 < (4 : Int) := of_decide_eq_true am
        have hx8 := bt_at (⟨#[110, 101, 115, 119]⟩ : ByteArray) x16_2
        replace p8 := eq_true p8
        replace q8 := eq_true q8
        go_wp2_with (first | ((with_reducible refine qE (f := 53) rfl ?_); refine qm (some 25) rfl rfl Tryz.func53 (by kernel_rfl) rfl #[.slice A0 l0.length c0, .slice A1 l1.length c1, .int .i64 x13_1, .int .u8 (bt (⟨#[110, 101, 115, 119]⟩ : ByteArray) x16_2)] rfl gA ?_; (with_reducible refine (qeA.calls _ _ l0 _ _ l1 x13_1 (bt (⟨#[110, 101, 115, 119]⟩ : ByteArray) x16_2) t473 true _ ?side1 ?side2 ?side3 ?side4 A9.out).mono ?_); (case side1 => repeat (first | exact (Kd.qV HR0.out HB.out) | (with_reducible refine Kd.qL ?_ _) | (with_reducible refine Kd.qK ?_ _) | (with_reducible refine Kd.qX ?_))); (case side2 => exact HC0.out); (case side3 => repeat (first | exact (Kd.qV HR1.out HB.out) | (with_reducible refine Kd.qL ?_ _) | (with_reducible refine Kd.qK ?_ _) | (with_reducible refine Kd.qX ?_))); (case side4 => exact HC1.out); rintro e w13 ⟨v475, rfl, ho0, hb⟩; refine ⟨_, rfl, ?_⟩; have HO476 := aM (Kd.qz ho0 (qJ bl)); replace HO_5 := aM (Kd.qc (rR HO_5) hb); replace HB := aM (qB bl hb); (try clear hb); (try clear hb2); (try clear hk); (try clear hi); (try clear ho0); have p11 : 0 ≤ (x16_2 : Int) := of_decide_eq_true am; have q11 : x16_2 < (4 : Int) := of_decide_eq_true am; have hx11 := bt_at (⟨#[110, 101, 115, 119]⟩ : ByteArray) x16_2; replace p11 := eq_true p11; replace q11 := eq_true q11) | ((with_reducible refine qH (N := 35) rfl ?_); refine Kd.R_lit (Kd.int .u8) _ 5 ?hg (N := 35) ?hd (xs := ([(wrap64 (48 + x13_1)) % 256, bt (⟨#[110, 101, 115, 119]⟩ : ByteArray) x16_2] : List Int)) (inner := [.int .u8 ((wrap64 (48 + x13_1)) % 256), .int .u8 (bt (⟨#[110, 101, 115, 119]⟩ : ByteArray) x16_2)]) (ok := fun _ => True) (okp := fun _ => True) ?hr ?hp (fun _ hk => hk) trivial (Below.refl _ _) (Nat.le_refl _) (by simp) ?_; (case hd => rfl); (case hg => rfl); (case hr => exact gS); (case hp => exact (Reps.one (show Kd.M (Kd.int .u8) _ _ _ ((wrap64 (48 + x13_1)) % 256) [.int .u8 ((wrap64 (48 + x13_1)) % 256)] from rfl) (Reps.one (show Kd.M (Kd.int .u8) _ _ _ (bt (⟨#[110, 101, 115, 119]⟩ : ByteArray) x16_2) [.int .u8 (bt (⟨#[110, 101, 115, 119]⟩ : ByteArray) x16_2)] from rfl) (Reps.none _ _)))); intro v478 w14 ho15 hb hg_ hnew_; clear hg_ hnew_; (first | rw [← Ny477.out] at ho15 | (simp only [Int.reduceToNat] at ho15; rw [← Ny477.out] at ho15)); have HO479 := aM (Kd.qz ho15 (qJ bl)); replace HO_5 := aM (Kd.qc (rR HO_5) hb); replace HO476 := aM (Kd.qc (rR HO476) hb); replace HB := aM (qB bl hb); clear hb ho15; have hcv16 := qTC (P := Tryz.prog) Tryz.underlying38 Tryz.underlying5 Tryz.underlying9 (Kd.qdC HO479.out)) | ((with_reducible refine qEB (b := .append) (xs := #[.tmp 29, .tmp 37]) rfl ?_); at_builtin; refine Kd.qiD Kd.string (w0 := w) w.heap.size rfl (.tmp 29) (.tmp 37) 61 9 (.string ⟨#[]⟩) 16 rfl Tryz.underlying61 info9 rfl (by decide) (by omega) u5 x5_2 (strOfNums y477) [.string (strOfNums y477)] (fun _ => True) (fun _ => False) rfl rfl ?aP (fun _ hk => hk.elim) ?aF ?aO ?aB ?aS ?aL ?_; (case aP => exact rfl); (case aB => exact bl); (case aF => exact (fun _ _ => trivial)); (case aO => exact (rR HO_5)); (case aS => exact (qJ bl)); (case aL => have := LMc12.out; omega); intro v481 w17 ho hb hg hat; rw [← Ny480.out] at ho; have HO482 := aM (ho); replace HO476 := aM (Kd.qXB (rR HO476) (Kd.qIB (rR HO_5)) (by decide) hg); replace HO479 := aM (Kd.qXB (rR HO479) (Kd.qIB (rR HO_5)) (by decide) hg); replace HB := aM (hb); clear HO_5; clear ho hb hg hat))
        go_roundg k2
        case measure => have := HK1.out; have := HK2.out; omega
        case rel => exact ⟨(y480), (wrap64 (x16_2 + 1)), sD, H', ⟨by have := HK1.out; have := HK2.out; omega⟩, ⟨rR HO482⟩, ⟨bl⟩⟩
       ·replace c10 := Bool.eq_false_iff.mpr c10
        subst c10
        replace H := iF H
        have H' := aM H
        clear H
        have p8 : 0 ≤ (x16_2 : Int) := of_decide_eq_true am
        have q8 : x16_2 < (4 : Int) := of_decide_eq_true am
        have hx8 := bt_at (⟨#[110, 101, 115, 119]⟩ : ByteArray) x16_2
        replace p8 := eq_true p8
        replace q8 := eq_true q8
        go_wp2_with (first | ((with_reducible refine qE (f := 53) rfl ?_); refine qm (some 25) rfl rfl Tryz.func53 (by kernel_rfl) rfl #[.slice A0 l0.length c0, .slice A1 l1.length c1, .int .i64 x13_1, .int .u8 (bt (⟨#[110, 101, 115, 119]⟩ : ByteArray) x16_2)] rfl gA ?_; (with_reducible refine (qeA.calls _ _ l0 _ _ l1 x13_1 (bt (⟨#[110, 101, 115, 119]⟩ : ByteArray) x16_2) t473 false _ ?side1 ?side2 ?side3 ?side4 A9.out).mono ?_); (case side1 => repeat (first | exact (Kd.qV HR0.out HB.out) | (with_reducible refine Kd.qL ?_ _) | (with_reducible refine Kd.qK ?_ _) | (with_reducible refine Kd.qX ?_))); (case side2 => exact HC0.out); (case side3 => repeat (first | exact (Kd.qV HR1.out HB.out) | (with_reducible refine Kd.qL ?_ _) | (with_reducible refine Kd.qK ?_ _) | (with_reducible refine Kd.qX ?_))); (case side4 => exact HC1.out); rintro e w18 ⟨v475, rfl, ho0, hb⟩; refine ⟨_, rfl, ?_⟩; have HO476 := aM (Kd.qz ho0 (qJ bl)); replace HO_5 := aM (Kd.qc (rR HO_5) hb); replace HB := aM (qB bl hb); (try clear hb); (try clear hb2); (try clear hk); (try clear hi); (try clear ho0)))
        go_roundg k2
        case measure => have := HK1.out; have := HK2.out; omega
        case rel => exact ⟨(x5_2), (wrap64 (x16_2 + 1)), sD, H', ⟨by have := HK1.out; have := HK2.out; omega⟩, ⟨rR HO_5⟩, ⟨bl⟩⟩
      ·rw [if_neg c6] at H
       have c6b0 := decide_eq_false c6
       clear c6
       have H' := aM H
       clear H
       go_wp2
       go_roundg k2
       case measure => have := HK1.out; have := HK2.out; omega
       case rel => exact ⟨(x5_2), (wrap64 (x13_1 + 1)), sD, H', ⟨by have := HK1.out; have := HK2.out; omega⟩, ⟨rR HO_5⟩, ⟨bl⟩⟩
   ·rw [if_neg c5] at H
    have c5b0 := decide_eq_false c5
    clear c5
    obtain rfl := Option.some.inj H
    go_wp2
    go_ret
    exact ⟨_, sR, by (with_reducible repeat (first | apply Kd.qQ | apply Kd.qR | apply Kd.qS)); exact HO_5.out, bl⟩
end Go.Proofs.YthhiiceligjleaaGreatDoor.P
namespace Go.Proofs.YthhiiceligjleaaGreatDoor
open Go.RowKit Go.Proofs.YthhiiceligjleaaGreatDoor.P Go.Proofs.YthhiiceligjleaaGreatDoorW.PrintWords Go.Proofs.YthhiiceligjleaaGreatDoorW.PrintLast
set_option linter.unusedVariables false
set_option linter.unusedSimpArgs false
def dirsT : ByteArray := ⟨#[110, 101, 115, 119]⟩
def signN (k i : Nat) : ByteArray := strOfNums [48 + (k : Int), bt dirsT (i : Int)]
theorem dOf_bt (i : Nat) (h : i < 4) : dOf (bt dirsT (i : Int)) = (i : Int) := by
 have : i = 0 ∨ i = 1 ∨ i = 2 ∨ i = 3 := by omega
 rcases this with rfl | rfl | rfl | rfl <;> decide +kernel
theorem sign_spec (k i : Nat) (hk : k < 3) (hi : i < 4) : Ev (fun n => qmB.f n (k : Int) (i : Int)) (signN k i) := by
 have h1 : i = 0 ∨ i = 1 ∨ i = 2 ∨ i = 3 := by omega
 have h2 : k = 0 ∨ k = 1 ∨ k = 2 := by omega
 refine Ev.at_ 1 fun n => ?_
 unfold qmB.f
 rw [qdA.f, if_pos (by omega)]
 rcases h2 with rfl | rfl | rfl <;> rcases h1 with rfl | rfl | rfl | rfl <;> decide +kernel
theorem qmD (k i : Nat) : (signN k i).size = 2 := rfl
theorem qKE (k i : Nat) (hk : k < 3) (hi : i < 4) : (bt (signN k i) 0 - 48) % 256 = (k : Int) := by
 have h1 : i = 0 ∨ i = 1 ∨ i = 2 ∨ i = 3 := by omega
 have h2 : k = 0 ∨ k = 1 ∨ k = 2 := by omega
 rcases h2 with rfl | rfl | rfl <;> rcases h1 with rfl | rfl | rfl | rfl <;> decide +kernel
def mv1 (a : ByteArray) (l : List XS) (k i : Nat) : List ByteArray := if (moveB a l k (i : Int)).2 = true then [signN k i] else []
def mvK (a : ByteArray) (l : List XS) (k : Nat) : List ByteArray := mv1 a l k 0 ++ (mv1 a l k 1 ++ (mv1 a l k 2 ++ mv1 a l k 3))
def mvs (a : ByteArray) (l : List XS) : Nat → Nat → List ByteArray
 | _, 0 => []
 | k, d + 1 => mvK a l k ++ mvs a l (k + 1) d
theorem qjC (a : ByteArray) (l : List XS) (k i : Nat) : (mv1 a l k i).length ≤ 1 := by
 unfold mv1; split <;> simp
theorem mvK_len (a : ByteArray) (l : List XS) (k : Nat) : (mvK a l k).length ≤ 4 := by
 have h0 := qjC a l k 0
 have h1 := qjC a l k 1
 have h2 := qjC a l k 2
 have h3 := qjC a l k 3
 unfold mvK
 simp only [List.length_append]; omega
theorem mvs_len (a : ByteArray) (l : List XS) (d : Nat) : ∀ k, (mvs a l k d).length ≤ 4 * d := by
 induction d with
 | zero => intro k; simp [mvs]
 | succ d ih =>
  intro k
  have := ih (k + 1)
  have h := mvK_len a l k
  unfold mvs
  simp only [List.length_append]; omega
theorem qsC {a : ByteArray} (g : Gnd a) (l : List XS) (hl : l.length ≤ 3) (k : Nat) (hk : k < l.length) (i : Nat) (hi : i < 4) (out : List ByteArray) (ho : out.length ≤ 1000) (r : List ByteArray)
  (h : Ev (fun n => qd.l1 n (rowsT a) l (out ++ mv1 a l k i) (k : Int) (l.length : Int) (k : Int) ((i + 1 : Nat) : Int)) r) :
  Ev (fun n => qd.l1 n (rowsT a) l out (k : Int) (l.length : Int) (k : Int) (i : Int)) r := by
 have w : wrap64 ((i : Int) + 1) = ((i + 1 : Nat) : Int) := by unfold wrap64; omega
 have w2 : wrap64 (48 + (k : Int)) % 256 = 48 + (k : Int) := by unfold wrap64; omega
 refine Ev.step (f := fun n => _) (fun n => by rw [qd.l1]) (Ev.pos (by omega) (Ev.pos (by omega) (Ev.bindc (implMove_eq g l (by omega) k _) ?_)))
 rw [w, w2, show dOf (bt (⟨#[110, 101, 115, 119]⟩ : ByteArray) (i : Int)) = (i : Int) from dOf_bt i hi]
 unfold mv1 at h
 cases hm : (moveB a l k (i : Int)).2 with
 | true =>
  rw [hm, if_pos rfl] at h
  exact Ev.pos rfl (Ev.pos (by omega) h)
 | false =>
  rw [hm, if_neg (by decide), List.append_nil] at h
  exact Ev.neg (by decide) h
theorem moves_loop {a : ByteArray} (g : Gnd a) (l : List XS) (hl : l.length ≤ 3) (d : Nat) : ∀ (k : Nat) (out : List ByteArray), k ≤ l.length → l.length - k = d → out.length ≤ 100 * k →
  Ev (fun n => qd.l0 n (rowsT a) l out (l.length : Int) (k : Int)) (out ++ mvs a l k d) := by
 induction d with
 | zero =>
  intro k out hk hd ho
  refine Ev.step (f := fun n => _) (fun n => by rw [qd.l0]) (Ev.neg (by omega) (Ev.some_ ?_))
  simp [mvs]
 | succ d ih =>
  intro k out hk hd ho
  have h : k < l.length := by omega
  have w : wrap64 ((k : Int) + 1) = ((k + 1 : Nat) : Int) := by unfold wrap64; omega
  have h0 := qjC a l k 0
  have h1 := qjC a l k 1
  have h2 := qjC a l k 2
  have h3 := qjC a l k 3
  have hn := ih (k + 1) (out ++ mvK a l k) (by omega) (by omega) (by have := mvK_len a l k; simp only [List.length_append]; omega)
  refine Ev.step (f := fun n => _) (fun n => by rw [qd.l0]) (Ev.pos (by omega) ?_)
  refine qsC g l hl k h 0 (by omega) _ (by omega) _ (qsC g l hl k h 1 (by omega) _ (by simp only [List.length_append]; omega) _ (qsC g l hl k h 2 (by omega) _ (by simp only [List.length_append]; omega) _ (qsC g l hl k h 3 (by omega) _ (by simp only [List.length_append]; omega) _ ?_)))
  refine Ev.step (f := fun n => _) (fun n => by rw [qd.l1]) (Ev.neg (by omega) ?_)
  rw [w]
  unfold mvs
  unfold mvK at hn
  simpa only [mvK, List.append_assoc] using hn
theorem moves_ev {a : ByteArray} (g : Gnd a) (l : List XS) (hl : l.length ≤ 3) : Ev (fun n => qd.f n (rowsT a) l) (mvs a l 0 l.length) := by
 have := moves_loop g l hl l.length 0 [] (by omega) (by omega) (by simp)
 rwa [List.nil_append] at this
end Go.Proofs.YthhiiceligjleaaGreatDoor
set_option linter.unusedSectionVars false
namespace Go.Proofs.YthhiiceligjleaaGreatDoor.Bfs
section
variable {α β : Type} [DecidableEq α]
def put (L : List (α × β)) (y : Option α) (p : β) : List (α × β) := match y with
 | none => L
 | some y => if y ∈ L.map Prod.fst then L else L ++ [(y, p)]
def puts (L : List (α × β)) : List (Option α × β) → List (α × β)
 | [] => L
 | (y, p) :: r => puts (put L y p) r
variable (next : Nat → α → β → List (Option α × β))
def round (i : Nat) (L : List (α × β)) : List (α × β) := match L[i]? with
 | none => L
 | some x => puts L (next i x.1 x.2)
def run : Nat → Nat → List (α × β) → List (α × β)
 | 0, _, L => L
 | n + 1, i, L => if i < L.length then run n (i + 1) (round next i L) else L
theorem qOE {L : List (α × β)} {y : α} (h : y ∈ L.map Prod.fst) (p : β) : put L (some y) p = L := if_pos h
theorem qNE {L : List (α × β)} {y : α} (h : ¬ y ∈ L.map Prod.fst) (p : β) : put L (some y) p = L ++ [(y, p)] := if_neg h
theorem put_prefix (L : List (α × β)) (y : Option α) (p : β) : L <+: put L y p := by
 unfold put
 split
 ·exact List.prefix_refl _
 ·split
  ·exact List.prefix_refl _
  ·exact List.prefix_append _ _
theorem puts_prefix (l : List (Option α × β)) : ∀ L : List (α × β), L <+: puts L l := by
 induction l with
 | nil => intro L; exact List.prefix_refl _
 | cons x l ih => intro L; exact (put_prefix L x.1 x.2).trans (ih _)
theorem qiC (i : Nat) (L : List (α × β)) : L <+: round next i L := by
 unfold round
 split
 ·exact List.prefix_refl _
 ·exact puts_prefix _ _
theorem qpC : ∀ (n i : Nat) (L : List (α × β)), L <+: run next n i L
 | 0, _, L => List.prefix_refl _
 | n + 1, i, L => by
  unfold run
  split
  ·exact (qiC next i L).trans (qpC n (i + 1) _)
  ·exact List.prefix_refl _
theorem put_nodup {L : List (α × β)} (h : (L.map Prod.fst).Nodup) (y : Option α) (p : β) : ((put L y p).map Prod.fst).Nodup := by
 unfold put
 split
 ·exact h
 ·rename_i y
  split
  ·exact h
  ·rename_i hy
   rw [List.map_append, List.nodup_append]
   refine ⟨h, by simp, ?_⟩
   intro a ha b hb e
   simp at hb
   subst hb
   subst e
   exact hy ha
theorem puts_nodup (l : List (Option α × β)) : ∀ {L : List (α × β)}, (L.map Prod.fst).Nodup → ((puts L l).map Prod.fst).Nodup := by
 induction l with
 | nil => intro L h; exact h
 | cons x l ih => intro L h; exact ih (put_nodup h _ _)
theorem round_nodup {L : List (α × β)} (h : (L.map Prod.fst).Nodup) (i : Nat) : ((round next i L).map Prod.fst).Nodup := by
 unfold round
 split
 ·exact h
 ·exact puts_nodup _ h
theorem run_nodup : ∀ (n i : Nat) {L : List (α × β)}, (L.map Prod.fst).Nodup → ((run next n i L).map Prod.fst).Nodup
 | 0, _, L, h => h
 | n + 1, i, L, h => by
  unfold run
  split
  ·exact run_nodup n (i + 1) (round_nodup next h i)
  ·exact h
theorem put_all {Q : α × β → Prop} {L : List (α × β)} (h : ∀ x ∈ L, Q x) (y : Option α) (p : β) (hy : ∀ z, y = some z → Q (z, p)) : ∀ x ∈ put L y p, Q x := by
 unfold put
 split
 ·exact h
 ·rename_i z
  split
  ·exact h
  ·intro x hx
   rcases List.mem_append.1 hx with hx | hx
   ·exact h x hx
   ·simp at hx; subst hx; exact hy z rfl
theorem qME {Q : α × β → Prop} : ∀ (l : List (Option α × β)) {L : List (α × β)}, (∀ x ∈ L, Q x) → (∀ s ∈ l, ∀ z, s.1 = some z → Q (z, s.2)) → ∀ x ∈ puts L l, Q x
 | [], L, h, _ => h
 | s :: l, L, h, hs => qME l (put_all h s.1 s.2 (hs s (by simp))) (fun t ht => hs t (by simp [ht]))
theorem round_all {Q : α × β → Prop} (hn : ∀ i x p, Q (x, p) → ∀ s ∈ next i x p, ∀ z, s.1 = some z → Q (z, s.2)) (i : Nat) {L : List (α × β)} (h : ∀ x ∈ L, Q x) : ∀ x ∈ round next i L, Q x := by
 unfold round
 split
 ·exact h
 ·rename_i x hx
  exact qME _ h (hn i x.1 x.2 (h x (List.mem_of_getElem? hx)))
theorem run_all {Q : α × β → Prop} (hn : ∀ i x p, Q (x, p) → ∀ s ∈ next i x p, ∀ z, s.1 = some z → Q (z, s.2)) : ∀ (n i : Nat) {L : List (α × β)}, (∀ x ∈ L, Q x) → ∀ x ∈ run next n i L, Q x
 | 0, _, L, h => h
 | n + 1, i, L, h => by
  unfold run
  split
  ·exact run_all hn n (i + 1) (round_all next hn i h)
  ·exact h
theorem nodup_len {U : List α} : ∀ {l : List α}, l.Nodup → (∀ x ∈ l, x ∈ U) → l.length ≤ U.length := by
 intro l
 induction l generalizing U with
 | nil => intro _ _; simp
 | cons a l ih =>
  intro hn hu
  obtain ⟨h1, h2⟩ := List.nodup_cons.1 hn
  have ha : a ∈ U := hu a (by simp)
  have := ih (U := U.erase a) h2 (fun x hx => by
   have hne : x ≠ a := fun e => h1 (e ▸ hx)
   exact (List.mem_erase_of_ne hne).2 (hu x (by simp [hx])))
  rw [List.length_erase_of_mem ha] at this
  have : 0 < U.length := List.length_pos_of_mem ha
  simp only [List.length_cons]
  omega
theorem run_stop : ∀ (n i : Nat) {L : List (α × β)}, L.length ≤ i → run next n i L = L
 | 0, _, _, _ => rfl
 | n + 1, i, L, h => by unfold run; rw [if_neg (by omega)]
theorem put_mem (L : List (α × β)) (y : α) (p : β) : y ∈ (put L (some y) p).map Prod.fst := by
 unfold put
 split
 ·cases ‹some y = none›
 ·rename_i z hz
  cases hz
  split
  ·assumption
  ·simp
theorem qWD {L M : List (α × β)} (h : L <+: M) {y : α} (hy : y ∈ L.map Prod.fst) : y ∈ M.map Prod.fst := by
 obtain ⟨t, rfl⟩ := h
 rw [List.map_append]
 exact List.mem_append_left _ hy
theorem puts_mem : ∀ (l : List (Option α × β)) (L : List (α × β)) (s : Option α × β), s ∈ l → ∀ z, s.1 = some z → z ∈ (puts L l).map Prod.fst
 | [], _, _, h, _, _ => by cases h
 | t :: l, L, s, h, z, hz => by
  rcases List.mem_cons.1 h with rfl | h
  ·have := put_mem L z s.2
   rw [← hz] at this
   exact qWD (puts_prefix l _) this
  ·exact puts_mem l _ s h z hz
theorem run_closed : ∀ (n i : Nat) (L : List (α × β)) (N : Nat), (∀ m, (run next m i L).length ≤ N) → N ≤ i + n →
  ∀ (j : Nat), i ≤ j → ∀ x, (run next n i L)[j]? = some x → ∀ s ∈ next j x.1 x.2, ∀ z, s.1 = some z → z ∈ (run next n i L).map Prod.fst
 | 0, i, L, N, hN, hn, j, hj, x, hx, s, hs, z, hz => by
  have := hN 0
  unfold run at this hx
  have := (List.getElem?_eq_some_iff.1 hx).1
  omega
 | n + 1, i, L, N, hN, hn, j, hj, x, hx, s, hs, z, hz => by
  by_cases hi : i < L.length
  ·have e : run next (n + 1) i L = run next n (i + 1) (round next i L) := by rw [run, if_pos hi]
   rw [e] at hx ⊢
   by_cases hji : j = i
   ·subst hji
    have hp := (qiC next j L).trans (qpC next n (j + 1) (round next j L))
    obtain ⟨t, ht⟩ := hp
    rw [← ht, List.getElem?_append_left hi] at hx
    have hr : round next j L = puts L (next j x.1 x.2) := by unfold round; rw [hx]
    have hm := puts_mem (next j x.1 x.2) L s hs z hz
    rw [← hr] at hm
    exact qWD (qpC next n (j + 1) _) hm
   ·refine run_closed n (i + 1) (round next i L) N (fun m => ?_) (by omega) j (by omega) x hx s hs z hz
    have := hN (m + 1)
    rw [run, if_pos hi] at this
    exact this
  ·rw [run_stop next _ _ (by omega)] at hx
   have := (List.getElem?_eq_some_iff.1 hx).1
   omega
end
end Go.Proofs.YthhiiceligjleaaGreatDoor.Bfs
namespace Go.Proofs.YthhiiceligjleaaGreatDoor
open Go.RowKit Go.Proofs.YthhiiceligjleaaGreatDoor.P Go.Proofs.YthhiiceligjleaaGreatDoorW.PrintWords Go.Proofs.YthhiiceligjleaaGreatDoorW.PrintLast
set_option linter.unusedVariables false
set_option linter.unusedSimpArgs false
abbrev DD := S51
theorem qoE {a b : DD} (h0 : a.f0 = b.f0) (h1 : a.f1 = b.f1) (h2 : a.f2 = b.f2) (h3 : a.f3 = b.f3) (h4 : a.f4 = b.f4) (h5 : a.f5 = b.f5) : a = b := by
 cases a; cases b; simp only at h0 h1 h2 h3 h4 h5; subst h0; subst h1; subst h2; subst h3; subst h4; subst h5; rfl
instance ddDec : DecidableEq DD := fun a b =>
 if h : a.f0 = b.f0 ∧ a.f1 = b.f1 ∧ a.f2 = b.f2 ∧ a.f3 = b.f3 ∧ a.f4 = b.f4 ∧ a.f5 = b.f5 then isTrue (qoE h.1 h.2.1 h.2.2.1 h.2.2.2.1 h.2.2.2.2.1 h.2.2.2.2.2) else isFalse (fun e => h (by subst e; exact ⟨rfl, rfl, rfl, rfl, rfl, rfl⟩))
def rolD (x : DD) (d : Nat) : DD := if d = 0 then ⟨x.f3, x.f0, x.f2, x.f5, x.f4, x.f1⟩ else if d = 1 then ⟨x.f4, x.f1, x.f0, x.f3, x.f5, x.f2⟩ else if d = 2 then ⟨x.f1, x.f5, x.f2, x.f0, x.f4, x.f3⟩ else ⟨x.f2, x.f1, x.f5, x.f3, x.f0, x.f4⟩
def dirsW : ByteArray := ⟨#[110, 101, 115, 119]⟩
def dirW (d : Nat) : ByteArray := dirsW.extract d (d + 1)
theorem dirW_size (d : Nat) (h : d < 4) : (dirW d).size = 1 := by
 have : d = 0 ∨ d = 1 ∨ d = 2 ∨ d = 3 := by omega
 rcases this with rfl | rfl | rfl | rfl <;> decide +kernel
def stepsD (x : DD) (w : ByteArray) : Nat → Nat → List (Option DD × ByteArray)
 | 0, _ => []
 | n + 1, d => (some (rolD x d), w ++ dirW d) :: stepsD x w n (d + 1)
def nextD (_ : Nat) (x : DD) (w : ByteArray) : List (Option DD × ByteArray) := stepsD x w 4 0
def faceD (x : DD) (n : Int) : Int := if n = 0 then x.f0 else if n = 1 then x.f1 else if n = 2 then x.f2 else if n = 3 then x.f3 else if n = 4 then x.f4 else x.f5
def putD (x p : DD) : DD := ⟨faceD x p.f0, faceD x p.f1, faceD x p.f2, faceD x p.f3, faceD x p.f4, faceD x p.f5⟩
theorem putD_rol (x p : DD) (d : Nat) : rolD (putD x p) d = putD x (rolD p d) := by
 unfold rolD
 by_cases h0 : d = 0
 ·simp only [if_pos h0]; rfl
 by_cases h1 : d = 1
 ·simp only [if_neg h0, if_pos h1]; rfl
 by_cases h2 : d = 2
 case pos => simp only [if_neg h0, if_neg h1, if_pos h2]; rfl
 simp only [if_neg h0, if_neg h1, if_neg h2]; rfl
def plainD : DD := ⟨0, 1, 2, 3, 4, 5⟩
theorem putD_plain (x : DD) : putD x plainD = x := rfl
def runD (x : DD) : List (DD × ByteArray) := Bfs.run nextD 24 0 [(x, ⟨#[]⟩)]
def rots : List DD := (runD plainD).map Prod.fst
def rotWords : List ByteArray := (runD plainD).map Prod.snd
theorem rots_len : rots.length = 24 := by decide +kernel
theorem rots_closed : ∀ p ∈ rots, rolD p 0 ∈ rots ∧ rolD p 1 ∈ rots ∧ rolD p 2 ∈ rots ∧ rolD p 3 ∈ rots := by decide +kernel
theorem rots_plain : plainD ∈ rots := by decide +kernel
def imgs (x : DD) : List DD := rots.map (putD x)
theorem imgs_len (x : DD) : (imgs x).length = 24 := by unfold imgs; rw [List.length_map, rots_len]
theorem qrD (x : DD) : x ∈ imgs x := List.mem_map.2 ⟨plainD, rots_plain, putD_plain x⟩
theorem qWE {x y : DD} (h : y ∈ imgs x) (d : Nat) (hd : d < 4) : rolD y d ∈ imgs x := by
 obtain ⟨p, hp, rfl⟩ := List.mem_map.1 h
 rw [putD_rol]
 refine List.mem_map_of_mem ?_
 have hc := rots_closed p hp
 have : d = 0 ∨ d = 1 ∨ d = 2 ∨ d = 3 := by omega
 rcases this with rfl | rfl | rfl | rfl
 ·exact hc.1
 ·exact hc.2.1
 ·exact hc.2.2.1
 ·exact hc.2.2.2
theorem qkD (x : DD) (w : ByteArray) : ∀ (n d : Nat), d + n = 4 → ∀ s ∈ stepsD x w n d, ∃ e, e < 4 ∧ s = (some (rolD x e), w ++ dirW e)
 | 0, _, _, s, hs => by cases hs
 | n + 1, d, hd, s, hs => by
  rcases List.mem_cons.1 hs with rfl | hs
  ·exact ⟨d, by omega, rfl⟩
  ·exact qkD x w n (d + 1) (by omega) s hs
theorem mem_steps (x : DD) (w : ByteArray) (e : Nat) : ∀ (n d : Nat), d ≤ e → e < d + n → (some (rolD x e), w ++ dirW e) ∈ stepsD x w n d
 | 0, d, h1, h2 => by omega
 | n + 1, d, h1, h2 => by
  by_cases h : e = d
  case pos => subst h; exact List.mem_cons_self
  exact List.mem_cons_of_mem _ (mem_steps x w e n (d + 1) (by omega) (by omega))
structure FoundD (x : DD) (L : List (DD × ByteArray)) : Prop where
 nodup : (L.map Prod.fst).Nodup
 img : ∀ z ∈ L, z.1 ∈ imgs x
theorem FoundD.len {x : DD} {L : List (DD × ByteArray)} (h : FoundD x L) : L.length ≤ 24 := by
 have := Bfs.nodup_len (U := imgs x) h.nodup (fun y hy => by
  obtain ⟨z, hz, rfl⟩ := List.mem_map.1 hy
  exact h.img z hz)
 rwa [imgs_len, List.length_map] at this
theorem FoundD.put {x : DD} {L : List (DD × ByteArray)} (h : FoundD x L) (y : Option DD) (p : ByteArray) (hy : ∀ z, y = some z → z ∈ imgs x) : FoundD x (Bfs.put L y p) :=
 ⟨Bfs.put_nodup h.nodup y p, Bfs.put_all (Q := fun z => z.1 ∈ imgs x) h.img y p hy⟩
theorem nextD_img {x : DD} (i : Nat) (y : DD) (p : ByteArray) (h : y ∈ imgs x) : ∀ s ∈ nextD i y p, ∀ z, s.1 = some z → z ∈ imgs x := by
 intro s hs z hz
 obtain ⟨e, he, rfl⟩ := qkD y p 4 0 rfl s hs
 cases hz
 exact qWE h e he
theorem FoundD.round {x : DD} {L : List (DD × ByteArray)} (h : FoundD x L) (i : Nat) : FoundD x (Bfs.round nextD i L) :=
 ⟨Bfs.round_nodup _ h.nodup i, Bfs.round_all nextD (Q := fun z => z.1 ∈ imgs x) (fun i y p hy => nextD_img i y p hy) i h.img⟩
theorem FoundD.run {x : DD} {L : List (DD × ByteArray)} (h : FoundD x L) (n i : Nat) : FoundD x (Bfs.run nextD n i L) :=
 ⟨Bfs.run_nodup _ n i h.nodup, Bfs.run_all nextD (Q := fun z => z.1 ∈ imgs x) (fun i y p hy => nextD_img i y p hy) n i h.img⟩
theorem qkC (x : DD) : FoundD x [(x, ⟨#[]⟩)] := ⟨by simp, fun z hz => by rw [List.mem_singleton] at hz; subst hz; exact qrD x⟩
theorem qSD (x : DD) : FoundD x (runD x) := (qkC x).run 24 0
theorem runD_closed (x : DD) {y : DD} (h : y ∈ (runD x).map Prod.fst) (d : Nat) (hd : d < 4) : rolD y d ∈ (runD x).map Prod.fst := by
 obtain ⟨z, hz, rfl⟩ := List.mem_map.1 h
 obtain ⟨j, hj⟩ := List.mem_iff_getElem?.1 hz
 exact Bfs.run_closed nextD 24 0 _ 24 (fun m => ((qkC x).run m 0).len) (by omega) j (by omega) z hj _ (mem_steps z.1 z.2 d 4 0 (by omega) (by omega)) _ rfl
theorem runD_self (x : DD) : x ∈ (runD x).map Prod.fst := Bfs.qWD (Bfs.qpC nextD 24 0 _) (by simp)
def rolls (x : DD) (l : List Nat) : DD := l.foldl rolD x
theorem rolls_put (x : DD) : ∀ (l : List Nat) (p : DD), rolls (putD x p) l = putD x (rolls p l)
 | [], p => rfl
 | d :: l, p => by
  show rolls (rolD (putD x p) d) l = _
  rw [putD_rol]
  exact rolls_put x l (rolD p d)
theorem rolls_mem (x : DD) : ∀ (l : List Nat), (∀ d ∈ l, d < 4) → ∀ y ∈ (runD x).map Prod.fst, rolls y l ∈ (runD x).map Prod.fst
 | [], _, y, h => h
 | d :: l, hl, y, h => rolls_mem x l (fun e he => hl e (by simp [he])) (rolD y d) (runD_closed x h d (hl d (by simp)))
def dirNum (c : UInt8) : Nat := if c = 110 then 0 else if c = 101 then 1 else if c = 115 then 2 else 3
def numsW (w : ByteArray) : List Nat := w.data.toList.map dirNum
theorem dirNum_lt (c : UInt8) : dirNum c < 4 := by
 unfold dirNum
 split
 ·omega
 ·split
  ·omega
  ·split <;> omega
theorem numsW_lt (w : ByteArray) : ∀ d ∈ numsW w, d < 4 := by
 intro d hd
 obtain ⟨c, _, rfl⟩ := List.mem_map.1 hd
 exact dirNum_lt c
theorem rots_words : rots = rotWords.map fun w => rolls plainD (numsW w) := by decide +kernel
theorem imgs_words (x : DD) : imgs x = rotWords.map fun w => rolls x (numsW w) := by
 unfold imgs
 rw [rots_words, List.map_map]
 refine List.map_congr_left fun w _ => ?_
 show putD x (rolls plainD (numsW w)) = _
 rw [← rolls_put, putD_plain]
theorem mem_run (x y : DD) : y ∈ (runD x).map Prod.fst ↔ y ∈ imgs x := by
 constructor
 ·intro h
  obtain ⟨z, hz, rfl⟩ := List.mem_map.1 h
  exact (qSD x).img z hz
 ·intro h
  rw [imgs_words] at h
  obtain ⟨w, _, rfl⟩ := List.mem_map.1 h
  exact rolls_mem x _ (numsW_lt w) x (runD_self x)
end Go.Proofs.YthhiiceligjleaaGreatDoor
set_option linter.unusedSectionVars false
namespace Go.Proofs.YthhiiceligjleaaGreatDoor.Cap
section
variable {α β : Type} [DecidableEq α]
def put (N : Nat) (L : List (α × β)) (y : α) (p : β) : Option (List (α × β)) := if y ∈ L.map Prod.fst then some L else if L.length = N then none else some (L ++ [(y, p)])
def puts (N : Nat) : List (α × β) → List (α × β) → Option (List (α × β))
 | L, [] => some L
 | L, s :: r => (put N L s.1 s.2).bind fun L1 => puts N L1 r
variable (N : Nat) (next : Nat → α → List (α × β))
def run : Nat → Nat → List (α × β) → Option (List (α × β))
 | 0, _, L => some L
 | n + 1, i, L => match L[i]? with
  | none => some L
  | some x => (puts N L (next i x.1)).bind (run n (i + 1))
theorem qOE {L : List (α × β)} {y : α} (h : y ∈ L.map Prod.fst) (p : β) : put N L y p = some L := if_pos h
theorem put_full {L : List (α × β)} {y : α} (h : ¬ y ∈ L.map Prod.fst) (hl : L.length = N) (p : β) : put N L y p = none := by
 unfold put; rw [if_neg h, if_pos hl]
theorem qNE {L : List (α × β)} {y : α} (h : ¬ y ∈ L.map Prod.fst) (hl : L.length ≠ N) (p : β) : put N L y p = some (L ++ [(y, p)]) := by
 unfold put; rw [if_neg h, if_neg hl]
theorem run_end {n i : Nat} {L : List (α × β)} (h : L.length ≤ i) : run N next n i L = some L := by
 cases n with
 | zero => rfl
 | succ n => unfold run; rw [List.getElem?_eq_none h]
theorem run_step {n i : Nat} {L : List (α × β)} (h : i < L.length) : run N next (n + 1) i L = (puts N L (next i L[i].1)).bind (run N next n (i + 1)) := by
 rw [run, List.getElem?_eq_getElem h]
theorem put_keep {P : List (α × β) → Prop} {L M : List (α × β)} {y : α} {p : β} (h : put N L y p = some M) (hL : P L) (hP : ¬ y ∈ L.map Prod.fst → L.length ≠ N → P (L ++ [(y, p)])) : P M := by
 unfold put at h
 split at h
 ·injection h with h; exact h ▸ hL
 ·rename_i h1
  split at h
  ·cases h
  ·rename_i h2
   injection h with h
   exact h ▸ hP h1 h2
theorem puts_keep {P : List (α × β) → Prop} : ∀ (l : List (α × β)) {L M : List (α × β)}, puts N L l = some M → P L →
  (∀ K : List (α × β), P K → ∀ s ∈ l, ¬ s.1 ∈ K.map Prod.fst → K.length ≠ N → P (K ++ [s])) → P M
 | [], L, M, h, hL, _ => by injection h with h; exact h ▸ hL
 | s :: l, L, M, h, hL, hP => by
  obtain ⟨K, h1, h2⟩ := Option.bind_eq_some_iff.1 h
  exact puts_keep l h2 (put_keep N h1 hL (hP L hL s List.mem_cons_self)) (fun K hK t ht => hP K hK t (List.mem_cons_of_mem _ ht))
theorem qLE {P : List (α × β) → Prop} (hP : ∀ (i : Nat) (L K : List (α × β)) (x : α × β), P L → L[i]? = some x → L <+: K → P K → ∀ s ∈ next i x.1, ¬ s.1 ∈ K.map Prod.fst → K.length ≠ N → P (K ++ [s])) :
  ∀ (n i : Nat) {L M : List (α × β)}, run N next n i L = some M → P L → P M
 | 0, i, L, M, h, hL => by injection h with h; exact h ▸ hL
 | n + 1, i, L, M, h, hL => by
  unfold run at h
  cases hx : L[i]? with
  | none => rw [hx] at h; injection h with h; exact h ▸ hL
  | some x =>
   rw [hx] at h
   obtain ⟨K, h1, h2⟩ := Option.bind_eq_some_iff.1 h
   refine qLE hP n (i + 1) h2 ?_
   have : L <+: K ∧ P K := puts_keep N (P := fun K => L <+: K ∧ P K) _ h1 ⟨List.prefix_refl _, hL⟩ (fun K hK s hs h3 h4 => ⟨hK.1.trans (List.prefix_append _ _), hP i L K x hL hx hK.1 hK.2 s hs h3 h4⟩)
   exact this.2
end
end Go.Proofs.YthhiiceligjleaaGreatDoor.Cap
namespace Go.Proofs.YthhiiceligjleaaGreatDoor
open Go.RowKit Go.Proofs.YthhiiceligjleaaGreatDoor.P Go.Proofs.YthhiiceligjleaaGreatDoorW.PrintWords Go.Proofs.YthhiiceligjleaaGreatDoorW.PrintLast
set_option linter.unusedVariables false
set_option linter.unusedSimpArgs false
theorem qsE {a b : XS} (h0 : a.f0 = b.f0) (h1 : a.f1 = b.f1) (h2 : a.f2 = b.f2) : a = b := by
 cases a; cases b; simp only at h0 h1 h2; subst h0; subst h1; subst h2; rfl
instance xsDec : DecidableEq XS := fun a b =>
 if h : a.f0 = b.f0 ∧ a.f1 = b.f1 ∧ a.f2 = b.f2 then isTrue (qsE h.1 h.2.1 h.2.2) else isFalse (fun e => h (by subst e; exact ⟨rfl, rfl, rfl⟩))
def mp1 (a : ByteArray) (l : List XS) (k i : Nat) : List (Nat × Nat) := if (moveB a l k (i : Int)).2 = true then [(k, i)] else []
def mpK (a : ByteArray) (l : List XS) (k : Nat) : List (Nat × Nat) := mp1 a l k 0 ++ (mp1 a l k 1 ++ (mp1 a l k 2 ++ mp1 a l k 3))
def mps (a : ByteArray) (l : List XS) : Nat → Nat → List (Nat × Nat)
 | _, 0 => []
 | k, d + 1 => mpK a l k ++ mps a l (k + 1) d
theorem mv1_mp (a : ByteArray) (l : List XS) (k i : Nat) : mv1 a l k i = (mp1 a l k i).map fun p => signN p.1 p.2 := by
 unfold mv1 mp1; split <;> rfl
theorem qtE (a : ByteArray) (l : List XS) (d : Nat) : ∀ k, mvs a l k d = (mps a l k d).map fun p => signN p.1 p.2 := by
 induction d with
 | zero => intro k; rfl
 | succ d ih =>
  intro k
  unfold mvs mps mvK mpK
  simp only [List.map_append, mv1_mp, ih]
theorem mp1_mem {a : ByteArray} {l : List XS} {k i : Nat} {p : Nat × Nat} (h : p ∈ mp1 a l k i) : p = (k, i) ∧ (moveB a l k (i : Int)).2 = true := by
 unfold mp1 at h
 split at h
 ·rename_i hm
  rw [List.mem_singleton] at h
  exact ⟨h, hm⟩
 ·cases h
theorem mpK_mem {a : ByteArray} {l : List XS} {k : Nat} {p : Nat × Nat} (h : p ∈ mpK a l k) : p.1 = k ∧ p.2 < 4 ∧ (moveB a l p.1 (p.2 : Int)).2 = true := by
 unfold mpK at h
 simp only [List.mem_append] at h
 rcases h with h | h | h | h <;> (obtain ⟨rfl, h2⟩ := mp1_mem h; exact ⟨rfl, by show _ < 4; omega, h2⟩)
theorem qiE {a : ByteArray} {l : List XS} {p : Nat × Nat} (d : Nat) : ∀ k, p ∈ mps a l k d → k ≤ p.1 ∧ p.1 < k + d ∧ p.2 < 4 ∧ (moveB a l p.1 (p.2 : Int)).2 = true := by
 induction d with
 | zero => intro k h; cases h
 | succ d ih =>
  intro k h
  unfold mps at h
  rcases List.mem_append.1 h with h | h
  ·obtain ⟨h1, h2, h3⟩ := mpK_mem h
   exact ⟨by omega, by omega, h2, h3⟩
  ·obtain ⟨h1, h2, h3⟩ := ih (k + 1) h
   exact ⟨by omega, by omega, h3⟩
theorem mpK_self (a : ByteArray) (l : List XS) (k d : Nat) (hd : d < 4) (hm : (moveB a l k (d : Int)).2 = true) : (k, d) ∈ mpK a l k := by
 have h1 : (k, d) ∈ mp1 a l k d := by unfold mp1; rw [if_pos hm]; exact List.mem_singleton.2 rfl
 unfold mpK
 simp only [List.mem_append]
 have : d = 0 ∨ d = 1 ∨ d = 2 ∨ d = 3 := by omega
 rcases this with rfl | rfl | rfl | rfl
 ·exact .inl h1
 ·exact .inr (.inl h1)
 ·exact .inr (.inr (.inl h1))
 ·exact .inr (.inr (.inr h1))
theorem mps_all (a : ByteArray) (l : List XS) (k d : Nat) (hd : d < 4) (hm : (moveB a l k (d : Int)).2 = true) : ∀ (r j : Nat), j ≤ k → k < j + r → (k, d) ∈ mps a l j r
 | 0, j, h1, h2 => by omega
 | r + 1, j, h1, h2 => by
  unfold mps
  by_cases e : j = k
  case pos => subst e; exact List.mem_append_left _ (mpK_self a l j d hd hm)
  exact List.mem_append_right _ (mps_all a l k d hd hm r (j + 1) (by omega) (by omega))
theorem mps_self (a : ByteArray) (l : List XS) (k d : Nat) (hk : k < l.length) (hd : d < 4) (hm : (moveB a l k (d : Int)).2 = true) : (k, d) ∈ mps a l 0 l.length :=
 mps_all a l k d hd hm l.length 0 (Nat.zero_le _) (by omega)
abbrev PN := List XS × (Int × ByteArray)
def nextP (a : ByteArray) (i : Nat) (l : List XS) : List PN := (mps a l 0 l.length).map fun p => ((moveB a l p.1 (p.2 : Int)).1, ((i : Int), signN p.1 p.2))
def allP (a : ByteArray) (l : List XS) : Option (List PN) := Cap.run 6000 (nextP a) 6000 0 [(l, (-1, (⟨#[]⟩ : ByteArray)))]
def plansB (a : ByteArray) (l : List XS) : Option (List PN) := if askD a l = true ∧ l.length ≤ 2 then allP a l else none
def kinS (a : ByteArray) (s t : XS) : Prop := stateB a t = true ∧ t.f2 ∈ imgs s.f2
def kinD (a : ByteArray) (l m : List XS) : Prop := m.length = l.length ∧ ∀ (k : Nat) (s t : XS), l[k]? = some s → m[k]? = some t → kinS a s t
theorem rollD_rolD (x : DD) (d : Nat) (h : d < 4) : rollD x (d : Int) = rolD x d := by
 have : d = 0 ∨ d = 1 ∨ d = 2 ∨ d = 3 := by omega
 rcases this with rfl | rfl | rfl | rfl <;> rfl
theorem rolD_good {x : DD} (h : dieB x.f0 x.f1 x.f2 x.f3 x.f4 x.f5 = true) (d : Nat) : dieB (rolD x d).f0 (rolD x d).f1 (rolD x d).f2 (rolD x d).f3 (rolD x d).f4 (rolD x d).f5 = true := by
 unfold dieB at h ⊢
 simp only [List.all_cons, List.all_nil, Bool.and_true, Bool.and_eq_true] at h ⊢
 unfold rolD
 by_cases h0 : d = 0
 ·simp only [if_pos h0]; simp only [h, and_self]
 by_cases h1 : d = 1
 ·simp only [if_neg h0, if_pos h1]; simp only [h, and_self]
 by_cases h2 : d = 2
 case pos => simp only [if_neg h0, if_neg h1, if_pos h2]; simp only [h, and_self]
 simp only [if_neg h0, if_neg h1, if_neg h2]; simp only [h, and_self]
theorem qpD {a : ByteArray} {l : List XS} (h : askD a l = true) : kinD a l l := ⟨rfl, fun k s t hs ht => by
 rw [hs] at ht
 cases ht
 exact ⟨askD_state h s (List.mem_of_getElem? hs), qrD _⟩⟩
theorem kinD_move {a : ByteArray} {l m : List XS} (h : kinD a l m) (k d : Nat) (hd : d < 4) (hm : (moveB a m k (d : Int)).2 = true) : kinD a l (moveB a m k (d : Int)).1 := by
 refine ⟨(moveB_len hm).trans h.1, fun j s t hs ht => ?_⟩
 unfold moveB at hm ht
 split at hm
 case isFalse => cases hm
 rename_i hk
 rw [dif_pos hk] at ht
 split at hm
 case isFalse => cases hm
 rename_i hc
 rw [if_pos hc] at ht
 simp only [List.getElem?_set] at ht
 split at ht
 ·rename_i hkj
  subst hkj
  injection ht with ht
  subst ht
  obtain ⟨h1, h2⟩ := h.2 k s m[k] hs (List.getElem?_eq_getElem hk)
  have e : (rollS m[k] (d : Int)).f2 = rolD m[k].f2 d := rollD_rolD _ d hd
  refine ⟨?_, by rw [e]; exact qWE h2 d hd⟩
  unfold stateB at h1 ⊢
  rw [Bool.and_eq_true] at h1 ⊢
  rw [e]
  exact ⟨hc.1, rolD_good h1.2 d⟩
 ·exact h.2 j s t hs ht
theorem qoD {a : ByteArray} {l m : List XS} (h : kinD a l m) (i : Nat) {s : PN} (hs : s ∈ nextP a i m) : kinD a l s.1 := by
 unfold nextP at hs
 obtain ⟨p, hp, rfl⟩ := List.mem_map.1 hs
 obtain ⟨_, _, h2, h3⟩ := qiE _ _ hp
 exact kinD_move h p.1 p.2 h2 h3
structure AllOk (a : ByteArray) (l : List XS) (L : List PN) : Prop where
 kin : ∀ x ∈ L, kinD a l x.1
 len : L.length ≤ 6000
 pos : 1 ≤ L.length
 fst : ∀ x, L[0]? = some x → x.2.1 = -1
 bef : ∀ (j : Nat) (x : PN), 0 < j → L[j]? = some x → 0 ≤ x.2.1 ∧ x.2.1 < (j : Int)
 sgn : ∀ x ∈ L, x.2.2.size ≤ 2
theorem AllOk.start {a : ByteArray} {l : List XS} (h : askD a l = true) : AllOk a l [(l, (-1, (⟨#[]⟩ : ByteArray)))] := by
 refine ⟨fun x hx => ?_, by simp, by simp, fun x hx => ?_, fun j x hj hx => ?_, fun x hx => ?_⟩
 ·rw [List.mem_singleton] at hx; subst hx; exact qpD h
 ·simp at hx; subst hx; rfl
 ·have := (List.getElem?_eq_some_iff.1 hx).1
  simp at this; omega
 ·rw [List.mem_singleton] at hx; subst hx; show (ByteArray.size ⟨#[]⟩) ≤ 2; decide
theorem AllOk.add {a : ByteArray} {l : List XS} {L : List PN} (h : AllOk a l L) {i : Nat} {x : PN} (hx : L[i]? = some x) {s : PN} (hs : s ∈ nextP a i x.1) (hn : L.length ≠ 6000) : AllOk a l (L ++ [s]) := by
 have hi := (List.getElem?_eq_some_iff.1 hx).1
 have hl := h.len
 have hp := h.pos
 have hs' := hs
 unfold nextP at hs'
 obtain ⟨p, hp', e⟩ := List.mem_map.1 hs'
 refine ⟨fun y hy => ?_, ?_, ?_, fun y hy => ?_, fun j y hj hy => ?_, fun y hy => ?_⟩
 ·rcases List.mem_append.1 hy with hy | hy
  ·exact h.kin y hy
  ·rw [List.mem_singleton] at hy; subst hy; exact qoD (h.kin x (List.mem_of_getElem? hx)) i hs
 ·simp only [List.length_append, List.length_singleton]; omega
 ·simp only [List.length_append, List.length_singleton]; omega
 ·rw [List.getElem?_append_left (by omega)] at hy; exact h.fst y hy
 ·rcases Nat.lt_or_ge j L.length with hj' | hj'
  ·rw [List.getElem?_append_left hj'] at hy; exact h.bef j y hj hy
  ·have := (List.getElem?_eq_some_iff.1 hy).1
   simp only [List.length_append, List.length_singleton] at this
   have hjj : j = L.length := by omega
   subst hjj
   rw [List.getElem?_append_right (Nat.le_refl _), Nat.sub_self] at hy
   injection hy with hy
   subst hy
   rw [← e]
   exact ⟨by simp, by simp only; omega⟩
 ·rcases List.mem_append.1 hy with hy | hy
  ·exact h.sgn y hy
  ·rw [List.mem_singleton] at hy; subst hy; rw [← e]; exact Nat.le_of_eq (qmD _ _)
theorem plansB_ok {a : ByteArray} {l : List XS} {L : List PN} (h : plansB a l = some L) : AllOk a l L := by
 unfold plansB at h
 split at h
 case isFalse => cases h
 rename_i hc
 refine Cap.qLE 6000 (nextP a) (P := AllOk a l) (fun i L K x hL hx hp hK s hs hm hn => ?_) 6000 0 h (AllOk.start hc.1)
 obtain ⟨t, rfl⟩ := hp
 exact hK.add (by rw [List.getElem?_append_left (List.getElem?_eq_some_iff.1 hx).1]; exact hx) hs hn
theorem sign_dir (k i : Nat) (hk : k < 3) (hi : i < 4) : bt (signN k i) 1 = bt dirsT (i : Int) := by
 have h1 : i = 0 ∨ i = 1 ∨ i = 2 ∨ i = 3 := by omega
 have h2 : k = 0 ∨ k = 1 ∨ k = 2 := by omega
 rcases h2 with rfl | rfl | rfl <;> rcases h1 with rfl | rfl | rfl | rfl <;> decide +kernel
theorem move_sign {a : ByteArray} (g : Gnd a) (l : List XS) (hl : l.length ≤ 3) (k i : Nat) (hk : k < l.length) (hi : i < 4) :
  qeA.f (rowsT a) l ((bt (signN k i) 0 - 48) % 256) (bt (signN k i) 1) = some (moveB a l k (i : Int)) := by
 rw [qKE k i (by omega) hi, sign_dir k i (by omega) hi, implMove_eq g l (by omega) k, dOf_bt i hi]
end Go.Proofs.YthhiiceligjleaaGreatDoor
namespace Go.Proofs.YthhiiceligjleaaGreatDoor
open Go Go.ChangeMaps Go.RowKit Go.Proofs.YthhiiceligjleaaGreatDoor.P Go.Proofs.YthhiiceligjleaaGreatDoorW.PrintWords Go.Proofs.YthhiiceligjleaaGreatDoorW.PrintLast
set_option linter.unusedVariables false
set_option linter.unusedSimpArgs false
def okN (zs : List Int) : Prop := zs.length = 16 ∧ ∀ n ∈ zs, (Lit.int .i64 n).wf = true
def litN (zs : List Int) : Lit := .string (keyBytes (zs.map (Lit.int .i64)))
def encN (zs : List Int) : Value := .agg (kyC zs)
theorem encN_inj (x y : List Int) (h : encN x = encN y) : x = y := by
 unfold encN kyC at h
 simp only [Value.agg.injEq] at h
 have := congrArg Array.toList h
 simp only at this
 exact (List.map_inj_right (fun a b e => by injection e)).1 this
theorem laidOutP : laidOutB Tryz.prog = true := by kernel_rfl
theorem keyedN : Go.Maps.Keyed Tryz.prog 94 := Go.Maps.Keyed.of_law (deep_law_laid laidOutP (m := 5) (by decide) (of_decide_eq_true (by kernel_rfl)) (by kernel_rfl) (by kernel_rfl))
theorem qAC (d : Nat) (n : Int) (h : (Lit.int .i64 n).wf = true) : Tryz.prog.keyLits (d + 1) 3 [.int .i64 n] = some [.int .i64 n] := by
 unfold Program.keyLits
 rw [Tryz.underlying3]
 simp only [h, and_self, if_true]
theorem list_of_6n : ∀ zs : List Int, zs.length = 6 → ∃ x0 x1 x2 x3 x4 x5 : Int, zs = [x0, x1, x2, x3, x4, x5]
 | [x0, x1, x2, x3, x4, x5], _ => ⟨x0, x1, x2, x3, x4, x5, rfl⟩
theorem list_of_8n : ∀ zs : List Int, zs.length = 8 → ∃ x0 x1 x2 x3 x4 x5 x6 x7 : Int, zs = [x0, x1, x2, x3, x4, x5, x6, x7]
 | [x0, x1, x2, x3, x4, x5, x6, x7], _ => ⟨x0, x1, x2, x3, x4, x5, x6, x7, rfl⟩
theorem litsN_die (d : Nat) (zs : List Int) (h6 : zs.length = 6) (h : ∀ n ∈ zs, (Lit.int .i64 n).wf = true) : Tryz.prog.keyLits (d + 2) 51 (zs.map (Value.int .i64)) = some (zs.map (Lit.int .i64)) := by
 obtain ⟨x0, x1, x2, x3, x4, x5, rfl⟩ := list_of_6n zs h6
 have h0 := h x0 (by simp)
 have h1 := h x1 (by simp)
 have h2 := h x2 (by simp)
 have h3 := h x3 (by simp)
 have h4 := h x4 (by simp)
 have h5 := h x5 (by simp)
 clear h
 have hc : Tryz.prog.cellsOf 51 = 6 := by kernel_rfl
 have hc3 : Tryz.prog.cellsOf 3 = 1 := by kernel_rfl
 unfold Program.keyLits
 rw [Tryz.underlying51]
 simp [hc, hc3, List.mapM_cons, List.mapM_nil, qAC d x0 h0, qAC d x1 h1, qAC d x2 h2, qAC d x3 h3, qAC d x4 h4, qAC d x5 h5]
theorem litsN_state (d : Nat) (zs : List Int) (h8 : zs.length = 8) (h : ∀ n ∈ zs, (Lit.int .i64 n).wf = true) : Tryz.prog.keyLits (d + 3) 53 (zs.map (Value.int .i64)) = some (zs.map (Lit.int .i64)) := by
 obtain ⟨y0, y1, x0, x1, x2, x3, x4, x5, rfl⟩ := list_of_8n zs h8
 have h0 := h y0 (by simp)
 have h1 := h y1 (by simp)
 have hd := litsN_die d [x0, x1, x2, x3, x4, x5] rfl (fun n hn => h n (by simp only [List.mem_cons, List.not_mem_nil, or_false] at hn ⊢; exact .inr (.inr hn)))
 clear h
 have hc : Tryz.prog.cellsOf 51 = 6 := by kernel_rfl
 have hc8 : Tryz.prog.cellsOf 53 = 8 := by kernel_rfl
 have hc3 : Tryz.prog.cellsOf 3 = 1 := by kernel_rfl
 unfold Program.keyLits
 rw [Tryz.underlying53]
 simp only [List.map_cons, List.map_nil] at hd
 simp [hc, hc3, hc8, List.mapM_cons, List.mapM_nil, qAC (d + 1) y0 h0, qAC (d + 1) y1 h1, hd]
theorem keyN (zs : List Int) (h : okN zs) : keyOf Tryz.prog 94 (encN zs) = some (litN zs) := by
 obtain ⟨h16, hw⟩ := h
 have hc16 : Tryz.prog.cellsOf 94 = 16 := by kernel_rfl
 have hc8 : Tryz.prog.cellsOf 53 = 8 := by kernel_rfl
 have hk : Tryz.prog.keyType 94 = true := by kernel_rfl
 have hf : (encN zs).formed Tryz.prog 94 = true := by
  unfold encN Value.formed
  rw [Tryz.underlying94]
  simp [hc16, kyC, h16]
 obtain ⟨m, hm⟩ : ∃ m, Tryz.prog.types.size = m + 3 := ⟨Tryz.prog.types.size - 3, by have : 3 ≤ Tryz.prog.types.size := of_decide_eq_true (by kernel_rfl); omega⟩
 have ha := litsN_state m (zs.take 8) (by rw [List.length_take]; omega) (fun n hn => hw n (List.mem_of_mem_take hn))
 have hb := litsN_state m (zs.drop 8) (by rw [List.length_drop]; omega) (fun n hn => hw n (List.mem_of_mem_drop hn))
 have hl : Tryz.prog.keyLits (Tryz.prog.types.size + 1) 94 (zs.map (Value.int .i64)) = some (zs.map (Lit.int .i64)) := by
  unfold Program.keyLits
  rw [Tryz.underlying94, hm]
  have e : List.range 2 = [0, 1] := by decide
  have e2 : ((zs.map (Value.int .i64)).drop 8).take 8 = (zs.drop 8).map (Value.int .i64) := by
   rw [← List.map_drop, List.take_of_length_le (by rw [List.length_map, List.length_drop]; omega)]
  simp only [hc16, hc8, List.length_map, h16, if_true, e, List.mapM_cons, List.mapM_nil, Nat.zero_mul, List.drop_zero, Nat.one_mul, ← List.map_take, ha]
  rw [← List.map_drop, ← List.map_take, List.take_of_length_le (l := zs.drop 8) (by rw [List.length_drop]; omega), hb]
  simp [← List.map_append]
 unfold keyOf
 rw [Tryz.underlying94]
 simp only [hk, hf, Bool.and_self, if_true]
 show (Tryz.prog.keyLits (Tryz.prog.types.size + 1) 94 (kyC zs).toList).map _ = _
 rw [show (kyC zs).toList = zs.map (Value.int .i64) from rfl, hl]
 rfl
noncomputable def mapK : MapKit Tryz.prog (List Int) Bool where
 t := 93
 k := 94
 e := 4
 law := keyedN
 ht := Tryz.underlying93
 okK := okN
 key := encN
 lit := litN
 hkey := keyN
 inj := encN_inj
 okV := fun _ => True
 val := .bool
 dat := fun v => .lit (.bool v)
 R := plainElem Tryz.prog 4
 hval := (elem_bool Tryz.underlying4).1
 hdat := (elem_bool Tryz.underlying4).2
 zero := false
 okz := trivial
 hz := Tryz.zeroValue4
def metP (L : List PN) : List (List Int × Bool) := (L.map fun x => (keyL x.1, true)).reverse
theorem metP_append (L : List PN) (s : PN) : metP (L ++ [s]) = (keyL s.1, true) :: metP L := by simp [metP]
theorem metP_len (L : List PN) : (metP L).length = L.length := by simp [metP]
theorem numsX_inj {x y : XS} (h : numsX x = numsX y) : x = y := by
 unfold numsX at h
 simp only [List.cons.injEq, and_true] at h
 obtain ⟨h0, h1, h2, h3, h4, h5, h6, h7⟩ := h
 exact qsE h0 h1 (qoE h2 h3 h4 h5 h6 h7)
theorem flatS_inj : ∀ {l m : List XS}, l.length = m.length → flatS l = flatS m → l = m
 | [], [], _, _ => rfl
 | [], _ :: _, h, _ => by simp at h
 | _ :: _, [], h, _ => by simp at h
 | x :: l, y :: m, h, e => by
  unfold flatS at e
  rw [List.flatMap_cons, List.flatMap_cons] at e
  have := List.append_inj e (by rw [qUC, qUC])
  rw [numsX_inj this.1, flatS_inj (by simpa using h) this.2]
theorem keyL_inj {l m : List XS} (h : l.length = m.length) (e : keyL l = keyL m) : l = m := by
 unfold keyL at e
 exact flatS_inj h (List.append_inj e (by rw [qjB, qjB, h])).1
theorem look_metP (L : List PN) (m : List XS) (hL : ∀ x ∈ L, x.1.length = m.length) : mapK.look (metP L) (keyL m) = decide (m ∈ L.map Prod.fst) := by
 unfold MapKit.look
 by_cases h : m ∈ L.map Prod.fst
 ·rw [decide_eq_true h]
  obtain ⟨z, hz, rfl⟩ := List.mem_map.1 h
  cases hf : (metP L).find? (fun y => decide (y.1 = keyL z.1)) with
  | none =>
   rw [List.find?_eq_none] at hf
   have := hf (keyL z.1, true) (by unfold metP; rw [List.mem_reverse]; exact List.mem_map.2 ⟨z, hz, rfl⟩)
   simp at this
  | some y =>
   have hm := List.mem_of_find?_eq_some hf
   unfold metP at hm
   rw [List.mem_reverse] at hm
   obtain ⟨u, _, rfl⟩ := List.mem_map.1 hm
   rfl
 ·rw [decide_eq_false h]
  cases hf : (metP L).find? (fun y => decide (y.1 = keyL m)) with
  | none => rfl
  | some y =>
   have hm := List.mem_of_find?_eq_some hf
   have hy := List.find?_some hf
   unfold metP at hm
   rw [List.mem_reverse] at hm
   obtain ⟨u, hu, rfl⟩ := List.mem_map.1 hm
   simp only [decide_eq_true_eq] at hy
   exact absurd ((keyL_inj (hL u hu) hy) ▸ List.mem_map_of_mem hu) h
theorem wf_of_small {n : Int} (h0 : -1000 ≤ n) (h1 : n ≤ 1000) : (Lit.int .i64 n).wf = true := by
 unfold Lit.wf
 simp only [Bool.and_eq_true, decide_eq_true_eq]
 exact ⟨by show (-9223372036854775808 : Int) ≤ n; omega, by show n ≤ (9223372036854775807 : Int); omega⟩
theorem state_small {a : ByteArray} (g : Gnd a) {s : XS} (h : stateB a s = true) : ∀ n ∈ numsX s, -1000 ≤ n ∧ n ≤ 1000 := by
 unfold stateB floorB at h
 simp only [Bool.and_eq_true] at h
 obtain ⟨⟨h1, _⟩, h2⟩ := h
 have hh := (qdD a s.f0 s.f1).1 h1
 have hd := dieB_face h2
 have hw7 := g.w7
 have hh7 := g.h7
 intro n hn
 unfold numsX at hn
 simp only [List.mem_cons, List.not_mem_nil, or_false] at hn
 rcases hn with rfl | rfl | hn
 ·omega
 ·omega
 ·have := hd n (by simp only [List.mem_cons, List.not_mem_nil, or_false]; exact hn)
  omega
theorem keyL_ok {a : ByteArray} (g : Gnd a) {l m : List XS} (h : kinD a l m) (hl : l.length ≤ 2) : okN (keyL m) := by
 refine ⟨qtC m (by rw [h.1]; exact hl), fun n hn => ?_⟩
 unfold keyL at hn
 rcases List.mem_append.1 hn with hn | hn
 ·unfold flatS at hn
  obtain ⟨t, ht, hn⟩ := List.mem_flatMap.1 hn
  obtain ⟨k, hk⟩ := List.mem_iff_getElem?.1 ht
  have hkl := (List.getElem?_eq_some_iff.1 hk).1
  rw [h.1] at hkl
  have := (h.2 k _ t (List.getElem?_eq_getElem hkl) hk).1
  obtain ⟨h1, h2⟩ := state_small g this n hn
  exact wf_of_small h1 h2
 ·rw [List.eq_of_mem_replicate hn]
  exact wf_of_small (by omega) (by omega)
def plK (w : World) : Kd (List XS) := Kd.mix 53 k53 k53 w
theorem qeE (w : World) {e t : Nat} (h1 : e ≠ t) (h2 : 53 ≠ t) : ∀ q, q ∈ e :: (plK w).E → q ≠ t := by
 intro q hq
 rw [show e :: (plK w).E = [e, 53] from rfl] at hq
 simp only [List.mem_cons, List.not_mem_nil, or_false] at hq
 rcases hq with rfl | rfl
 ·exact h1
 ·exact h2
theorem plK_C {w0 w : World} (hb : Below w0.heap.size w0 w) {A : Option Addr} {n : Nat} {L : List (List XS)} (h : (plK w0).C w A n L) : Kd.C (Kd.slice 53 k53) w A n L :=
 Kd.C_read (d := Kd.slice 53 k53) (dm := plK w0) rfl (fun x cs hk => by
  obtain ⟨A, c, rfl, hl, hC⟩ := Kd.mix_read (w0 := w0) rfl (fun _ _ hk => hk) hb hk
  exact ⟨A, c, rfl, hl, hC⟩) h
theorem at_row {w : World} {ad : Addr} {n : Nat} {L : List (List XS)} (h : Kd.C (Kd.slice 53 k53) w (some ad) n L) (i : Nat) (hi : i < L.length) :
  ∃ A c, w.cell? (ad.add i) = some (.slice A L[i].length c) ∧ L[i].length ≤ c ∧ Kd.C k53 w A L[i].length L[i] := by
 obtain ⟨ad', e, hc⟩ := h.2.2 (by have := h.1; omega)
 injection e with e
 subst e
 obtain ⟨c, hcl, ⟨A, cc, rfl, hl, hC⟩, hcell⟩ := hc i _ (List.getElem?_eq_getElem hi)
 have h1 := hcell 0 _ rfl
 rw [show (Kd.slice 53 k53).sz = 1 from rfl, Nat.mul_one, Nat.add_zero] at h1
 exact ⟨A, cc, h1, hl, hC⟩
structure PlO (a : ByteArray) (l : List XS) (L : List PN) (i : Nat) (R : Option (List PN)) : Prop where
 ok : AllOk a l L
 le : i ≤ L.length
 fin : Cap.run 6000 (nextP a) (6000 - i) i L = R
structure PlN (a : ByteArray) (l : List XS) (L : List PN) (i j : Nat) (x : List XS) (R : Option (List PN)) : Prop where
 ok : AllOk a l L
 at_ : ∃ p, L[i]? = some (x, p)
 fin : (Cap.puts 6000 L ((nextP a i x).drop j)).bind (Cap.run 6000 (nextP a) (6000 - (i + 1)) (i + 1)) = R
section
variable {a : ByteArray} {l x : List XS} {L : List PN} {i j : Nat} {R : Option (List PN)}
theorem PlO.start (h : askD a l = true) (h2 : l.length ≤ 2) : PlO a l [(l, (-1, (⟨#[]⟩ : ByteArray)))] 0 (plansB a l) :=
 ⟨AllOk.start h, by simp, by unfold plansB; rw [if_pos ⟨h, h2⟩]; rfl⟩
theorem PlO.inner (h : PlO a l L i R) (hi : i < L.length) : PlN a l L i 0 L[i].1 R := by
 refine ⟨h.ok, ⟨L[i].2, List.getElem?_eq_getElem hi⟩, ?_⟩
 have hf := h.fin
 have := h.ok.len
 rw [show 6000 - i = (6000 - (i + 1)) + 1 by omega, Cap.run_step 6000 (nextP a) hi] at hf
 rw [List.drop_zero]
 exact hf
theorem PlO.done (h : PlO a l L i R) (hi : ¬ i < L.length) : R = some L := by
 have hf := h.fin
 rw [Cap.run_end 6000 (nextP a) (by omega)] at hf
 exact hf.symm
theorem PlN.outer (h : PlN a l L i j x R) (hj : (nextP a i x).length ≤ j) : PlO a l L (i + 1) R := by
 obtain ⟨p, hp⟩ := h.at_
 have hi := (List.getElem?_eq_some_iff.1 hp).1
 refine ⟨h.ok, by omega, ?_⟩
 have hf := h.fin
 rw [List.drop_eq_nil_of_le hj, Cap.puts, Option.bind_some] at hf
 exact hf
theorem PlN.met (h : PlN a l L i j x R) {s : PN} (hs : (nextP a i x)[j]? = some s) (hm : s.1 ∈ L.map Prod.fst) : PlN a l L i (j + 1) x R := by
 refine ⟨h.ok, h.at_, ?_⟩
 obtain ⟨hj, e⟩ := List.getElem?_eq_some_iff.1 hs
 have hf := h.fin
 rw [List.drop_eq_getElem_cons hj, e, Cap.puts, Cap.qOE 6000 hm, Option.bind_some] at hf
 exact hf
theorem PlN.full (h : PlN a l L i j x R) {s : PN} (hs : (nextP a i x)[j]? = some s) (hm : ¬ s.1 ∈ L.map Prod.fst) (hn : L.length = 6000) : R = none := by
 obtain ⟨hj, e⟩ := List.getElem?_eq_some_iff.1 hs
 have hf := h.fin
 rw [List.drop_eq_getElem_cons hj, e, Cap.puts, Cap.put_full 6000 hm hn, Option.bind_none, Option.bind_none] at hf
 exact hf.symm
theorem PlN.new (h : PlN a l L i j x R) {s : PN} (hs : (nextP a i x)[j]? = some s) (hm : ¬ s.1 ∈ L.map Prod.fst) (hn : L.length ≠ 6000) : PlN a l (L ++ [s]) i (j + 1) x R := by
 obtain ⟨hj, e⟩ := List.getElem?_eq_some_iff.1 hs
 obtain ⟨p, hp⟩ := h.at_
 refine ⟨h.ok.add hp (List.mem_of_getElem? hs) hn, ⟨p, ?_⟩, ?_⟩
 ·rw [List.getElem?_append_left (List.getElem?_eq_some_iff.1 hp).1]; exact hp
 ·have hf := h.fin
  rw [List.drop_eq_getElem_cons hj, e, Cap.puts, Cap.qNE 6000 hm hn, Option.bind_some] at hf
  exact hf
theorem PlN.kin (h : PlN a l L i j x R) : kinD a l x := by
 obtain ⟨p, hp⟩ := h.at_
 exact h.ok.kin _ (List.mem_of_getElem? hp)
theorem PlN.lens (h : PlN a l L i j x R) {s : PN} (hs : (nextP a i x)[j]? = some s) : ∀ y ∈ L, y.1.length = s.1.length := fun y hy =>
 (h.ok.kin y hy).1.trans (qoD h.kin i (List.mem_of_getElem? hs)).1.symm
end
end Go.Proofs.YthhiiceligjleaaGreatDoor
namespace Go.Proofs.YthhiiceligjleaaGreatDoor
open Go.RowKit Go.Proofs.YthhiiceligjleaaGreatDoor.P Go.Proofs.YthhiiceligjleaaGreatDoorW.PrintWords Go.Proofs.YthhiiceligjleaaGreatDoorW.PrintLast Go.Proofs.YthhiiceligjleaaGreatDoorW.PrintMore
set_option linter.unusedVariables false
set_option linter.unusedSimpArgs false
theorem plLit0 {α : Type} {d : Kd α} {e base : Nat} {ok : Nat → Prop} {W w1 : World} {u : Value} {xs : List α} (h : d.R e W base ok u xs) (hg : W.grownBy w1 none) : d.R e w1 base ok u xs :=
 Kd.qa (Kd.qGE (Kd.qqB h) (fun k hk hlt => hg.block k hlt (by simp))) (fun _ hk => hk.1)
def PlansAt (w' : World) (v : Value) (L : List PN) : Prop := ∃ (g : Nat) (A0 A1 A2 : Option Addr) (c0 c1 c2 : Nat), v = .pointer (some ⟨g, 0, none⟩) ∧
 w'.heap[g]? = some (.cells #[.slice A0 (L.map Prod.fst).length c0, .slice A1 (L.map fun x => x.2.1).length c1, .slice A2 (L.map fun x => x.2.2).length c2] 92 (0, 0)) ∧
 Kd.C (Kd.slice 53 k53) w' A0 (L.map Prod.fst).length (L.map Prod.fst) ∧ Kd.C (Kd.int .i64) w' A1 (L.map fun x => x.2.1).length (L.map fun x => x.2.1) ∧ Kd.C Kd.string w' A2 (L.map fun x => x.2.2).length (L.map fun x => x.2.2)
theorem PlansAt.below {w w1 : World} {v : Value} {L : List PN} (h : PlansAt w v L) (hb : Below w.heap.size w w1) : PlansAt w1 v L := by
 obtain ⟨g, A0, A1, A2, c0, c1, c2, e, hg, h0, h1, h2⟩ := h
 exact ⟨g, A0, A1, A2, c0, c1, c2, e, qCA hg hb, Kd.qV h0 hb, Kd.qV h1 hb, Kd.qV h2 hb⟩
theorem plInfo : (Tryz.prog.info? 26).map (fun i => (i.zero, i.size, i.bytes)) = some (some (.slice none 0 0), 1, 24) := by kernel_rfl
theorem plIx (s : ByteArray) (i : Nat) (n : Int) (hn : bt s (i : Int) = n) : ∀ h : i < s.size, ((s[i]'h).toNat : Int) = n := by
 intro h
 rw [← hn]
 unfold bt
 rw [dif_pos (by simpa using h)]
 simp only [Int.toNat_natCast]
theorem plStep (a : ByteArray) (x : List XS) (i j : Nat) (hj : j < (mvs a x 0 x.length).length) : ∃ k d : Nat, k < x.length ∧ d < 4 ∧ (nextP a i x)[j]? = some ((moveB a x k (d : Int)).1, ((i : Int), signN k d)) ∧ (mvs a x 0 x.length)[j]? = some (signN k d) ∧ (moveB a x k (d : Int)).2 = true := by
 rw [qtE, List.length_map] at hj
 have hm := List.getElem_mem hj
 obtain ⟨_, h1, h2, h3⟩ := qiE _ _ hm
 refine ⟨(mps a x 0 x.length)[j].1, (mps a x 0 x.length)[j].2, by omega, h2, ?_, ?_, h3⟩
 ·unfold nextP
  rw [List.getElem?_map, List.getElem?_eq_getElem hj]; rfl
 ·rw [qtE, List.getElem?_map, List.getElem?_eq_getElem hj]; rfl
def plT13 : Bool × List (List Nat × List Nat) := (true, [([], []), ([], []), ([1], [1]), ([2], [2]), ([3], [3]), ([], []), ([4, 5], [4, 5]), ([6], [6]), ([], []), ([8], [8]), ([9], [9]), ([10], [10]), ([], []), ([12], [12]), ([0, 7, 11, 13], [0, 7, 11, 13]), ([14], [14]), ([15], [15]), ([15], [15]), ([16, 14, 0, 1, 2, 3, 4, 5, 6, 7, 8, 9, 10, 11, 12, 13, 14, 15, 16], [16]), ([17, 18, 0, 1, 2, 3, 4, 5, 6, 7, 8, 9, 10, 11, 12, 13, 14, 15, 16, 17, 18], [17])])
def plB13 : List Nat := [0, 0, 2, 6, 14, 0, 62, 126, 0, 256, 768, 1792, 0, 4096, 16383, 32767, 65535, 65535, 131071, 524287]
theorem plTab13 : rtab .any (opsOf Tryz.f24 13) = plT13 := by kernel_rfl
theorem plBits13 : waitsOk plT13.2 plB13 = true := by kernel_rfl
def plT18 : Bool × List (List Nat × List Nat) := (true, [([], []), ([], []), ([], []), ([], []), ([3], [3]), ([4], [4]), ([5], [5]), ([], []), ([7], [7]), ([6, 8], [6, 8]), ([], []), ([10], [10]), ([11], [11]), ([12], [12]), ([], []), ([14], [14]), ([13, 15, 9], [13, 15]), ([], []), ([17], [17]), ([18], [18]), ([19], [19]), ([], []), ([21], [21]), ([20, 22, 16], [20, 22]), ([0, 0, 3, 4, 5, 6, 7, 8, 9, 13, 16, 20, 23], [0]), ([24, 0, 3, 4, 5, 6, 7, 8, 9, 13, 16, 20, 23], [24]), ([25, 9, 23, 0, 3, 4, 5, 6, 7, 8, 9, 13, 16, 20, 23], [9, 25]), ([1, 0, 1, 3, 4, 5, 6, 7, 8, 9, 10, 11, 12, 13, 14, 15, 16, 20, 23, 24, 25, 26], [1]), ([27, 0, 1, 3, 4, 5, 6, 7, 8, 9, 10, 11, 12, 13, 14, 15, 16, 20, 23, 24, 25, 26], [27]), ([28, 16, 26, 0, 1, 3, 4, 5, 6, 7, 8, 9, 10, 11, 12, 13, 14, 15, 16, 20, 23, 24, 25, 26], [16, 28]), ([2, 0, 1, 2, 3, 4, 5, 6, 7, 8, 9, 10, 11, 12, 13, 14, 15, 16, 17, 18, 19, 20, 21, 22, 23, 24, 25, 26, 27, 28, 29], [2]), ([30, 0, 1, 2, 3, 4, 5, 6, 7, 8, 9, 10, 11, 12, 13, 14, 15, 16, 17, 18, 19, 20, 21, 22, 23, 24, 25, 26, 27, 28, 29], [30]), ([31, 23, 29, 0, 1, 2, 3, 4, 5, 6, 7, 8, 9, 10, 11, 12, 13, 14, 15, 16, 17, 18, 19, 20, 21, 22, 23, 24, 25, 26, 27, 28, 29], [23, 31])])
def plB18 : List Nat := [0, 0, 0, 0, 8, 24, 56, 0, 128, 504, 0, 1024, 3072, 7168, 0, 16384, 65528, 0, 131072, 393216, 917504, 0, 2097152, 8388600, 16777209, 33554425, 67108857, 134217723, 268435451, 536870907, 1073741823, 2147483647, 4294967295]
theorem plTab18 : rtab .any (opsOf Tryz.f24 18) = plT18 := by kernel_rfl
theorem plBits18 : waitsOk plT18.2 plB18 = true := by kernel_rfl
set_option maxHeartbeats 8000000 in
set_option maxRecDepth 100000 in
theorem plansOf_calls (a : ByteArray) (A1 : Option Addr) (c1 : Nat) (l : List XS) (w : World) (hr1 : Kd.C k53 w A1 l.length l) (hc1 : l.length ≤ c1) (hL : Laid w) (ha : a.size ≤ 1048576) (hl : l.length ≤ 2000000) :
  Calls Tryz.prog 24 #[.string a, .slice A1 l.length c1] w fun e w' => ∃ v : Value, e = .returned (.tuple #[v, .bool (plansB a l).isSome]) ∧ (∀ L, plansB a l = some L → PlansAt w' v L) ∧ Below w.heap.size w w' := by
 have hu53 := Tryz.underlying92
 obtain ⟨rows, ⟨kt, hkt⟩, hrows⟩ := together_ev a l ha hl
 have HT := aM (hkt kt (Nat.le_refl _))
 have HR := aM hr1
 have HC := aM hc1
 have HL := aM hL
 clear hkt hr1 hL
 have B0 := aM (Below.refl w.heap.size w)
 by_cases hA : askD a l = true
 case neg =>
  rw [Bool.not_eq_true] at hA
  rw [hA] at HT
  have hP : plansB a l = none := by unfold plansB; rw [hA, if_neg (by simp)]
  rw [hP]
  go_enter Tryz.func24, Tryz.ntmps24
  go_wp2_with (first | (go_at_call 25; refine (qSB.calls kt a A1 c1 l rows false _ HR.out HC.out HL.out HT.out).mono ?_; rintro e w1 ⟨v0_, rfl, hR, hb⟩; have B1 := aM hb; clear hb hR))
  go_ret2
  exact ⟨_, rfl, fun L h => by simp at h, B1.out⟩
 rw [hA] at HT
 have hg := qDE (qyC hA)
 obtain rfl := hrows hA
 clear hrows
 by_cases hl2 : l.length ≤ 2
 case neg =>
  have hP : plansB a l = none := by unfold plansB; rw [if_neg (by simp only [hA, true_and]; exact hl2)]
  rw [hP]
  have h2z : (2 : Int) < (l.length : Int) := by omega
  go_enter Tryz.func24, Tryz.ntmps24
  go_wp2_with (first | (go_at_call 25; refine (qSB.calls kt a A1 c1 l _ true _ HR.out HC.out HL.out HT.out).mono ?_; rintro e w1 ⟨v0_, rfl, hR, hb⟩; have B1 := aM hb; clear hb hR))
  go_ret2
  exact ⟨_, rfl, fun L h => by simp at h, B1.out⟩
 have h2z : ¬ (2 : Int) < (l.length : Int) := by omega
 have hP0 := PlO.start hA hl2
 have hl1 := (askD_len hA).1
 have HP0 := aM hP0
 have HGD := aM hg
 have HA := aM (And.intro hl1 hl2)
 have HKL := aM (keyL_ok hg (qpD hA) hl2)
 generalize hRR : plansB a l = R at HP0 ⊢
 clear hP0 hg hl1 hRR hl ha
 have hmm := @run_makeMap Tryz.prog
 go_enter Tryz.func24, Tryz.ntmps24
 go_wp2_with (first
  | (go_at_call 25; refine (qSB.calls kt a A1 c1 l _ true _ HR.out HC.out HL.out HT.out).mono ?_; rintro e w1 ⟨v0_, rfl, hR, hb⟩; obtain ⟨Ag, cg, rfl, hcg, hCg⟩ := Kd.qbE hR; have BW := aM hb; have HG := aM hCg; have HCG := aM hcg; have HR1 := aM (Kd.qV HR.out hb); have B1 := aM (Below.refl w1.heap.size w1); clear hb hR hCg hcg HR HL HT B0)
  | ((with_reducible refine qH (N := 30) rfl ?_); go_loud (refine Kd.R_lit (plK w1) w1.heap.size 26 ?hg (N := 30) ?hd (xs := [l]) (inner := [.slice A1 l.length c1]) (ok := fun _ => True) (okp := fun _ => True) ?hr ?hp (fun _ hk => hk) trivial B1.out B1.out.size (by simp) ?_; (case hd => rfl); (case hg => rfl); (case hr => exact gS); (case hp => exact Reps.one (Kd.mix_came HC.out HR1.out) (Reps.none _ _)); intro v1 w2 ho hb hg_ hnew_; obtain ⟨A30, c30, e30⟩ := Kd.qDA ho; have e30' : v1 = .slice A30 1 c30 := e30; subst e30'; clear e30; have D2 := aM ho; have B2 := aM hb; clear ho hb hg_ hnew_))
  | ((with_reducible refine qH (N := 31) rfl ?_); go_loud (refine Kd.R_lit (Kd.int .i64) w1.heap.size 3 ?hg (N := 31) ?hd (xs := [(-1 : Int)]) (inner := [.int .i64 (-1)]) (ok := fun _ => True) (okp := fun _ => True) ?hr ?hp (fun _ hk => hk) trivial B2.out B2.out.size (by simp) ?_; (case hd => rfl); (case hg => rfl); (case hr => exact gS); (case hp => exact Reps.one (show Kd.M (Kd.int .i64) _ _ _ (-1 : Int) [.int .i64 (-1)] from rfl) (Reps.none _ _)); intro v1 w3 ho hb hg_ hnew_; obtain ⟨A31, c31, e31⟩ := Kd.qDA ho; have e31' : v1 = .slice A31 1 c31 := e31; subst e31'; clear e31; have F3 := aM ho; have D3 := aM (plLit0 D2.out hg_); have B3 := aM hb; clear ho hb hg_ hnew_ D2 B2))
  | ((with_reducible refine qH (N := 32) rfl ?_); go_loud (refine Kd.R_lit Kd.string w1.heap.size 9 ?hg (N := 32) ?hd (xs := [(⟨#[]⟩ : ByteArray)]) (inner := [.string ⟨#[]⟩]) (ok := fun _ => True) (okp := fun _ => True) ?hr ?hp (fun _ hk => hk) trivial B3.out B3.out.size (by simp) ?_; (case hd => rfl); (case hg => rfl); (case hr => exact gS); (case hp => exact Reps.one (show Kd.M Kd.string _ _ _ (⟨#[]⟩ : ByteArray) [.string (⟨#[]⟩ : ByteArray)] from rfl) (Reps.none _ _)); intro v1 w4 ho hb hg_ hnew_; obtain ⟨A32, c32, e32⟩ := Kd.qDA ho; have e32' : v1 = .slice A32 1 c32 := e32; subst e32'; clear e32; have S4 := aM ho; have F4 := aM (plLit0 F3.out hg_); have D4 := aM (plLit0 D3.out hg_); have B4 := aM hb; clear ho hb hg_ hnew_ F3 D3 B3))
  | ((with_reducible refine qH (N := 34) rfl ?_); go_loud (refine bE (N := 34) (cs := #[.slice A30 1 c30, .slice A31 1 c31, .slice A32 1 c32]) (t := 92) ?_; intro gp hgp w5 hbox hb; have BP5 := aM hbox; have HGP := aM (show w1.heap.size ≤ gp by rw [hgp]; exact B4.out.size); have S5 := aM (Kd.qc S4.out hb); have F5 := aM (Kd.qc F4.out hb); have D5 := aM (Kd.qc D4.out hb); have B5 := aM (qEA B4.out B4.out.size hb); clear hbox hb hgp S4 F4 D4 B4))
  | ((with_reducible refine qXC (s := 37) rfl ?_); go_loud (have M5 := aM (show mapK.Is (w5.alloc (.map #[] 0)) w5.heap.size [] from MapKit.Is.made w5); have HGM := aM (show w1.heap.size ≤ w5.heap.size from B5.out.size); have S6 := aM (Kd.qQ S5.out (.map #[] 0)); have F6 := aM (Kd.qQ F5.out (.map #[] 0)); have D6 := aM (Kd.qQ D5.out (.map #[] 0)); have B6 := aM (qt B5.out (.map #[] 0)); have BP6 := aM (qCA BP5.out (qt (Below.refl _ _) (.map #[] 0))); clear S5 F5 D5 B5 BP5; generalize w5.heap.size = gm at M5 HGM ⊢; generalize w5.alloc (.map #[] 0) = w6 at M5 S6 F6 D6 B6 BP6 ⊢; refine qtD (some 39) 37 rfl rfl Tryz.func51 (by kernel_rfl) rfl #[.slice A1 l.length c1] rfl rfl (by (try simp only [List.map_toArray, List.map_cons, List.map_nil]); first | done | rfl | simp) ?_; refine (qqD A1 c1 l _ (Kd.qV HR1.out B6.out) HA.out.1 HA.out.2).mono ?_; rintro e w7 ⟨rfl, hb⟩; refine ⟨_, rfl, ?_⟩; have M7 := aM (M5.out.below hb); have S7 := aM (Kd.qc S6.out hb); have F7 := aM (Kd.qc F6.out hb); have D7 := aM (Kd.qc D6.out hb); have BP7 := aM (qCA BP6.out hb); have B7 := aM (qEA B6.out B6.out.size hb); clear hb M5 S6 F6 D6 B6 BP6)))
 obtain ⟨w8, hrun8, hM8, hgr8⟩ := M7.out.run_put (by decide) HKL.out (v := true) trivial
 have hrun8' : (Instr.mapUpdate 93 (.map (some gm)) (encK l) (.bool true)).run Tryz.prog w7 = .ok () w8 := hrun8
 rw [hrun8']
 have HNE := aM (show gm ≠ gp from fun e_ => M7.out.off BP7.out e_.symm)
 have D8 := aM (M7.out.row D7.out hgr8)
 have F8 := aM (M7.out.row F7.out hgr8)
 have S8 := aM (M7.out.row S7.out hgr8)
 have BP8 := aM (qn BP7.out hgr8 (fun e_ => HNE.out (by injection e_ with e_; exact e_.symm)))
 have B8 := aM (B7.out.grown hgr8 B7.out.size (fun k_ e_ => by cases e_; exact HGM.out))
 have M8 := aM (show mapK.Is w8 gm (metP [(l, (-1, (⟨#[]⟩ : ByteArray)))]) from hM8)
 have HMVS := aM (fun (x : List XS) (hx : x.length ≤ 3) => moves_ev HGD.out x hx)
 have HMV1 := aM (fun (x : List XS) (hx : x.length ≤ 3) (k d : Nat) (hk : k < x.length) (hd : d < 4) => move_sign HGD.out x hx k d hk hd)
 clear hrun8 hrun8' hM8 hgr8 D7 F7 S7 BP7 B7 M7 hmm HKL
 generalize rowsT a = rows at HG HCG HMVS HMV1 ⊢
 go_wp2
 go_loopg [11] 6000 (fun gg v11 wq => ∃ (L : List PN) (i : Nat) (v0 v1 v2 : Value), v11 = .int .i64 i ∧ 6000 - i ≤ gg ∧ Aside0 (PlO a l L i R) ∧ Aside0 (Kd.R (plK w1) 26 wq w1.heap.size (fun _ => True) v0 (L.map Prod.fst)) ∧ Aside0 (Kd.R (Kd.int .i64) 3 wq w1.heap.size (fun _ => True) v1 (L.map fun x => x.2.1)) ∧ Aside0 (Kd.R Kd.string 9 wq w1.heap.size (fun _ => True) v2 (L.map fun x => x.2.2)) ∧ Aside0 (wq.heap[gp]? = some (.cells #[v0, v1, v2] 92 (0, 0))) ∧ Aside0 (mapK.Is wq gm (metP L)) ∧ Aside0 (Below w1.heap.size w1 wq))
 case atStart => exact ⟨[(l, (-1, (⟨#[]⟩ : ByteArray)))], 0, _, _, _, rfl, by omega, HP0, D8, F8, S8, BP8, M8, B8⟩
 case round =>
  clear HP0 D8 F8 S8 BP8 M8 B8
  obtain ⟨L, i, v0, v1, v2, rfl, hgk, HO, D0, F0, S0, BP, M0, B⟩ := hrel
  rename World => wr
  have hL6 := HO.out.ok.len
  have hle := HO.out.le
  obtain ⟨Ad, cd, rfl⟩ := Kd.qDA D0.out
  obtain ⟨n1, hn1⟩ : ∃ n1, (L.map Prod.fst).length = n1 := ⟨_, rfl⟩
  have hln : n1 = L.length := by rw [← hn1]; exact List.length_map _
  rw [hn1] at D0 BP
  have hc0 : wr.cell? ⟨gp, 0, none⟩ = some (.slice Ad n1 cd) := (qw BP.out 0).trans rfl
  by_cases hlt : i < L.length
  ·have hltz : (i : Int) < (n1 : Int) := by omega
   have hi0 : (0 : Int) ≤ (i : Int) := by omega
   have hil : i < (L.map Prod.fst).length := by rw [hn1]; omega
   have hC := plK_C B.out (Kd.qO D0.out).2.2
   obtain ⟨ad, had⟩ : ∃ ad, Ad = some ad := by obtain ⟨ad, e, _⟩ := hC.2.2 (by omega); exact ⟨ad, e⟩
   subst had
   obtain ⟨Ax, cx, hcx, hlx, hCx⟩ := at_row hC i hil
   obtain ⟨x, hx⟩ : ∃ x, (L.map Prod.fst)[i] = x := ⟨_, rfl⟩
   rw [hx] at hcx hlx hCx
   have hx' : L[i].1 = x := by rw [← hx, List.getElem_map]
   have hN := HO.out.inner hlt
   rw [hx'] at hN
   have hx3 : x.length ≤ 2 := by rw [hN.kin.1]; exact HA.out.2
   have HN := aM hN
   have HX3 := aM hx3
   obtain ⟨km, hkm⟩ := HMVS.out x (by omega)
   have hkm' := hkm km (Nat.le_refl _)
   obtain ⟨ms, hms⟩ : ∃ ms, mvs a x 0 x.length = ms := ⟨_, rfl⟩
   obtain ⟨nm, hnm⟩ : ∃ nm, ms.length = nm := ⟨_, rfl⟩
   have hnm4 : nm ≤ 8 := by have := mvs_len a x x.length 0; rw [hms, hnm] at this; omega
   rw [hms] at hkm'
   have HKM := aM hkm'
   have HMS := aM (And.intro hms hnm)
   have XR := aM hCx
   have HXC := aM hlx
   clear hkm hkm' hN hx' hx hil hC hCx hlx hms hln hn1 hle hx3
   go_wp2_with (first
    | (go_at_call 52; refine (qd.calls km Ag cg rows Ax cx x ms _ (Kd.qV HG.out B.out) HCG.out XR.out HXC.out HKM.out).mono ?_; rintro e w2 ⟨vt, rfl, hR, hb⟩; have TM := aM (Kd.qa (ok' := fun k_ => some k_ ≠ (v2 : Value).ownBlock) (Kd.qz (Kd.qBB hR (Kd.R_lt S0.out)) B.out.size) (fun _ hk => hk.2)); clear hR; obtain ⟨At, ct, e57⟩ := Kd.qDA TM.out; rw [HMS.out.2] at e57; subst e57; replace D0 := aM (Kd.qc D0.out hb); replace F0 := aM (Kd.qc F0.out hb); replace S0 := aM (Kd.qc S0.out hb); replace M0 := aM (M0.out.below hb); replace BP := aM (qCA BP.out hb); replace B := aM (qEA B.out B.out.size hb); replace XR := aM (Kd.qV XR.out hb); clear hb))
   clear hltz hc0 hcx hnm
   go_loopg [59] nm (fun gg v59 wq => ∃ (L2 : List PN) (j : Nat) (v0 v1 v2 : Value), v59 = .int .i64 j ∧ nm - j ≤ gg ∧ Aside0 (PlN a l L2 i j x R) ∧ Aside0 (Kd.R (plK w1) 26 wq w1.heap.size (fun _ => True) v0 (L2.map Prod.fst)) ∧ Aside0 (Kd.R (Kd.int .i64) 3 wq w1.heap.size (fun _ => True) v1 (L2.map fun x => x.2.1)) ∧ Aside0 (Kd.R Kd.string 9 wq w1.heap.size (fun _ => True) v2 (L2.map fun x => x.2.2)) ∧ Aside0 (Kd.R Kd.string 9 wq w1.heap.size (fun k_ => some k_ ≠ (v2 : Value).ownBlock) (.slice At nm ct) ms) ∧ Aside0 (mapK.Is wq gm (metP L2)) ∧ Aside0 (wq.heap[gp]? = some (.cells #[v0, v1, v2] 92 (0, 0))) ∧ Aside0 (Below w1.heap.size w1 wq))
   case atStart => exact ⟨L, 0, _, _, _, rfl, by omega, HN, D0, F0, S0, TM, M0, BP, B⟩
   case round =>
    clear HN D0 F0 S0 TM M0 BP B XR HO HXC hL6 hlt
    obtain ⟨L2, j, v0, v1, v2, rfl, hgj, HN, D0, F0, S0, TM, M0, BP, B⟩ := hrel
    rename World => wq
    have hL6 := HN.out.ok.len
    by_cases hj : j < nm
    ·have hjz : (j : Int) < (nm : Int) := by omega
     have hj0 : (0 : Int) ≤ (j : Int) := by omega
     have hj4 : j < (mvs a x 0 x.length).length := by rw [HMS.out.1, HMS.out.2]; exact hj
     obtain ⟨k, d, hk, hd, hs, hmsj, hmv⟩ := plStep a x i j hj4
     rw [HMS.out.1] at hmsj
     obtain ⟨own, hown⟩ : ∃ own, (moveB a x k (d : Int)).1 = own := ⟨_, rfl⟩
     have hmv1 := HMV1.out x (by have := HX3.out; omega) k d hk hd
     rw [qKE k d (by have := HX3.out; omega) hd, show moveB a x k (d : Int) = (own, true) from Prod.ext hown hmv] at hmv1
     rw [hown] at hs
     have hw8 := qKE k d (by have := HX3.out; omega) hd
     have hsz := qmD k d
     obtain ⟨sg, hsg⟩ : ∃ sg, signN k d = sg := ⟨_, rfl⟩
     rw [hsg] at hs hmsj hmv1 hw8 hsz
     obtain ⟨n0, hn0⟩ : ∃ n0, bt sg 0 = n0 := ⟨_, rfl⟩
     obtain ⟨n1, hn1⟩ : ∃ n1, bt sg 1 = n1 := ⟨_, rfl⟩
     rw [hn0] at hw8
     rw [hn1] at hmv1
     have hix0 := plIx sg 0 n0 (by simpa using hn0)
     have hix1 := plIx sg 1 n1 (by simpa using hn1)
     have hwk : IntKind.u8.wrap (n0 - 48) = (k : Int) := hw8
     have hwi : IntKind.i64.wrap (k : Int) = (k : Int) := by rw [IntKind.wrap_i64]; have := HX3.out; omega
     have HMV := aM hmv1
     have HS := aM hs
     have hlen := HN.out.lens hs
     have hkin := HN.out.kin
     have hko := qoD hkin i (List.mem_of_getElem? hs)
     have HOL := aM (show 1 ≤ own.length ∧ own.length ≤ 2 by rw [hko.1]; exact HA.out)
     have HOK := aM (keyL_ok HGD.out hko HA.out.2)
     have HLEN := aM hlen
     obtain ⟨p, hp⟩ := HN.out.at_
     obtain ⟨hil, hpe⟩ := List.getElem?_eq_some_iff.1 hp
     have hCt := (Kd.qO TM.out).2.2
     obtain ⟨adt, et, hcm⟩ := Kd.qvB hCt (j : Int) hj0 (by rw [HMS.out.2]; exact hjz)
     subst et
     rw [show rdOf ByteArray.empty ms (j : Int) = sg by unfold rdOf; rw [Int.toNat_natCast, List.getD_eq_getElem?_getD, hmsj]; rfl, Int.toNat_natCast] at hcm
     obtain ⟨ds, hds⟩ : ∃ ds, L2.map Prod.fst = ds := ⟨_, rfl⟩
     obtain ⟨fs, hfs⟩ : ∃ fs, (L2.map fun x => x.2.1) = fs := ⟨_, rfl⟩
     obtain ⟨ss, hss⟩ : ∃ ss, (L2.map fun x => x.2.2) = ss := ⟨_, rfl⟩
     obtain ⟨met, hmet⟩ : ∃ met, metP L2 = met := ⟨_, rfl⟩
     have hld : ds.length = L2.length := by rw [← hds]; exact List.length_map _
     have HBD := aM (show ds.length ≤ 6000 ∧ fs.length ≤ 6000 ∧ ss.length ≤ 6000 by rw [hld, ← hfs, ← hss, List.length_map, List.length_map]; omega)
     have hlook : ∀ W, mapK.Is W gm met → (Instr.lookup 93 (.map (some gm)) (encK own) false).run Tryz.prog W = .ok (.bool (decide (own ∈ ds))) W := fun W hW => by
      have h := hW.run_look (x := keyL own) HOK.out
      rw [← hmet, look_metP L2 own HLEN.out, hds] at h
      exact h
     have HLOOK := aM hlook
     have hdx : ds[i]? = some x := by rw [← hds, List.getElem?_map, hp]; rfl
     rw [hds] at D0
     rw [hfs] at F0
     rw [hss] at S0
     rw [hmet] at M0
     obtain ⟨Ad, cd, rfl⟩ := Kd.qDA D0.out
     obtain ⟨n2, hn2⟩ : ∃ n2, ds.length = n2 := ⟨_, rfl⟩
     rw [hn2] at D0 BP
     have hC := plK_C B.out (Kd.qO D0.out).2.2
     have hid : i < ds.length := (List.getElem?_eq_some_iff.1 hdx).1
     obtain ⟨ad, had⟩ : ∃ ad, Ad = some ad := by obtain ⟨ad, e, _⟩ := hC.2.2 (by omega); exact ⟨ad, e⟩
     subst had
     obtain ⟨Ax, cx, hcx, hlx, hCx⟩ := at_row hC i hid
     rw [(List.getElem?_eq_some_iff.1 hdx).2] at hcx hlx hCx
     have CX := aM hcx
     have XR := aM hCx
     have HXC := aM hlx
     have hin : (i : Int) < (n2 : Int) := by omega
     have hi0 : (0 : Int) ≤ (i : Int) := by omega
     have HL := aM (show n2 = L2.length by omega)
     have HEQ := aM (show L2.map Prod.fst = ds ∧ (L2.map fun x => x.2.1) = fs ∧ (L2.map fun x => x.2.2) = ss ∧ metP L2 = met from ⟨hds, hfs, hss, hmet⟩)
     clear hj4 hmsj hmv hown hmv1 hs hw8 hsg hn0 hn1 hlen hkin hko hp hil hpe hCt hds hfs hss hmet hld hlook hdx hn2 hC hid hcx hlx hCx hk hd hL6
     go_wp2
     clear hjz hj0 hcm
     refine qJB (n := 20) (S := fun w' => True) (ds := []) #[false, false, false, false, false, false, false, false, false, false, false, false, false, false, false, false, false, false, false, false] (by kernel_rfl) rfl rfl trivial (fun hHeld => ?_); refine qNA plTab13 plBits13 (fun HT_ HW_ => ?_)
     refine pS (i := 0) (N := some 64) #[true, false, false, false, false, false, false, false, false, false, false, false, false, false, false, false, false, false, false, false] HT_ ?_
     refine pS (i := 1) (N := some 65) #[true, true, false, false, false, false, false, false, false, false, false, false, false, false, false, false, false, false, false, false] HT_ ?_
     refine pS (i := 2) (N := some 66) #[true, true, true, false, false, false, false, false, false, false, false, false, false, false, false, false, false, false, false, false] HT_ ?_
     refine pS (i := 3) (N := some 67) #[true, true, true, true, false, false, false, false, false, false, false, false, false, false, false, false, false, false, false, false] HT_ ?_
     refine pS (i := 5) (N := some 69) #[true, true, true, true, false, true, false, false, false, false, false, false, false, false, false, false, false, false, false, false] HT_ ?_
     refine pS (i := 8) (N := some 72) #[true, true, true, true, false, true, false, false, true, false, false, false, false, false, false, false, false, false, false, false] HT_ ?_
     refine pS (i := 9) (N := some 73) #[true, true, true, true, false, true, false, false, true, true, false, false, false, false, false, false, false, false, false, false] HT_ ?_
     refine pS (i := 10) (N := some 74) #[true, true, true, true, false, true, false, false, true, true, true, false, false, false, false, false, false, false, false, false] HT_ ?_
     refine pS (i := 11) (N := some 75) #[true, true, true, true, false, true, false, false, true, true, true, true, false, false, false, false, false, false, false, false] HT_ ?_
     refine pS (i := 12) (N := some 76) #[true, true, true, true, false, true, false, false, true, true, true, true, true, false, false, false, false, false, false, false] HT_ ?_
     refine pS (i := 13) (N := some 77) #[true, true, true, true, false, true, false, false, true, true, true, true, true, true, false, false, false, false, false, false] HT_ ?_
     refine inv_at [4, 6, 7, 14, 15, 16, 17, 18, 19] (fun a0_ b a w' => ∃ (vo : Value) (m14_ : Value) (m15_ : Value) (m16_ : Value) (m18_ : Value), a = putSel a0_ b [(4, 68, .slice (some ad) n2 cd), (6, 70, .pointer (some (ad.add i))), (7, 71, .slice Ax x.length cx), (14, 78, m14_), (15, 63, m15_), (16, 79, m16_), (17, 80, .bool true), (18, 14, m18_), (19, 15, .bool true)] ∧ (Below w1.heap.size w1 w') ∧ (Kd.R (plK w1) 26 w' w1.heap.size (fun _ => True) (.slice (some ad) n2 cd) ds) ∧ (Kd.R (Kd.int .i64) 3 w' w1.heap.size (fun _ => True) v1 fs) ∧ (Kd.R Kd.string 9 w' w1.heap.size (fun _ => True) v2 ss) ∧ (Kd.R Kd.string 9 w' w1.heap.size (fun k_ => some k_ ≠ (v2 : Value).ownBlock) (.slice (some adt) nm ct) ms) ∧ (mapK.Is w' gm met) ∧ (w'.heap[gp]? = some (.cells #[.slice (some ad) n2 cd, v1, v2] 92 (0, 0))) ∧ (w'.cell? (ad.add i) = some (.slice Ax x.length cx)) ∧ (Kd.C k53 w' Ax x.length x) ∧ (b 14 = true → Kd.R k53 53 w' w1.heap.size (fun _ => True) vo own) ∧ (b 14 = true → (m14_ : Value) = .tuple #[vo, .bool true]) ∧ (b 15 = true → (m15_ : Value) = .tuple #[vo, .bool true]) ∧ (b 16 = true → (m16_ : Value) = vo) ∧ (b 18 = true → (m18_ : Value) = vo)) HT_.out HW_.out (by kernel_rfl) (by kernel_rfl) ?_ ?_ ?_
     ·exact ⟨.bool false, .bool false, .bool false, .bool false, .bool false, by simp only [putSel, Bool.false_eq_true, if_false], qi B.out, Kd.qS D0.out, Kd.qS F0.out, Kd.qS S0.out, Kd.qS TM.out, M0.out.drew, qD BP.out, CX.out, Kd.qX XR.out, fun h_ => absurd h_ (by decide), fun h_ => absurd h_ (by decide), fun h_ => absurd h_ (by decide), fun h_ => absurd h_ (by decide), fun h_ => absurd h_ (by decide)⟩
     ·skip
      clear B BP CX D0 F0 M0 S0 TM XR
      refine qGA ?_ ?_
      ·rintro b a w' ⟨vo, m14_, m15_, m16_, m18_, ha, Q_B, Q_D0, Q_F0, Q_S0, Q_TM, Q_M0, Q_BP, Q_CX, Q_XR, Q_OW, Q_X14_, Q_X15_, Q_X16_, Q_X18_⟩ hb_ hon hoff
       refine ⟨_, rfl, fun K hK => ?_⟩
       have e67 : a.tmps[67]? = some (.pointer (some ⟨gp, 0, none⟩)) := by rw [ha]; exact (qqA rfl).trans rfl
       replace ha := aM ha
       have B := aM Q_B
       have D0 := aM Q_D0
       have F0 := aM Q_F0
       have S0 := aM Q_S0
       have TM := aM Q_TM
       have M0 := aM Q_M0
       have BP := aM Q_BP
       have CX := aM Q_CX
       have XR := aM Q_XR
       have hc_ : w'.cell? ⟨gp, 0, none⟩ = some (.slice (some ad) n2 cd) := (qw BP.out 0).trans rfl
       refine qfB (w1 := w') (v := .slice (some ad) n2 cd) (by rfl) rfl ?_ ?_
       ·go_simp
        (try simp only [i64_w])
        try rfl
       refine hK.out _ _ ⟨vo, m14_, m15_, m16_, m18_, (by rw [ha.out]; exact qMA 0 hb_ rfl rfl rfl), Q_B, Q_D0, Q_F0, Q_S0, Q_TM, Q_M0, Q_BP, Q_CX, Q_XR, fun h0_ => aF (hoff 14 kr) h0_, fun h0_ => aF (hoff 14 kr) h0_, fun h0_ => aF (hoff 15 kr) h0_, fun h0_ => aF (hoff 16 kr) h0_, fun h0_ => aF (hoff 18 kr) h0_⟩
      refine qGA ?_ ?_
      ·rintro b a w' ⟨vo, m14_, m15_, m16_, m18_, ha, Q_B, Q_D0, Q_F0, Q_S0, Q_TM, Q_M0, Q_BP, Q_CX, Q_XR, Q_OW, Q_X14_, Q_X15_, Q_X16_, Q_X18_⟩ hb_ hon hoff
       refine ⟨_, rfl, fun K hK => ?_⟩
       have e68 : a.tmps[68]? = some (.slice (some ad) n2 cd) := by rw [ha]; exact qYA (e := (4, 68, .slice (some ad) n2 cd)) 0 rfl rfl (hon 4 kr) rfl
       have e69 : a.tmps[69]? = some (.int .i64 (i : Int)) := by rw [ha]; exact (qqA rfl).trans rfl
       replace ha := aM ha
       have B := aM Q_B
       have D0 := aM Q_D0
       have F0 := aM Q_F0
       have S0 := aM Q_S0
       have TM := aM Q_TM
       have M0 := aM Q_M0
       have BP := aM Q_BP
       have CX := aM Q_CX
       have XR := aM Q_XR
       refine qfB (w1 := w') (v := .pointer (some (ad.add i))) (by rfl) rfl ?_ ?_
       ·go_simp
        (try simp only [i64_w])
        try rfl
       refine hK.out _ _ ⟨vo, m14_, m15_, m16_, m18_, (by rw [ha.out]; exact qMA 1 hb_ rfl rfl rfl), Q_B, Q_D0, Q_F0, Q_S0, Q_TM, Q_M0, Q_BP, Q_CX, Q_XR, fun h0_ => aF (hoff 14 kr) h0_, fun h0_ => aF (hoff 14 kr) h0_, fun h0_ => aF (hoff 15 kr) h0_, fun h0_ => aF (hoff 16 kr) h0_, fun h0_ => aF (hoff 18 kr) h0_⟩
      refine qGA ?_ ?_
      ·rintro b a w' ⟨vo, m14_, m15_, m16_, m18_, ha, Q_B, Q_D0, Q_F0, Q_S0, Q_TM, Q_M0, Q_BP, Q_CX, Q_XR, Q_OW, Q_X14_, Q_X15_, Q_X16_, Q_X18_⟩ hb_ hon hoff
       refine ⟨_, rfl, fun K hK => ?_⟩
       have e70 : a.tmps[70]? = some (.pointer (some (ad.add i))) := by rw [ha]; exact qYA (e := (6, 70, .pointer (some (ad.add i)))) 1 rfl rfl (hon 6 kr) rfl
       replace ha := aM ha
       have B := aM Q_B
       have D0 := aM Q_D0
       have F0 := aM Q_F0
       have S0 := aM Q_S0
       have TM := aM Q_TM
       have M0 := aM Q_M0
       have BP := aM Q_BP
       have CX := aM Q_CX
       have XR := aM Q_XR
       have hc_ := CX.out
       refine qfB (w1 := w') (v := .slice Ax x.length cx) (by rfl) rfl ?_ ?_
       ·go_simp
        (try simp only [i64_w])
        try rfl
       refine hK.out _ _ ⟨vo, m14_, m15_, m16_, m18_, (by rw [ha.out]; exact qMA 2 hb_ rfl rfl rfl), Q_B, Q_D0, Q_F0, Q_S0, Q_TM, Q_M0, Q_BP, Q_CX, Q_XR, fun h0_ => aF (hoff 14 kr) h0_, fun h0_ => aF (hoff 14 kr) h0_, fun h0_ => aF (hoff 15 kr) h0_, fun h0_ => aF (hoff 16 kr) h0_, fun h0_ => aF (hoff 18 kr) h0_⟩
      refine qGA ?_ ?_
      ·rintro b a w' ⟨vo, m14_, m15_, m16_, m18_, ha, Q_B, Q_D0, Q_F0, Q_S0, Q_TM, Q_M0, Q_BP, Q_CX, Q_XR, Q_OW, Q_X14_, Q_X15_, Q_X16_, Q_X18_⟩ hb_ hon hoff
       refine ⟨_, rfl, fun K hK => ?_⟩
       have e64 : a.tmps[64]? = some (.slice Ag rows.length cg) := by rw [ha]; exact (qqA rfl).trans rfl
       have e71 : a.tmps[71]? = some (.slice Ax x.length cx) := by rw [ha]; exact qYA (e := (7, 71, .slice Ax x.length cx)) 2 rfl rfl (hon 7 kr) rfl
       have e75 : a.tmps[75]? = some (.int .i64 (k : Int)) := by rw [ha]; exact (qqA rfl).trans rfl
       have e77 : a.tmps[77]? = some (.int .u8 n1) := by rw [ha]; exact (qqA rfl).trans rfl
       replace ha := aM ha
       have B := aM Q_B
       have D0 := aM Q_D0
       have F0 := aM Q_F0
       have S0 := aM Q_S0
       have TM := aM Q_TM
       have M0 := aM Q_M0
       have BP := aM Q_BP
       have CX := aM Q_CX
       have XR := aM Q_XR
       refine goes_ Tryz.func53 (by kernel_rfl) rfl #[.slice Ag rows.length cg, .slice Ax x.length cx, .int .i64 (k : Int), .int .u8 n1] (by rfl) rfl rfl (by simp only [List.map_toArray, List.map_cons, List.map_nil, qRC e64, qRC e71, qRC e75, qRC e77]) ?_
       refine (qeA.calls Ag cg rows Ax cx x (k : Int) n1 own true w' (Kd.qV HG.out B.out) HCG.out XR.out HXC.out HMV.out).mono ?_
       rintro e_ w1_ ⟨vo_, rfl, hR_, hb_1⟩
       refine ⟨_, rfl, ?_⟩
       refine hK.out _ _ ⟨vo_, (.tuple #[vo_, .bool true]), m15_, m16_, m18_, (by rw [ha.out]; exact qMA 3 hb_ rfl rfl rfl), qEA B.out B.out.size hb_1, Kd.qc D0.out hb_1, Kd.qc F0.out hb_1, Kd.qc S0.out hb_1, Kd.qc TM.out hb_1, M0.out.below hb_1, qCA BP.out hb_1, (hb_1.cell (World.block_lt_of_cell? _ _ CX.out)).trans CX.out, Kd.qV XR.out hb_1, fun _ => Kd.qz hR_ B.out.size, fun _ => rfl, fun h0_ => aF (hoff 15 kr) h0_, fun h0_ => aF (hoff 16 kr) h0_, fun h0_ => aF (hoff 18 kr) h0_⟩
      refine qGA ?_ ?_
      ·rintro b a w' ⟨vo, m14_, m15_, m16_, m18_, ha, Q_B, Q_D0, Q_F0, Q_S0, Q_TM, Q_M0, Q_BP, Q_CX, Q_XR, Q_OW, Q_X14_, Q_X15_, Q_X16_, Q_X18_⟩ hb_ hon hoff
       refine ⟨_, rfl, fun K hK => ?_⟩
       have e78 : a.tmps[78]? = some (m14_) := by rw [ha]; exact qYA (e := (14, 78, m14_)) 3 rfl rfl (hon 14 kr) rfl
       rw [Q_X14_ (hon 14 kr)] at e78
       replace ha := aM ha
       have B := aM Q_B
       have D0 := aM Q_D0
       have F0 := aM Q_F0
       have S0 := aM Q_S0
       have TM := aM Q_TM
       have M0 := aM Q_M0
       have BP := aM Q_BP
       have CX := aM Q_CX
       have XR := aM Q_XR
       have OW := aM (Q_OW (hon 14 kr))
       refine qfB (w1 := w') (v := .tuple #[vo, .bool true]) (by rfl) rfl ?_ ?_
       ·go_simp
        (try simp only [i64_w])
        try rfl
       refine hK.out _ _ ⟨vo, m14_, (.tuple #[vo, .bool true]), m16_, m18_, (by rw [ha.out]; exact qMA 4 hb_ rfl rfl rfl), Q_B, Q_D0, Q_F0, Q_S0, Q_TM, Q_M0, Q_BP, Q_CX, Q_XR, Q_OW, Q_X14_, fun _ => rfl, fun h0_ => aF (hoff 16 kr) h0_, fun h0_ => aF (hoff 18 kr) h0_⟩
      refine qGA ?_ ?_
      ·rintro b a w' ⟨vo, m14_, m15_, m16_, m18_, ha, Q_B, Q_D0, Q_F0, Q_S0, Q_TM, Q_M0, Q_BP, Q_CX, Q_XR, Q_OW, Q_X14_, Q_X15_, Q_X16_, Q_X18_⟩ hb_ hon hoff
       refine ⟨_, rfl, fun K hK => ?_⟩
       have e63 : a.tmps[63]? = some (m15_) := by rw [ha]; exact qYA (e := (15, 63, m15_)) 4 rfl rfl (hon 15 kr) rfl
       rw [Q_X15_ (hon 15 kr)] at e63
       replace ha := aM ha
       have B := aM Q_B
       have D0 := aM Q_D0
       have F0 := aM Q_F0
       have S0 := aM Q_S0
       have TM := aM Q_TM
       have M0 := aM Q_M0
       have BP := aM Q_BP
       have CX := aM Q_CX
       have XR := aM Q_XR
       have OW := aM (Q_OW (hon 14 kr))
       refine qfB (w1 := w') (v := vo) (by rfl) rfl ?_ ?_
       ·go_simp
        (try simp only [i64_w])
        try rfl
       refine hK.out _ _ ⟨vo, m14_, m15_, (vo), m18_, (by rw [ha.out]; exact qMA 5 hb_ rfl rfl rfl), Q_B, Q_D0, Q_F0, Q_S0, Q_TM, Q_M0, Q_BP, Q_CX, Q_XR, Q_OW, Q_X14_, Q_X15_, fun _ => rfl, fun h0_ => aF (hoff 18 kr) h0_⟩
      refine qGA ?_ ?_
      ·rintro b a w' ⟨vo, m14_, m15_, m16_, m18_, ha, Q_B, Q_D0, Q_F0, Q_S0, Q_TM, Q_M0, Q_BP, Q_CX, Q_XR, Q_OW, Q_X14_, Q_X15_, Q_X16_, Q_X18_⟩ hb_ hon hoff
       refine ⟨_, rfl, fun K hK => ?_⟩
       have e63 : a.tmps[63]? = some (m15_) := by rw [ha]; exact qYA (e := (15, 63, m15_)) 4 rfl rfl (hon 15 kr) rfl
       rw [Q_X15_ (hon 15 kr)] at e63
       replace ha := aM ha
       have B := aM Q_B
       have D0 := aM Q_D0
       have F0 := aM Q_F0
       have S0 := aM Q_S0
       have TM := aM Q_TM
       have M0 := aM Q_M0
       have BP := aM Q_BP
       have CX := aM Q_CX
       have XR := aM Q_XR
       have OW := aM (Q_OW (hon 14 kr))
       refine qfB (w1 := w') (v := .bool true) (by rfl) rfl ?_ ?_
       ·go_simp
        (try simp only [i64_w])
        try rfl
       refine hK.out _ _ ⟨vo, m14_, m15_, m16_, m18_, (by rw [ha.out]; exact qMA 6 hb_ rfl rfl rfl), Q_B, Q_D0, Q_F0, Q_S0, Q_TM, Q_M0, Q_BP, Q_CX, Q_XR, Q_OW, Q_X14_, Q_X15_, Q_X16_, Q_X18_⟩
      refine qGA ?_ ?_
      ·rintro b a w' ⟨vo, m14_, m15_, m16_, m18_, ha, Q_B, Q_D0, Q_F0, Q_S0, Q_TM, Q_M0, Q_BP, Q_CX, Q_XR, Q_OW, Q_X14_, Q_X15_, Q_X16_, Q_X18_⟩ hb_ hon hoff
       refine ⟨_, rfl, fun K hK => ?_⟩
       have e79 : a.tmps[79]? = some (m16_) := by rw [ha]; exact qYA (e := (16, 79, m16_)) 5 rfl rfl (hon 16 kr) rfl
       rw [Q_X16_ (hon 16 kr)] at e79
       replace ha := aM ha
       have B := aM Q_B
       have D0 := aM Q_D0
       have F0 := aM Q_F0
       have S0 := aM Q_S0
       have TM := aM Q_TM
       have M0 := aM Q_M0
       have BP := aM Q_BP
       have CX := aM Q_CX
       have XR := aM Q_XR
       have OW := aM (Q_OW (hon 14 kr))
       refine qfB (w1 := w') (v := vo) (by rfl) rfl ?_ ?_
       ·go_simp
        (try simp only [i64_w])
        try rfl
       refine hK.out _ _ ⟨vo, m14_, m15_, m16_, (vo), (by rw [ha.out]; exact qMA 7 hb_ rfl rfl rfl), Q_B, Q_D0, Q_F0, Q_S0, Q_TM, Q_M0, Q_BP, Q_CX, Q_XR, Q_OW, Q_X14_, Q_X15_, Q_X16_, fun _ => rfl⟩
      refine qGA ?_ ?_
      ·rintro b a w' ⟨vo, m14_, m15_, m16_, m18_, ha, Q_B, Q_D0, Q_F0, Q_S0, Q_TM, Q_M0, Q_BP, Q_CX, Q_XR, Q_OW, Q_X14_, Q_X15_, Q_X16_, Q_X18_⟩ hb_ hon hoff
       refine ⟨_, rfl, fun K hK => ?_⟩
       have e80 : a.tmps[80]? = some (.bool true) := by rw [ha]; exact qYA (e := (17, 80, .bool true)) 6 rfl rfl (hon 17 kr) rfl
       replace ha := aM ha
       have B := aM Q_B
       have D0 := aM Q_D0
       have F0 := aM Q_F0
       have S0 := aM Q_S0
       have TM := aM Q_TM
       have M0 := aM Q_M0
       have BP := aM Q_BP
       have CX := aM Q_CX
       have XR := aM Q_XR
       have OW := aM (Q_OW (hon 14 kr))
       refine qfB (w1 := w') (v := .bool true) (by rfl) rfl ?_ ?_
       ·go_simp
        (try simp only [i64_w])
        try rfl
       refine hK.out _ _ ⟨vo, m14_, m15_, m16_, m18_, (by rw [ha.out]; exact qMA 8 hb_ rfl rfl rfl), Q_B, Q_D0, Q_F0, Q_S0, Q_TM, Q_M0, Q_BP, Q_CX, Q_XR, Q_OW, Q_X14_, Q_X15_, Q_X16_, Q_X18_⟩
      exact steps_nil
     ·rintro b a w' hall ⟨vo, m14_, m15_, m16_, m18_, ha, Q_B, Q_D0, Q_F0, Q_S0, Q_TM, Q_M0, Q_BP, Q_CX, Q_XR, Q_OW, Q_X14_, Q_X15_, Q_X16_, Q_X18_⟩
      clear B BP CX D0 F0 M0 S0 TM XR
      have hb4_ := hall 4 (by kernel_rfl)
      have hb6_ := hall 6 (by kernel_rfl)
      have hb7_ := hall 7 (by kernel_rfl)
      have hb14_ := hall 14 (by kernel_rfl)
      have hb15_ := hall 15 (by kernel_rfl)
      have hb16_ := hall 16 (by kernel_rfl)
      have hb17_ := hall 17 (by kernel_rfl)
      have hb18_ := hall 18 (by kernel_rfl)
      have hb19_ := hall 19 (by kernel_rfl)
      subst ha
      obtain rfl := Q_X14_ hb14_
      obtain rfl := Q_X15_ hb15_
      obtain rfl := Q_X16_ hb16_
      obtain rfl := Q_X18_ hb18_
      simp only [putSel, hb4_, hb6_, hb7_, hb14_, hb15_, hb16_, hb17_, hb18_, hb19_, if_true, Act.put, List.setIfInBounds_toArray, List.set_cons_zero, List.set_cons_succ]
      have B := aM Q_B
      clear Q_B
      have D0 := aM Q_D0
      clear Q_D0
      have F0 := aM Q_F0
      clear Q_F0
      have S0 := aM Q_S0
      clear Q_S0
      have TM := aM Q_TM
      clear Q_TM
      have M0 := aM Q_M0
      clear Q_M0
      have BP := aM Q_BP
      clear Q_BP
      have CX := aM Q_CX
      clear Q_CX
      have XR := aM Q_XR
      clear Q_XR
      have OW := aM (Q_OW hb14_)
      clear Q_OW hall hb4_ hb6_ hb7_ hb14_ hb15_ hb16_ hb17_ hb18_ hb19_
      obtain ⟨Ao, co, rfl⟩ := Kd.qDA OW.out
      clear CX XR HXC hin hi0 hwk hwi hix0 hix1 hsz HMV
      go_wp2_with (first
       | ((with_reducible refine qXC (s := 82) rfl ?_); go_loud (refine qtD (some 84) 82 rfl rfl Tryz.func51 (by kernel_rfl) rfl #[.slice Ao own.length co] rfl rfl (by (try simp only [List.map_toArray, List.map_cons, List.map_nil]); first | done | rfl | simp) ?_; refine (qqD Ao co own _ (Kd.qO OW.out).2.2 HOL.out.1 HOL.out.2).mono ?_; rintro e w3 ⟨rfl, hb⟩; refine ⟨_, rfl, ?_⟩; replace D0 := aM (Kd.qc D0.out hb); replace F0 := aM (Kd.qc F0.out hb); replace S0 := aM (Kd.qc S0.out hb); replace TM := aM (Kd.qc TM.out hb); replace M0 := aM (M0.out.below hb); replace BP := aM (qCA BP.out hb); replace B := aM (qEA B.out B.out.size hb); replace OW := aM (Kd.qc OW.out hb); clear hb)))
      rw [HLOOK.out _ M0.out]
      by_cases hmt : own ∈ ds
      ·have HMT := aM hmt
       rw [decide_eq_true hmt]
       clear hmt
       go_wp2
       go_roundg (nm - (j + 1))
       case measure => omega
       case rel => exact ⟨L2, j + 1, _, _, _, by push_cast; rfl, by omega, ⟨HN.out.met HS.out (by rw [HEQ.out.1]; exact HMT.out)⟩, by rw [HEQ.out.1]; exact D0, by rw [HEQ.out.2.1]; exact F0, by rw [HEQ.out.2.2.1]; exact S0, TM, by rw [HEQ.out.2.2.2]; exact M0, BP, B⟩
      ·have HMT := aM hmt
       rw [decide_eq_false hmt]
       clear hmt
       have hc1 : w3.cell? ⟨gp, 0, none⟩ = some (.slice (some ad) n2 cd) := (qw BP.out 0).trans rfl
       by_cases h6 : n2 = 6000
       ·have h6z : (n2 : Int) = 6000 := by omega
        have HRN := aM (HN.out.full HS.out (by rw [HEQ.out.1]; exact HMT.out) (by rw [← HL.out]; exact h6))
        go_wp2
        go_ret2
        rw [HRN.out]
        exact ⟨_, rfl, fun L h => by simp at h, qB BW.out B.out⟩
       ·have h6z : ¬ (n2 : Int) = 6000 := by omega
        have H6 := aM h6
        clear h6
        go_wp2_with (first
         | ((with_reducible refine qXC (s := 93) rfl ?_); go_loud (refine qtD (some 95) 93 rfl rfl Tryz.func51 (by kernel_rfl) rfl #[.slice Ao own.length co] rfl rfl (by (try simp only [List.map_toArray, List.map_cons, List.map_nil]); first | done | rfl | simp) ?_; refine (qqD Ao co own _ (Kd.qO OW.out).2.2 HOL.out.1 HOL.out.2).mono ?_; rintro e w4 ⟨rfl, hb⟩; refine ⟨_, rfl, ?_⟩; replace D0 := aM (Kd.qc D0.out hb); replace F0 := aM (Kd.qc F0.out hb); replace S0 := aM (Kd.qc S0.out hb); replace TM := aM (Kd.qc TM.out hb); replace M0 := aM (M0.out.below hb); replace BP := aM (qCA BP.out hb); replace B := aM (qEA B.out B.out.size hb); replace OW := aM (Kd.qc OW.out hb); clear hb)))
        obtain ⟨w5, hrun9, hM9, hgr9⟩ := M0.out.run_put (show met.length < maxLen by have h1 := HEQ.out.2.2.2; have h2 := HN.out.ok.len; rw [← h1, metP_len]; unfold maxLen; omega) HOK.out (v := true) trivial
        have hrun9' : (Instr.mapUpdate 93 (.map (some gm)) (encK own) (.bool true)).run Tryz.prog w4 = .ok () w5 := hrun9
        rw [hrun9']
        have n0_ := aM (M0.out.row D0.out hgr9)
        have n1_ := aM (M0.out.row F0.out hgr9)
        have n2_ := aM (M0.out.row S0.out hgr9)
        have n3_ := aM (M0.out.row TM.out hgr9)
        have n4_ := aM (M0.out.row OW.out hgr9)
        have P0 := aM (qn BP.out hgr9 (fun e_ => HNE.out (by injection e_ with e_; exact e_.symm)))
        have n5_ := aM (B.out.grown hgr9 B.out.size (fun k_ e_ => by cases e_; exact HGM.out))
        have M1 := aM (show mapK.Is w5 gm ((keyL own, true) :: met) from hM9)
        clear hrun9 hrun9' hM9 hgr9 D0 F0 S0 TM OW BP B M0 hc1 h6z
        have D0 := n0_
        have F0 := n1_
        have S0 := n2_
        have TM := n3_
        have OW := n4_
        have B := n5_
        clear n0_ n1_ n2_ n3_ n4_ n5_
        go_wp2
        obtain ⟨met1, hmm1⟩ : ∃ met1, (keyL own, true) :: met = met1 := ⟨_, rfl⟩
        rw [hmm1] at M1
        have HMM := aM hmm1
        clear hmm1
        refine qJB (n := 33) (S := fun w' => True) (ds := []) #[false, false, false, false, false, false, false, false, false, false, false, false, false, false, false, false, false, false, false, false, false, false, false, false, false, false, false, false, false, false, false, false, false] (by kernel_rfl) rfl rfl trivial (fun hHeld => ?_); refine qNA plTab18 plBits18 (fun HT_ HW_ => ?_)
        refine pS (i := 0) (N := some 96) #[true, false, false, false, false, false, false, false, false, false, false, false, false, false, false, false, false, false, false, false, false, false, false, false, false, false, false, false, false, false, false, false, false] HT_ ?_
        refine pS (i := 1) (N := some 97) #[true, true, false, false, false, false, false, false, false, false, false, false, false, false, false, false, false, false, false, false, false, false, false, false, false, false, false, false, false, false, false, false, false] HT_ ?_
        refine pS (i := 2) (N := some 98) #[true, true, true, false, false, false, false, false, false, false, false, false, false, false, false, false, false, false, false, false, false, false, false, false, false, false, false, false, false, false, false, false, false] HT_ ?_
        refine pS (i := 3) (N := some 99) #[true, true, true, true, false, false, false, false, false, false, false, false, false, false, false, false, false, false, false, false, false, false, false, false, false, false, false, false, false, false, false, false, false] HT_ ?_
        refine pS (i := 4) (N := some 100) #[true, true, true, true, true, false, false, false, false, false, false, false, false, false, false, false, false, false, false, false, false, false, false, false, false, false, false, false, false, false, false, false, false] HT_ ?_
        refine pS (i := 5) (N := some 101) #[true, true, true, true, true, true, false, false, false, false, false, false, false, false, false, false, false, false, false, false, false, false, false, false, false, false, false, false, false, false, false, false, false] HT_ ?_
        refine pS (i := 7) (N := some 103) #[true, true, true, true, true, true, false, true, false, false, false, false, false, false, false, false, false, false, false, false, false, false, false, false, false, false, false, false, false, false, false, false, false] HT_ ?_
        refine pS (i := 10) (N := some 106) #[true, true, true, true, true, true, false, true, false, false, true, false, false, false, false, false, false, false, false, false, false, false, false, false, false, false, false, false, false, false, false, false, false] HT_ ?_
        refine pS (i := 11) (N := some 107) #[true, true, true, true, true, true, false, true, false, false, true, true, false, false, false, false, false, false, false, false, false, false, false, false, false, false, false, false, false, false, false, false, false] HT_ ?_
        refine pS (i := 12) (N := some 108) #[true, true, true, true, true, true, false, true, false, false, true, true, true, false, false, false, false, false, false, false, false, false, false, false, false, false, false, false, false, false, false, false, false] HT_ ?_
        refine pS (i := 14) (N := some 110) #[true, true, true, true, true, true, false, true, false, false, true, true, true, false, true, false, false, false, false, false, false, false, false, false, false, false, false, false, false, false, false, false, false] HT_ ?_
        refine pS (i := 17) (N := some 113) #[true, true, true, true, true, true, false, true, false, false, true, true, true, false, true, false, false, true, false, false, false, false, false, false, false, false, false, false, false, false, false, false, false] HT_ ?_
        refine pS (i := 18) (N := some 114) #[true, true, true, true, true, true, false, true, false, false, true, true, true, false, true, false, false, true, true, false, false, false, false, false, false, false, false, false, false, false, false, false, false] HT_ ?_
        refine pS (i := 19) (N := some 115) #[true, true, true, true, true, true, false, true, false, false, true, true, true, false, true, false, false, true, true, true, false, false, false, false, false, false, false, false, false, false, false, false, false] HT_ ?_
        refine pS (i := 21) (N := some 117) #[true, true, true, true, true, true, false, true, false, false, true, true, true, false, true, false, false, true, true, true, false, true, false, false, false, false, false, false, false, false, false, false, false] HT_ ?_
        refine inv_at [6, 8, 9, 13, 15, 16, 20, 22, 23, 24, 25, 26, 27, 28, 29, 30, 31, 32] (fun a0_ b a w' => ∃ (s104 : Value) (s105 : Value) (s111 : Value) (s112 : Value) (s118 : Value) (s119 : Value), a = putSel a0_ b [(6, 102, .slice (some ad) n2 cd), (8, 104, s104), (9, 105, s105), (13, 109, v1), (15, 111, s111), (16, 112, s112), (20, 116, v2), (22, 118, s118), (23, 119, s119), (24, 120, .pointer (some ⟨gp, 0, none⟩)), (25, 121, .pointer (some ⟨gp, 0, none⟩)), (27, 122, .pointer (some ⟨gp, 0, none⟩)), (28, 123, .pointer (some ⟨gp, 1, none⟩)), (30, 124, .pointer (some ⟨gp, 0, none⟩)), (31, 125, .pointer (some ⟨gp, 2, none⟩))] ∧ (Below w1.heap.size w1 w') ∧ (b 26 = false → w'.heap[gp]? = some (.cells #[.slice (some ad) n2 cd, v1, v2] 92 (0, 0))) ∧ (b 26 = true → b 29 = false → w'.heap[gp]? = some (.cells #[s105, v1, v2] 92 (0, 0))) ∧ (b 29 = true → b 32 = false → w'.heap[gp]? = some (.cells #[s105, s112, v2] 92 (0, 0))) ∧ (b 32 = true → w'.heap[gp]? = some (.cells #[s105, s112, s119] 92 (0, 0))) ∧ (mapK.Is w' gm met1) ∧ (b 9 = false → Kd.R (plK w1) 26 w' w1.heap.size (fun _ => True) (.slice (some ad) n2 cd) ds) ∧ (b 8 = false → Kd.R k53 53 w' w1.heap.size (fun _ => True) (.slice Ao own.length co) own) ∧ (b 8 = true → b 9 = false → Kd.R (plK w1) 26 w' w1.heap.size (fun k_ => some k_ ≠ ((.slice (some ad) n2 cd) : Value).ownBlock) s104 [own]) ∧ (b 9 = true → Kd.R (plK w1) 26 w' w1.heap.size (fun _ => True) s105 (ds ++ [own])) ∧ (b 16 = false → Kd.R (Kd.int .i64) 3 w' w1.heap.size (fun _ => True) v1 fs) ∧ (b 15 = true → b 16 = false → Kd.R (Kd.int .i64) 3 w' w1.heap.size (fun k_ => some k_ ≠ (v1 : Value).ownBlock) s111 [(i : Int)]) ∧ (b 16 = true → Kd.R (Kd.int .i64) 3 w' w1.heap.size (fun _ => True) s112 (fs ++ [(i : Int)])) ∧ (b 23 = false → Kd.R Kd.string 9 w' w1.heap.size (fun _ => True) v2 ss) ∧ (b 22 = true → b 23 = false → Kd.R Kd.string 9 w' w1.heap.size (fun k_ => some k_ ≠ (v2 : Value).ownBlock) s118 [sg]) ∧ (b 23 = true → Kd.R Kd.string 9 w' w1.heap.size (fun _ => True) s119 (ss ++ [sg])) ∧ (b 23 = false → Kd.R Kd.string 9 w' w1.heap.size (fun k_ => some k_ ≠ (v2 : Value).ownBlock) (.slice (some adt) nm ct) ms) ∧ (b 23 = true → Kd.R Kd.string 9 w' w1.heap.size (fun k_ => some k_ ≠ (s119 : Value).ownBlock) (.slice (some adt) nm ct) ms)) HT_.out HW_.out (by kernel_rfl) (by kernel_rfl) ?_ ?_ ?_
        ·exact ⟨.bool false, .bool false, .bool false, .bool false, .bool false, .bool false, by simp only [putSel, Bool.false_eq_true, if_false], qi B.out, fun _ => qD P0.out, fun h_ => absurd h_ (by decide), fun h_ => absurd h_ (by decide), fun h_ => absurd h_ (by decide), M1.out.drew, fun _ => Kd.qS D0.out, fun _ => Kd.qS OW.out, fun h_ => absurd h_ (by decide), fun h_ => absurd h_ (by decide), fun _ => Kd.qS F0.out, fun h_ => absurd h_ (by decide), fun h_ => absurd h_ (by decide), fun _ => Kd.qS S0.out, fun h_ => absurd h_ (by decide), fun h_ => absurd h_ (by decide), fun _ => Kd.qS TM.out, fun h_ => absurd h_ (by decide)⟩
        ·skip
         clear B D0 F0 M1 OW P0 S0 TM
         refine qGA ?_ ?_
         ·rintro b a w' ⟨s104, s105, s111, s112, s118, s119, ha, Q_B, Q_P0, Q_P1, Q_P2, Q_P3, Q_M1, Q_D0, Q_OW, Q_LD, Q_D1, Q_F0, Q_LF, Q_F1, Q_S0, Q_LS, Q_S1, Q_TM, Q_TN⟩ hb_ hon hoff
          refine ⟨_, rfl, fun K hK => ?_⟩
          have e101 : a.tmps[101]? = some (.pointer (some ⟨gp, 0, none⟩)) := by rw [ha]; exact (qqA rfl).trans rfl
          replace ha := aM ha
          have B := aM Q_B
          have P0 := aM (Q_P0 (hoff 26 kr))
          have M1 := aM Q_M1
          have D0 := aM (Q_D0 (hoff 9 kr))
          have F0 := aM (Q_F0 (hoff 16 kr))
          have S0 := aM (Q_S0 (hoff 23 kr))
          have TM := aM (Q_TM (hoff 23 kr))
          have hc_ : w'.cell? ⟨gp, 0, none⟩ = some (.slice (some ad) n2 cd) := (qw P0.out 0).trans rfl
          refine qfB (w1 := w') (v := .slice (some ad) n2 cd) (by rfl) rfl ?_ ?_
          ·go_simp
           (try simp only [i64_w])
           try rfl
          refine hK.out _ _ ⟨s104, s105, s111, s112, s118, s119, (by rw [ha.out]; exact qMA 0 hb_ rfl rfl rfl), Q_B, Q_P0, fun h0_ _ => aF (hoff 26 kr) h0_, fun h0_ _ => aF (hoff 29 kr) h0_, fun h0_ => aF (hoff 32 kr) h0_, Q_M1, Q_D0, Q_OW, Q_LD, fun h0_ => aF (hoff 9 kr) h0_, Q_F0, Q_LF, fun h0_ => aF (hoff 16 kr) h0_, Q_S0, Q_LS, fun h0_ => aF (hoff 23 kr) h0_, Q_TM, fun h0_ => aF (hoff 23 kr) h0_⟩
         refine qGA ?_ ?_
         ·rintro b a w' ⟨s104, s105, s111, s112, s118, s119, ha, Q_B, Q_P0, Q_P1, Q_P2, Q_P3, Q_M1, Q_D0, Q_OW, Q_LD, Q_D1, Q_F0, Q_LF, Q_F1, Q_S0, Q_LS, Q_S1, Q_TM, Q_TN⟩ hb_ hon hoff
          refine ⟨_, rfl, fun K hK => ?_⟩
          have e103 : a.tmps[103]? = some (.slice Ao own.length co) := by rw [ha]; exact (qqA rfl).trans rfl
          replace ha := aM ha
          have B := aM Q_B
          have P0 := aM (Q_P0 (hoff 26 kr))
          have M1 := aM Q_M1
          have D0 := aM (Q_D0 (hoff 9 kr))
          have OW := aM (Q_OW hb_)
          have F0 := aM (Q_F0 (hoff 16 kr))
          have S0 := aM (Q_S0 (hoff 23 kr))
          have TM := aM (Q_TM (hoff 23 kr))
          refine Kd.qtA (plK w1) (w0 := w1) w1.heap.size 26 (by rfl) (N := 104) rfl (xs := ([own] : List _)) (inner := [.slice Ao own.length co]) (ok := fun k_ => some k_ ≠ (.slice (some ad) n2 cd : Value).ownBlock) (okp := fun k_ => True ∧ some k_ ≠ (.slice (some ad) n2 cd : Value).ownBlock) ?hr8 ?hp8 (fun _ hk => hk.2) (Kd.fresh' (Kd.R_lt D0.out) _ (Nat.le_refl _)) B.out B.out.size (by simp) ?_
          case hr8 => first | (go_simp; done) | (go_simp; rfl)
          case hp8 => exact Reps.one (Kd.mix_made (Kd.qwB OW.out (Kd.qIB D0.out) (by decide))) (Reps.none _ _)
          intro v_ w1_ hR_ hB_ hg_ _
          refine hK.out _ _ ⟨v_, s105, s111, s112, s118, s119, (by rw [ha.out]; exact qMA 1 hb_ rfl rfl rfl), hB_, fun _ => qn P0.out hg_ (by simp), fun h0_ _ => aF (hoff 26 kr) h0_, fun h0_ _ => aF (hoff 29 kr) h0_, fun h0_ => aF (hoff 32 kr) h0_, M1.out.qEC (hg_.block gm M1.out.lt (by simp)), fun _ => plLit0 D0.out hg_, fun h0_ => absurd ((qkB b 8).symm.trans h0_) (by decide), fun _ _ => hR_, fun h0_ => aF (hoff 9 kr) h0_, fun _ => plLit0 F0.out hg_, fun h0_ h1_ => plLit0 (Q_LF h0_ h1_) hg_, fun h0_ => aF (hoff 16 kr) h0_, fun _ => plLit0 S0.out hg_, fun h0_ h1_ => plLit0 (Q_LS h0_ h1_) hg_, fun h0_ => aF (hoff 23 kr) h0_, fun _ => plLit0 TM.out hg_, fun h0_ => aF (hoff 23 kr) h0_⟩
         refine qGA ?_ ?_
         ·rintro b a w' ⟨s104, s105, s111, s112, s118, s119, ha, Q_B, Q_P0, Q_P1, Q_P2, Q_P3, Q_M1, Q_D0, Q_OW, Q_LD, Q_D1, Q_F0, Q_LF, Q_F1, Q_S0, Q_LS, Q_S1, Q_TM, Q_TN⟩ hb_ hon hoff
          refine ⟨_, rfl, fun K hK => ?_⟩
          have e102 : a.tmps[102]? = some (.slice (some ad) n2 cd) := by rw [ha]; exact qYA (e := (6, 102, .slice (some ad) n2 cd)) 0 rfl rfl (hon 6 kr) rfl
          have e104 : a.tmps[104]? = some (s104) := by rw [ha]; exact qYA (e := (8, 104, s104)) 1 rfl rfl (hon 8 kr) rfl
          replace ha := aM ha
          have B := aM Q_B
          have P0 := aM (Q_P0 (hoff 26 kr))
          have M1 := aM Q_M1
          have D0 := aM (Q_D0 hb_)
          have LD := aM (Q_LD (hon 8 kr) hb_)
          have F0 := aM (Q_F0 (hoff 16 kr))
          have S0 := aM (Q_S0 (hoff 23 kr))
          have TM := aM (Q_TM (hoff 23 kr))
          obtain ⟨A_, c_, hs_, hle_, HRd_⟩ := OwnRow.reads LD.out.2
          have hbd_ := HBD.out
          refine Kd.qKA (plK w1) (w0 := w1) w1.heap.size (by rfl) (.tmp 102) (.tmp 104) 90 26 (.slice none 0 0) 24 rfl Tryz.underlying90 plInfo rfl (by show 0 < 1; omega) (by omega) (.slice (some ad) n2 cd) ds [own] A_ _ c_ (fun _ => True) (fun k_ => some k_ ≠ ((.slice (some ad) n2 cd) : Value).ownBlock ∧ some k_ ≠ (s104 : Value).ownBlock) (qRC e102) ((qRC e104).trans hs_) D0.out HRd_ (fun _ _ h_ => h_) (fun _ hk => ⟨trivial, hk.1⟩) (fun _ _ => trivial) B.out B.out.size (by simp only [List.length_cons, List.length_nil]; omega) ?_
          intro v_ w1_ hR_ hB_ hg_ hat_
          refine hK.out _ _ ⟨s104, v_, s111, s112, s118, s119, (by rw [ha.out]; exact qMA 2 hb_ rfl rfl rfl), hB_, fun _ => qn P0.out hg_ (Kd.R_ne D0.out P0.out (by decide)), fun h0_ _ => aF (hoff 26 kr) h0_, fun h0_ _ => aF (hoff 29 kr) h0_, fun h0_ => aF (hoff 32 kr) h0_, M1.out.qEC (hg_.block gm M1.out.lt (M1.out.ne D0.out)), fun h0_ => absurd ((qkB b 9).symm.trans h0_) (by decide), fun h0_ => aT (hon 8 kr) h0_, fun _ h1_ => absurd ((qkB b 9).symm.trans h1_) (by decide), fun _ => hR_, fun _ => Kd.qXB F0.out (Kd.qIB D0.out) (by decide) hg_, fun h0_ h1_ => Kd.qXB (Q_LF h0_ h1_) (Kd.qIB D0.out) (by decide) hg_, fun h0_ => aF (hoff 16 kr) h0_, fun _ => Kd.qXB S0.out (Kd.qIB D0.out) (by decide) hg_, fun h0_ h1_ => Kd.qXB (Q_LS h0_ h1_) (Kd.qIB D0.out) (by decide) hg_, fun h0_ => aF (hoff 23 kr) h0_, fun _ => Kd.qXB TM.out (Kd.qIB D0.out) (by decide) hg_, fun h0_ => aF (hoff 23 kr) h0_⟩
         refine qGA ?_ ?_
         ·rintro b a w' ⟨s104, s105, s111, s112, s118, s119, ha, Q_B, Q_P0, Q_P1, Q_P2, Q_P3, Q_M1, Q_D0, Q_OW, Q_LD, Q_D1, Q_F0, Q_LF, Q_F1, Q_S0, Q_LS, Q_S1, Q_TM, Q_TN⟩ hb_ hon hoff
          refine ⟨_, rfl, fun K hK => ?_⟩
          have e108 : a.tmps[108]? = some (.pointer (some ⟨gp, 1, none⟩)) := by rw [ha]; exact (qqA rfl).trans rfl
          replace ha := aM ha
          have B := aM Q_B
          have P0 := aM (Q_P0 (hoff 26 kr))
          have M1 := aM Q_M1
          have F0 := aM (Q_F0 (hoff 16 kr))
          have S0 := aM (Q_S0 (hoff 23 kr))
          have TM := aM (Q_TM (hoff 23 kr))
          have hc_ : w'.cell? ⟨gp, 1, none⟩ = some v1 := (qw P0.out 1).trans rfl
          refine qfB (w1 := w') (v := v1) (by rfl) rfl ?_ ?_
          ·go_simp
           (try simp only [i64_w])
           try rfl
          refine hK.out _ _ ⟨s104, s105, s111, s112, s118, s119, (by rw [ha.out]; exact qMA 3 hb_ rfl rfl rfl), Q_B, Q_P0, fun h0_ _ => aF (hoff 26 kr) h0_, fun h0_ _ => aF (hoff 29 kr) h0_, fun h0_ => aF (hoff 32 kr) h0_, Q_M1, Q_D0, Q_OW, Q_LD, Q_D1, Q_F0, Q_LF, fun h0_ => aF (hoff 16 kr) h0_, Q_S0, Q_LS, fun h0_ => aF (hoff 23 kr) h0_, Q_TM, fun h0_ => aF (hoff 23 kr) h0_⟩
         refine qGA ?_ ?_
         ·rintro b a w' ⟨s104, s105, s111, s112, s118, s119, ha, Q_B, Q_P0, Q_P1, Q_P2, Q_P3, Q_M1, Q_D0, Q_OW, Q_LD, Q_D1, Q_F0, Q_LF, Q_F1, Q_S0, Q_LS, Q_S1, Q_TM, Q_TN⟩ hb_ hon hoff
          refine ⟨_, rfl, fun K hK => ?_⟩
          have e110 : a.tmps[110]? = some (.int .i64 (i : Int)) := by rw [ha]; exact (qqA rfl).trans rfl
          replace ha := aM ha
          have B := aM Q_B
          have P0 := aM (Q_P0 (hoff 26 kr))
          have M1 := aM Q_M1
          have F0 := aM (Q_F0 (hoff 16 kr))
          have S0 := aM (Q_S0 (hoff 23 kr))
          have TM := aM (Q_TM (hoff 23 kr))
          refine Kd.qtA (Kd.int .i64) (w0 := w1) w1.heap.size 3 (by rfl) (N := 111) rfl (xs := ([(i : Int)] : List _)) (inner := [.int .i64 (i : Int)]) (ok := fun k_ => some k_ ≠ (v1 : Value).ownBlock) (okp := fun _ => False) ?hr15 ?hp15 (fun _ hk => hk.elim) (Kd.fresh' (Kd.R_lt F0.out) _ (Nat.le_refl _)) B.out B.out.size (by simp) ?_
          case hr15 => first | (go_simp; done) | (go_simp; rfl)
          case hp15 => exact Reps.one (show Kd.M (Kd.int .i64) _ _ _ (i : Int) [.int .i64 (i : Int)] from rfl) (Reps.none _ _)
          intro v_ w1_ hR_ hB_ hg_ _
          refine hK.out _ _ ⟨s104, s105, v_, s112, s118, s119, (by rw [ha.out]; exact qMA 4 hb_ rfl rfl rfl), hB_, fun _ => qn P0.out hg_ (by simp), fun h0_ _ => aF (hoff 26 kr) h0_, fun h0_ _ => aF (hoff 29 kr) h0_, fun h0_ => aF (hoff 32 kr) h0_, M1.out.qEC (hg_.block gm M1.out.lt (by simp)), fun h0_ => plLit0 (Q_D0 h0_) hg_, fun h0_ => plLit0 (Q_OW h0_) hg_, fun h0_ h1_ => plLit0 (Q_LD h0_ h1_) hg_, fun h0_ => plLit0 (Q_D1 h0_) hg_, fun _ => plLit0 F0.out hg_, fun _ _ => hR_, fun h0_ => aF (hoff 16 kr) h0_, fun _ => plLit0 S0.out hg_, fun h0_ h1_ => plLit0 (Q_LS h0_ h1_) hg_, fun h0_ => aF (hoff 23 kr) h0_, fun _ => plLit0 TM.out hg_, fun h0_ => aF (hoff 23 kr) h0_⟩
         refine qGA ?_ ?_
         ·rintro b a w' ⟨s104, s105, s111, s112, s118, s119, ha, Q_B, Q_P0, Q_P1, Q_P2, Q_P3, Q_M1, Q_D0, Q_OW, Q_LD, Q_D1, Q_F0, Q_LF, Q_F1, Q_S0, Q_LS, Q_S1, Q_TM, Q_TN⟩ hb_ hon hoff
          refine ⟨_, rfl, fun K hK => ?_⟩
          have e109 : a.tmps[109]? = some (v1) := by rw [ha]; exact qYA (e := (13, 109, v1)) 3 rfl rfl (hon 13 kr) rfl
          have e111 : a.tmps[111]? = some (s111) := by rw [ha]; exact qYA (e := (15, 111, s111)) 4 rfl rfl (hon 15 kr) rfl
          replace ha := aM ha
          have B := aM Q_B
          have P0 := aM (Q_P0 (hoff 26 kr))
          have M1 := aM Q_M1
          have D1 := aM (Q_D1 (hon 9 kr))
          have F0 := aM (Q_F0 hb_)
          have LF := aM (Q_LF (hon 15 kr) hb_)
          have S0 := aM (Q_S0 (hoff 23 kr))
          have TM := aM (Q_TM (hoff 23 kr))
          obtain ⟨A_, c_, hs_, hle_, HRd_⟩ := OwnRow.reads LF.out.2
          have hbd_ := HBD.out
          refine Kd.qKA (Kd.int .i64) (w0 := w1) w1.heap.size (by rfl) (.tmp 109) (.tmp 111) 69 3 (.int .i64 0) 8 rfl Tryz.underlying69 info3 rfl (by show 0 < 1; omega) (by omega) v1 fs [(i : Int)] A_ _ c_ (fun _ => True) (fun k_ => some k_ ≠ (v1 : Value).ownBlock ∧ some k_ ≠ (s111 : Value).ownBlock) (qRC e109) ((qRC e111).trans hs_) F0.out HRd_ (fun _ _ h_ => h_) (fun _ hk => ⟨trivial, hk.1⟩) (fun _ _ => trivial) B.out B.out.size (by simp only [List.length_cons, List.length_nil]; omega) ?_
          intro v_ w1_ hR_ hB_ hg_ hat_
          refine hK.out _ _ ⟨s104, s105, s111, v_, s118, s119, (by rw [ha.out]; exact qMA 5 hb_ rfl rfl rfl), hB_, fun _ => qn P0.out hg_ (Kd.R_ne F0.out P0.out (by decide)), fun h0_ _ => aF (hoff 26 kr) h0_, fun h0_ _ => aF (hoff 29 kr) h0_, fun h0_ => aF (hoff 32 kr) h0_, M1.out.qEC (hg_.block gm M1.out.lt (M1.out.ne F0.out)), fun h0_ => aT (hon 9 kr) h0_, fun h0_ => aT (hon 8 kr) h0_, fun _ h1_ => aT (hon 9 kr) h1_, fun _ => Kd.qXB D1.out (Kd.qIB F0.out) (qeE w1 (by decide) (by decide)) hg_, fun h0_ => absurd ((qkB b 16).symm.trans h0_) (by decide), fun _ h1_ => absurd ((qkB b 16).symm.trans h1_) (by decide), fun _ => hR_, fun _ => Kd.qXB S0.out (Kd.qIB F0.out) (by decide) hg_, fun h0_ h1_ => Kd.qXB (Q_LS h0_ h1_) (Kd.qIB F0.out) (by decide) hg_, fun h0_ => aF (hoff 23 kr) h0_, fun _ => Kd.qXB TM.out (Kd.qIB F0.out) (by decide) hg_, fun h0_ => aF (hoff 23 kr) h0_⟩
         refine qGA ?_ ?_
         ·rintro b a w' ⟨s104, s105, s111, s112, s118, s119, ha, Q_B, Q_P0, Q_P1, Q_P2, Q_P3, Q_M1, Q_D0, Q_OW, Q_LD, Q_D1, Q_F0, Q_LF, Q_F1, Q_S0, Q_LS, Q_S1, Q_TM, Q_TN⟩ hb_ hon hoff
          refine ⟨_, rfl, fun K hK => ?_⟩
          have e115 : a.tmps[115]? = some (.pointer (some ⟨gp, 2, none⟩)) := by rw [ha]; exact (qqA rfl).trans rfl
          replace ha := aM ha
          have B := aM Q_B
          have P0 := aM (Q_P0 (hoff 26 kr))
          have M1 := aM Q_M1
          have S0 := aM (Q_S0 (hoff 23 kr))
          have TM := aM (Q_TM (hoff 23 kr))
          have hc_ : w'.cell? ⟨gp, 2, none⟩ = some v2 := (qw P0.out 2).trans rfl
          refine qfB (w1 := w') (v := v2) (by rfl) rfl ?_ ?_
          ·go_simp
           (try simp only [i64_w])
           try rfl
          refine hK.out _ _ ⟨s104, s105, s111, s112, s118, s119, (by rw [ha.out]; exact qMA 6 hb_ rfl rfl rfl), Q_B, Q_P0, fun h0_ _ => aF (hoff 26 kr) h0_, fun h0_ _ => aF (hoff 29 kr) h0_, fun h0_ => aF (hoff 32 kr) h0_, Q_M1, Q_D0, Q_OW, Q_LD, Q_D1, Q_F0, Q_LF, Q_F1, Q_S0, Q_LS, fun h0_ => aF (hoff 23 kr) h0_, Q_TM, fun h0_ => aF (hoff 23 kr) h0_⟩
         refine qGA ?_ ?_
         ·rintro b a w' ⟨s104, s105, s111, s112, s118, s119, ha, Q_B, Q_P0, Q_P1, Q_P2, Q_P3, Q_M1, Q_D0, Q_OW, Q_LD, Q_D1, Q_F0, Q_LF, Q_F1, Q_S0, Q_LS, Q_S1, Q_TM, Q_TN⟩ hb_ hon hoff
          refine ⟨_, rfl, fun K hK => ?_⟩
          have e117 : a.tmps[117]? = some (.string sg) := by rw [ha]; exact (qqA rfl).trans rfl
          replace ha := aM ha
          have B := aM Q_B
          have P0 := aM (Q_P0 (hoff 26 kr))
          have M1 := aM Q_M1
          have S0 := aM (Q_S0 (hoff 23 kr))
          have TM := aM (Q_TM (hoff 23 kr))
          refine Kd.qtA Kd.string (w0 := w1) w1.heap.size 9 (by rfl) (N := 118) rfl (xs := ([sg] : List _)) (inner := [.string sg]) (ok := fun k_ => some k_ ≠ (v2 : Value).ownBlock) (okp := fun _ => False) ?hr22 ?hp22 (fun _ hk => hk.elim) (Kd.fresh' (Kd.R_lt S0.out) _ (Nat.le_refl _)) B.out B.out.size (by simp) ?_
          case hr22 => first | (go_simp; done) | (go_simp; rfl)
          case hp22 => exact Reps.one (show Kd.M Kd.string _ _ _ sg [.string sg] from rfl) (Reps.none _ _)
          intro v_ w1_ hR_ hB_ hg_ _
          refine hK.out _ _ ⟨s104, s105, s111, s112, v_, s119, (by rw [ha.out]; exact qMA 7 hb_ rfl rfl rfl), hB_, fun _ => qn P0.out hg_ (by simp), fun h0_ _ => aF (hoff 26 kr) h0_, fun h0_ _ => aF (hoff 29 kr) h0_, fun h0_ => aF (hoff 32 kr) h0_, M1.out.qEC (hg_.block gm M1.out.lt (by simp)), fun h0_ => plLit0 (Q_D0 h0_) hg_, fun h0_ => plLit0 (Q_OW h0_) hg_, fun h0_ h1_ => plLit0 (Q_LD h0_ h1_) hg_, fun h0_ => plLit0 (Q_D1 h0_) hg_, fun h0_ => plLit0 (Q_F0 h0_) hg_, fun h0_ h1_ => plLit0 (Q_LF h0_ h1_) hg_, fun h0_ => plLit0 (Q_F1 h0_) hg_, fun _ => plLit0 S0.out hg_, fun _ _ => hR_, fun h0_ => aF (hoff 23 kr) h0_, fun _ => plLit0 TM.out hg_, fun h0_ => aF (hoff 23 kr) h0_⟩
         refine qGA ?_ ?_
         ·rintro b a w' ⟨s104, s105, s111, s112, s118, s119, ha, Q_B, Q_P0, Q_P1, Q_P2, Q_P3, Q_M1, Q_D0, Q_OW, Q_LD, Q_D1, Q_F0, Q_LF, Q_F1, Q_S0, Q_LS, Q_S1, Q_TM, Q_TN⟩ hb_ hon hoff
          refine ⟨_, rfl, fun K hK => ?_⟩
          have e116 : a.tmps[116]? = some (v2) := by rw [ha]; exact qYA (e := (20, 116, v2)) 6 rfl rfl (hon 20 kr) rfl
          have e118 : a.tmps[118]? = some (s118) := by rw [ha]; exact qYA (e := (22, 118, s118)) 7 rfl rfl (hon 22 kr) rfl
          replace ha := aM ha
          have B := aM Q_B
          have P0 := aM (Q_P0 (hoff 26 kr))
          have M1 := aM Q_M1
          have D1 := aM (Q_D1 (hon 9 kr))
          have F1 := aM (Q_F1 (hon 16 kr))
          have S0 := aM (Q_S0 hb_)
          have LS := aM (Q_LS (hon 22 kr) hb_)
          have TM := aM (Q_TM hb_)
          obtain ⟨A_, c_, hs_, hle_, HRd_⟩ := OwnRow.reads LS.out.2
          have hbd_ := HBD.out
          refine Kd.qKA Kd.string (w0 := w1) w1.heap.size (by rfl) (.tmp 116) (.tmp 118) 61 9 (.string ⟨#[]⟩) 16 rfl Tryz.underlying61 info9 rfl (by show 0 < 1; omega) (by omega) v2 ss [sg] A_ _ c_ (fun _ => True) (fun k_ => some k_ ≠ (v2 : Value).ownBlock ∧ some k_ ≠ (s118 : Value).ownBlock) (qRC e116) ((qRC e118).trans hs_) S0.out HRd_ (fun _ _ h_ => h_) (fun _ hk => ⟨trivial, hk.1⟩) (fun _ _ => trivial) B.out B.out.size (by simp only [List.length_cons, List.length_nil]; omega) ?_
          intro v_ w1_ hR_ hB_ hg_ hat_
          refine hK.out _ _ ⟨s104, s105, s111, s112, s118, v_, (by rw [ha.out]; exact qMA 8 hb_ rfl rfl rfl), hB_, fun _ => qn P0.out hg_ (Kd.R_ne S0.out P0.out (by decide)), fun h0_ _ => aF (hoff 26 kr) h0_, fun h0_ _ => aF (hoff 29 kr) h0_, fun h0_ => aF (hoff 32 kr) h0_, M1.out.qEC (hg_.block gm M1.out.lt (M1.out.ne S0.out)), fun h0_ => aT (hon 9 kr) h0_, fun h0_ => aT (hon 8 kr) h0_, fun _ h1_ => aT (hon 9 kr) h1_, fun _ => Kd.qXB D1.out (Kd.qIB S0.out) (qeE w1 (by decide) (by decide)) hg_, fun h0_ => aT (hon 16 kr) h0_, fun _ h1_ => aT (hon 16 kr) h1_, fun _ => Kd.qXB F1.out (Kd.qIB S0.out) (by decide) hg_, fun h0_ => absurd ((qkB b 23).symm.trans h0_) (by decide), fun _ h1_ => absurd ((qkB b 23).symm.trans h1_) (by decide), fun _ => hR_, fun h0_ => absurd ((qkB b 23).symm.trans h0_) (by decide), fun _ => Kd.qa (Kd.qUA (ok := fun _ => True) (Kd.qa TM.out (fun _ hk => ⟨trivial, hk⟩)) hg_ hat_) (fun _ hk => hk.2)⟩
         refine qGA ?_ ?_
         ·rintro b a w' ⟨s104, s105, s111, s112, s118, s119, ha, Q_B, Q_P0, Q_P1, Q_P2, Q_P3, Q_M1, Q_D0, Q_OW, Q_LD, Q_D1, Q_F0, Q_LF, Q_F1, Q_S0, Q_LS, Q_S1, Q_TM, Q_TN⟩ hb_ hon hoff
          refine ⟨_, rfl, fun K hK => ?_⟩
          have e96 : a.tmps[96]? = some (.pointer (some ⟨gp, 0, none⟩)) := by rw [ha]; exact (qqA rfl).trans rfl
          replace ha := aM ha
          have B := aM Q_B
          have P0 := aM (Q_P0 (hoff 26 kr))
          have M1 := aM Q_M1
          have D1 := aM (Q_D1 (hon 9 kr))
          have F1 := aM (Q_F1 (hon 16 kr))
          have S1 := aM (Q_S1 (hon 23 kr))
          have TN := aM (Q_TN (hon 23 kr))
          refine qfB (w1 := w') (v := .pointer (some ⟨gp, 0, none⟩)) (by rfl) rfl ?_ ?_
          ·go_simp
           (try simp only [i64_w])
           try rfl
          refine hK.out _ _ ⟨s104, s105, s111, s112, s118, s119, (by rw [ha.out]; exact qMA 9 hb_ rfl rfl rfl), Q_B, Q_P0, fun h0_ _ => aF (hoff 26 kr) h0_, fun h0_ _ => aF (hoff 29 kr) h0_, fun h0_ => aF (hoff 32 kr) h0_, Q_M1, fun h0_ => aT (hon 9 kr) h0_, fun h0_ => aT (hon 8 kr) h0_, fun _ h1_ => aT (hon 9 kr) h1_, Q_D1, fun h0_ => aT (hon 16 kr) h0_, fun _ h1_ => aT (hon 16 kr) h1_, Q_F1, fun h0_ => aT (hon 23 kr) h0_, fun _ h1_ => aT (hon 23 kr) h1_, Q_S1, fun h0_ => aT (hon 23 kr) h0_, Q_TN⟩
         refine qGA ?_ ?_
         ·rintro b a w' ⟨s104, s105, s111, s112, s118, s119, ha, Q_B, Q_P0, Q_P1, Q_P2, Q_P3, Q_M1, Q_D0, Q_OW, Q_LD, Q_D1, Q_F0, Q_LF, Q_F1, Q_S0, Q_LS, Q_S1, Q_TM, Q_TN⟩ hb_ hon hoff
          refine ⟨_, rfl, fun K hK => ?_⟩
          have e120 : a.tmps[120]? = some (.pointer (some ⟨gp, 0, none⟩)) := by rw [ha]; exact qYA (e := (24, 120, .pointer (some ⟨gp, 0, none⟩))) 9 rfl rfl (hon 24 kr) rfl
          replace ha := aM ha
          have B := aM Q_B
          have P0 := aM (Q_P0 (hoff 26 kr))
          have M1 := aM Q_M1
          have D1 := aM (Q_D1 (hon 9 kr))
          have F1 := aM (Q_F1 (hon 16 kr))
          have S1 := aM (Q_S1 (hon 23 kr))
          have TN := aM (Q_TN (hon 23 kr))
          refine qfB (w1 := w') (v := .pointer (some ⟨gp, 0, none⟩)) (by rfl) rfl ?_ ?_
          ·go_simp
           (try simp only [i64_w])
           try rfl
          refine hK.out _ _ ⟨s104, s105, s111, s112, s118, s119, (by rw [ha.out]; exact qMA 10 hb_ rfl rfl rfl), Q_B, Q_P0, fun h0_ _ => aF (hoff 26 kr) h0_, fun h0_ _ => aF (hoff 29 kr) h0_, fun h0_ => aF (hoff 32 kr) h0_, Q_M1, fun h0_ => aT (hon 9 kr) h0_, fun h0_ => aT (hon 8 kr) h0_, fun _ h1_ => aT (hon 9 kr) h1_, Q_D1, fun h0_ => aT (hon 16 kr) h0_, fun _ h1_ => aT (hon 16 kr) h1_, Q_F1, fun h0_ => aT (hon 23 kr) h0_, fun _ h1_ => aT (hon 23 kr) h1_, Q_S1, fun h0_ => aT (hon 23 kr) h0_, Q_TN⟩
         refine qGA ?_ ?_
         ·rintro b a w' ⟨s104, s105, s111, s112, s118, s119, ha, Q_B, Q_P0, Q_P1, Q_P2, Q_P3, Q_M1, Q_D0, Q_OW, Q_LD, Q_D1, Q_F0, Q_LF, Q_F1, Q_S0, Q_LS, Q_S1, Q_TM, Q_TN⟩ hb_ hon hoff
          refine ⟨_, rfl, fun K hK => ?_⟩
          have e121 : a.tmps[121]? = some (.pointer (some ⟨gp, 0, none⟩)) := by rw [ha]; exact qYA (e := (25, 121, .pointer (some ⟨gp, 0, none⟩))) 10 rfl rfl (hon 25 kr) rfl
          have e105 : a.tmps[105]? = some (s105) := by rw [ha]; exact qYA (e := (9, 105, s105)) 2 rfl rfl (hon 9 kr) rfl
          replace ha := aM ha
          have B := aM Q_B
          have P0 := aM (Q_P0 hb_)
          have M1 := aM Q_M1
          have D1 := aM (Q_D1 (hon 9 kr))
          have F1 := aM (Q_F1 (hon 16 kr))
          have S1 := aM (Q_S1 (hon 23 kr))
          have TN := aM (Q_TN (hon 23 kr))
          obtain ⟨A_, c_, hs_⟩ := Kd.qDA D1.out
          have hc_ : w'.cell? ⟨gp, 0, none⟩ = some (.slice (some ad) n2 cd) := (qw P0.out 0).trans rfl
          have hf_ : w'.frozen? ⟨gp, 0, none⟩ = false := qb P0.out 0
          refine skip_ (w1 := w'.setCell ⟨gp, 0, none⟩ s105) (by rfl) rfl ?hr26 ?_
          case hr26 =>
           rw [hs_] at e105
           rw [hs_]
           first | (go_simp; done) | (go_simp; rfl)
          refine hK.out _ _ ⟨s104, s105, s111, s112, s118, s119, (by rw [ha.out]; exact qED (v := undef) rfl), qBA B.out HGP.out, fun h0_ => absurd ((qkB b 26).symm.trans h0_) (by decide), fun _ _ => qHA P0.out 0 _ rfl, fun h0_ _ => aF (hoff 29 kr) h0_, fun h0_ => aF (hoff 32 kr) h0_, M1.out.setCell HNE.out _, fun h0_ => aT (hon 9 kr) h0_, fun h0_ => aT (hon 8 kr) h0_, fun _ h1_ => aT (hon 9 kr) h1_, fun _ => Kd.R_set D1.out P0.out (qeE w1 (by decide) (by decide)) _ _, fun h0_ => aT (hon 16 kr) h0_, fun _ h1_ => aT (hon 16 kr) h1_, fun _ => Kd.R_set F1.out P0.out (by decide) _ _, fun h0_ => aT (hon 23 kr) h0_, fun _ h1_ => aT (hon 23 kr) h1_, fun _ => Kd.R_set S1.out P0.out (by decide) _ _, fun h0_ => aT (hon 23 kr) h0_, fun _ => Kd.R_set TN.out P0.out (by decide) _ _⟩
         refine qGA ?_ ?_
         ·rintro b a w' ⟨s104, s105, s111, s112, s118, s119, ha, Q_B, Q_P0, Q_P1, Q_P2, Q_P3, Q_M1, Q_D0, Q_OW, Q_LD, Q_D1, Q_F0, Q_LF, Q_F1, Q_S0, Q_LS, Q_S1, Q_TM, Q_TN⟩ hb_ hon hoff
          refine ⟨_, rfl, fun K hK => ?_⟩
          have e97 : a.tmps[97]? = some (.pointer (some ⟨gp, 0, none⟩)) := by rw [ha]; exact (qqA rfl).trans rfl
          replace ha := aM ha
          have B := aM Q_B
          have P1 := aM (Q_P1 (hon 26 kr) (hoff 29 kr))
          have M1 := aM Q_M1
          have D1 := aM (Q_D1 (hon 9 kr))
          have F1 := aM (Q_F1 (hon 16 kr))
          have S1 := aM (Q_S1 (hon 23 kr))
          have TN := aM (Q_TN (hon 23 kr))
          refine qfB (w1 := w') (v := .pointer (some ⟨gp, 0, none⟩)) (by rfl) rfl ?_ ?_
          ·go_simp
           (try simp only [i64_w])
           try rfl
          refine hK.out _ _ ⟨s104, s105, s111, s112, s118, s119, (by rw [ha.out]; exact qMA 11 hb_ rfl rfl rfl), Q_B, fun h0_ => aT (hon 26 kr) h0_, Q_P1, fun h0_ _ => aF (hoff 29 kr) h0_, fun h0_ => aF (hoff 32 kr) h0_, Q_M1, fun h0_ => aT (hon 9 kr) h0_, fun h0_ => aT (hon 8 kr) h0_, fun _ h1_ => aT (hon 9 kr) h1_, Q_D1, fun h0_ => aT (hon 16 kr) h0_, fun _ h1_ => aT (hon 16 kr) h1_, Q_F1, fun h0_ => aT (hon 23 kr) h0_, fun _ h1_ => aT (hon 23 kr) h1_, Q_S1, fun h0_ => aT (hon 23 kr) h0_, Q_TN⟩
         refine qGA ?_ ?_
         ·rintro b a w' ⟨s104, s105, s111, s112, s118, s119, ha, Q_B, Q_P0, Q_P1, Q_P2, Q_P3, Q_M1, Q_D0, Q_OW, Q_LD, Q_D1, Q_F0, Q_LF, Q_F1, Q_S0, Q_LS, Q_S1, Q_TM, Q_TN⟩ hb_ hon hoff
          refine ⟨_, rfl, fun K hK => ?_⟩
          have e122 : a.tmps[122]? = some (.pointer (some ⟨gp, 0, none⟩)) := by rw [ha]; exact qYA (e := (27, 122, .pointer (some ⟨gp, 0, none⟩))) 11 rfl rfl (hon 27 kr) rfl
          replace ha := aM ha
          have B := aM Q_B
          have P1 := aM (Q_P1 (hon 26 kr) (hoff 29 kr))
          have M1 := aM Q_M1
          have D1 := aM (Q_D1 (hon 9 kr))
          have F1 := aM (Q_F1 (hon 16 kr))
          have S1 := aM (Q_S1 (hon 23 kr))
          have TN := aM (Q_TN (hon 23 kr))
          refine qfB (w1 := w') (v := .pointer (some ⟨gp, 1, none⟩)) (by rfl) rfl ?_ ?_
          ·go_simp
           (try simp only [i64_w])
           try rfl
          refine hK.out _ _ ⟨s104, s105, s111, s112, s118, s119, (by rw [ha.out]; exact qMA 12 hb_ rfl rfl rfl), Q_B, fun h0_ => aT (hon 26 kr) h0_, Q_P1, fun h0_ _ => aF (hoff 29 kr) h0_, fun h0_ => aF (hoff 32 kr) h0_, Q_M1, fun h0_ => aT (hon 9 kr) h0_, fun h0_ => aT (hon 8 kr) h0_, fun _ h1_ => aT (hon 9 kr) h1_, Q_D1, fun h0_ => aT (hon 16 kr) h0_, fun _ h1_ => aT (hon 16 kr) h1_, Q_F1, fun h0_ => aT (hon 23 kr) h0_, fun _ h1_ => aT (hon 23 kr) h1_, Q_S1, fun h0_ => aT (hon 23 kr) h0_, Q_TN⟩
         refine qGA ?_ ?_
         ·rintro b a w' ⟨s104, s105, s111, s112, s118, s119, ha, Q_B, Q_P0, Q_P1, Q_P2, Q_P3, Q_M1, Q_D0, Q_OW, Q_LD, Q_D1, Q_F0, Q_LF, Q_F1, Q_S0, Q_LS, Q_S1, Q_TM, Q_TN⟩ hb_ hon hoff
          refine ⟨_, rfl, fun K hK => ?_⟩
          have e123 : a.tmps[123]? = some (.pointer (some ⟨gp, 1, none⟩)) := by rw [ha]; exact qYA (e := (28, 123, .pointer (some ⟨gp, 1, none⟩))) 12 rfl rfl (hon 28 kr) rfl
          have e112 : a.tmps[112]? = some (s112) := by rw [ha]; exact qYA (e := (16, 112, s112)) 5 rfl rfl (hon 16 kr) rfl
          replace ha := aM ha
          have B := aM Q_B
          have P1 := aM (Q_P1 (hon 26 kr) hb_)
          have M1 := aM Q_M1
          have D1 := aM (Q_D1 (hon 9 kr))
          have F1 := aM (Q_F1 (hon 16 kr))
          have S1 := aM (Q_S1 (hon 23 kr))
          have TN := aM (Q_TN (hon 23 kr))
          obtain ⟨A_, c_, hs_⟩ := Kd.qDA F1.out
          have hc_ : w'.cell? ⟨gp, 1, none⟩ = some (v1) := (qw P1.out 1).trans rfl
          have hf_ : w'.frozen? ⟨gp, 1, none⟩ = false := qb P1.out 1
          refine skip_ (w1 := w'.setCell ⟨gp, 1, none⟩ s112) (by rfl) rfl ?hr29 ?_
          case hr29 =>
           rw [hs_] at e112
           rw [hs_]
           first | (go_simp; done) | (go_simp; rfl)
          refine hK.out _ _ ⟨s104, s105, s111, s112, s118, s119, (by rw [ha.out]; exact qED (v := undef) rfl), qBA B.out HGP.out, fun h0_ => aT (hon 26 kr) h0_, fun _ h1_ => absurd ((qkB b 29).symm.trans h1_) (by decide), fun _ _ => qHA P1.out 1 _ rfl, fun h0_ => aF (hoff 32 kr) h0_, M1.out.setCell HNE.out _, fun h0_ => aT (hon 9 kr) h0_, fun h0_ => aT (hon 8 kr) h0_, fun _ h1_ => aT (hon 9 kr) h1_, fun _ => Kd.R_set D1.out P1.out (qeE w1 (by decide) (by decide)) _ _, fun h0_ => aT (hon 16 kr) h0_, fun _ h1_ => aT (hon 16 kr) h1_, fun _ => Kd.R_set F1.out P1.out (by decide) _ _, fun h0_ => aT (hon 23 kr) h0_, fun _ h1_ => aT (hon 23 kr) h1_, fun _ => Kd.R_set S1.out P1.out (by decide) _ _, fun h0_ => aT (hon 23 kr) h0_, fun _ => Kd.R_set TN.out P1.out (by decide) _ _⟩
         refine qGA ?_ ?_
         ·rintro b a w' ⟨s104, s105, s111, s112, s118, s119, ha, Q_B, Q_P0, Q_P1, Q_P2, Q_P3, Q_M1, Q_D0, Q_OW, Q_LD, Q_D1, Q_F0, Q_LF, Q_F1, Q_S0, Q_LS, Q_S1, Q_TM, Q_TN⟩ hb_ hon hoff
          refine ⟨_, rfl, fun K hK => ?_⟩
          have e98 : a.tmps[98]? = some (.pointer (some ⟨gp, 0, none⟩)) := by rw [ha]; exact (qqA rfl).trans rfl
          replace ha := aM ha
          have B := aM Q_B
          have P2 := aM (Q_P2 (hon 29 kr) (hoff 32 kr))
          have M1 := aM Q_M1
          have D1 := aM (Q_D1 (hon 9 kr))
          have F1 := aM (Q_F1 (hon 16 kr))
          have S1 := aM (Q_S1 (hon 23 kr))
          have TN := aM (Q_TN (hon 23 kr))
          refine qfB (w1 := w') (v := .pointer (some ⟨gp, 0, none⟩)) (by rfl) rfl ?_ ?_
          ·go_simp
           (try simp only [i64_w])
           try rfl
          refine hK.out _ _ ⟨s104, s105, s111, s112, s118, s119, (by rw [ha.out]; exact qMA 13 hb_ rfl rfl rfl), Q_B, fun h0_ => aT (hon 26 kr) h0_, fun _ h1_ => aT (hon 29 kr) h1_, Q_P2, fun h0_ => aF (hoff 32 kr) h0_, Q_M1, fun h0_ => aT (hon 9 kr) h0_, fun h0_ => aT (hon 8 kr) h0_, fun _ h1_ => aT (hon 9 kr) h1_, Q_D1, fun h0_ => aT (hon 16 kr) h0_, fun _ h1_ => aT (hon 16 kr) h1_, Q_F1, fun h0_ => aT (hon 23 kr) h0_, fun _ h1_ => aT (hon 23 kr) h1_, Q_S1, fun h0_ => aT (hon 23 kr) h0_, Q_TN⟩
         refine qGA ?_ ?_
         ·rintro b a w' ⟨s104, s105, s111, s112, s118, s119, ha, Q_B, Q_P0, Q_P1, Q_P2, Q_P3, Q_M1, Q_D0, Q_OW, Q_LD, Q_D1, Q_F0, Q_LF, Q_F1, Q_S0, Q_LS, Q_S1, Q_TM, Q_TN⟩ hb_ hon hoff
          refine ⟨_, rfl, fun K hK => ?_⟩
          have e124 : a.tmps[124]? = some (.pointer (some ⟨gp, 0, none⟩)) := by rw [ha]; exact qYA (e := (30, 124, .pointer (some ⟨gp, 0, none⟩))) 13 rfl rfl (hon 30 kr) rfl
          replace ha := aM ha
          have B := aM Q_B
          have P2 := aM (Q_P2 (hon 29 kr) (hoff 32 kr))
          have M1 := aM Q_M1
          have D1 := aM (Q_D1 (hon 9 kr))
          have F1 := aM (Q_F1 (hon 16 kr))
          have S1 := aM (Q_S1 (hon 23 kr))
          have TN := aM (Q_TN (hon 23 kr))
          refine qfB (w1 := w') (v := .pointer (some ⟨gp, 2, none⟩)) (by rfl) rfl ?_ ?_
          ·go_simp
           (try simp only [i64_w])
           try rfl
          refine hK.out _ _ ⟨s104, s105, s111, s112, s118, s119, (by rw [ha.out]; exact qMA 14 hb_ rfl rfl rfl), Q_B, fun h0_ => aT (hon 26 kr) h0_, fun _ h1_ => aT (hon 29 kr) h1_, Q_P2, fun h0_ => aF (hoff 32 kr) h0_, Q_M1, fun h0_ => aT (hon 9 kr) h0_, fun h0_ => aT (hon 8 kr) h0_, fun _ h1_ => aT (hon 9 kr) h1_, Q_D1, fun h0_ => aT (hon 16 kr) h0_, fun _ h1_ => aT (hon 16 kr) h1_, Q_F1, fun h0_ => aT (hon 23 kr) h0_, fun _ h1_ => aT (hon 23 kr) h1_, Q_S1, fun h0_ => aT (hon 23 kr) h0_, Q_TN⟩
         refine qGA ?_ ?_
         ·rintro b a w' ⟨s104, s105, s111, s112, s118, s119, ha, Q_B, Q_P0, Q_P1, Q_P2, Q_P3, Q_M1, Q_D0, Q_OW, Q_LD, Q_D1, Q_F0, Q_LF, Q_F1, Q_S0, Q_LS, Q_S1, Q_TM, Q_TN⟩ hb_ hon hoff
          refine ⟨_, rfl, fun K hK => ?_⟩
          have e125 : a.tmps[125]? = some (.pointer (some ⟨gp, 2, none⟩)) := by rw [ha]; exact qYA (e := (31, 125, .pointer (some ⟨gp, 2, none⟩))) 14 rfl rfl (hon 31 kr) rfl
          have e119 : a.tmps[119]? = some (s119) := by rw [ha]; exact qYA (e := (23, 119, s119)) 8 rfl rfl (hon 23 kr) rfl
          replace ha := aM ha
          have B := aM Q_B
          have P2 := aM (Q_P2 (hon 29 kr) hb_)
          have M1 := aM Q_M1
          have D1 := aM (Q_D1 (hon 9 kr))
          have F1 := aM (Q_F1 (hon 16 kr))
          have S1 := aM (Q_S1 (hon 23 kr))
          have TN := aM (Q_TN (hon 23 kr))
          obtain ⟨A_, c_, hs_⟩ := Kd.qDA S1.out
          have hc_ : w'.cell? ⟨gp, 2, none⟩ = some (v2) := (qw P2.out 2).trans rfl
          have hf_ : w'.frozen? ⟨gp, 2, none⟩ = false := qb P2.out 2
          refine skip_ (w1 := w'.setCell ⟨gp, 2, none⟩ s119) (by rfl) rfl ?hr32 ?_
          case hr32 =>
           rw [hs_] at e119
           rw [hs_]
           first | (go_simp; done) | (go_simp; rfl)
          refine hK.out _ _ ⟨s104, s105, s111, s112, s118, s119, (by rw [ha.out]; exact qED (v := undef) rfl), qBA B.out HGP.out, fun h0_ => aT (hon 26 kr) h0_, fun _ h1_ => aT (hon 29 kr) h1_, fun _ h1_ => absurd ((qkB b 32).symm.trans h1_) (by decide), fun _ => qHA P2.out 2 _ rfl, M1.out.setCell HNE.out _, fun h0_ => aT (hon 9 kr) h0_, fun h0_ => aT (hon 8 kr) h0_, fun _ h1_ => aT (hon 9 kr) h1_, fun _ => Kd.R_set D1.out P2.out (qeE w1 (by decide) (by decide)) _ _, fun h0_ => aT (hon 16 kr) h0_, fun _ h1_ => aT (hon 16 kr) h1_, fun _ => Kd.R_set F1.out P2.out (by decide) _ _, fun h0_ => aT (hon 23 kr) h0_, fun _ h1_ => aT (hon 23 kr) h1_, fun _ => Kd.R_set S1.out P2.out (by decide) _ _, fun h0_ => aT (hon 23 kr) h0_, fun _ => Kd.R_set TN.out P2.out (by decide) _ _⟩
         exact steps_nil
        ·rintro b a w' hall ⟨s104, s105, s111, s112, s118, s119, ha, Q_B, Q_P0, Q_P1, Q_P2, Q_P3, Q_M1, Q_D0, Q_OW, Q_LD, Q_D1, Q_F0, Q_LF, Q_F1, Q_S0, Q_LS, Q_S1, Q_TM, Q_TN⟩
         clear B D0 F0 M1 OW P0 S0 TM
         have hb6_ := hall 6 (by kernel_rfl)
         have hb8_ := hall 8 (by kernel_rfl)
         have hb9_ := hall 9 (by kernel_rfl)
         have hb13_ := hall 13 (by kernel_rfl)
         have hb15_ := hall 15 (by kernel_rfl)
         have hb16_ := hall 16 (by kernel_rfl)
         have hb20_ := hall 20 (by kernel_rfl)
         have hb22_ := hall 22 (by kernel_rfl)
         have hb23_ := hall 23 (by kernel_rfl)
         have hb24_ := hall 24 (by kernel_rfl)
         have hb25_ := hall 25 (by kernel_rfl)
         have hb26_ := hall 26 (by kernel_rfl)
         have hb27_ := hall 27 (by kernel_rfl)
         have hb28_ := hall 28 (by kernel_rfl)
         have hb29_ := hall 29 (by kernel_rfl)
         have hb30_ := hall 30 (by kernel_rfl)
         have hb31_ := hall 31 (by kernel_rfl)
         have hb32_ := hall 32 (by kernel_rfl)
         subst ha
         simp only [putSel, hb6_, hb8_, hb9_, hb13_, hb15_, hb16_, hb20_, hb22_, hb23_, hb24_, hb25_, hb26_, hb27_, hb28_, hb29_, hb30_, hb31_, hb32_, if_true, Act.put, List.setIfInBounds_toArray, List.set_cons_zero, List.set_cons_succ]
         have B := aM Q_B
         clear Q_B Q_P0 Q_P1 Q_P2
         have P3 := aM (Q_P3 hb32_)
         clear Q_P3
         have M1 := aM Q_M1
         clear Q_M1 Q_D0 Q_OW Q_LD
         have D1 := aM (Q_D1 hb9_)
         clear Q_D1 Q_F0 Q_LF
         have F1 := aM (Q_F1 hb16_)
         clear Q_F1 Q_S0 Q_LS
         have S1 := aM (Q_S1 hb23_)
         clear Q_S1 Q_TM
         have TN := aM (Q_TN hb23_)
         clear Q_TN hall hb6_ hb8_ hb9_ hb13_ hb15_ hb16_ hb20_ hb22_ hb23_ hb24_ hb25_ hb26_ hb27_ hb28_ hb29_ hb30_ hb31_ hb32_
         go_wp2
         go_roundg (nm - (j + 1))
         case measure => omega
         case rel =>
          refine ⟨L2 ++ [(own, ((i : Int), sg))], j + 1, _, _, _, by push_cast; rfl, by omega, ⟨HN.out.new HS.out (by rw [HEQ.out.1]; exact HMT.out) (by rw [← HL.out]; exact fun e_ => H6.out e_)⟩, ⟨?_⟩, ⟨?_⟩, ⟨?_⟩, TN, ⟨?_⟩, P3, B⟩
          ·rw [List.map_append, HEQ.out.1]; exact D1.out
          ·rw [List.map_append, HEQ.out.2.1]; exact F1.out
          ·rw [List.map_append, HEQ.out.2.2.1]; exact S1.out
          ·rw [metP_append, HEQ.out.2.2.2, HMM.out]; exact M1.out
    ·have hjz : ¬ (j : Int) < (nm : Int) := by omega
     go_wp2
     go_roundg (6000 - (i + 1))
     case measure => have := HN.out.ok.len; obtain ⟨p, hp⟩ := HN.out.at_; have := (List.getElem?_eq_some_iff.1 hp).1; omega
     case rel => exact ⟨L2, i + 1, _, _, _, by (have h1 := HN.out.ok.len; obtain ⟨p, hp⟩ := HN.out.at_; have h2 := (List.getElem?_eq_some_iff.1 hp).1; show Value.int .i64 (wrap64 ((i : Int) + 1)) = _; rw [show wrap64 ((i : Int) + 1) = ((i + 1 : Nat) : Int) by unfold wrap64; omega]), by omega, ⟨HN.out.outer (by have h := HMS.out.2; rw [← HMS.out.1, qtE, List.length_map] at h; unfold nextP; rw [List.length_map]; omega)⟩, D0, F0, S0, BP, M0, B⟩
  ·have hltz : ¬ (i : Int) < (n1 : Int) := by omega
   have HRN := aM (HO.out.done hlt)
   have HV := aM (And.intro hn1 hln)
   clear hn1 hln
   obtain ⟨Af, cf, rfl⟩ := Kd.qDA F0.out
   obtain ⟨As, cs, rfl⟩ := Kd.qDA S0.out
   go_wp2
   go_ret2
   rw [HRN.out]
   refine ⟨_, rfl, fun L' h => ?_, qB BW.out B.out⟩
   injection h with h
   subst h
   refine ⟨gp, Ad, Af, As, cd, cf, cs, rfl, by rw [HV.out.1]; exact BP.out, plK_C B.out ?_, (Kd.qO F0.out).2.2, (Kd.qO S0.out).2.2⟩
   exact (Kd.qO D0.out).2.2
def wordA (L : List PN) : Nat → Nat → ByteArray → ByteArray
 | 0, _, out => out
 | n + 1, at_, out => if at_ = 0 then out else match L[at_]? with
  | some x => wordA L n x.2.1.toNat (x.2.2 ++ out)
  | none => out
theorem wordA_zero (L : List PN) : ∀ (n : Nat) (out : ByteArray), wordA L n 0 out = out
 | 0, _ => rfl
 | n + 1, out => by unfold wordA; rw [if_pos rfl]
def toB (p : List XS → Bool) (L : List PN) : ByteArray × Bool :=
 if idxP p (L.map Prod.fst) < 0 then (⟨#[]⟩, false) else if (wordA L (idxP p (L.map Prod.fst)).toNat (idxP p (L.map Prod.fst)).toNat ⟨#[]⟩).size > 120 then (⟨#[]⟩, false) else (wordA L (idxP p (L.map Prod.fst)).toNat (idxP p (L.map Prod.fst)).toNat ⟨#[]⟩, true)
theorem idxP_lt {α : Type} (p : α → Bool) (l : List α) : idxP p l < (l.length : Int) := by
 unfold idxP
 cases h : l.findIdx? p with
 | none => simp only; omega
 | some i =>
  rw [List.findIdx?_eq_some_iff_getElem] at h
  obtain ⟨hi, _⟩ := h
  simp only; omega
set_option maxHeartbeats 4000000 in
set_option maxRecDepth 100000 in
theorem to_calls {a : ByteArray} {l : List XS} {L : List PN} (hA : AllOk a l L) (p : List XS → Bool) (g : Nat) (lb : Array Value) (eg : ∀ args w, (callFunc g args).run Tryz.prog w = .ok (.enter g args) w) (v : Value) (w : World) (hv : PlansAt w v L) (hp : PredSS g lb p (L.map Prod.fst) w) :
  Calls Tryz.prog 26 #[v, .func (.func g) #[] lb] w fun e w' => e = .returned (.tuple #[.string (toB p L).1, .bool (toB p L).2]) ∧ Below w.heap.size w w' := by
 obtain ⟨gp, A0, A1, A2, c0, c1, c2, rfl, hg, hC0, hC1, hC2⟩ := hv
 have hcall := fun c => indexFunc_SS p g lb eg A0 c (L.map Prod.fst) w hC0 hp
 simp only [List.length_map] at hcall
 have HC := aM hcall
 have HLT := aM (idxP_lt p (L.map Prod.fst))
 have hlen : (L.map Prod.fst).length = L.length := List.length_map _
 have hlen1 : (L.map fun x => x.2.1).length = L.length := List.length_map _
 have hlen2 : (L.map fun x => x.2.2).length = L.length := List.length_map _
 have HB0 := aM hg
 have HC1 := aM hC1
 have HC2 := aM hC2
 have HAO := aM hA
 have HTB := aM (show toB p L = toB p L from rfl)
 unfold toB at HTB ⊢
 have hc0 : w.cell? ⟨gp, 0, none⟩ = some (.slice A0 (L.map Prod.fst).length c0) := (qw hg 0).trans rfl
 rw [List.length_map] at hc0
 clear hcall hC0 hC1 hC2 hp hg hA HTB
 obtain ⟨q, hq⟩ : ∃ q, idxP p (L.map Prod.fst) = q := ⟨_, rfl⟩
 have HQ := aM hq
 rw [hq] at HLT ⊢
 by_cases hneg : q < 0
 ·rw [if_pos hneg]
  clear hlen hlen1 hlen2 hq
  go_enter Tryz.func26, Tryz.ntmps26
  go_wp2_with (first | (go_at_call 55; refine (HC.out _).mono ?_; rintro e w1 ⟨rfl, hb⟩; rw [HQ.out]; have B := aM hb; clear hb))
  go_ret2
  exact ⟨rfl, B.out⟩
 ·rw [if_neg hneg]
  obtain ⟨n, hn⟩ : ∃ n : Nat, q = (n : Int) := ⟨q.toNat, (Int.toNat_of_nonneg (Int.not_lt.1 hneg)).symm⟩
  subst hn
  rw [Int.toNat_natCast]
  clear hq
  have hnl := HLT.out
  rw [hlen] at hnl
  have hnl' : n < L.length := Int.ofNat_lt.1 hnl
  have HNL := aM hnl'
  have h6 := HAO.out.len
  obtain ⟨W, hW⟩ : ∃ W, wordA L n n ⟨#[]⟩ = W := ⟨_, rfl⟩
  rw [hW]
  obtain ⟨res, hres⟩ : ∃ res, (if W.size > 120 then ((⟨#[]⟩ : ByteArray), false) else (W, true)) = res := ⟨_, rfl⟩
  rw [hres]
  have HRES := aM hres
  clear hres
  have HW := aM (show ∃ m, n ≤ m ∧ wordA L m n ⟨#[]⟩ = W from ⟨n, Nat.le_refl _, hW⟩)
  have hn0 : (0 : Int) ≤ (n : Int) := Int.natCast_nonneg n
  clear hW hnl hnl' hlen hlen1 hlen2
  go_enter Tryz.func26, Tryz.ntmps26
  go_wp2_with (first | (go_at_call 55; refine (HC.out _).mono ?_; rintro e w1 ⟨rfl, hb⟩; rw [HQ.out]; have B := aM hb; clear hb))
  clear hneg hn0 hc0
  go_loopg [6, 7] n (fun gg v6 v7 wq => ∃ (k : Nat) (out : ByteArray), v6 = .int .i64 k ∧ v7 = .string out ∧ k ≤ gg ∧ Aside0 (∃ m, k ≤ m ∧ wordA L m k out = W) ∧ Aside0 (k < L.length) ∧ Aside0 (out.size + 2 * k ≤ 12000) ∧ Aside0 (Below w.heap.size w wq))
  case atStart => exact ⟨n, ⟨#[]⟩, rfl, rfl, Nat.le_refl _, HW, HNL, ⟨by have h1 := HNL.out; show 0 + 2 * n ≤ 12000; omega⟩, B⟩
  case round =>
   clear B HW HNL
   obtain ⟨k, out, rfl, rfl, hgk, HW, HK, HS, B⟩ := hrel
   rename World => wq
   by_cases hk : 0 < k
   ·have hkz : (0 : Int) < (k : Int) := by omega
    have hk0 : (0 : Int) ≤ (k : Int) := by omega
    have hkl := HK.out
    obtain ⟨x, hx⟩ : ∃ x, L[k]? = some x := ⟨_, List.getElem?_eq_getElem hkl⟩
    have hxm := List.mem_of_getElem? hx
    have hbf := HAO.out.bef k x hk hx
    have hsg := HAO.out.sgn x hxm
    obtain ⟨m, hkm, hwm⟩ := HW.out
    obtain ⟨m, rfl⟩ : ∃ q, m = q + 1 := ⟨m - 1, by omega⟩
    rw [wordA, if_neg (by omega), hx] at hwm
    simp only at hwm
    have hbl : wq.heap[gp]? = some (.cells #[.slice A0 (L.map Prod.fst).length c0, .slice A1 (L.map fun x => x.2.1).length c1, .slice A2 (L.map fun x => x.2.2).length c2] 92 (0, 0)) := qCA HB0.out B.out
    have hc1 : wq.cell? ⟨gp, 1, none⟩ = some (.slice A1 (L.map fun x => x.2.1).length c1) := (qw hbl 1).trans rfl
    have hc2 : wq.cell? ⟨gp, 2, none⟩ = some (.slice A2 (L.map fun x => x.2.2).length c2) := (qw hbl 2).trans rfl
    rw [List.length_map] at hc1 hc2
    obtain ⟨ad1, e1, hm1⟩ := Kd.qHB (Kd.qV HC1.out B.out) (k : Int) hk0 (by rw [List.length_map]; omega)
    obtain ⟨ad2, e2, hm2⟩ := Kd.qvB (Kd.qV HC2.out B.out) (k : Int) hk0 (by rw [List.length_map]; omega)
    subst e1 e2
    rw [Int.toNat_natCast] at hm1 hm2
    rw [show rd (L.map fun x => x.2.1) (k : Int) = x.2.1 by unfold rd; rw [Int.toNat_natCast, List.getD_eq_getElem?_getD, List.getElem?_map, hx]; rfl] at hm1
    rw [show rdOf ByteArray.empty (L.map fun x => x.2.2) (k : Int) = x.2.2 by unfold rdOf; rw [Int.toNat_natCast, List.getD_eq_getElem?_getD, List.getElem?_map, hx]; rfl] at hm2
    obtain ⟨b, hb⟩ : ∃ b : Nat, x.2.1 = (b : Int) := ⟨x.2.1.toNat, by omega⟩
    rw [hb] at hm1
    rw [hb, Int.toNat_natCast] at hwm
    have hbk : b < k := by omega
    obtain ⟨s, hs⟩ : ∃ s, x.2.2 = s := ⟨_, rfl⟩
    rw [hs] at hm2 hwm hsg
    have hss := HS.out
    have hin : (k : Int) < (L.length : Int) := by omega
    have HX := aM hwm
    have HBK := aM (And.intro hbk (show b ≤ m by omega))
    have HSS := aM hsg
    have hap : s.size + out.size ≤ 9223372036854775807 := by omega
    clear hx hxm hbf hwm hbl hkm hb hs hsg hss hbk
    go_wp2
    go_roundg b
    case measure => have := HBK.out.1; omega
    case rel => exact ⟨b, s ++ out, rfl, rfl, Nat.le_refl _, ⟨⟨m, HBK.out.2, HX.out⟩⟩, ⟨by have := HBK.out.1; have := HK.out; omega⟩, ⟨by have h1 := HBK.out.1; have h2 := HS.out; have h3 := HSS.out; rw [ByteArray.size_append]; omega⟩, B⟩
   ·have hkz : ¬ (0 : Int) < (k : Int) := by omega
    obtain rfl : k = 0 := by omega
    have hout : out = W := by
     obtain ⟨m, _, h⟩ := HW.out
     rw [wordA_zero] at h
     exact h
    subst hout
    by_cases h120 : out.size > 120
    ·have hz : (120 : Int) < (out.size : Int) := by omega
     have H120 := aM h120
     clear h120
     go_wp2
     go_ret2
     refine ⟨?_, B.out⟩
     have hr := HRES.out
     rw [if_pos H120.out] at hr
     rw [← hr]; rfl
    ·have hz : ¬ (120 : Int) < (out.size : Int) := by omega
     have H120 := aM h120
     clear h120
     go_wp2
     go_ret2
     refine ⟨?_, B.out⟩
     have hr := HRES.out
     rw [if_neg H120.out] at hr
     rw [← hr]; rfl
end Go.Proofs.YthhiiceligjleaaGreatDoor
namespace Go.Proofs.YthhiiceligjleaaGreatDoor
open Go.RowKit Go.Proofs.YthhiiceligjleaaGreatDoor.P Go.Proofs.YthhiiceligjleaaGreatDoorW.PrintWords Go.Proofs.YthhiiceligjleaaGreatDoorW.PrintLast
set_option linter.unusedVariables false
set_option linter.unusedSimpArgs false
def badC (a : ByteArray) (x : List Int) : Bool := if x.length = 2 then !hasB a (rd x 0) (rd x 1) else true
set_option maxHeartbeats 1000000 in
set_option maxRecDepth 100000 in
theorem cells1_calls (a : ByteArray) (gd : Gnd a) (x : List Int) (A : Option Addr) (c b : Nat) (A1 : Option Addr) (c1 : Nat) (w : World) (hr1 : Kd.C Kd.string w A1 (rowsT a).length (rowsT a)) (hc1 : (rowsT a).length ≤ c1) (hp : w.cell? ⟨b, 0, none⟩ = some (.slice A1 (rowsT a).length c1))
  (hx : Kd.C (Kd.int .i64) w A x.length x) (hc : x.length ≤ c) :
  Calls Tryz.prog 36 (#[.slice A x.length c] ++ #[.pointer (some ⟨b, 0, none⟩)]) w fun e w' => e = .returned (.bool (badC a x)) ∧ Below w.heap.size w w' := by
 show Calls Tryz.prog 36 #[.slice A x.length c, .pointer (some ⟨b, 0, none⟩)] w _
 have g7 := World.block_lt_of_cell? w _ hp
 unfold badC
 by_cases h2 : x.length = 2
 ·rw [if_pos h2]
  have hh := quE gd (rd x 0) (rd x 1)
  have HH := fun (W : World) (hw : Below w.heap.size w W) => Lib.hid (qDB.calls A1 c1 (rowsT a) (rd x 0) (rd x 1) _ W (Kd.qV hr1 hw) hc1 hh)
  generalize hasB a (rd x 0) (rd x 1) = r at HH ⊢
  have p0 : (0 : Int) ≤ 0 := by decide
  have p1 : (0 : Int) ≤ 1 := by decide
  have q0 : (0 : Int) < (x.length : Int) := by omega
  have q1 : (1 : Int) < (x.length : Int) := by omega
  obtain ⟨ad, e0, hx0⟩ := Kd.qHB hx 0 p0 q0
  obtain ⟨ad1, e1, hx1⟩ := Kd.qHB hx 1 p1 q1
  cases e0
  cases e1
  rw [show (0 : Int).toNat = 0 from rfl, Addr.add_zero'] at hx0
  rw [show (1 : Int).toNat = 1 from rfl] at hx1
  have hx2 : w.cell? ⟨ad.block, ad.off + 1, none⟩ = some (.int .i64 (rd x 1)) := hx1
  have qi0 : (0 < x.length) = True := eq_true (by omega)
  have qi1 : (1 < x.length) = True := eq_true (by omega)
  have hb0 : ((x.length : Int) != 2) = false := by rw [h2]; rfl
  have hb1 : ((x.length : Int) == 2) = true := by rw [h2]; rfl
  clear hr1 hc1 hx hc hh h2
  go_enter Tryz.func36, Tryz.ntmps36
  go_wp2
  go_quiet ((go_at_call 37; exact Calls.quiet_of ((HH _ (qIA (Below.refl _ _) _)).out.mono fun _ _ h => ⟨h.1, by obtain ⟨m, e⟩ := h.2; exact ⟨m, e⟩⟩)))
  try go_wp2
  go_ret
  exact ⟨rfl, by repeat (first | exact Below.refl _ _ | apply qIA | apply qi)⟩
 ·rw [if_neg h2]
  have hb0 : ((x.length : Int) != 2) = true := bne_iff_ne.2 (by omega)
  have hb1 : ((x.length : Int) == 2) = false := beq_eq_false_iff_ne.2 (by omega)
  clear hr1 hc1 hx hc h2
  go_enter Tryz.func36, Tryz.ntmps36
  go_wp2
  go_quiet (fail)
  try go_wp2
  go_ret
  exact ⟨rfl, by repeat (first | exact Below.refl _ _ | apply qIA | apply qi)⟩
end Go.Proofs.YthhiiceligjleaaGreatDoor
namespace Go.Proofs.YthhiiceligjleaaGreatDoor
open Go.RowKit Go.Proofs.YthhiiceligjleaaGreatDoor.P Go.Proofs.YthhiiceligjleaaGreatDoorW.PrintWords Go.Proofs.YthhiiceligjleaaGreatDoorW.PrintLast Go.Proofs.YthhiiceligjleaaGreatDoorW.PrintMore
set_option linter.unusedVariables false
set_option linter.unusedSimpArgs false
theorem box_cell (w : World) (v : Value) (t : TypeId) : (w.alloc (.cells #[v] t)).cell? ⟨w.heap.size, 0, none⟩ = some v :=
 (qw (show (w.alloc (.cells #[v] t)).heap[w.heap.size]? = some (.cells #[v] t (0, 0)) from Array.getElem?_push_size) 0).trans rfl
theorem plansB_ask {a : ByteArray} {l : List XS} {L : List PN} (h : plansB a l = some L) : askD a l = true := by
 cases hb : askD a l with
 | true => rfl
 | false => unfold plansB at h; rw [hb, if_neg (by simp)] at h; cases h
theorem badC_two {a : ByteArray} {cs : List (List Int)} (h : cs.any (badC a) = false) : ∀ c ∈ cs, c.length = 2 := fun c hc => by
 have h1 := List.any_eq_false.1 h c hc
 unfold badC at h1
 by_cases e : c.length = 2
 case pos => exact e
 rw [if_neg e] at h1; simp at h1
namespace P
def qjA.f (a : ByteArray) (l : List S53) (cs : List (List Int)) : Option (ByteArray × Bool) := if a.size ≤ 1048576 ∧ l.length ≤ 2000000 ∧ cs.length ≤ 2000000 then some (match plansB a l with | none => ((⟨#[]⟩ : ByteArray), false) | some L => if cs.length = l.length ∧ cs.any (badC a) = false then toB (fun own => atAll own cs) L else ((⟨#[]⟩ : ByteArray), false)) else none
set_option maxHeartbeats 4000000 in
set_option maxRecDepth 100000 in
theorem qjA.calls (a0 : ByteArray) (A1 : Option Addr) (c1 : Nat) (l1 : List S53) (A2 : Option Addr) (c2 : Nat) (l2 : List (List Int)) (r1 : ByteArray) (r2 : Bool) (w : World) (hr1 : Kd.C k53 w A1 l1.length l1) (hc1 : l1.length ≤ c1) (hr2 : Kd.C (Kd.slice 3 (Kd.int .i64)) w A2 l2.length l2) (hc2 : l2.length ≤ c2) (hL : Laid w) (h : qjA.f a0 l1 l2 = some (r1, r2)) :
  Calls Tryz.prog 16 #[.string a0, .slice A1 l1.length c1, .slice A2 l2.length c2] w fun e w' => e = .returned (.tuple #[.string r1, .bool r2]) ∧ Below w.heap.size w w' := by
 unfold qjA.f at h
 split at h
 case isFalse => cases h
 rename_i hs
 obtain ⟨rows, ⟨kt, hkt⟩, hrw⟩ := board_ev a0 hs.1
 have HT := aM (hkt kt (Nat.le_refl _))
 have HP := aM (fun W (hb : Below w.heap.size w W) => plansOf_calls a0 A1 c1 l1 W (Kd.qV hr1 hb) hc1 (Laid.below hL hb) hs.1 hs.2.1)
 have HR2 := aM hr2
 have HC2 := aM hc2
 have HL := aM hL
 injection h with h
 have HH := aM h
 clear hkt hr1 hr2 hc1 hc2 hL hs h
 have B0 := aM (Below.refl w.heap.size w)
 cases hp : plansB a0 l1 with
 | none =>
  rw [hp] at HH HP
  have H2 := HH.out
  simp only [Prod.mk.injEq] at H2
  obtain ⟨rfl, rfl⟩ := H2
  clear hp HH hrw
  go_enter Tryz.func16, Tryz.ntmps16
  go_wp2_with (first
   | ((with_reducible refine qH (N := 5) rfl ?_); go_loud (refine bE (N := 5) (cs := #[.slice A2 l2.length c2]) (t := 32) ?_; intro gb hgb w1 hbox hb; have BK := aM hbox; have B1 := aM hb; clear hbox hb hgb B0))
   | (go_at_call 24; go_loud (refine (HP.out _ B1.out).mono ?_; rintro e w2 ⟨v, rfl, hv, hb⟩; have n1_ := aM (qB B1.out hb); clear hb hv BK B1; have B2 := n1_; clear n1_)))
  go_ret2
  exact ⟨rfl, B2.out⟩
 | some L =>
  rw [hp] at HH HP
  have hask := plansB_ask hp
  have HOK := aM (plansB_ok hp)
  have hb := qyC hask
  have GD := aM (qDE hb)
  obtain rfl := hrw hb
  rw [hb] at HT
  clear hp hb hrw hask
  have H2 := HH.out
  clear HH
  by_cases hl : l2.length = l1.length
  ·have hln : (l2.length : Int) = (l1.length : Int) := by omega
   have hlb : ((l2.length : Int) != (l1.length : Int)) = false := by rw [hln]; simp
   have hlc : ((l2.length : Int) == (l1.length : Int)) = true := by rw [hln]; simp
   have EG := aM (Go.Proofs.enters_of Tryz.func36 (by kernel_rfl) rfl)
   have EG2 := aM (Go.Proofs.enters_of Tryz.func38 (by kernel_rfl) rfl)
   have HLN := aM hl
   cases hq : l2.any (badC a0) with
   | true =>
    simp only [hq] at H2
    rw [if_neg (by simp)] at H2
    simp only [Prod.mk.injEq] at H2
    obtain ⟨rfl, rfl⟩ := H2
    have HQ := aM hq
    clear hq hl
    go_enter Tryz.func16, Tryz.ntmps16
    go_wp2_with (first
     | ((with_reducible refine qH (N := 5) rfl ?_); go_loud (refine bE (N := 5) (cs := #[.slice A2 l2.length c2]) (t := 32) ?_; intro gb hgb w1 hbox hb; have BK := aM hbox; have B1 := aM hb; clear hbox hb hgb B0))
     | (go_at_call 24; go_loud (refine (HP.out _ B1.out).mono ?_; rintro e w2 ⟨v, rfl, hv, hb⟩; have HV := aM (hv L rfl); have B2 := aM (qB B1.out hb); replace BK := aM (qCA BK.out hb); clear hb; clear hv; clear B1; have hcz : w2.cell? ⟨gb, 0, none⟩ = some (.slice A2 l2.length c2) := (qw BK.out 0).trans rfl))
     | (go_at_call 34; go_loud (refine (qWB.calls kt a0 _ _ _ (Laid.below HL.out B2.out) HT.out).mono ?_; rintro e w3 ⟨v0_, rfl, hR, hb⟩; obtain ⟨Ar, cr, er⟩ := Kd.qDA hR; subst er; have HRD := aM (Kd.qO hR); have HV3 := aM (PlansAt.below HV.out hb); have BK3 := aM (qCA BK.out hb); have B3 := aM (qB B2.out hb); clear hb hR hcz HV BK B2; have hcz : w3.cell? ⟨gb, 0, none⟩ = some (.slice A2 l2.length c2) := bc BK3 0; have hcz2 : ∀ o, (w3.alloc o).cell? ⟨gb, 0, none⟩ = some (.slice A2 l2.length c2) := fun o => qFA (qt (Below.refl _ _) o) hcz; have HCF := aM (fun (W : World) (hW : Below w3.heap.size w3 W) (hcell : W.cell? ⟨w3.heap.size, 0, none⟩ = some (.slice Ar (rowsT a0).length cr)) => containsFunc_II (badC a0) 36 #[.pointer (some ⟨w3.heap.size, 0, none⟩)] EG.out A2 c2 l2 W (Kd.qV HR2.out (qB B3.out hW)) (fun W' x A c hx hW' hle hC => cells1_calls a0 GD.out x A c w3.heap.size Ar cr W' (Kd.qV (Kd.qV HRD.out.2.2 hW) hW') HRD.out.2.1 (qFA hW' hcell) hC hle))))
     | (go_at_call 35; go_loud (refine (HCF.out _ (qt (Below.refl _ _) _) (box_cell _ _ _)).mono ?_; rw [HQ.out]; rintro e w4 ⟨rfl, hb⟩; have hb2 := qEA (qt (Below.refl w3.heap.size w3) _) (qt (Below.refl w3.heap.size w3) _).size hb; have HV4 := aM (PlansAt.below HV3.out hb2); have BK4 := aM (qCA BK3.out hb2); have B4 := aM (qB B3.out hb2); clear hb hb2 hcz hcz2 HV3 BK3 B3 HCF)))
    go_ret2
    exact ⟨rfl, B4.out⟩
   | false =>
    simp only [hq] at H2
    rw [if_pos ⟨hl, trivial⟩] at H2
    have HRS := aM H2
    have HQ := aM hq
    clear hq hl H2
    go_enter Tryz.func16, Tryz.ntmps16
    go_wp2_with (first
     | ((with_reducible refine qH (N := 5) rfl ?_); go_loud (refine bE (N := 5) (cs := #[.slice A2 l2.length c2]) (t := 32) ?_; intro gb hgb w1 hbox hb; have BK := aM hbox; have B1 := aM hb; clear hbox hb hgb B0))
     | (go_at_call 24; go_loud (refine (HP.out _ B1.out).mono ?_; rintro e w2 ⟨v, rfl, hv, hb⟩; have HV := aM (hv L rfl); have B2 := aM (qB B1.out hb); replace BK := aM (qCA BK.out hb); clear hb; clear hv; clear B1; have hcz : w2.cell? ⟨gb, 0, none⟩ = some (.slice A2 l2.length c2) := (qw BK.out 0).trans rfl))
     | (go_at_call 34; go_loud (refine (qWB.calls kt a0 _ _ _ (Laid.below HL.out B2.out) HT.out).mono ?_; rintro e w3 ⟨v0_, rfl, hR, hb⟩; obtain ⟨Ar, cr, er⟩ := Kd.qDA hR; subst er; have HRD := aM (Kd.qO hR); have HV3 := aM (PlansAt.below HV.out hb); have BK3 := aM (qCA BK.out hb); have B3 := aM (qB B2.out hb); clear hb hR hcz HV BK B2; have hcz : w3.cell? ⟨gb, 0, none⟩ = some (.slice A2 l2.length c2) := bc BK3 0; have hcz2 : ∀ o, (w3.alloc o).cell? ⟨gb, 0, none⟩ = some (.slice A2 l2.length c2) := fun o => qFA (qt (Below.refl _ _) o) hcz; have HCF := aM (fun (W : World) (hW : Below w3.heap.size w3 W) (hcell : W.cell? ⟨w3.heap.size, 0, none⟩ = some (.slice Ar (rowsT a0).length cr)) => containsFunc_II (badC a0) 36 #[.pointer (some ⟨w3.heap.size, 0, none⟩)] EG.out A2 c2 l2 W (Kd.qV HR2.out (qB B3.out hW)) (fun W' x A c hx hW' hle hC => cells1_calls a0 GD.out x A c w3.heap.size Ar cr W' (Kd.qV (Kd.qV HRD.out.2.2 hW) hW') HRD.out.2.1 (qFA hW' hcell) hC hle))))
     | (go_at_call 35; go_loud (refine (HCF.out _ (qt (Below.refl _ _) _) (box_cell _ _ _)).mono ?_; rw [HQ.out]; rintro e w4 ⟨rfl, hb⟩; have hb2 := qEA (qt (Below.refl w3.heap.size w3) _) (qt (Below.refl w3.heap.size w3) _).size hb; have HV4 := aM (PlansAt.below HV3.out hb2); have BK4 := aM (qCA BK3.out hb2); have B4 := aM (qB B3.out hb2); clear hb hb2 hcz hcz2 HV3 BK3 B3 HCF))
     | (go_at_call 26; go_loud (refine (to_calls HOK.out (fun own => atAll own l2) 38 #[.pointer (some ⟨gb, 0, none⟩)] EG2.out v _ HV4.out (fun W x A c hx hW hle hC => cells2_calls l2 x (by obtain ⟨y, hy, rfl⟩ := List.mem_map.1 hx; have h1 := (HOK.out.kin y hy).1; have h2 := HLN.out; omega) (badC_two HQ.out) A c gb A2 c2 W hC hle ((qw (qCA BK4.out hW) 0).trans rfl) (Kd.qV HR2.out (qB B4.out hW)))).mono ?_; rw [HRS.out]; rintro e w5 ⟨rfl, hb⟩; have B5 := aM (qB B4.out hb); clear hb)))
    go_ret2
    exact ⟨rfl, B5.out⟩
  ·simp only [hl, false_and, if_false] at H2
   simp only [Prod.mk.injEq] at H2
   obtain ⟨rfl, rfl⟩ := H2
   have hln : ¬ (l2.length : Int) = (l1.length : Int) := fun e => hl (by omega)
   have hlb : ((l2.length : Int) != (l1.length : Int)) = true := bne_iff_ne.2 hln
   have hlc : ((l2.length : Int) == (l1.length : Int)) = false := beq_eq_false_iff_ne.2 hln
   clear hl
   go_enter Tryz.func16, Tryz.ntmps16
   go_wp2_with (first
    | ((with_reducible refine qH (N := 5) rfl ?_); go_loud (refine bE (N := 5) (cs := #[.slice A2 l2.length c2]) (t := 32) ?_; intro gb hgb w1 hbox hb; have BK := aM hbox; have B1 := aM hb; clear hbox hb hgb B0))
    | (go_at_call 24; go_loud (refine (HP.out _ B1.out).mono ?_; rintro e w2 ⟨v, rfl, hv, hb⟩; have HV := aM (hv L rfl); have B2 := aM (qB B1.out hb); replace BK := aM (qCA BK.out hb); clear hb; clear hv; clear B1; have hcz : w2.cell? ⟨gb, 0, none⟩ = some (.slice A2 l2.length c2) := (qw BK.out 0).trans rfl)))
   go_ret2
   exact ⟨rfl, B2.out⟩
end P
end Go.Proofs.YthhiiceligjleaaGreatDoor
