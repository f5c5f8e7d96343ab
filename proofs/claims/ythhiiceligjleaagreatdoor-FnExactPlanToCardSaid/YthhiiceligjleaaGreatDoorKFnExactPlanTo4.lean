/- The program's PlanTo returns what the reference's returns, for all texts and dice and goals (the law lets longer texts and lists by). No further condition. -/
import Derived.Test.YthhiiceligjleaaGreatDoorKFnExactPlanTo3
import Derived.Lib.SliceRun
import Derived.KernelRfl

namespace Go.Proofs.YthhiiceligjleaaGreatDoor
open Go.RowKit Go.Proofs.YthhiiceligjleaaGreatDoor.P Go.Proofs.YthhiiceligjleaaGreatDoorW.PrintWords Go.Proofs.YthhiiceligjleaaGreatDoorW.PrintLast
set_option linter.unusedVariables false
set_option linter.unusedSimpArgs false
theorem qpC (n a b : Int) : qhA.f n a b = some (decide (a ≤ n) && decide (n ≤ b)) := by
 unfold qhA.f
 by_cases h : a ≤ n
 ·rw [if_pos h, decide_eq_true h, Bool.true_and]
 ·rw [if_neg h, decide_eq_false h, Bool.false_and]
theorem qcE (l : List ByteArray) (i : Nat) (h : i < l.length) : rdOf ByteArray.empty l (i : Int) = l[i] := by
 unfold rdOf
 rw [Int.toNat_natCast, List.getD_eq_getElem?_getD, List.getElem?_eq_getElem h]; rfl
theorem qHC (s : ByteArray) : s.data.toList.length = s.size := by rw [Array.length_toList]; rfl
theorem gr_bt (s : ByteArray) (i : Nat) (h : i < s.data.toList.length) : bt s (i : Int) = ((s.data.toList[i]).toNat : Int) := by
 have h' : i < s.size := by rw [← qHC]; exact h
 unfold bt
 rw [dif_pos (by simpa using h')]
 simp only [Int.toNat_natCast, Array.getElem_toList]
 rfl
def fitR (C : List UInt8) (w : Nat) (r : List UInt8) : Bool := decide (r.length = w) && r.all (C.contains ·)
def szR (w h : Nat) : Bool := decide (1 ≤ h) && decide (h ≤ 7) && decide (1 ≤ w) && decide (w ≤ 7) && decide (w * h ≤ 36)
theorem rowsOf_loop (C : ByteArray) (hC : C.size < 100) (hA : (C.data.toList.all fun b => decide (b.toNat < 128)) = true) (w : Nat) (hw : w ≤ 4294967281) (L : List ByteArray) (hL : L.length ≤ 4294967281) (hs : ∀ x ∈ L, x.size ≤ 4294967281) (d : Nat) : ∀ i : Nat, i ≤ L.length → L.length - i = d →
  Ev (fun k => qYA.l0 k C (w : Int) L (L.length : Int) (i : Int)) (if (L.drop i).all (fun x => fitR C.data.toList w x.data.toList) then (L, szR w L.length) else ([], false)) := by
 induction d with
 | zero =>
  intro i hi hd
  refine Ev.step (f := fun k => _) (fun k => by rw [qYA.l0]) ?_
  refine Ev.neg (by omega) (Ev.bindc (qpC _ _ _) ?_)
  rw [List.drop_eq_nil_of_le (by omega), List.all_nil, if_pos rfl]
  by_cases h1 : 1 ≤ L.length ∧ L.length ≤ 7
  ·have e1 : (decide ((1 : Int) ≤ (L.length : Int)) && decide ((L.length : Int) ≤ 7)) = true := by rw [decide_eq_true (by omega), decide_eq_true (by omega)]; rfl
   refine Ev.pos e1 (Ev.bindc (qpC _ _ _) ?_)
   by_cases h2 : 1 ≤ w ∧ w ≤ 7
   ·have e2 : (decide ((1 : Int) ≤ (w : Int)) && decide ((w : Int) ≤ 7)) = true := by rw [decide_eq_true (by omega), decide_eq_true (by omega)]; rfl
    refine Ev.pos e2 (Ev.some_ ?_)
    have hm : w * L.length ≤ 7 * 7 := Nat.mul_le_mul h2.2 h1.2
    have hc : ((w : Int) * (L.length : Int)) = ((w * L.length : Nat) : Int) := by push_cast; rfl
    rw [hc]
    generalize hn : w * L.length = n at *
    have ew : wrap64 (n : Int) = (n : Int) := by unfold wrap64; omega
    rw [ew]
    have : szR w L.length = decide (n ≤ 36) := by
     unfold szR
     rw [hn, decide_eq_true h1.1, decide_eq_true h1.2, decide_eq_true h2.1, decide_eq_true h2.2]; rfl
    rw [this]
    congr 1
    exact decide_eq_decide.2 (by omega)
   ·refine Ev.neg (by simp only [Bool.and_eq_true, decide_eq_true_eq]; omega) (Ev.some_ ?_)
    have : szR w L.length = false := by
     unfold szR
     simp only [Bool.and_eq_false_iff, decide_eq_false_iff_not]; omega
    rw [this]
  ·refine Ev.neg (by simp only [Bool.and_eq_true, decide_eq_true_eq]; omega) (Ev.some_ ?_)
   have : szR w L.length = false := by
    unfold szR
    simp only [Bool.and_eq_false_iff, decide_eq_false_iff_not]; omega
   rw [this]
 | succ d ih =>
  intro i hi hd
  have h : i < L.length := by omega
  refine Ev.step (f := fun k => _) (fun k => by rw [qYA.l0]) ?_
  refine Ev.pos (by omega) (Ev.pos (by omega) (Ev.pos (by omega) ?_))
  rw [qcE L i h, List.drop_eq_getElem_cons h, List.all_cons, show wrap64 ((i : Int) + 1) = ((i + 1 : Nat) : Int) by unfold wrap64; omega]
  have hsz := hs _ (List.getElem_mem h)
  have ihh := ih (i + 1) (by omega) (by omega)
  generalize L[i] = x at *
  by_cases hx : x.size = w
  ·refine Ev.pos (by omega) (Ev.bindc (show qNB.f x C = some _ from by unfold qNB.f; rw [if_pos ⟨by omega, by omega, hA⟩]) ?_)
   have ht : (⟨(Lib.trimS x.data.toList C.data.toList).toArray⟩ : ByteArray).toList = Lib.trimS x.data.toList C.data.toList := by
    rw [Lib.toList_data]
   by_cases hal : x.data.toList.all (C.data.toList.contains ·) = true
   ·refine Ev.pos (by rw [ht]; exact (trimS_nil _ _).2 hal) ?_
    have : fitR C.data.toList w x.data.toList = true := by
     unfold fitR
     rw [hal, Bool.and_true, decide_eq_true (by rw [qHC]; exact hx)]
    rw [this, Bool.true_and]
    exact ihh
   ·refine Ev.neg (by rw [ht]; exact fun e => hal ((trimS_nil _ _).1 e)) (Ev.some_ ?_)
    have : fitR C.data.toList w x.data.toList = false := by
     unfold fitR
     rw [Bool.eq_false_iff.2 hal, Bool.and_false]
    rw [this]; rfl
  ·refine Ev.neg (by omega) (Ev.some_ ?_)
   have : fitR C.data.toList w x.data.toList = false := by
    unfold fitR
    rw [decide_eq_false (by rw [qHC]; exact hx), Bool.false_and]
   rw [this]; rfl
def rowsT (a : ByteArray) : List ByteArray := Lib.splitB ⟨#[47]⟩ 0 (Lib.countB a ⟨#[47]⟩) a
theorem qPC (a : ByteArray) : (rowsT a).map (·.data.toList) = (sp 47 a.data.toList).1 :: (sp 47 a.data.toList).2 := split_sp a 47
def wideT (a : ByteArray) : Nat := (sp 47 a.data.toList).1.length
def highT (a : ByteArray) : Nat := (sp 47 a.data.toList).2.length + 1
theorem qLC (a : ByteArray) : (rowsT a).length = highT a := by
 have := congrArg List.length (qPC a)
 simpa [highT] using this
def rowsFit (C : List UInt8) (a : ByteArray) : Bool := ((sp 47 a.data.toList).1 :: (sp 47 a.data.toList).2).all (fitR C (wideT a))
theorem sum_le_mem (l : List Nat) : ∀ x ∈ l, x ≤ l.sum := by
 induction l with
 | nil => intro x h; cases h
 | cons b l ih =>
  intro x h
  rw [List.sum_cons]
  rcases List.mem_cons.1 h with rfl | h
  ·omega
  ·have := ih x h; omega
theorem rowsT_size (a : ByteArray) : ∀ x ∈ rowsT a, x.size ≤ a.size := by
 intro x hx
 have h1 : x.data.toList ∈ (rowsT a).map (·.data.toList) := List.mem_map_of_mem hx
 rw [qPC] at h1
 have h2 := qfD 47 a.data.toList
 rw [qHC] at h2
 rw [← qHC x]
 rcases List.mem_cons.1 h1 with h | h
 ·rw [h]; omega
 ·have := sum_le_mem _ _ (List.mem_map_of_mem (f := List.length) h); omega
theorem rowsOf_ev (a C : ByteArray) (ha : a.size ≤ 1048576) (hC : C.size < 100) (hA : (C.data.toList.all fun b => decide (b.toNat < 128)) = true) :
  Ev (fun k => qYA.f k a C) (if rowsFit C.data.toList a then (rowsT a, szR (wideT a) (highT a)) else ([], false)) := by
 unfold qYA.f
 refine Ev.bindc (show strings_Split.f a ⟨#[47]⟩ = some (rowsT a) from by unfold strings_Split.f; rw [if_pos ⟨by omega, by decide⟩]; rfl) ?_
 have hlen := qLC a
 have hl2 := qfD 47 a.data.toList
 rw [qHC] at hl2
 have hh : highT a ≤ a.size + 1 := by unfold highT; omega
 have h0 : 0 < (rowsT a).length := by rw [hlen]; unfold highT; omega
 refine Ev.pos (by omega) ?_
 have e0 : rdOf ByteArray.empty (rowsT a) 0 = (rowsT a)[0] := qcE (rowsT a) 0 h0
 have e1 : ((rowsT a)[0]).size = wideT a := by
  have := qPC a
  have h2 : ((rowsT a).map (·.data.toList))[0]'(by simpa using h0) = (sp 47 a.data.toList).1 := by
   simp only [this, List.getElem_cons_zero]
  rw [List.getElem_map] at h2
  rw [← qHC, h2]; rfl
 rw [e0, e1]
 have hw : wideT a ≤ a.size := by rw [← e1]; exact rowsT_size a _ (List.getElem_mem h0)
 have := rowsOf_loop C hC hA (wideT a) (by omega) (rowsT a) (by omega) (fun x hx => by have := rowsT_size a x hx; omega) (rowsT a).length 0 (by omega) (by omega)
 rw [List.drop_zero] at this
 have e2 : (rowsT a).all (fun x => fitR C.data.toList (wideT a) x.data.toList) = rowsFit C.data.toList a := by
  unfold rowsFit
  rw [← qPC, List.all_map]; rfl
 rw [e2] at this
 rw [← hlen]
 exact this
end Go.Proofs.YthhiiceligjleaaGreatDoor
namespace Go.Proofs.YthhiiceligjleaaGreatDoor.P
open Go.RowKit Go.Proofs.YthhiiceligjleaaGreatDoorW.PrintWords Go.Proofs.YthhiiceligjleaaGreatDoorW.PrintLast Go.Proofs.YthhiiceligjleaaGreatDoorW.PrintMore
attribute [local go_sem] ql qj qu qt qd qc qk qi
set_option linter.unusedVariables false
set_option linter.unusedSimpArgs false
def qnB.f (k : Nat) (a0 : ByteArray) : Option (List ByteArray × Bool) := (qYA.f k a0 (⟨#[46, 35]⟩ : ByteArray)).bind fun bt401 => (some (bt401.1, bt401.2))
set_option maxHeartbeats 8000000 in
set_option maxRecDepth 100000 in
theorem qnB.calls (k : Nat) (a0 : ByteArray) (r1 : List ByteArray) (r2 : Bool) (w : World) (hL : Laid w) (h : qnB.f k a0 = some (r1, r2)) :
  Calls Tryz.prog 34 #[.string a0] w fun e w' => ∃ v0_ : Value, e = .returned (.tuple #[v0_, .bool r2]) ∧ Kd.R Kd.string 9 w' w.heap.size (fun _ => True) v0_ r1 ∧ Below w.heap.size w w' := by
 have HLD := aM hL
 clear hL
 have HB := aM (Below.refl w.heap.size w)
 have H : ((qYA.f k a0 (⟨#[46, 35]⟩ : ByteArray)).bind fun bt401 => (some (bt401.1, bt401.2))) = some (r1, r2) := h
 clear h
 replace H := bO H
 obtain ⟨⟨t401, t402⟩, A2, H⟩ := H
 dsimp only at H A2
 simp only [Option.some.injEq, Prod.mk.injEq] at H
 obtain ⟨rfl, rfl⟩ := H
 go_enter Tryz.func34, Tryz.ntmps34
 go_wp2_with (first | ((with_reducible refine qF (f := 57) rfl ?_); refine qn (some 5) rfl rfl Tryz.func57 (by kernel_rfl) rfl #[.string a0, .string (⟨#[46, 35]⟩ : ByteArray)] rfl gA ?_; (with_reducible refine (qYA.calls k a0 (⟨#[46, 35]⟩ : ByteArray) t401 t402 _ ?side1 A2.out).mono ?_); (case side1 => first | (with_reducible exact HLD.out) | exact Laid.below HLD.out bl); rintro e w3 ⟨v403, rfl, ho0, hb⟩; refine ⟨_, rfl, ?_⟩; have HO404 := aM (Kd.qAA ho0 (qL bl)); replace HB := aM (qB bl hb); (try clear hb); (try clear hb2); (try clear hk); (try clear hi); (try clear ho0)))
 go_ret2
 exact ⟨_, sR, by (with_reducible repeat (first | apply Kd.qQ | apply Kd.qU | apply Kd.qV)); exact HO404.out, bl⟩
end Go.Proofs.YthhiiceligjleaaGreatDoor.P
namespace Go.Proofs.YthhiiceligjleaaGreatDoor
open Go.RowKit Go.Proofs.YthhiiceligjleaaGreatDoor.P Go.Proofs.YthhiiceligjleaaGreatDoorW.PrintWords Go.Proofs.YthhiiceligjleaaGreatDoorW.PrintLast
set_option linter.unusedVariables false
set_option linter.unusedSimpArgs false
abbrev RdG := Int × Int × List Int × Bool
def badG : RdG := (0, 0, [], false)
def finG (w h : Nat) (cs : List Int) : RdG := if 7 < w then badG else if 7 < h then badG else if 36 < cs.length then badG else ((w : Int), (h : Int), cs, true)
def runG : List UInt8 → Nat → Nat → Nat → List Int → RdG
 | [], x, w, h, cs => if (0 < h ∧ x ≠ w) ∨ x = 0 then badG else finG x (h + 1) cs
 | c :: r, x, w, h, cs =>
  if c = 47 then (if (0 < h ∧ x ≠ w) ∨ x = 0 then badG else runG r 0 x (h + 1) cs)
  else if c = 46 ∨ c = 35 then runG r (x + 1) w h (cs ++ [(c.toNat : Int)])
  else badG
theorem u8eq (c : UInt8) (n : Nat) (hn : n < 256) : ((c.toNat : Int) = (n : Int)) ↔ c = UInt8.ofNat n := by
 constructor
 ·intro h
  have : c.toNat = n := by omega
  rw [← this]; simp
 ·intro h
  subst h
  simp; omega
theorem bx_end (a : ByteArray) (ha : a.size ≤ 42) (w h : Nat) (cs : List Int) : Ev (fun k => qX.l0 k a 0 ((a.size : Int) + 1) (w : Int) (h : Int) cs) (finG w h cs) := by
 refine Ev.step (f := fun k => _) (fun k => by rw [qX.l0]) ?_
 refine Ev.neg (by omega) ?_
 unfold finG
 by_cases h1 : 7 < w
 ·rw [if_pos h1]; exact Ev.pos (by omega) (Ev.now _)
 rw [if_neg h1]; refine Ev.neg (by omega) ?_
 by_cases h2 : 7 < h
 ·rw [if_pos h2]; exact Ev.pos (by omega) (Ev.now _)
 rw [if_neg h2]; refine Ev.neg (by omega) ?_
 by_cases h3 : 36 < cs.length
 ·rw [if_pos h3]; exact Ev.pos (by omega) (Ev.now _)
 rw [if_neg h3]; exact Ev.neg (by omega) (Ev.now _)
theorem bx_sep (a : ByteArray) (i x w h : Nat) (cs : List Int) (hx : x ≤ 100) (hh : h ≤ 100) (hi : i ≤ 100) (R : RdG)
  (hR : Ev (fun k => qX.l0 k a 0 ((i : Int) + 1) (x : Int) ((h + 1 : Nat) : Int) cs) R) :
  Ev (fun k => qX.j1 k a (x : Int) (i : Int) false (w : Int) (h : Int) cs) (if (0 < h ∧ x ≠ w) ∨ x = 0 then badG else R) := by
 have w1 : wrap64 ((i : Int) + 1) = (i : Int) + 1 := by unfold wrap64; omega
 have w2 : wrap64 ((h : Int) + 1) = ((h + 1 : Nat) : Int) := by unfold wrap64; omega
 refine Ev.step (f := fun k => _) (fun k => by rw [qX.j1]) ?_
 refine Ev.neg (by decide) ?_
 rw [w1, w2]
 by_cases h1 : 0 < h
 ·refine Ev.pos (by omega) ?_
  by_cases h2 : x = w
  ·refine Ev.pos (by omega) ?_
   by_cases h3 : x = 0
   ·rw [if_pos (.inr h3)]; exact Ev.pos (by omega) (Ev.now _)
   ·rw [if_neg (by omega)]; exact Ev.neg (by omega) hR
  ·rw [if_pos (.inl ⟨h1, h2⟩)]; exact Ev.neg (by omega) (Ev.now _)
 ·refine Ev.neg (by omega) ?_
  by_cases h3 : x = 0
  ·rw [if_pos (.inr h3)]; exact Ev.pos (by omega) (Ev.now _)
  ·rw [if_neg (by omega)]; exact Ev.neg (by omega) hR
theorem bx_loop (a : ByteArray) (ha : a.size ≤ 42) (d : Nat) : ∀ (i x w h : Nat) (cs : List Int), i ≤ a.size → a.size - i = d → x ≤ i → h ≤ i → cs.length ≤ i →
  Ev (fun k => qX.l0 k a (x : Int) (i : Int) (w : Int) (h : Int) cs) (runG (a.data.toList.drop i) x w h cs) := by
 have hsz := qHC a
 induction d with
 | zero =>
  intro i x w h cs hi hd hx hh hc
  obtain rfl : i = a.size := by omega
  refine Ev.step (f := fun k => _) (fun k => by rw [qX.l0]) ?_
  refine Ev.pos (by omega) (Ev.neg (by omega) ?_)
  rw [List.drop_eq_nil_of_le (by omega), runG]
  exact bx_sep a a.size x w h cs (by omega) (by omega) (by omega) _ (bx_end a ha x (h + 1) cs)
 | succ d ih =>
  intro i x w h cs hi hd hx hh hc
  have hl : i < a.data.toList.length := by omega
  have e1 : ((i : Int) + 1) = ((i + 1 : Nat) : Int) := by omega
  have w1 : wrap64 ((i : Int) + 1) = ((i + 1 : Nat) : Int) := by unfold wrap64; omega
  have w2 : wrap64 ((x : Int) + 1) = ((x + 1 : Nat) : Int) := by unfold wrap64; omega
  have hdr := List.drop_eq_getElem_cons hl
  obtain ⟨c, hcc, hb⟩ : ∃ c, a.data.toList[i] = c ∧ bt a (i : Int) = (c.toNat : Int) := ⟨_, rfl, gr_bt a i hl⟩
  rw [hcc] at hdr
  clear hcc
  have HB := Lib.hid hb
  have HW1 := Lib.hid w1
  have HW2 := Lib.hid w2
  have HD := Lib.hid hdr
  clear hb w1 w2 hdr
  refine Ev.step (f := fun k => _) (fun k => by rw [qX.l0]) ?_
  refine Ev.pos (by omega) (Ev.pos (by omega) (Ev.pos (by omega) ?_))
  rw [HD.out, HB.out, runG]
  by_cases h47 : c = 47
  ·rw [show ((c.toNat : Int) != 47) = false by subst h47; rfl, if_pos h47]
   clear HB HD h47
   refine bx_sep a i x w h cs (by omega) (by omega) (by omega) _ ?_
   rw [e1]
   exact ih (i + 1) 0 x (h + 1) cs (by omega) (by omega) (by omega) (by omega) (by omega)
  ·rw [show ((c.toNat : Int) != 47) = true by
    rw [bne_iff_ne]; intro e; exact h47 ((u8eq c 47 (by decide)).1 e), if_neg h47]
   have go1 := ih (i + 1) (x + 1) w h (cs ++ [(c.toNat : Int)]) (by omega) (by omega) (by omega) (by omega) (by simp; omega)
   have step : ∀ R, Ev (fun k => qX.l0 k a ((x + 1 : Nat) : Int) ((i + 1 : Nat) : Int) (w : Int) (h : Int) (cs ++ [(c.toNat : Int)])) R →
     Ev (fun k => qX.j2 k a (x : Int) (i : Int) false (w : Int) (h : Int) cs) R := fun R hR => by
    refine Ev.step (f := fun k => _) (fun k => by rw [qX.j2]) ?_
    refine Ev.neg (by decide) (Ev.pos (by omega) (Ev.pos (by omega) (Ev.pos (by omega) ?_)))
    rw [HW1.out, HW2.out, HB.out]
    exact hR
   refine Ev.step (f := fun k => _) (fun k => by rw [qX.j1]) ?_
   refine Ev.pos rfl (Ev.pos (by omega) (Ev.pos (by omega) ?_))
   rw [HB.out]
   by_cases h46 : c = 46
   ·rw [if_pos (.inl h46)]
    exact Ev.pos (by subst h46; rfl) (step _ go1)
   ·refine Ev.neg (fun e => h46 ((u8eq c 46 (by decide)).1 e)) ?_
    by_cases h35 : c = 35
    ·rw [if_pos (.inr h35), show ((c.toNat : Int) != 35) = false by subst h35; rfl]
     exact step _ go1
    ·rw [if_neg (by simp [h46, h35]), show ((c.toNat : Int) != 35) = true by
       rw [bne_iff_ne]; intro e; exact h35 ((u8eq c 35 (by decide)).1 e)]
     refine Ev.step (f := fun k => _) (fun k => by rw [qX.j2]) ?_
     exact Ev.pos rfl (Ev.now _)
def cB : List UInt8 := [46, 35]
def numsOf (l : List UInt8) : List Int := l.map fun c => (c.toNat : Int)
def flatT (l : List UInt8) : List UInt8 := (sp 47 l).1 ++ (sp 47 l).2.flatten
theorem runG_eq (l : List UInt8) : ∀ (x w h : Nat) (cs : List Int), runG l x w h cs =
  if (l.all (fun b => b == 47 || cB.contains b)) = true ∧ x + (sp 47 l).1.length ≠ 0 ∧ (0 < h → x + (sp 47 l).1.length = w) ∧ (∀ r ∈ (sp 47 l).2, r.length = x + (sp 47 l).1.length)
  then finG (x + (sp 47 l).1.length) (h + ((sp 47 l).2.length + 1)) (cs ++ numsOf (flatT l)) else badG := by
 induction l with
 | nil =>
  intro x w h cs
  rw [runG]
  simp only [sp, List.all_nil, List.length_nil, Nat.add_zero, flatT, List.flatten_nil, List.append_nil, numsOf, List.map_nil, Nat.zero_add]
  by_cases hb : (0 < h ∧ x ≠ w) ∨ x = 0
  ·rw [if_pos hb, if_neg (by rintro ⟨_, h1, h2, _⟩; exact hb.elim (fun h34 => h34.2 (h2 h34.1)) h1)]
  ·rw [if_neg hb, if_pos ⟨trivial, fun e => hb (.inr e), fun h3 => Classical.byContradiction fun h4 => hb (.inl ⟨h3, h4⟩), by simp⟩]
 | cons c r ih =>
  intro x w h cs
  rw [runG]
  by_cases h47 : c = 47
  ·subst h47
   rw [if_pos rfl]
   simp only [sp, if_true, List.all_cons, beq_self_eq_true, Bool.true_or, Bool.true_and, List.length_nil, Nat.add_zero, flatT, List.nil_append, List.flatten_cons, List.length_cons]
   by_cases hb : (0 < h ∧ x ≠ w) ∨ x = 0
   ·rw [if_pos hb, if_neg (by rintro ⟨_, h1, h2, _⟩; exact hb.elim (fun h34 => h34.2 (h2 h34.1)) h1)]
   ·rw [if_neg hb, ih]
    have hx0 : x ≠ 0 := fun e => hb (.inr e)
    have hxw : 0 < h → x = w := fun h3 => Classical.byContradiction fun h4 => hb (.inl ⟨h3, h4⟩)
    by_cases hg : (r.all (fun b => b == 47 || cB.contains b)) = true ∧ ∀ q ∈ (sp 47 r).1 :: (sp 47 r).2, q.length = x
    ·have hf : (sp 47 r).1.length = x := hg.2 _ (List.mem_cons_self)
     rw [if_pos ⟨hg.1, by omega, fun _ => by omega, fun q hq => by have := hg.2 q (List.mem_cons_of_mem _ hq); omega⟩, if_pos ⟨hg.1, hx0, hxw, hg.2⟩]
     congr 1
     ·omega
     ·omega
    ·rw [if_neg, if_neg]
     ·rintro ⟨h1, _, _, h4⟩; exact hg ⟨h1, h4⟩
     ·rintro ⟨h1, _, h3, h4⟩
      have h5 := h3 (by omega)
      refine hg ⟨h1, fun q hq => ?_⟩
      rcases List.mem_cons.1 hq with rfl | hq
      ·omega
      ·have := h4 q hq; omega
  ·rw [if_neg h47]
   have e47 : (c == 47) = false := by simpa using h47
   simp only [sp, if_neg h47, List.all_cons, e47, Bool.false_or, List.length_cons]
   have hsh : x + ((sp 47 r).1.length + 1) = x + 1 + (sp 47 r).1.length := by omega
   by_cases h3 : c = 46 ∨ c = 35
   ·have hc : cB.contains c = true := by rcases h3 with rfl | rfl <;> decide
    rw [if_pos h3, ih, hc, Bool.true_and, hsh]
    simp only [flatT, sp, if_neg h47, numsOf, List.cons_append, List.map_cons, List.append_assoc, List.nil_append]
   ·rw [if_neg h3, if_neg]
    rintro ⟨h1, _⟩
    have : cB.contains c = false := by
     simp only [cB, List.contains_cons, List.contains_nil, Bool.or_false, Bool.or_eq_false_iff, beq_eq_false_iff_ne]
     exact ⟨fun e => h3 (.inl e), fun e => h3 (.inr e)⟩
    rw [this] at h1; simp at h1
theorem qKE (f : Nat) : ∀ (L : List (List UInt8)), (∀ r ∈ L, r.length = f) → L.flatten.length = f * L.length ∧ (L.map List.length).sum = f * L.length
 | [], _ => by simp
 | a :: L, h => by
  obtain ⟨h1, h2⟩ := qKE f L (fun r hr => h r (List.mem_cons_of_mem _ hr))
  have h3 := h a List.mem_cons_self
  simp only [List.flatten_cons, List.length_append, List.map_cons, List.sum_cons, List.length_cons, h1, h2, h3, Nat.mul_add, Nat.mul_one]
  omega
def boardB (a : ByteArray) : Bool := rowsFit cB a && szR (wideT a) (highT a)
theorem qXC (a : ByteArray) : rowsFit cB a = true ↔ (a.data.toList.all (fun b => b == 47 || cB.contains b)) = true ∧ ∀ r ∈ (sp 47 a.data.toList).2, r.length = wideT a := by
 have hs := sp_all 47 (cB.contains ·) a.data.toList (by decide)
 unfold rowsFit
 rw [← hs, List.all_cons]
 unfold fitR wideT
 simp only [Bool.and_eq_true, decide_eq_true_eq, List.all_eq_true, true_and]
 constructor
 ·rintro ⟨h1, h2⟩
  exact ⟨⟨h1, fun r hr => (h2 r hr).2⟩, fun r hr => (h2 r hr).1⟩
 ·rintro ⟨⟨h1, h2⟩, h3⟩
  exact ⟨h1, fun r hr => ⟨h3 r hr, h2 r hr⟩⟩
theorem boRead_ev (a : ByteArray) : Ev (fun k => qX.f k a) (if boardB a then ((wideT a : Int), (highT a : Int), numsOf (flatT a.data.toList), true) else badG) := by
 have hl := qfD 47 a.data.toList
 rw [qHC] at hl
 unfold qX.f
 by_cases h42 : a.size ≤ 42
 ·refine Ev.neg (by omega) ?_
  have := bx_loop a h42 a.size 0 0 0 0 [] (by omega) (by omega) (by omega) (by omega) (by simp)
  rw [List.drop_zero, runG_eq] at this
  simp only [Nat.zero_add, List.nil_append, Nat.lt_irrefl, false_implies, true_and] at this
  have e : (if (a.data.toList.all (fun b => b == 47 || cB.contains b)) = true ∧ (sp 47 a.data.toList).1.length ≠ 0 ∧ (∀ r ∈ (sp 47 a.data.toList).2, r.length = (sp 47 a.data.toList).1.length) then finG (sp 47 a.data.toList).1.length ((sp 47 a.data.toList).2.length + 1) (numsOf (flatT a.data.toList)) else badG) = (if boardB a then ((wideT a : Int), (highT a : Int), numsOf (flatT a.data.toList), true) else badG) := by
   have hw : (sp 47 a.data.toList).1.length = wideT a := rfl
   have hh : (sp 47 a.data.toList).2.length + 1 = highT a := rfl
   rw [hw, hh]
   unfold boardB
   by_cases hr : rowsFit cB a = true
   ·obtain ⟨h1, h2⟩ := (qXC a).1 hr
    obtain ⟨f1, f2⟩ := qKE (wideT a) (sp 47 a.data.toList).2 h2
    have hfl : (numsOf (flatT a.data.toList)).length = wideT a * highT a := by
     simp only [numsOf, List.length_map, flatT, List.length_append, f1, hw, ← hh, Nat.mul_add, Nat.mul_one]; omega
    rw [hr, Bool.true_and]
    by_cases h0 : wideT a ≠ 0
    ·rw [if_pos ⟨h1, h0, h2⟩]
     unfold finG szR
     rw [hfl]
     have hh1 : 1 ≤ highT a := by omega
     rw [decide_eq_true hh1, Bool.true_and, decide_eq_true (show 1 ≤ wideT a by omega)]
     by_cases a1 : 7 < wideT a
     ·rw [if_pos a1, decide_eq_false (show ¬ wideT a ≤ 7 by omega)]; simp
     rw [if_neg a1, decide_eq_true (show wideT a ≤ 7 by omega)]
     by_cases a2 : 7 < highT a
     ·rw [if_pos a2, decide_eq_false (show ¬ highT a ≤ 7 by omega)]; simp
     rw [if_neg a2, decide_eq_true (show highT a ≤ 7 by omega)]
     by_cases a3 : 36 < wideT a * highT a
     ·rw [if_pos a3, decide_eq_false (show ¬ wideT a * highT a ≤ 36 by omega)]; simp
     ·rw [if_neg a3, decide_eq_true (show wideT a * highT a ≤ 36 by omega)]; simp
    ·rw [if_neg (fun h => h0 h.2.1)]
     have : szR (wideT a) (highT a) = false := by
      unfold szR
      simp only [Bool.and_eq_false_iff, decide_eq_false_iff_not]; omega
     rw [this]; simp
   ·rw [if_neg (fun h => hr ((qXC a).2 ⟨h.1, h.2.2⟩)), Bool.eq_false_iff.2 hr]; simp
  rw [e] at this
  exact this
 ·refine Ev.pos (by omega) (Ev.some_ ?_)
  have : boardB a = false := by
   cases hg : boardB a with
   | false => rfl
   | true =>
    unfold boardB szR at hg
    simp only [Bool.and_eq_true, decide_eq_true_eq] at hg
    obtain ⟨hr, ⟨⟨⟨g1, g2⟩, g3⟩, g4⟩, g5⟩ := hg
    obtain ⟨h1, h2⟩ := (qXC a).1 hr
    obtain ⟨f1, f2⟩ := qKE (wideT a) (sp 47 a.data.toList).2 h2
    rw [f2] at hl
    have hw : (sp 47 a.data.toList).1.length = wideT a := rfl
    have hh : (sp 47 a.data.toList).2.length + 1 = highT a := rfl
    have : wideT a * highT a = wideT a + wideT a * (sp 47 a.data.toList).2.length := by rw [← hh, Nat.mul_add, Nat.mul_one]; omega
    omega
  rw [this]; rfl
theorem board_ev (a : ByteArray) (ha : a.size ≤ 1048576) : ∃ rows : List ByteArray, Ev (fun k => qnB.f k a) (rows, boardB a) ∧ (boardB a = true → rows = rowsT a) := by
 have h := rowsOf_ev a ⟨#[46, 35]⟩ ha (by decide) (by decide)
 have hc : (⟨#[46, 35]⟩ : ByteArray).data.toList = cB := rfl
 rw [hc] at h
 unfold qnB.f
 unfold boardB
 cases hr : rowsFit cB a with
 | false =>
  rw [hr, if_neg (by decide)] at h
  exact ⟨[], Ev.bind h (Ev.now _), fun e => by cases e⟩
 | true =>
  rw [hr, if_pos rfl] at h
  rw [Bool.true_and]
  exact ⟨rowsT a, Ev.bind h (Ev.now _), fun _ => rfl⟩
end Go.Proofs.YthhiiceligjleaaGreatDoor
namespace Go.Proofs.YthhiiceligjleaaGreatDoor.P
open Go.RowKit Go.Proofs.YthhiiceligjleaaGreatDoorW.PrintWords Go.Proofs.YthhiiceligjleaaGreatDoorW.PrintLast Go.Proofs.YthhiiceligjleaaGreatDoorW.PrintMore
attribute [local go_sem] ql qj qu qt qd qc qk qi
set_option linter.unusedVariables false
set_option linter.unusedSimpArgs false
def qHB.f (l0 : List ByteArray) (a1 : Int) (a2 : Int) : Option (Bool) := (qhA.f a2 0 (wrap64 ((l0.length : Int) - 1))).bind fun t405 => (if t405 = true then (if 0 < (l0.length : Int) then ((qhA.f a1 0 (wrap64 (((rdOf ByteArray.empty l0 0).size : Int) - 1))).bind fun t407 => (some t407)) else (none)) else (some false))
set_option maxHeartbeats 8000000 in
set_option maxRecDepth 100000 in
theorem qHB.calls (A0 : Option Addr) (c0 : Nat) (l0 : List ByteArray) (a1 : Int) (a2 : Int) (r : Bool) (w : World) (hr0 : Kd.C Kd.string w A0 l0.length l0) (hc0 : l0.length ≤ c0) (h : qHB.f l0 a1 a2 = some r) :
  Calls Tryz.prog 37 #[.slice A0 l0.length c0, .int .i64 a1, .int .i64 a2] w fun e w' => e = .returned (.bool r) ∧ Drawn0 w w' := by
 have HR0 := aM hr0
 have HC0 := aM hc0
 clear hr0 hc0
 have H : ((qhA.f a2 0 (wrap64 ((l0.length : Int) - 1))).bind fun t405 => (if t405 = true then (if 0 < (l0.length : Int) then ((qhA.f a1 0 (wrap64 (((rdOf ByteArray.empty l0 0).size : Int) - 1))).bind fun t407 => (some t407)) else (none)) else (some false))) = some r := h
 clear h
 replace H := bO H
 obtain ⟨t405, A4, H⟩ := H
 by_cases c5 : t405 = true
 ·subst c5
  replace H := iT H
  by_cases c6 : 0 < (l0.length : Int)
  ·rw [if_pos c6] at H
   have c6b0 := decide_eq_true c6
   have c6b1 : decide (0 < l0.length) = true := decide_eq_true (by omega)
   clear c6
   replace H := bO H
   obtain ⟨t407, A7, H⟩ := H
   obtain rfl := Option.some.inj H
   go_enter Tryz.func37, Tryz.ntmps37
   go_wp2_with (first | ((with_reducible refine qF (f := 59) rfl ?_); refine qn (some 11) rfl rfl Tryz.func59 (by kernel_rfl) rfl #[.int .i64 a2, .int .i64 0, .int .i64 (wrap64 ((l0.length : Int) - 1))] rfl gA ?_; (with_reducible refine (qhA.calls a2 0 (wrap64 ((l0.length : Int) - 1)) true _ A4.out).mono ?_); rintro e w' ⟨rfl, ⟨nd, rfl⟩⟩; refine ⟨_, rfl, ?_⟩; have p406 : 0 ≤ (0 : Int) := (by omega); have q406 : 0 < (l0.length : Int) := of_decide_eq_true am; obtain ⟨ad406, e406, hx406_0⟩ := Kd.qrB HR0.out 0 p406 q406; cases e406; have qi406 : (0 < l0.length) = True := eq_true (by omega); (try rw [show ((0 : Int)).toNat = 0 from rfl] at hx406_0); (try rw [Addr.add_zero'] at hx406_0); replace p406 := eq_true p406; replace q406 := eq_true q406) | (go_at_call 59; (with_reducible refine (qhA.calls a1 0 (wrap64 (((rdOf ByteArray.empty l0 0).size : Int) - 1)) t407 _ A7.out).mono ?_); rintro e w' ⟨rfl, ⟨nd, rfl⟩⟩))
   go_ret
   exact ⟨by first | rfl | (simp; done) | (simp [*]; done), dR⟩
  ·rw [if_neg c6] at H
   exact absurd H (by simp)
 ·replace c5 := Bool.eq_false_iff.mpr c5
  subst c5
  replace H := iF H
  obtain rfl := Option.some.inj H
  go_enter Tryz.func37, Tryz.ntmps37
  go_wp2_with (first | ((with_reducible refine qF (f := 59) rfl ?_); refine qn (some 11) rfl rfl Tryz.func59 (by kernel_rfl) rfl #[.int .i64 a2, .int .i64 0, .int .i64 (wrap64 ((l0.length : Int) - 1))] rfl gA ?_; (with_reducible refine (qhA.calls a2 0 (wrap64 ((l0.length : Int) - 1)) false _ A4.out).mono ?_); rintro e w' ⟨rfl, ⟨nd, rfl⟩⟩; refine ⟨_, rfl, ?_⟩))
  go_ret
  exact ⟨by first | rfl | (simp; done) | (simp [*]; done), dR⟩
def qeA.f (l0 : List ByteArray) (a1 : Int) (a2 : Int) : Option (Int) := (qHB.f l0 a1 a2).bind fun t408 => (if t408 = true then (if 0 ≤ a2 then (if a2 < (l0.length : Int) then (if 0 ≤ a1 then (if a1 < ((rdOf ByteArray.empty l0 a2).size : Int) then (some (bt (rdOf ByteArray.empty l0 a2) a1)) else (none)) else (none)) else (none)) else (none)) else (some 0))
set_option maxHeartbeats 8000000 in
set_option maxRecDepth 100000 in
theorem qeA.calls (A0 : Option Addr) (c0 : Nat) (l0 : List ByteArray) (a1 : Int) (a2 : Int) (r : Int) (w : World) (hr0 : Kd.C Kd.string w A0 l0.length l0) (hc0 : l0.length ≤ c0) (h : qeA.f l0 a1 a2 = some r) :
  Calls Tryz.prog 85 #[.slice A0 l0.length c0, .int .i64 a1, .int .i64 a2] w fun e w' => e = .returned (.int .u8 r) ∧ Drawn0 w w' := by
 have HR0 := aM hr0
 have HC0 := aM hc0
 clear hr0 hc0
 have H : ((qHB.f l0 a1 a2).bind fun t408 => (if t408 = true then (if 0 ≤ a2 then (if a2 < (l0.length : Int) then (if 0 ≤ a1 then (if a1 < ((rdOf ByteArray.empty l0 a2).size : Int) then (some (bt (rdOf ByteArray.empty l0 a2) a1)) else (none)) else (none)) else (none)) else (none)) else (some 0))) = some r := h
 clear h
 replace H := bO H
 obtain ⟨t408, A4, H⟩ := H
 by_cases c5 : t408 = true
 ·subst c5
  replace H := iT H
  by_cases c6 : 0 ≤ a2
  ·rw [if_pos c6] at H
   have c6b0 := decide_eq_true c6
   clear c6
   by_cases c7 : a2 < (l0.length : Int)
   ·rw [if_pos c7] at H
    have c7b0 := decide_eq_true c7
    clear c7
    by_cases c8 : 0 ≤ a1
    ·rw [if_pos c8] at H
     have c8b0 := decide_eq_true c8
     clear c8
     by_cases c9 : a1 < ((rdOf ByteArray.empty l0 a2).size : Int)
     ·rw [if_pos c9] at H
      have c9b0 := decide_eq_true c9
      clear c9
      obtain rfl := Option.some.inj H
      go_enter Tryz.func85, Tryz.ntmps85
      go_wp2_with (first | ((with_reducible refine qF (f := 37) rfl ?_); refine qn (some 10) rfl rfl Tryz.func37 (by kernel_rfl) rfl #[.slice A0 l0.length c0, .int .i64 a1, .int .i64 a2] rfl gA ?_; (with_reducible refine (qHB.calls _ _ l0 a1 a2 true _ ?side1 ?side2 A4.out).mono ?_); (case side1 => repeat (first | exact HR0.out | (with_reducible refine Kd.qS ?_ _) | (with_reducible refine Kd.qR ?_ _) | (with_reducible refine Kd.qe ?_))); (case side2 => exact HC0.out); rintro e w' ⟨rfl, ⟨nd, rfl⟩⟩; refine ⟨_, rfl, ?_⟩; have p409 : 0 ≤ (a2 : Int) := of_decide_eq_true am; have q409 : a2 < (l0.length : Int) := of_decide_eq_true am; obtain ⟨ad409, e409, hx409_0⟩ := Kd.qrB HR0.out a2 p409 q409; cases e409; replace p409 := eq_true p409; replace q409 := eq_true q409; have p10 : 0 ≤ (a1 : Int) := of_decide_eq_true am; have q10 : a1 < ((rdOf ByteArray.empty l0 a2).size : Int) := of_decide_eq_true am; have hx10 := bt_at (rdOf ByteArray.empty l0 a2) a1; replace p10 := eq_true p10; replace q10 := eq_true q10))
      go_ret
      exact ⟨by first | rfl | (simp; done) | (simp [*]; done), dR⟩
     ·rw [if_neg c9] at H
      exact absurd H (by simp)
    ·rw [if_neg c8] at H
     exact absurd H (by simp)
   ·rw [if_neg c7] at H
    exact absurd H (by simp)
  ·rw [if_neg c6] at H
   exact absurd H (by simp)
 ·replace c5 := Bool.eq_false_iff.mpr c5
  subst c5
  replace H := iF H
  obtain rfl := Option.some.inj H
  go_enter Tryz.func85, Tryz.ntmps85
  go_wp2_with (first | ((with_reducible refine qF (f := 37) rfl ?_); refine qn (some 10) rfl rfl Tryz.func37 (by kernel_rfl) rfl #[.slice A0 l0.length c0, .int .i64 a1, .int .i64 a2] rfl gA ?_; (with_reducible refine (qHB.calls _ _ l0 a1 a2 false _ ?side1 ?side2 A4.out).mono ?_); (case side1 => repeat (first | exact HR0.out | (with_reducible refine Kd.qS ?_ _) | (with_reducible refine Kd.qR ?_ _) | (with_reducible refine Kd.qe ?_))); (case side2 => exact HC0.out); rintro e w' ⟨rfl, ⟨nd, rfl⟩⟩; refine ⟨_, rfl, ?_⟩))
  go_ret
  exact ⟨by first | rfl | (simp; done) | (simp [*]; done), dR⟩
end Go.Proofs.YthhiiceligjleaaGreatDoor.P
namespace Go.Proofs.YthhiiceligjleaaGreatDoor
open Go.RowKit Go.Proofs.YthhiiceligjleaaGreatDoor.P Go.Proofs.YthhiiceligjleaaGreatDoorW.PrintWords Go.Proofs.YthhiiceligjleaaGreatDoorW.PrintLast
set_option linter.unusedVariables false
set_option linter.unusedSimpArgs false
theorem qnD (n a b : Int) : qiA.f n a b = some (decide (a ≤ n) && decide (n ≤ b)) := by
 unfold qiA.f
 by_cases h : n ≥ a
 ·rw [if_pos h, decide_eq_true (show a ≤ n from h), Bool.true_and]
 ·rw [if_neg h, decide_eq_false (show ¬ a ≤ n from h), Bool.false_and]
def rowsL (a : ByteArray) : List (List UInt8) := (sp 47 a.data.toList).1 :: (sp 47 a.data.toList).2
theorem flat_get (w : Nat) : ∀ (L : List (List UInt8)) (i j : Nat), (∀ r ∈ L, r.length = w) → i < L.length → j < w → L.flatten[i * w + j]? = (L[i]?.bind fun r => r[j]?)
 | [], i, j, _, hi, _ => by simp at hi
 | r :: L, 0, j, h, _, hj => by
  have := h r List.mem_cons_self
  simp only [List.flatten_cons, Nat.zero_mul, Nat.zero_add, List.getElem?_cons_zero, Option.bind_some]
  rw [List.getElem?_append_left (by omega)]
 | r :: L, i + 1, j, h, hi, hj => by
  have h1 := h r List.mem_cons_self
  have ih := flat_get w L i j (fun q hq => h q (List.mem_cons_of_mem _ hq)) (by simpa using hi) hj
  simp only [List.flatten_cons, List.getElem?_cons_succ]
  have e : (i + 1) * w + j = r.length + (i * w + j) := by rw [Nat.add_mul, h1]; omega
  rw [e, List.getElem?_append_right (by omega), Nat.add_sub_cancel_left]
  exact ih
structure Gnd (a : ByteArray) : Prop where
 w1 : 1 ≤ wideT a
 w7 : wideT a ≤ 7
 h1 : 1 ≤ highT a
 h7 : highT a ≤ 7
 rows : ∀ r ∈ rowsL a, r.length = wideT a
theorem qRE {a : ByteArray} (h : boardB a = true) : Gnd a := by
 unfold boardB szR at h
 simp only [Bool.and_eq_true, decide_eq_true_eq] at h
 obtain ⟨hr, ⟨⟨⟨g1, g2⟩, g3⟩, g4⟩, g5⟩ := h
 obtain ⟨_, h2⟩ := (qXC a).1 hr
 exact ⟨g3, g4, g1, g2, fun r hr => by
  rcases List.mem_cons.1 hr with rfl | hr
  ·rfl
  ·exact h2 r hr⟩
theorem qMC (a : ByteArray) : (rowsL a).length = highT a := rfl
theorem rowsT_get (a : ByteArray) (i : Nat) (h : i < (rowsT a).length) (h' : i < (rowsL a).length) : ((rowsT a)[i]).data.toList = (rowsL a)[i] := by
 have := qPC a
 have e : ((rowsT a).map (·.data.toList))[i]'(by simpa using h) = (rowsL a)[i] := by
  simp only [this]; rfl
 rwa [List.getElem_map] at e
theorem flatT_eq (a : ByteArray) : flatT a.data.toList = (rowsL a).flatten := rfl
def hasB (a : ByteArray) (x y : Int) : Bool := decide (0 ≤ y) && decide (y ≤ (highT a : Int) - 1) && (decide (0 ≤ x) && decide (x ≤ (wideT a : Int) - 1))
def cellU (a : ByteArray) (x y : Int) : UInt8 := ((rowsL a).getD y.toNat []).getD x.toNat 0
def cellN (a : ByteArray) (x y : Int) : Int := ((cellU a x y).toNat : Int)
theorem qYD (a : ByteArray) (x y : Int) : hasB a x y = true ↔ (0 ≤ y ∧ y < (highT a : Int)) ∧ (0 ≤ x ∧ x < (wideT a : Int)) := by
 unfold hasB
 simp only [Bool.and_eq_true, decide_eq_true_eq]
 omega
theorem gr_size {a : ByteArray} (g : Gnd a) (i : Nat) (h : i < (rowsT a).length) : ((rowsT a)[i]).size = wideT a := by
 have h' : i < (rowsL a).length := by rw [qMC, ← qLC]; exact h
 rw [← qHC, rowsT_get a i h h']
 exact g.rows _ (List.getElem_mem h')
theorem has_eq {a : ByteArray} (g : Gnd a) (x y : Int) : qHB.f (rowsT a) x y = some (hasB a x y) := by
 have hl := qLC a
 have h0 : 0 < (rowsT a).length := by rw [hl]; exact g.h1
 have e0 : rdOf ByteArray.empty (rowsT a) 0 = (rowsT a)[0] := qcE (rowsT a) 0 h0
 have e1 := gr_size g 0 h0
 have g1 := g.h7
 have g2 := g.w7
 unfold qHB.f
 rw [qpC, hl, e0, e1]
 have w1 : wrap64 ((highT a : Int) - 1) = (highT a : Int) - 1 := by unfold wrap64; omega
 have w2 : wrap64 ((wideT a : Int) - 1) = (wideT a : Int) - 1 := by unfold wrap64; omega
 rw [w1, w2]
 simp only [Option.bind_some]
 have g0 := g.h1
 unfold hasB
 by_cases h : (decide (0 ≤ y) && decide (y ≤ (highT a : Int) - 1)) = true
 ·rw [if_pos h, if_pos (by omega), qpC, h, Bool.true_and]; rfl
 ·rw [if_neg h, Bool.eq_false_iff.2 h, Bool.false_and]
theorem at_eq {a : ByteArray} (g : Gnd a) (x y : Int) (h : hasB a x y = true) : qeA.f (rowsT a) x y = some (cellN a x y) := by
 obtain ⟨⟨h1, h2⟩, h3, h4⟩ := (qYD a x y).1 h
 obtain ⟨i, rfl⟩ := Int.eq_ofNat_of_zero_le h1
 obtain ⟨j, rfl⟩ := Int.eq_ofNat_of_zero_le h3
 have hl := qLC a
 have hi : i < (rowsT a).length := by omega
 have hi' : i < (rowsL a).length := by rw [qMC]; omega
 have hs := gr_size g i hi
 have hr := rowsT_get a i hi hi'
 have hw := g.rows _ (List.getElem_mem hi')
 unfold qeA.f
 rw [has_eq g, h, qcE (rowsT a) i hi]
 simp only [Option.bind_some, if_true]
 rw [if_pos (by omega), if_pos (by omega), if_pos (by omega), if_pos (by rw [hs]; omega)]
 have hj : j < ((rowsT a)[i]).data.toList.length := by rw [qHC, hs]; omega
 rw [gr_bt _ j hj]
 congr 1
 unfold cellN cellU
 have e : (rowsL a).getD i [] = (rowsL a)[i] := by rw [List.getD_eq_getElem?_getD, List.getElem?_eq_getElem hi']; rfl
 have e2 : ((rowsT a)[i]).data.toList[j] = ((rowsL a)[i])[j]'(by rw [← hr]; exact hj) := by simp only [hr]
 rw [e2, Int.toNat_natCast, Int.toNat_natCast, e, List.getD_eq_getElem?_getD, List.getElem?_eq_getElem (by rw [← hr]; exact hj)]
 rfl
theorem boCell_eq {a : ByteArray} (g : Gnd a) (cs : List Int) (x y : Int) : qZB.f (wideT a : Int) (highT a : Int) cs x y = some (hasB a x y) := by
 have g1 := g.h7
 have g2 := g.w7
 unfold qZB.f
 have w1 : wrap64 ((highT a : Int) - 1) = (highT a : Int) - 1 := by unfold wrap64; omega
 have w2 : wrap64 ((wideT a : Int) - 1) = (wideT a : Int) - 1 := by unfold wrap64; omega
 rw [w1, w2, qnD, qnD]
 simp only [Option.bind_some]
 unfold hasB
 by_cases h : (decide (0 ≤ x) && decide (x ≤ (wideT a : Int) - 1)) = true
 ·rw [if_pos h, h, Bool.and_true]
 ·rw [if_neg h, Bool.eq_false_iff.2 h, Bool.and_false]
theorem spec_at {a : ByteArray} (g : Gnd a) (x y : Int) (h : hasB a x y = true) :
  0 ≤ wrap64 (wrap64 (y * (wideT a : Int)) + x) ∧ wrap64 (wrap64 (y * (wideT a : Int)) + x) < ((numsOf (flatT a.data.toList)).length : Int) ∧ rd (numsOf (flatT a.data.toList)) (wrap64 (wrap64 (y * (wideT a : Int)) + x)) = cellN a x y := by
 obtain ⟨⟨h1, h2⟩, h3, h4⟩ := (qYD a x y).1 h
 obtain ⟨i, rfl⟩ := Int.eq_ofNat_of_zero_le h1
 obtain ⟨j, rfl⟩ := Int.eq_ofNat_of_zero_le h3
 have g1 := g.h7
 have g2 := g.w7
 have hi' : i < (rowsL a).length := by rw [qMC]; omega
 have hf := flat_get (wideT a) (rowsL a) i j g.rows hi' (by omega)
 have hw := g.rows _ (List.getElem_mem hi')
 have hj : j < ((rowsL a)[i]).length := by omega
 rw [List.getElem?_eq_getElem hi', Option.bind_some, List.getElem?_eq_getElem hj] at hf
 have hm : i * wideT a ≤ 7 * 7 := Nat.mul_le_mul (by omega) g2
 have ec : ((i : Int) * (wideT a : Int)) = ((i * wideT a : Nat) : Int) := by push_cast; rfl
 rw [ec]
 have e : wrap64 (wrap64 ((i * wideT a : Nat) : Int) + (j : Int)) = ((i * wideT a + j : Nat) : Int) := by
  generalize i * wideT a = m at *
  unfold wrap64; omega
 rw [e, flatT_eq]
 obtain ⟨hlt, hv⟩ := List.getElem?_eq_some_iff.1 hf
 refine ⟨by omega, ?_, ?_⟩
 ·unfold numsOf
  rw [List.length_map]; omega
 ·unfold rd numsOf cellN cellU
  rw [Int.toNat_natCast, List.getD_eq_getElem?_getD, List.getElem?_map, hf, Int.toNat_natCast, Int.toNat_natCast, List.getD_eq_getElem?_getD (l := rowsL a), List.getElem?_eq_getElem hi']
  simp only [Option.map_some, Option.getD_some]
  rw [List.getD_eq_getElem?_getD, List.getElem?_eq_getElem hj]
  rfl
theorem at_all {a : ByteArray} (g : Gnd a) (x y : Int) : qeA.f (rowsT a) x y = some (if hasB a x y = true then cellN a x y else 0) := by
 cases h : hasB a x y with
 | true => rw [at_eq g x y h]; rfl
 | false =>
  unfold qeA.f
  rw [has_eq g, h]; rfl
def floorB (a : ByteArray) (x y : Int) : Bool := hasB a x y && (cellN a x y == 46)
theorem at_floor {a : ByteArray} (g : Gnd a) (x y : Int) : ∃ c, qeA.f (rowsT a) x y = some c ∧ decide (c = 46) = floorB a x y := by
 refine ⟨_, at_all g x y, ?_⟩
 unfold floorB
 cases h : hasB a x y with
 | true => rw [if_pos rfl, Bool.true_and]; rfl
 | false => rw [if_neg (by decide)]; rfl
end Go.Proofs.YthhiiceligjleaaGreatDoor
namespace Go.Proofs.YthhiiceligjleaaGreatDoor.P
open Go.RowKit Go.Proofs.YthhiiceligjleaaGreatDoorW.PrintWords Go.Proofs.YthhiiceligjleaaGreatDoorW.PrintLast Go.Proofs.YthhiiceligjleaaGreatDoorW.PrintMore
attribute [local go_sem] ql qj qu qt qd qc qk qi
set_option linter.unusedVariables false
set_option linter.unusedSimpArgs false
def qeB.f (a0_0 : Int) (a0_1 : Int) (a0_2 : Int) (a0_3 : Int) (a0_4 : Int) (a0_5 : Int) : Option (List Int) := some (([a0_0, a0_1, a0_2, a0_3, a0_4, a0_5] : List Int))
set_option maxHeartbeats 8000000 in
set_option maxRecDepth 100000 in
theorem qeB.calls (a0_0 : Int) (a0_1 : Int) (a0_2 : Int) (a0_3 : Int) (a0_4 : Int) (a0_5 : Int) (r : List Int) (w : World) (h : qeB.f a0_0 a0_1 a0_2 a0_3 a0_4 a0_5 = some r) :
  Calls Tryz.prog 97 #[.agg #[.int .i64 a0_0, .int .i64 a0_1, .int .i64 a0_2, .int .i64 a0_3, .int .i64 a0_4, .int .i64 a0_5]] w fun e w' => ∃ v0_ : Value, e = .returned (v0_) ∧ Kd.R (Kd.int .i64) 3 w' w.heap.size (fun _ => True) v0_ r ∧ Below w.heap.size w w' := by
 have hu51 := Tryz.underlying51
 have HB := aM (Below.refl w.heap.size w)
 have H : (some (([a0_0, a0_1, a0_2, a0_3, a0_4, a0_5] : List Int))) = some r := h
 clear h
 obtain ⟨y411, hy411⟩ : ∃ y_ : List Int, y_ = (([a0_0, a0_1, a0_2, a0_3, a0_4, a0_5] : List Int)) := ⟨_, rfl⟩
 replace H : (some y411) = some r := by first | (rw [hy411]; with_reducible exact H) | (have H2_ := (Option.bind_some _ _).symm.trans H; rw [hy411]; with_reducible exact H2_) | (have H2_ := (Option.bind_some _ _).symm.trans H; with_reducible exact H2_) | with_reducible exact H | (rw [hy411]; exact H) | exact H
 have Ny411 := aM hy411
 clear hy411
 obtain rfl := Option.some.inj H
 go_enter Tryz.func97, Tryz.ntmps97
 go_wp2_with (first | ((with_reducible refine qJ (N := 1) rfl ?_); refine qI ?hg (N := 1) ?hd (cs := #[.int .i64 a0_0, .int .i64 a0_1, .int .i64 a0_2, .int .i64 a0_3, .int .i64 a0_4, .int .i64 a0_5]) (t := 51) ?hr ?_; (case hd => rfl); (case hg => rfl); (case hr => exact gS); intro gb410 hg w2 hbox hb; have BK410 := aM (hbox); have GW410 := aM ((gg hg)); have GE410 := aM ((gg hg)); replace HB := aM (qB bl hb); clear hb hbox hg; (refine cb6 BK410 ?_; intro _ _ _ _ _ _); (refine cz6 BK410 ?_; intro _ _ _ _ _ _)) | ((with_reducible refine qJ (N := 15) rfl ?_); refine Kd.R_lit (Kd.int .i64) _ 3 ?hg (N := 15) ?hd (xs := ([a0_0, a0_1, a0_2, a0_3, a0_4, a0_5] : List Int)) (inner := [.int .i64 a0_0, .int .i64 a0_1, .int .i64 a0_2, .int .i64 a0_3, .int .i64 a0_4, .int .i64 a0_5]) (ok := fun _ => True) (okp := fun _ => True) ?hr ?hp (fun _ hk => hk) trivial (Below.refl _ _) (Nat.le_refl _) (by simp) ?_; (case hd => rfl); (case hg => rfl); (case hr => exact gS); (case hp => exact (Reps.one (show Kd.M (Kd.int .i64) _ _ _ a0_0 [.int .i64 a0_0] from rfl) (Reps.one (show Kd.M (Kd.int .i64) _ _ _ a0_1 [.int .i64 a0_1] from rfl) (Reps.one (show Kd.M (Kd.int .i64) _ _ _ a0_2 [.int .i64 a0_2] from rfl) (Reps.one (show Kd.M (Kd.int .i64) _ _ _ a0_3 [.int .i64 a0_3] from rfl) (Reps.one (show Kd.M (Kd.int .i64) _ _ _ a0_4 [.int .i64 a0_4] from rfl) (Reps.one (show Kd.M (Kd.int .i64) _ _ _ a0_5 [.int .i64 a0_5] from rfl) (Reps.none _ _)))))))); intro v412 w4 ho5 hb hg_ hnew_; clear hg_ hnew_; (first | rw [← Ny411.out] at ho5 | (simp only [Int.reduceToNat] at ho5; rw [← Ny411.out] at ho5)); have HO413 := aM (Kd.qAA ho5 (qL bl)); replace BK410 := aM (bb BK410 hb); replace HB := aM (qB bl hb); clear hb ho5))
 go_ret
 exact ⟨_, sR, by (with_reducible repeat (first | apply Kd.qQ | apply Kd.qU | apply Kd.qV)); exact HO413.out, bl⟩
def qcB.f (a0 : Int) : Option (Bool) := (qhA.f a0 0 9).bind fun t414 => (some (!t414))
set_option maxHeartbeats 8000000 in
set_option maxRecDepth 100000 in
theorem qcB.calls (a0 : Int) (r : Bool) (w : World) (h : qcB.f a0 = some r) :
  Calls Tryz.prog 98 #[.int .i64 a0] w fun e w' => e = .returned (.bool r) ∧ Drawn0 w w' := by
 have H : ((qhA.f a0 0 9).bind fun t414 => (some (!t414))) = some r := h
 clear h
 replace H := bO H
 obtain ⟨t414, A2, H⟩ := H
 obtain rfl := Option.some.inj H
 go_enter Tryz.func98, Tryz.ntmps98
 go_wp2_with (first | ((with_reducible refine qF (f := 59) rfl ?_); refine qn (some 4) rfl rfl Tryz.func59 (by kernel_rfl) rfl #[.int .i64 a0, .int .i64 0, .int .i64 9] rfl gA ?_; (with_reducible refine (qhA.calls a0 0 9 t414 _ A2.out).mono ?_); rintro e w' ⟨rfl, ⟨nd, rfl⟩⟩; refine ⟨_, rfl, ?_⟩))
 go_ret
 exact ⟨by first | rfl | (simp; done) | (simp [*]; done), dR⟩
def qK.l0 : Nat → List Int → Int → Int → Option (Int)
 | 0, _, _, _ => none
 | k + 1, x0, x7, x8 => if x8 < x7 then (if 0 ≤ x8 then (if x8 < (x0.length : Int) then ((qcB.f (rd x0 x8)).bind fun t416 => (if t416 = true then (some x8) else (qK.l0 k x0 x7 (wrap64 (x8 + 1))))) else (none)) else (none)) else (some (-1))
def qK.f (k : Nat) (l0 : List Int)  : Option (Int) := qK.l0 k l0 (l0.length : Int) 0
set_option maxHeartbeats 8000000 in
set_option maxRecDepth 100000 in
theorem qK.calls (k : Nat) (A0 : Option Addr) (c0 : Nat) (l0 : List Int)  (r : Int) (w : World) (hr0 : Kd.C (Kd.int .i64) w A0 l0.length l0) (hc0 : l0.length ≤ c0) (h : qK.f k l0 = some r) :
  Calls Tryz.prog 106 #[.slice A0 l0.length c0, .func (.func 98) #[] #[]] w fun e w' => e = .returned (.int .i64 r) ∧ Drawn0 w w' := by
 have HR0 := aM hr0
 have HC0 := aM hc0
 clear hr0 hc0
 have H : (qK.l0 k l0 (l0.length : Int) 0) = some r := h
 clear h
 have H' := aM H
 clear H
 go_enter Tryz.func106, Tryz.ntmps106
 go_wp2
 go_loopg [8] k (fun kq v8 w' => ∃ (x8_1 : Int), v8 = .int .i64 x8_1 ∧ Aside0 (qK.l0 kq l0 (l0.length : Int) x8_1 = some r) ∧ Aside0 (kq ≤ k) ∧ Drawn0 w w')
 case atStart => exact ⟨(0), sD, H', ⟨Nat.le_refl _⟩, dR⟩
 case round =>
  clear H'; (try clear p2)
  obtain ⟨x8_1, rfl, HA, HK1, ⟨m1, rfl⟩⟩ := hrel
  cases gk with
  | zero => exact absurd HA.out (by simp [qK.l0])
  | succ k1 =>
   have H := HA.out
   clear HA
   simp only [qK.l0] at H
   by_cases c3 : x8_1 < (l0.length : Int)
   ·rw [if_pos c3] at H
    have c3b0 := decide_eq_true c3
    clear c3
    by_cases c4 : 0 ≤ x8_1
    ·rw [if_pos c4] at H
     have c4b0 := decide_eq_true c4
     clear c4
     by_cases c5 : x8_1 < (l0.length : Int)
     ·rw [if_pos c5] at H
      have c5b0 := decide_eq_true c5
      clear c5
      replace H := bO H
      obtain ⟨t416, A6, H⟩ := H
      by_cases c7 : t416 = true
      ·subst c7
       replace H := iT H
       obtain rfl := Option.some.inj H
       have p415 : 0 ≤ (x8_1 : Int) := of_decide_eq_true am
       have q415 : x8_1 < (l0.length : Int) := of_decide_eq_true am
       obtain ⟨ad415, e415, hx415_0⟩ := Kd.qJC HR0.out x8_1 p415 q415
       cases e415
       replace p415 := eq_true p415
       replace q415 := eq_true q415
       go_wp2_with (first | ((with_reducible refine qUC (s := 11) rfl ?_); refine qmD (some 16) 11 rfl rfl Tryz.func98 (by kernel_rfl) rfl #[.int .i64 (rd l0 x8_1)] rfl rfl gA ?_; (with_reducible refine (qcB.calls (rd l0 x8_1) true _ A6.out).mono ?_); rintro e w' ⟨rfl, ⟨nd, rfl⟩⟩; refine ⟨_, rfl, ?_⟩))
       go_ret
       exact ⟨by first | rfl | (simp; done) | (simp [*]; done), dR⟩
      ·replace c7 := Bool.eq_false_iff.mpr c7
       subst c7
       replace H := iF H
       have H' := aM H
       clear H
       have p415 : 0 ≤ (x8_1 : Int) := of_decide_eq_true am
       have q415 : x8_1 < (l0.length : Int) := of_decide_eq_true am
       obtain ⟨ad415, e415, hx415_0⟩ := Kd.qJC HR0.out x8_1 p415 q415
       cases e415
       replace p415 := eq_true p415
       replace q415 := eq_true q415
       go_wp2_with (first | ((with_reducible refine qUC (s := 11) rfl ?_); refine qmD (some 16) 11 rfl rfl Tryz.func98 (by kernel_rfl) rfl #[.int .i64 (rd l0 x8_1)] rfl rfl gA ?_; (with_reducible refine (qcB.calls (rd l0 x8_1) false _ A6.out).mono ?_); rintro e w' ⟨rfl, ⟨nd, rfl⟩⟩; refine ⟨_, rfl, ?_⟩))
       go_roundg k1
       case measure => have := HK1.out; omega
       case rel => exact ⟨(wrap64 (x8_1 + 1)), sD, H', ⟨by have := HK1.out; omega⟩, dR⟩
     ·rw [if_neg c5] at H
      exact absurd H (by simp)
    ·rw [if_neg c4] at H
     exact absurd H (by simp)
   ·rw [if_neg c3] at H
    have c3b0 := decide_eq_false c3
    clear c3
    obtain rfl := Option.some.inj H
    go_wp2
    go_ret
    exact ⟨by first | rfl | (simp; done) | (simp [*]; done), dR⟩
def qq.f (k : Nat) (l0 : List Int)  : Option (Bool) := (qK.f k l0).bind fun t417 => (some (decide (t417 ≥ 0)))
set_option maxHeartbeats 8000000 in
set_option maxRecDepth 100000 in
theorem qq.calls (k : Nat) (A0 : Option Addr) (c0 : Nat) (l0 : List Int)  (r : Bool) (w : World) (hr0 : Kd.C (Kd.int .i64) w A0 l0.length l0) (hc0 : l0.length ≤ c0) (h : qq.f k l0 = some r) :
  Calls Tryz.prog 96 #[.slice A0 l0.length c0, .func (.func 98) #[] #[]] w fun e w' => e = .returned (.bool r) ∧ Drawn0 w w' := by
 have HR0 := aM hr0
 have HC0 := aM hc0
 clear hr0 hc0
 have H : ((qK.f k l0).bind fun t417 => (some (decide (t417 ≥ 0)))) = some r := h
 clear h
 replace H := bO H
 obtain ⟨t417, A3, H⟩ := H
 obtain rfl := Option.some.inj H
 go_enter Tryz.func96, Tryz.ntmps96
 go_wp2_with (first | ((with_reducible refine qF (f := 106) rfl ?_); refine qn (some 7) rfl rfl Tryz.func106 (by kernel_rfl) rfl #[.slice A0 l0.length c0, .func (.func 98) #[] #[]] rfl gA ?_; (with_reducible refine (qK.calls k _ _ l0  t417 _ ?side1 ?side2 A3.out).mono ?_); (case side1 => repeat (first | exact HR0.out | (with_reducible refine Kd.qS ?_ _) | (with_reducible refine Kd.qR ?_ _) | (with_reducible refine Kd.qe ?_))); (case side2 => exact HC0.out); rintro e w' ⟨rfl, ⟨nd, rfl⟩⟩; refine ⟨_, rfl, ?_⟩))
 go_ret
 exact ⟨by first | rfl | (simp; done) | (simp [*]; done), dR⟩
def qoB.f (k : Nat) (a0_0 : Int) (a0_1 : Int) (a0_2 : Int) (a0_3 : Int) (a0_4 : Int) (a0_5 : Int) : Option (Bool) := (qeB.f a0_0 a0_1 a0_2 a0_3 a0_4 a0_5).bind fun t419 => ((qq.f k t419).bind fun t422 => (some (!t422)))
set_option maxHeartbeats 8000000 in
set_option maxRecDepth 100000 in
theorem qoB.calls (k : Nat) (a0_0 : Int) (a0_1 : Int) (a0_2 : Int) (a0_3 : Int) (a0_4 : Int) (a0_5 : Int) (r : Bool) (w : World) (h : qoB.f k a0_0 a0_1 a0_2 a0_3 a0_4 a0_5 = some r) :
  Calls Tryz.prog 87 #[.agg #[.int .i64 a0_0, .int .i64 a0_1, .int .i64 a0_2, .int .i64 a0_3, .int .i64 a0_4, .int .i64 a0_5]] w fun e w' => e = .returned (.bool r) ∧ Below w.heap.size w w' := by
 have hu51 := Tryz.underlying51
 have HB := aM (Below.refl w.heap.size w)
 have H : ((qeB.f a0_0 a0_1 a0_2 a0_3 a0_4 a0_5).bind fun t419 => ((qq.f k t419).bind fun t422 => (some (!t422)))) = some r := h
 clear h
 replace H := bO H
 obtain ⟨t419, A2, H⟩ := H
 replace H := bO H
 obtain ⟨t422, A3, H⟩ := H
 obtain rfl := Option.some.inj H
 go_enter Tryz.func87, Tryz.ntmps87
 go_wp2_with (first | ((with_reducible refine qJ (N := 1) rfl ?_); refine qI ?hg (N := 1) ?hd (cs := #[.int .i64 a0_0, .int .i64 a0_1, .int .i64 a0_2, .int .i64 a0_3, .int .i64 a0_4, .int .i64 a0_5]) (t := 51) ?hr ?_; (case hd => rfl); (case hg => rfl); (case hr => exact gS); intro gb418 hg w4 hbox hb; have BK418 := aM (hbox); have GW418 := aM ((gg hg)); have GE418 := aM ((gg hg)); replace HB := aM (qB bl hb); clear hb hbox hg; (refine cb6 BK418 ?_; intro _ _ _ _ _ _); (refine cz6 BK418 ?_; intro _ _ _ _ _ _)) | ((with_reducible refine qF (f := 97) rfl ?_); refine qn (some 4) rfl rfl Tryz.func97 (by kernel_rfl) rfl #[.agg #[.int .i64 a0_0, .int .i64 a0_1, .int .i64 a0_2, .int .i64 a0_3, .int .i64 a0_4, .int .i64 a0_5]] rfl gA ?_; (with_reducible refine (qeB.calls a0_0 a0_1 a0_2 a0_3 a0_4 a0_5 t419 _ A2.out).mono ?_); rintro e w6 ⟨v420, rfl, ho0, hb⟩; refine ⟨_, rfl, ?_⟩; have HO421 := aM (Kd.qAA ho0 (qL bl)); replace BK418 := aM (bb BK418 hb); replace HB := aM (qB bl hb); (try clear hb); (try clear hb2); (try clear hk); (try clear hi); (try clear ho0); obtain ⟨Ao7, co7, eo7⟩ := Kd.qFA HO421.out; subst eo7) | ((with_reducible refine qF (f := 96) rfl ?_); refine qn (some 5) rfl rfl Tryz.func96 (by kernel_rfl) rfl #[.slice Ao7 t419.length co7, .func (.func 98) #[] #[]] rfl gA ?_; (with_reducible refine (qq.calls k _ _ t419  t422 _ ?side1 ?side2 A3.out).mono ?_); (case side1 => repeat (first | exact (Kd.qM HO421.out).2.2 | (with_reducible refine Kd.qS ?_ _) | (with_reducible refine Kd.qR ?_ _) | (with_reducible refine Kd.qe ?_))); (case side2 => exact (Kd.qM HO421.out).2.1); rintro e w' ⟨rfl, ⟨nd, rfl⟩⟩; refine ⟨_, rfl, ?_⟩))
 go_ret
 exact ⟨sR, bl⟩
end Go.Proofs.YthhiiceligjleaaGreatDoor.P
namespace Go.Proofs.YthhiiceligjleaaGreatDoor
open Go.RowKit Go.Proofs.YthhiiceligjleaaGreatDoor.P Go.Proofs.YthhiiceligjleaaGreatDoorW.PrintWords Go.Proofs.YthhiiceligjleaaGreatDoorW.PrintLast
set_option linter.unusedVariables false
set_option linter.unusedSimpArgs false
def inFace (n : Int) : Bool := decide (0 ≤ n) && decide (n ≤ 9)
def dieB (a b c d e f : Int) : Bool := [a, b, c, d, e, f].all inFace
theorem rdn (l : List Int) (i : Nat) (h : i < l.length) : rd l (i : Int) = l[i] := by
 unfold rd
 rw [Int.toNat_natCast, List.getD_eq_getElem?_getD, List.getElem?_eq_getElem h]; rfl
theorem spec_l1In_eq (n a b : Int) : qiA.f n a b = some (decide (a ≤ n) && decide (n ≤ b)) := by
 unfold qiA.f
 by_cases h : n ≥ a
 ·rw [if_pos h, decide_eq_true (show a ≤ n from h), Bool.true_and]
 ·rw [if_neg h, decide_eq_false (show ¬ a ≤ n from h), Bool.false_and]
theorem impl_in_eq (n a b : Int) : qhA.f n a b = some (decide (a ≤ n) && decide (n ≤ b)) := by
 unfold qhA.f
 by_cases h : a ≤ n
 ·rw [if_pos h, decide_eq_true h, Bool.true_and]
 ·rw [if_neg h, decide_eq_false h, Bool.false_and]
theorem l1All_loop (l : List Int) (a b : Int) (hl : l.length ≤ 140737488355328) (d : Nat) : ∀ i : Nat, i ≤ l.length → l.length - i = d →
  Ev (fun k => qjA.l0 k a b l (l.length : Int) (i : Int)) ((l.drop i).all fun n => decide (a ≤ n) && decide (n ≤ b)) := by
 induction d with
 | zero =>
  intro i hi hd
  refine Ev.step (f := fun k => _) (fun k => by rw [qjA.l0]) (Ev.neg (by omega) (Ev.some_ ?_))
  rw [List.drop_eq_nil_of_le (by omega)]; rfl
 | succ d ih =>
  intro i hi hd
  have h : i < l.length := by omega
  refine Ev.step (f := fun k => _) (fun k => by rw [qjA.l0]) (Ev.pos (by omega) (Ev.pos (by omega) (Ev.pos (by omega) (Ev.bindc (spec_l1In_eq _ _ _) ?_))))
  rw [rdn l i h, List.drop_eq_getElem_cons h, List.all_cons, show wrap64 ((i : Int) + 1) = ((i + 1 : Nat) : Int) by unfold wrap64; omega]
  cases hb : (decide (a ≤ l[i]) && decide (l[i] ≤ b)) with
  | true => exact Ev.pos rfl (ih (i + 1) (by omega) (by omega))
  | false => exact Ev.neg (by decide) (Ev.some_ rfl)
theorem spec_l1All_ev (l : List Int) (a b : Int) (hl : l.length ≤ 140737488355328) : Ev (fun k => qjA.f k l a b) (l.all fun n => decide (a ≤ n) && decide (n ≤ b)) := by
 have := l1All_loop l a b hl l.length 0 (by omega) (by omega)
 simpa [qjA.f] using this
theorem spec_diGood_ev (a b c d e f : Int) : Ev (fun k => qkB.f k a b c d e f) (dieB a b c d e f) := by
 unfold qkB.f
 exact Ev.bindc rfl (Ev.bind (spec_l1All_ev [a, b, c, d, e, f] 0 9 (by simp)) (Ev.some_ rfl))
theorem isDie1_eq (n : Int) : qcB.f n = some (!inFace n) := by
 unfold qcB.f
 rw [impl_in_eq]; rfl
theorem idxDie_loop (l : List Int) (hl : l.length ≤ 140737488355328) (d : Nat) : ∀ i : Nat, i ≤ l.length → l.length - i = d →
  ∃ r : Int, Ev (fun k => qK.l0 k l (l.length : Int) (i : Int)) r ∧ decide (r ≥ 0) = !((l.drop i).all inFace) := by
 induction d with
 | zero =>
  intro i hi hd
  refine ⟨-1, Ev.step (f := fun k => _) (fun k => by rw [qK.l0]) (Ev.neg (by omega) (Ev.some_ rfl)), ?_⟩
  rw [List.drop_eq_nil_of_le (by omega)]; rfl
 | succ d ih =>
  intro i hi hd
  have h : i < l.length := by omega
  rw [List.drop_eq_getElem_cons h, List.all_cons]
  cases hb : inFace l[i] with
  | true =>
   obtain ⟨r, h1, h2⟩ := ih (i + 1) (by omega) (by omega)
   refine ⟨r, Ev.step (f := fun k => _) (fun k => by rw [qK.l0]) (Ev.pos (by omega) (Ev.pos (by omega) (Ev.pos (by omega) (Ev.bindc (isDie1_eq _) ?_)))), by rw [Bool.true_and]; exact h2⟩
   rw [rdn l i h, hb, show wrap64 ((i : Int) + 1) = ((i + 1 : Nat) : Int) by unfold wrap64; omega]
   exact Ev.neg (by decide) h1
  | false =>
   refine ⟨(i : Int), Ev.step (f := fun k => _) (fun k => by rw [qK.l0]) (Ev.pos (by omega) (Ev.pos (by omega) (Ev.pos (by omega) (Ev.bindc (isDie1_eq _) ?_)))), ?_⟩
   ·rw [rdn l i h, hb]
    exact Ev.pos rfl (Ev.now _)
   ·rw [Bool.false_and]; exact decide_eq_true (by omega)
theorem impl_IsDie_ev (a b c d e f : Int) : Ev (fun k => qoB.f k a b c d e f) (dieB a b c d e f) := by
 obtain ⟨r, h1, h2⟩ := idxDie_loop [a, b, c, d, e, f] (by simp) 6 0 (by simp) (by simp)
 unfold qoB.f qq.f qK.f
 refine Ev.bindc rfl (Ev.bind (a := decide (r ≥ 0)) (Ev.bind h1 (Ev.now _)) (Ev.some_ ?_))
 rw [h2]
 simp [dieB]
theorem dieB_face {a b c d e f : Int} (h : dieB a b c d e f = true) : ∀ n ∈ [a, b, c, d, e, f], 0 ≤ n ∧ n ≤ 9 := by
 intro n hn
 have := List.all_eq_true.1 h n hn
 simpa [inFace] using this
end Go.Proofs.YthhiiceligjleaaGreatDoor
namespace Go.Proofs.YthhiiceligjleaaGreatDoor.P
open Go.RowKit Go.Proofs.YthhiiceligjleaaGreatDoorW.PrintWords Go.Proofs.YthhiiceligjleaaGreatDoorW.PrintLast Go.Proofs.YthhiiceligjleaaGreatDoorW.PrintMore
attribute [local go_sem] ql qj qu qt qd qc qk qi
set_option linter.unusedVariables false
set_option linter.unusedSimpArgs false
def qnA.f (k : Nat) (l0 : List ByteArray) (a1_0 : Int) (a1_1 : Int) (a1_2 : Int) (a1_3 : Int) (a1_4 : Int) (a1_5 : Int) (a1_6 : Int) (a1_7 : Int) : Option (Bool) := (qoB.f k a1_2 a1_3 a1_4 a1_5 a1_6 a1_7).bind fun t424 => (if t424 = true then ((qeA.f l0 a1_0 a1_1).bind fun t425 => (some (t425 == 46))) else (some false))
set_option maxHeartbeats 8000000 in
set_option maxRecDepth 100000 in
theorem qnA.calls (k : Nat) (A0 : Option Addr) (c0 : Nat) (l0 : List ByteArray) (a1_0 : Int) (a1_1 : Int) (a1_2 : Int) (a1_3 : Int) (a1_4 : Int) (a1_5 : Int) (a1_6 : Int) (a1_7 : Int) (r : Bool) (w : World) (hr0 : Kd.C Kd.string w A0 l0.length l0) (hc0 : l0.length ≤ c0) (h : qnA.f k l0 a1_0 a1_1 a1_2 a1_3 a1_4 a1_5 a1_6 a1_7 = some r) :
  Calls Tryz.prog 73 #[.slice A0 l0.length c0, .agg #[.int .i64 a1_0, .int .i64 a1_1, .int .i64 a1_2, .int .i64 a1_3, .int .i64 a1_4, .int .i64 a1_5, .int .i64 a1_6, .int .i64 a1_7]] w fun e w' => e = .returned (.bool r) ∧ Below w.heap.size w w' := by
 have hu53 := Tryz.underlying53
 have hu51 := Tryz.underlying51
 have HR0 := aM hr0
 have HC0 := aM hc0
 clear hr0 hc0
 have HB := aM (Below.refl w.heap.size w)
 have H : ((qoB.f k a1_2 a1_3 a1_4 a1_5 a1_6 a1_7).bind fun t424 => (if t424 = true then ((qeA.f l0 a1_0 a1_1).bind fun t425 => (some (t425 == 46))) else (some false))) = some r := h
 clear h
 replace H := bO H
 obtain ⟨t424, A3, H⟩ := H
 by_cases c4 : t424 = true
 ·subst c4
  replace H := iT H
  replace H := bO H
  obtain ⟨t425, A5, H⟩ := H
  obtain rfl := Option.some.inj H
  go_enter Tryz.func73, Tryz.ntmps73
  go_wp2_with (first | ((with_reducible refine qJ (N := 3) rfl ?_); refine qI ?hg (N := 3) ?hd (cs := #[.int .i64 a1_0, .int .i64 a1_1, .int .i64 a1_2, .int .i64 a1_3, .int .i64 a1_4, .int .i64 a1_5, .int .i64 a1_6, .int .i64 a1_7]) (t := 53) ?hr ?_; (case hd => rfl); (case hg => rfl); (case hr => exact gS); intro gb423 hg w6 hbox hb; have BK423 := aM (hbox); have GW423 := aM ((gg hg)); have GE423 := aM ((gg hg)); replace HB := aM (qB bl hb); clear hb hbox hg; (refine cb8 BK423 ?_; intro _ _ _ _ _ _ _ _); (refine cz8 BK423 ?_; intro _ _ _ _ _ _ _ _)) | ((with_reducible refine qF (f := 87) rfl ?_); refine qn (some 7) rfl rfl Tryz.func87 (by kernel_rfl) rfl #[.agg #[.int .i64 a1_2, .int .i64 a1_3, .int .i64 a1_4, .int .i64 a1_5, .int .i64 a1_6, .int .i64 a1_7]] rfl gA ?_; (with_reducible refine (qoB.calls k a1_2 a1_3 a1_4 a1_5 a1_6 a1_7 true _ A3.out).mono ?_); rintro e w8 ⟨rfl, hb⟩; refine ⟨_, rfl, ?_⟩; replace BK423 := aM (bb BK423 hb); replace HB := aM (qB bl hb); (try clear hb); (try clear hb2); (try clear hk); (try clear hi); (refine cb8 BK423 ?_; intro _ _ _ _ _ _ _ _); (refine cz8 BK423 ?_; intro _ _ _ _ _ _ _ _)) | (go_at_call 85; (with_reducible refine (qeA.calls _ _ l0 a1_0 a1_1 t425 _ ?side1 ?side2 A5.out).mono ?_); (case side1 => repeat (first | exact (Kd.qY HR0.out HB.out) | (with_reducible refine Kd.qS ?_ _) | (with_reducible refine Kd.qR ?_ _) | (with_reducible refine Kd.qe ?_))); (case side2 => exact HC0.out); rintro e w' ⟨rfl, ⟨nd, rfl⟩⟩))
  go_ret
  exact ⟨sR, bl⟩
 ·replace c4 := Bool.eq_false_iff.mpr c4
  subst c4
  replace H := iF H
  obtain rfl := Option.some.inj H
  go_enter Tryz.func73, Tryz.ntmps73
  go_wp2_with (first | ((with_reducible refine qJ (N := 3) rfl ?_); refine qI ?hg (N := 3) ?hd (cs := #[.int .i64 a1_0, .int .i64 a1_1, .int .i64 a1_2, .int .i64 a1_3, .int .i64 a1_4, .int .i64 a1_5, .int .i64 a1_6, .int .i64 a1_7]) (t := 53) ?hr ?_; (case hd => rfl); (case hg => rfl); (case hr => exact gS); intro gb423 hg w10 hbox hb; have BK423 := aM (hbox); have GW423 := aM ((gg hg)); have GE423 := aM ((gg hg)); replace HB := aM (qB bl hb); clear hb hbox hg; (refine cb8 BK423 ?_; intro _ _ _ _ _ _ _ _); (refine cz8 BK423 ?_; intro _ _ _ _ _ _ _ _)) | ((with_reducible refine qF (f := 87) rfl ?_); refine qn (some 7) rfl rfl Tryz.func87 (by kernel_rfl) rfl #[.agg #[.int .i64 a1_2, .int .i64 a1_3, .int .i64 a1_4, .int .i64 a1_5, .int .i64 a1_6, .int .i64 a1_7]] rfl gA ?_; (with_reducible refine (qoB.calls k a1_2 a1_3 a1_4 a1_5 a1_6 a1_7 false _ A3.out).mono ?_); rintro e w12 ⟨rfl, hb⟩; refine ⟨_, rfl, ?_⟩; replace BK423 := aM (bb BK423 hb); replace HB := aM (qB bl hb); (try clear hb); (try clear hb2); (try clear hk); (try clear hi)))
  go_ret
  exact ⟨sR, bl⟩
end Go.Proofs.YthhiiceligjleaaGreatDoor.P
namespace Go.Proofs.YthhiiceligjleaaGreatDoor
open Go.RowKit Go.Proofs.YthhiiceligjleaaGreatDoor.P Go.Proofs.YthhiiceligjleaaGreatDoorW.PrintWords Go.Proofs.YthhiiceligjleaaGreatDoorW.PrintLast
set_option linter.unusedVariables false
set_option linter.unusedSimpArgs false
def PredOn {α : Type} (g : Nat) (lb : Array Value) (enc : α → Value) (p : α → Bool) (l : List α) (w : World) : Prop :=
 ∀ (W : World) (x : α), x ∈ l → Below w.heap.size w W → Calls Tryz.prog g (#[enc x] ++ lb) W fun e w' => e = .returned (.bool (p x)) ∧ Below W.heap.size W w'
theorem PredOn.later {α : Type} {g : Nat} {lb : Array Value} {enc : α → Value} {p : α → Bool} {l : List α} {w w1 : World} (h : PredOn g lb enc p l w) (hb : Below w.heap.size w w1) : PredOn g lb enc p l w1 :=
 fun W x hx hW => h W x hx (qtA hb hb.size hW)
def idxP {α : Type} (p : α → Bool) (l : List α) : Int := match l.findIdx? p with | some i => (i : Int) | none => -1
theorem idxP_hit {α : Type} (p : α → Bool) (l : List α) (k : Nat) (hk : k < l.length) (h0 : ∀ j, (h : j < k) → p (l[j]'(by omega)) = false) (h1 : p l[k] = true) : idxP p l = (k : Int) := by
 unfold idxP
 have : l.findIdx? p = some k := by
  rw [List.findIdx?_eq_some_iff_getElem]
  exact ⟨hk, h1, fun j hj => by rw [h0 j hj]; decide⟩
 rw [this]
theorem idxP_miss {α : Type} (p : α → Bool) (l : List α) (h0 : ∀ j, (h : j < l.length) → p l[j] = false) : idxP p l = -1 := by
 unfold idxP
 have : l.findIdx? p = none := by
  rw [List.findIdx?_eq_none_iff]
  intro x hx
  obtain ⟨j, hj, rfl⟩ := List.getElem_of_mem hx
  exact h0 j hj
 rw [this]
theorem idxP_any {α : Type} (p : α → Bool) (l : List α) : decide (idxP p l ≥ 0) = l.any p := by
 unfold idxP
 cases h : l.findIdx? p with
 | none =>
  rw [List.findIdx?_eq_none_iff] at h
  have : l.any p = false := by rw [List.any_eq_false]; intro x hx; simp [h x hx]
  rw [this]; decide
 | some i =>
  rw [List.findIdx?_eq_some_iff_getElem] at h
  obtain ⟨hi, hp, _⟩ := h
  have : l.any p = true := List.any_eq_true.2 ⟨l[i], List.getElem_mem hi, hp⟩
  rw [this]
  exact decide_eq_true (Int.natCast_nonneg i)
def encState (x : S53) : Value := .agg #[.int .i64 x.f0, .int .i64 x.f1, .int .i64 x.f2.f0, .int .i64 x.f2.f1, .int .i64 x.f2.f2, .int .i64 x.f2.f3, .int .i64 x.f2.f4, .int .i64 x.f2.f5]
theorem rd_getState (l : List S53) (j : Nat) (h : j < l.length) : qA l (j : Int) = l[j] := by
 unfold qA
 rw [Int.toNat_natCast, List.getD_eq_getElem?_getD, List.getElem?_eq_getElem h]; rfl
set_option maxHeartbeats 1000000 in
theorem indexFunc_State (p : S53 → Bool) (g : Nat) (lb : Array Value) (eg : ∀ args w, (callFunc g args).run Tryz.prog w = .ok (.enter g args) w) (A0 : Option Addr) (c0 : Nat) (l : List S53) (w : World)
  (hr : Kd.C k53 w A0 l.length l) (hp : PredOn g lb encState p l w) :
  Calls Tryz.prog 86 #[.slice A0 l.length c0, .func (.func g) #[] lb] w fun e w' => e = .returned (.int .i64 (idxP p l)) ∧ Below w.heap.size w w' := by
 have HR := Lib.hid hr
 have hn : l.length ≤ 9223372036854775807 := hr.2.1
 clear hr
 have hu := Tryz.underlying53
 go_enter Tryz.func86, Tryz.ntmps86
 go_wp2
 go_loopg [5, 8] l.length (fun gg _ s8 wr => ∃ kk : Nat, kk ≤ l.length ∧ l.length - kk ≤ gg ∧ s8 = .int .i64 kk ∧ Aside0 (Below w.heap.size w wr) ∧ Aside0 (∀ j, (h : j < l.length) → j < kk → p l[j] = false))
 case atStart => exact ⟨0, Nat.zero_le _, by omega, rfl, ⟨Below.refl _ w⟩, ⟨fun j _ hj => absurd hj (Nat.not_lt_zero _)⟩⟩
 case round =>
  obtain ⟨kk, hkk, hg, rfl, BW, A⟩ := hrel
  rename World => wr
  by_cases hlt : kk < l.length
  ·have hltz : (kk : Int) < (l.length : Int) := by omega
   obtain ⟨ad, e, h0, h1, h2, h3, h4, h5, h6, h7⟩ := qGB (Kd.qY HR.out BW.out) (kk : Int) (by omega) hltz
   cases e
   simp only [rd_getState l kk hlt, Int.toNat_natCast] at h0 h1 h2 h3 h4 h5 h6 h7
   have hcall := hp wr l[kk] (List.getElem_mem hlt) BW.out
   have B := Lib.hid (rfl : l[kk] = l[kk])
   generalize hy : l[kk] = y at h0 h1 h2 h3 h4 h5 h6 h7 hcall
   have HY := Lib.hid hy
   clear hy B
   cases hq : p y with
   | true =>
    rw [hq] at hcall
    have HQ := Lib.hid hq
    have HC := Lib.hid hcall
    clear hq hp hcall
    go_wp2
    refine HC.out.mono ?_
    rintro e w' ⟨rfl, hb'⟩
    clear HC h0 h1 h2 h3 h4 h5 h6 h7 eg
    go_wp2
    go_ret
    exact ⟨qyD (idxP_hit p l kk hlt (fun j hj => A.out j _ hj) (by rw [HY.out]; exact HQ.out)).symm, qtA BW.out BW.out.size hb'⟩
   | false =>
    rw [hq] at hcall
    have HQ := Lib.hid hq
    have HC := Lib.hid hcall
    clear hq hp hcall
    go_wp2
    refine HC.out.mono ?_
    rintro e w' ⟨rfl, hb'⟩
    clear HC h0 h1 h2 h3 h4 h5 h6 h7 eg
    go_wp2
    go_roundg (l.length - (kk + 1))
    case measure => omega
    case rel =>
     refine ⟨kk + 1, by omega, by omega, by go_num, ⟨qtA BW.out BW.out.size hb'⟩, ⟨fun j h hj => ?_⟩⟩
     by_cases e : j = kk
     ·subst e
      rw [HY.out]; exact HQ.out
     ·exact A.out j h (by omega)
  ·have hltz : ¬ (kk : Int) < (l.length : Int) := by omega
   have hke : kk = l.length := by omega
   subst hke
   clear hp
   go_wp2
   go_ret
   exact ⟨qyD (idxP_miss p l (fun j h => A.out j h h)).symm, BW.out⟩
theorem containsFunc_State (p : S53 → Bool) (g : Nat) (lb : Array Value) (eg : ∀ args w, (callFunc g args).run Tryz.prog w = .ok (.enter g args) w) (A0 : Option Addr) (c0 : Nat) (l : List S53) (w : World)
  (hr : Kd.C k53 w A0 l.length l) (hp : PredOn g lb encState p l w) :
  Calls Tryz.prog 70 #[.slice A0 l.length c0, .func (.func g) #[] lb] w fun e w' => e = .returned (.bool (l.any p)) ∧ Below w.heap.size w w' := by
 have hcall := fun c => indexFunc_State p g lb eg A0 c l w hr hp
 have HA := Lib.hid (idxP_any p l)
 clear hr hp
 go_enter Tryz.func70, Tryz.ntmps70
 go_wp2_with (go_at_call 86; refine (hcall _).mono ?_; rintro e w' ⟨rfl, hb'⟩)
 go_ret
 exact ⟨ret_bool HA.out, hb'⟩
end Go.Proofs.YthhiiceligjleaaGreatDoor
namespace Go.Proofs.YthhiiceligjleaaGreatDoor.P
open Go.RowKit Go.Proofs.YthhiiceligjleaaGreatDoorW.PrintWords Go.Proofs.YthhiiceligjleaaGreatDoorW.PrintLast Go.Proofs.YthhiiceligjleaaGreatDoorW.PrintMore
attribute [local go_sem] ql qj qu qt qd qc qk qi
set_option linter.unusedVariables false
set_option linter.unusedSimpArgs false
def qwA.f (a0_0 : Int) (a0_1 : Int) (a0_2 : Int) (a0_3 : Int) (a0_4 : Int) (a0_5 : Int) (a0_6 : Int) (a0_7 : Int) (a1 : Int) (a2 : Int) : Option (Bool) := if a0_0 = a1 then (some (a0_1 == a2)) else (some false)
set_option maxHeartbeats 8000000 in
set_option maxRecDepth 100000 in
theorem qwA.calls (a0_0 : Int) (a0_1 : Int) (a0_2 : Int) (a0_3 : Int) (a0_4 : Int) (a0_5 : Int) (a0_6 : Int) (a0_7 : Int) (a1 : Int) (a2 : Int) (r : Bool) (w : World) (h : qwA.f a0_0 a0_1 a0_2 a0_3 a0_4 a0_5 a0_6 a0_7 a1 a2 = some r) :
  Calls Tryz.prog 39 #[.agg #[.int .i64 a0_0, .int .i64 a0_1, .int .i64 a0_2, .int .i64 a0_3, .int .i64 a0_4, .int .i64 a0_5, .int .i64 a0_6, .int .i64 a0_7], .int .i64 a1, .int .i64 a2] w fun e w' => e = .returned (.bool r) ∧ Below w.heap.size w w' := by
 have hu53 := Tryz.underlying53
 have HB := aM (Below.refl w.heap.size w)
 have H : (if a0_0 = a1 then (some (a0_1 == a2)) else (some false)) = some r := h
 clear h
 by_cases c4 : a0_0 = a1
 ·rw [if_pos c4] at H
  have c4b0 := beq_iff_eq.mpr c4
  have c4b1 := bne_eq_false_iff_eq.mpr c4
  clear c4
  obtain rfl := Option.some.inj H
  go_enter Tryz.func39, Tryz.ntmps39
  go_wp2_with (first | ((with_reducible refine qJ (N := 3) rfl ?_); refine qI ?hg (N := 3) ?hd (cs := #[.int .i64 a0_0, .int .i64 a0_1, .int .i64 a0_2, .int .i64 a0_3, .int .i64 a0_4, .int .i64 a0_5, .int .i64 a0_6, .int .i64 a0_7]) (t := 53) ?hr ?_; (case hd => rfl); (case hg => rfl); (case hr => exact gS); intro gb611 hg w5 hbox hb; have BK611 := aM (hbox); have GW611 := aM ((gg hg)); have GE611 := aM ((gg hg)); replace HB := aM (qB bl hb); clear hb hbox hg; (refine cb8 BK611 ?_; intro _ _ _ _ _ _ _ _); (refine cz8 BK611 ?_; intro _ _ _ _ _ _ _ _)))
  go_ret
  exact ⟨sR, bl⟩
 ·rw [if_neg c4] at H
  have c4b0 := beq_eq_false_iff_ne.mpr c4
  have c4b1 := bne_iff_ne.mpr c4
  obtain rfl := Option.some.inj H
  go_enter Tryz.func39, Tryz.ntmps39
  go_wp2_with (first | ((with_reducible refine qJ (N := 3) rfl ?_); refine qI ?hg (N := 3) ?hd (cs := #[.int .i64 a0_0, .int .i64 a0_1, .int .i64 a0_2, .int .i64 a0_3, .int .i64 a0_4, .int .i64 a0_5, .int .i64 a0_6, .int .i64 a0_7]) (t := 53) ?hr ?_; (case hd => rfl); (case hg => rfl); (case hr => exact gS); intro gb611 hg w7 hbox hb; have BK611 := aM (hbox); have GW611 := aM ((gg hg)); have GE611 := aM ((gg hg)); replace HB := aM (qB bl hb); clear hb hbox hg; (refine cb8 BK611 ?_; intro _ _ _ _ _ _ _ _); (refine cz8 BK611 ?_; intro _ _ _ _ _ _ _ _)))
  go_ret
  exact ⟨sR, bl⟩
end Go.Proofs.YthhiiceligjleaaGreatDoor.P
namespace Go.Proofs.YthhiiceligjleaaGreatDoor
open Go.RowKit Go.Proofs.YthhiiceligjleaaGreatDoor.P Go.Proofs.YthhiiceligjleaaGreatDoorW.PrintWords Go.Proofs.YthhiiceligjleaaGreatDoorW.PrintLast
set_option linter.unusedVariables false
set_option linter.unusedSimpArgs false
def qCD.f (l : List S53) (y0 y1 y2 y3 y4 y5 y6 y7 : Int) : Option Bool := some (l.any fun x => decide (x.f0 = y0) && decide (x.f1 = y1))
theorem at1_any_isAt (x : S53) (y0 y1 : Int) : qwA.f x.f0 x.f1 x.f2.f0 x.f2.f1 x.f2.f2 x.f2.f3 x.f2.f4 x.f2.f5 y0 y1 = some (decide (x.f0 = y0) && decide (x.f1 = y1)) := by
 unfold qwA.f
 by_cases h : x.f0 = y0
 ·rw [if_pos h, decide_eq_true h, Bool.true_and]; rfl
 ·rw [if_neg h, decide_eq_false h, Bool.false_and]
set_option maxHeartbeats 1000000 in
set_option maxRecDepth 100000 in
theorem at1_any_calls (x : S53) (b : Nat) (y0 y1 : Int) (w : World) (h0 : w.cell? ⟨b, 0, none⟩ = some (.int .i64 y0)) (h1 : w.cell? ⟨b, 1, none⟩ = some (.int .i64 y1)) :
  Calls Tryz.prog 74 (#[encState x] ++ #[.pointer (some ⟨b, 0, none⟩)]) w fun e w' => e = .returned (.bool (decide (x.f0 = y0) && decide (x.f1 = y1))) ∧ Below w.heap.size w w' := by
 have hu := Tryz.underlying53
 show Calls Tryz.prog 74 #[encState x, .pointer (some ⟨b, 0, none⟩)] w _
 unfold encState
 have g7 := World.block_lt_of_cell? w _ h0
 have HH := fun (W : World) => Lib.hid (qwA.calls x.f0 x.f1 x.f2.f0 x.f2.f1 x.f2.f2 x.f2.f3 x.f2.f4 x.f2.f5 y0 y1 _ W (at1_any_isAt x y0 y1))
 go_enter Tryz.func74, Tryz.ntmps74
 go_wp2_with (first | (go_at_call 39; refine (HH _).out.mono ?_; rintro e w1 ⟨rfl, hb⟩; have HB := Lib.hid (qtA (qNA (Below.refl w.heap.size w) _) (qL (qNA (Below.refl w.heap.size w) _)) hb); clear hb))
 go_ret
 exact ⟨rfl, HB.out⟩
theorem qCD.calls (A0 : Option Addr) (c0 : Nat) (l0 : List S53) (b : Nat) (y0 y1 y2 y3 y4 y5 y6 y7 : Int) (r : Bool) (w : World) (hr0 : Kd.C k53 w A0 l0.length l0) (hc0 : l0.length ≤ c0) (h0 : w.cell? ⟨b, 0, none⟩ = some (.int .i64 y0)) (h1 : w.cell? ⟨b, 1, none⟩ = some (.int .i64 y1)) (_h2 : w.cell? ⟨b, 2, none⟩ = some (.int .i64 y2)) (_h3 : w.cell? ⟨b, 3, none⟩ = some (.int .i64 y3)) (_h4 : w.cell? ⟨b, 4, none⟩ = some (.int .i64 y4)) (_h5 : w.cell? ⟨b, 5, none⟩ = some (.int .i64 y5)) (_h6 : w.cell? ⟨b, 6, none⟩ = some (.int .i64 y6)) (_h7 : w.cell? ⟨b, 7, none⟩ = some (.int .i64 y7))
  (h : qCD.f l0 y0 y1 y2 y3 y4 y5 y6 y7 = some r) :
  Calls Tryz.prog 70 #[.slice A0 l0.length c0, .func (.func 74) #[] #[.pointer (some ⟨b, 0, none⟩)]] w fun e w' => e = .returned (.bool r) ∧ Below w.heap.size w w' := by
 obtain rfl := Option.some.inj h
 have eg := Go.Proofs.enters_of Tryz.func74 (by kernel_rfl) rfl
 exact containsFunc_State (fun x => decide (x.f0 = y0) && decide (x.f1 = y1)) 74 _ eg A0 c0 l0 w hr0 fun W x hx hb => at1_any_calls x b y0 y1 W (qQB hb h0) (qQB hb h1)
end Go.Proofs.YthhiiceligjleaaGreatDoor
namespace Go.Proofs.YthhiiceligjleaaGreatDoor.P
open Go.RowKit Go.Proofs.YthhiiceligjleaaGreatDoorW.PrintWords Go.Proofs.YthhiiceligjleaaGreatDoorW.PrintLast Go.Proofs.YthhiiceligjleaaGreatDoorW.PrintMore
attribute [local go_sem] ql qj qu qt qd qc qk qi
set_option linter.unusedVariables false
set_option linter.unusedSimpArgs false
def qv.l0 : Nat → List ByteArray → List (S53) → List (S53) → Int → Int → Option (Bool)
 | 0, _, _, _, _, _ => none
 | k + 1, x0, x1, x7, x8, x9 => if x9 < x8 then (if 0 ≤ x9 then (if x9 < (x7.length : Int) then ((qnA.f k x0 ((qA x7 x9).f0) ((qA x7 x9).f1) ((qA x7 x9).f2.f0) ((qA x7 x9).f2.f1) ((qA x7 x9).f2.f2) ((qA x7 x9).f2.f3) ((qA x7 x9).f2.f4) ((qA x7 x9).f2.f5)).bind fun t429 => (if t429 = true then (if x9 ≤ (x1.length : Int) then ((qCD.f (x1.take (x9 : Int).toNat) ((qA x7 x9).f0) ((qA x7 x9).f1) ((qA x7 x9).f2.f0) ((qA x7 x9).f2.f1) ((qA x7 x9).f2.f2) ((qA x7 x9).f2.f3) ((qA x7 x9).f2.f4) ((qA x7 x9).f2.f5)).bind fun t434 => (if t434 = true then (some false) else (qv.l0 k x0 x1 x7 x8 (wrap64 (x9 + 1))))) else (none)) else (some false))) else (none)) else (none)) else ((qhA.f (x1.length : Int) 1 3).bind fun t426 => (some t426))
def qv.f (k : Nat) (l0 : List ByteArray) (l1 : List (S53)) : Option (Bool) := qv.l0 k l0 l1 l1 (l1.length : Int) 0
set_option maxHeartbeats 8000000 in
set_option maxRecDepth 100000 in
theorem qv.calls (k : Nat) (A0 : Option Addr) (c0 : Nat) (l0 : List ByteArray) (A1 : Option Addr) (c1 : Nat) (l1 : List (S53)) (r : Bool) (w : World) (hr0 : Kd.C Kd.string w A0 l0.length l0) (hc0 : l0.length ≤ c0) (hr1 : Kd.C k53 w A1 l1.length l1) (hc1 : l1.length ≤ c1) (h : qv.f k l0 l1 = some r) :
  Calls Tryz.prog 54 #[.slice A0 l0.length c0, .slice A1 l1.length c1] w fun e w' => e = .returned (.bool r) ∧ Below w.heap.size w w' := by
 have hu53 := Tryz.underlying53
 have HR0 := aM hr0
 have HC0 := aM hc0
 clear hr0 hc0
 have HR1 := aM hr1
 have HC1 := aM hc1
 clear hr1 hc1
 have HB := aM (Below.refl w.heap.size w)
 have H : (qv.l0 k l0 l1 l1 (l1.length : Int) 0) = some r := h
 clear h
 have H' := aM H
 clear H
 go_enter Tryz.func54, Tryz.ntmps54
 go_wp2
 go_loopg [9] k (fun kq v9 w' => ∃ (x9_1 : Int), v9 = .int .i64 x9_1 ∧ Aside0 (qv.l0 kq l0 l1 l1 (l1.length : Int) x9_1 = some r) ∧ Aside0 (kq ≤ k) ∧ Aside0 (Below w.heap.size w w'))
 case atStart => exact ⟨(0), sD, H', ⟨Nat.le_refl _⟩, ⟨bl⟩⟩
 case round =>
  clear H'; (try clear c1); (try clear p2)
  obtain ⟨x9_1, rfl, HA, HK1, HB⟩ := hrel
  cases gk with
  | zero => exact absurd HA.out (by simp [qv.l0])
  | succ k1 =>
   have H := HA.out
   clear HA
   simp only [qv.l0] at H
   by_cases c3 : x9_1 < (l1.length : Int)
   ·rw [if_pos c3] at H
    have c3b0 := decide_eq_true c3
    clear c3
    by_cases c4 : 0 ≤ x9_1
    ·rw [if_pos c4] at H
     have c4b0 := decide_eq_true c4
     clear c4
     by_cases c5 : x9_1 < (l1.length : Int)
     ·rw [if_pos c5] at H
      have c5b0 := decide_eq_true c5
      clear c5
      replace H := bO H
      obtain ⟨t429, A6, H⟩ := H
      by_cases c7 : t429 = true
      ·subst c7
       replace H := iT H
       have c8b0 := eq_true (of_decide_eq_true am : 0 ≤ x9_1)
       by_cases c9 : x9_1 ≤ (l1.length : Int)
       ·rw [if_pos c9] at H
        have c9b0 := eq_true c9
        have c9b1 := decide_eq_true c9
        clear c9
        obtain ⟨y430, hy430⟩ : ∃ y_ : List (S53), y_ = (l1.take (x9_1 : Int).toNat) := ⟨_, rfl⟩
        replace H : ((qCD.f y430 ((qA l1 x9_1).f0) ((qA l1 x9_1).f1) ((qA l1 x9_1).f2.f0) ((qA l1 x9_1).f2.f1) ((qA l1 x9_1).f2.f2) ((qA l1 x9_1).f2.f3) ((qA l1 x9_1).f2.f4) ((qA l1 x9_1).f2.f5)).bind fun t434 => (if t434 = true then (some false) else (qv.l0 k1 l0 l1 l1 (l1.length : Int) (wrap64 (x9_1 + 1))))) = some r := by first | (rw [hy430]; with_reducible exact H) | (have H2_ := (Option.bind_some _ _).symm.trans H; rw [hy430]; with_reducible exact H2_) | (have H2_ := (Option.bind_some _ _).symm.trans H; with_reducible exact H2_) | with_reducible exact H | (rw [hy430]; exact H) | exact H
        have Ny430 := aM hy430
        clear hy430
        replace H := bO H
        obtain ⟨t434, A10, H⟩ := H
        by_cases c11 : t434 = true
        ·subst c11
         replace H := iT H
         obtain rfl := Option.some.inj H
         have p427 : 0 ≤ (x9_1 : Int) := of_decide_eq_true am
         have q427 : x9_1 < (l1.length : Int) := of_decide_eq_true am
         obtain ⟨ad427, e427, hx427_0, hx427_1, hx427_2, hx427_3, hx427_4, hx427_5, hx427_6, hx427_7⟩ := qGB HR1.out x9_1 p427 q427
         cases e427
         replace hx427_0 := (HB.out.cell (World.block_lt_of_cell? w _ hx427_0)).trans hx427_0
         replace hx427_1 := (HB.out.cell (World.block_lt_of_cell? w _ hx427_1)).trans hx427_1
         replace hx427_2 := (HB.out.cell (World.block_lt_of_cell? w _ hx427_2)).trans hx427_2
         replace hx427_3 := (HB.out.cell (World.block_lt_of_cell? w _ hx427_3)).trans hx427_3
         replace hx427_4 := (HB.out.cell (World.block_lt_of_cell? w _ hx427_4)).trans hx427_4
         replace hx427_5 := (HB.out.cell (World.block_lt_of_cell? w _ hx427_5)).trans hx427_5
         replace hx427_6 := (HB.out.cell (World.block_lt_of_cell? w _ hx427_6)).trans hx427_6
         replace hx427_7 := (HB.out.cell (World.block_lt_of_cell? w _ hx427_7)).trans hx427_7
         replace p427 := eq_true p427
         replace q427 := eq_true q427
         go_wp2_with (first | ((with_reducible refine qJ (N := 6) rfl ?_); refine qI ?hg (N := 6) ?hd (cs := #[.int .i64 0, .int .i64 0, .int .i64 0, .int .i64 0, .int .i64 0, .int .i64 0, .int .i64 0, .int .i64 0]) (t := 53) ?hr ?_; (case hd => rfl); (case hg => rfl); (case hr => exact gS); intro gb428 hg w12 hbox hb; have BK428 := aM (hbox); have GW428 := aM ((gg hg)); have GE428 := aM ((gg hg)); replace HB := aM (qB bl hb); clear hb hbox hg; (refine cb8 BK428 ?_; intro _ _ _ _ _ _ _ _); (refine cz8 BK428 ?_; intro _ _ _ _ _ _ _ _)) | ((with_reducible refine qF (f := 73) rfl ?_); refine qn (some 16) rfl rfl Tryz.func73 (by kernel_rfl) rfl #[.slice A0 l0.length c0, .agg #[.int .i64 ((qA l1 x9_1).f0), .int .i64 ((qA l1 x9_1).f1), .int .i64 ((qA l1 x9_1).f2.f0), .int .i64 ((qA l1 x9_1).f2.f1), .int .i64 ((qA l1 x9_1).f2.f2), .int .i64 ((qA l1 x9_1).f2.f3), .int .i64 ((qA l1 x9_1).f2.f4), .int .i64 ((qA l1 x9_1).f2.f5)]] rfl gA ?_; (with_reducible refine (qnA.calls k1 _ _ l0 ((qA l1 x9_1).f0) ((qA l1 x9_1).f1) ((qA l1 x9_1).f2.f0) ((qA l1 x9_1).f2.f1) ((qA l1 x9_1).f2.f2) ((qA l1 x9_1).f2.f3) ((qA l1 x9_1).f2.f4) ((qA l1 x9_1).f2.f5) true _ ?side1 ?side2 A6.out).mono ?_); (case side1 => exact Kd.qY HR0.out bl); (case side2 => exact HC0.out); rintro e w14 ⟨rfl, hb⟩; refine ⟨_, rfl, ?_⟩; replace BK428 := aM (qDA (g := gb428) (o := .cells #[.int .i64 ((qA l1 x9_1).f0), .int .i64 ((qA l1 x9_1).f1), .int .i64 ((qA l1 x9_1).f2.f0), .int .i64 ((qA l1 x9_1).f2.f1), .int .i64 ((qA l1 x9_1).f2.f2), .int .i64 ((qA l1 x9_1).f2.f3), .int .i64 ((qA l1 x9_1).f2.f4), .int .i64 ((qA l1 x9_1).f2.f5)] 53 (0, 0)) (by (with_reducible repeat (first | refine qH ?_ _ | refine qE ?_ | refine qG ?_ _)); exact bP8 BK428) hb); replace HB := aM (qB bl hb); (try clear hb); (try clear hb2); (try clear hk); (try clear hi); have q15 : (x9_1 : Int) ≤ ((l1.length : Int) : Int) := of_decide_eq_true am; obtain ⟨i015, hi015, _, hsz15, _⟩ := info_parts info53; have hroom15 : l1.length ≤ c1 := HC1.out; have hC15 : Kd.C k53 _ (some ad427) l1.length l1 := HR1.out; have hcut15 := qtD (P := Tryz.prog) 26 53 .i64 Tryz.underlying26 hi015 (some ad427) l1.length c1 x9_1 (of_decide_eq_true am) q15 hroom15; have hr15 := Kd.qdC (m := (x9_1 : Int).toNat) hC15 (by omega); have hy15 : y430.length = (x9_1 : Int).toNat := (by rw [Ny430.out, List.length_take]; omega); rw [← Ny430.out] at hr15; rw [← hy15] at hcut15; have HR433 := aM hr15; have HC433 := aM (show y430.length ≤ c1 from by omega); clear hr15 hC15 hroom15 hi015 hsz15; have KY15 := aM hy15; clear hy15; replace q15 := eq_true q15) | (go_at_call 70; (with_reducible refine (qCD.calls _ _ y430 gb428 ((qA l1 x9_1).f0) ((qA l1 x9_1).f1) ((qA l1 x9_1).f2.f0) ((qA l1 x9_1).f2.f1) ((qA l1 x9_1).f2.f2) ((qA l1 x9_1).f2.f3) ((qA l1 x9_1).f2.f4) ((qA l1 x9_1).f2.f5) true _ ?side1 ?side2 ?side3 ?side4 ?side5 ?side6 ?side7 ?side8 ?side9 ?side10 A10.out).mono ?_); (case side1 => repeat (first | exact (Kd.qY HR433.out HB.out) | (with_reducible refine Kd.qS ?_ _) | (with_reducible refine Kd.qR ?_ _) | (with_reducible refine Kd.qe ?_))); (case side2 => exact HC433.out); (case side3 => exact (cell_of_row _ gb428 0 _ 53 (0, 0) (rB BK428)).trans rfl); (case side4 => exact (cell_of_row _ gb428 1 _ 53 (0, 0) (rB BK428)).trans rfl); (case side5 => exact (cell_of_row _ gb428 2 _ 53 (0, 0) (rB BK428)).trans rfl); (case side6 => exact (cell_of_row _ gb428 3 _ 53 (0, 0) (rB BK428)).trans rfl); (case side7 => exact (cell_of_row _ gb428 4 _ 53 (0, 0) (rB BK428)).trans rfl); (case side8 => exact (cell_of_row _ gb428 5 _ 53 (0, 0) (rB BK428)).trans rfl); (case side9 => exact (cell_of_row _ gb428 6 _ 53 (0, 0) (rB BK428)).trans rfl); (case side10 => exact (cell_of_row _ gb428 7 _ 53 (0, 0) (rB BK428)).trans rfl); rintro e w16 ⟨rfl, hb⟩; replace BK428 := aM (bb BK428 hb); replace HB := aM (qB bl hb); (try clear hb); (try clear hb2); (try clear hk); (try clear hi)))
         go_ret
         exact ⟨sR, bl⟩
        ·replace c11 := Bool.eq_false_iff.mpr c11
         subst c11
         replace H := iF H
         have H' := aM H
         clear H
         have p427 : 0 ≤ (x9_1 : Int) := of_decide_eq_true am
         have q427 : x9_1 < (l1.length : Int) := of_decide_eq_true am
         obtain ⟨ad427, e427, hx427_0, hx427_1, hx427_2, hx427_3, hx427_4, hx427_5, hx427_6, hx427_7⟩ := qGB HR1.out x9_1 p427 q427
         cases e427
         replace hx427_0 := (HB.out.cell (World.block_lt_of_cell? w _ hx427_0)).trans hx427_0
         replace hx427_1 := (HB.out.cell (World.block_lt_of_cell? w _ hx427_1)).trans hx427_1
         replace hx427_2 := (HB.out.cell (World.block_lt_of_cell? w _ hx427_2)).trans hx427_2
         replace hx427_3 := (HB.out.cell (World.block_lt_of_cell? w _ hx427_3)).trans hx427_3
         replace hx427_4 := (HB.out.cell (World.block_lt_of_cell? w _ hx427_4)).trans hx427_4
         replace hx427_5 := (HB.out.cell (World.block_lt_of_cell? w _ hx427_5)).trans hx427_5
         replace hx427_6 := (HB.out.cell (World.block_lt_of_cell? w _ hx427_6)).trans hx427_6
         replace hx427_7 := (HB.out.cell (World.block_lt_of_cell? w _ hx427_7)).trans hx427_7
         replace p427 := eq_true p427
         replace q427 := eq_true q427
         go_wp2_with (first | ((with_reducible refine qJ (N := 6) rfl ?_); refine qI ?hg (N := 6) ?hd (cs := #[.int .i64 0, .int .i64 0, .int .i64 0, .int .i64 0, .int .i64 0, .int .i64 0, .int .i64 0, .int .i64 0]) (t := 53) ?hr ?_; (case hd => rfl); (case hg => rfl); (case hr => exact gS); intro gb428 hg w17 hbox hb; have BK428 := aM (hbox); have GW428 := aM ((gg hg)); have GE428 := aM ((gg hg)); replace HB := aM (qB bl hb); clear hb hbox hg; (refine cb8 BK428 ?_; intro _ _ _ _ _ _ _ _); (refine cz8 BK428 ?_; intro _ _ _ _ _ _ _ _)) | ((with_reducible refine qF (f := 73) rfl ?_); refine qn (some 16) rfl rfl Tryz.func73 (by kernel_rfl) rfl #[.slice A0 l0.length c0, .agg #[.int .i64 ((qA l1 x9_1).f0), .int .i64 ((qA l1 x9_1).f1), .int .i64 ((qA l1 x9_1).f2.f0), .int .i64 ((qA l1 x9_1).f2.f1), .int .i64 ((qA l1 x9_1).f2.f2), .int .i64 ((qA l1 x9_1).f2.f3), .int .i64 ((qA l1 x9_1).f2.f4), .int .i64 ((qA l1 x9_1).f2.f5)]] rfl gA ?_; (with_reducible refine (qnA.calls k1 _ _ l0 ((qA l1 x9_1).f0) ((qA l1 x9_1).f1) ((qA l1 x9_1).f2.f0) ((qA l1 x9_1).f2.f1) ((qA l1 x9_1).f2.f2) ((qA l1 x9_1).f2.f3) ((qA l1 x9_1).f2.f4) ((qA l1 x9_1).f2.f5) true _ ?side1 ?side2 A6.out).mono ?_); (case side1 => exact Kd.qY HR0.out bl); (case side2 => exact HC0.out); rintro e w19 ⟨rfl, hb⟩; refine ⟨_, rfl, ?_⟩; replace BK428 := aM (qDA (g := gb428) (o := .cells #[.int .i64 ((qA l1 x9_1).f0), .int .i64 ((qA l1 x9_1).f1), .int .i64 ((qA l1 x9_1).f2.f0), .int .i64 ((qA l1 x9_1).f2.f1), .int .i64 ((qA l1 x9_1).f2.f2), .int .i64 ((qA l1 x9_1).f2.f3), .int .i64 ((qA l1 x9_1).f2.f4), .int .i64 ((qA l1 x9_1).f2.f5)] 53 (0, 0)) (by (with_reducible repeat (first | refine qH ?_ _ | refine qE ?_ | refine qG ?_ _)); exact bP8 BK428) hb); replace HB := aM (qB bl hb); (try clear hb); (try clear hb2); (try clear hk); (try clear hi); have q20 : (x9_1 : Int) ≤ ((l1.length : Int) : Int) := of_decide_eq_true am; obtain ⟨i020, hi020, _, hsz20, _⟩ := info_parts info53; have hroom20 : l1.length ≤ c1 := HC1.out; have hC20 : Kd.C k53 _ (some ad427) l1.length l1 := HR1.out; have hcut20 := qtD (P := Tryz.prog) 26 53 .i64 Tryz.underlying26 hi020 (some ad427) l1.length c1 x9_1 (of_decide_eq_true am) q20 hroom20; have hr20 := Kd.qdC (m := (x9_1 : Int).toNat) hC20 (by omega); have hy20 : y430.length = (x9_1 : Int).toNat := (by rw [Ny430.out, List.length_take]; omega); rw [← Ny430.out] at hr20; rw [← hy20] at hcut20; have HR433 := aM hr20; have HC433 := aM (show y430.length ≤ c1 from by omega); clear hr20 hC20 hroom20 hi020 hsz20; have KY20 := aM hy20; clear hy20; replace q20 := eq_true q20) | (go_at_call 70; (with_reducible refine (qCD.calls _ _ y430 gb428 ((qA l1 x9_1).f0) ((qA l1 x9_1).f1) ((qA l1 x9_1).f2.f0) ((qA l1 x9_1).f2.f1) ((qA l1 x9_1).f2.f2) ((qA l1 x9_1).f2.f3) ((qA l1 x9_1).f2.f4) ((qA l1 x9_1).f2.f5) false _ ?side1 ?side2 ?side3 ?side4 ?side5 ?side6 ?side7 ?side8 ?side9 ?side10 A10.out).mono ?_); (case side1 => repeat (first | exact (Kd.qY HR433.out HB.out) | (with_reducible refine Kd.qS ?_ _) | (with_reducible refine Kd.qR ?_ _) | (with_reducible refine Kd.qe ?_))); (case side2 => exact HC433.out); (case side3 => exact (cell_of_row _ gb428 0 _ 53 (0, 0) (rB BK428)).trans rfl); (case side4 => exact (cell_of_row _ gb428 1 _ 53 (0, 0) (rB BK428)).trans rfl); (case side5 => exact (cell_of_row _ gb428 2 _ 53 (0, 0) (rB BK428)).trans rfl); (case side6 => exact (cell_of_row _ gb428 3 _ 53 (0, 0) (rB BK428)).trans rfl); (case side7 => exact (cell_of_row _ gb428 4 _ 53 (0, 0) (rB BK428)).trans rfl); (case side8 => exact (cell_of_row _ gb428 5 _ 53 (0, 0) (rB BK428)).trans rfl); (case side9 => exact (cell_of_row _ gb428 6 _ 53 (0, 0) (rB BK428)).trans rfl); (case side10 => exact (cell_of_row _ gb428 7 _ 53 (0, 0) (rB BK428)).trans rfl); rintro e w21 ⟨rfl, hb⟩; replace BK428 := aM (bb BK428 hb); replace HB := aM (qB bl hb); (try clear hb); (try clear hb2); (try clear hk); (try clear hi)))
         go_roundg k1
         case measure => have := HK1.out; omega
         case rel => exact ⟨(wrap64 (x9_1 + 1)), sD, H', ⟨by have := HK1.out; omega⟩, ⟨bl⟩⟩
       ·rw [if_neg c9] at H
        exact absurd H (by simp)
      ·replace c7 := Bool.eq_false_iff.mpr c7
       subst c7
       replace H := iF H
       obtain rfl := Option.some.inj H
       have p427 : 0 ≤ (x9_1 : Int) := of_decide_eq_true am
       have q427 : x9_1 < (l1.length : Int) := of_decide_eq_true am
       obtain ⟨ad427, e427, hx427_0, hx427_1, hx427_2, hx427_3, hx427_4, hx427_5, hx427_6, hx427_7⟩ := qGB HR1.out x9_1 p427 q427
       cases e427
       replace hx427_0 := (HB.out.cell (World.block_lt_of_cell? w _ hx427_0)).trans hx427_0
       replace hx427_1 := (HB.out.cell (World.block_lt_of_cell? w _ hx427_1)).trans hx427_1
       replace hx427_2 := (HB.out.cell (World.block_lt_of_cell? w _ hx427_2)).trans hx427_2
       replace hx427_3 := (HB.out.cell (World.block_lt_of_cell? w _ hx427_3)).trans hx427_3
       replace hx427_4 := (HB.out.cell (World.block_lt_of_cell? w _ hx427_4)).trans hx427_4
       replace hx427_5 := (HB.out.cell (World.block_lt_of_cell? w _ hx427_5)).trans hx427_5
       replace hx427_6 := (HB.out.cell (World.block_lt_of_cell? w _ hx427_6)).trans hx427_6
       replace hx427_7 := (HB.out.cell (World.block_lt_of_cell? w _ hx427_7)).trans hx427_7
       replace p427 := eq_true p427
       replace q427 := eq_true q427
       go_wp2_with (first | ((with_reducible refine qJ (N := 6) rfl ?_); refine qI ?hg (N := 6) ?hd (cs := #[.int .i64 0, .int .i64 0, .int .i64 0, .int .i64 0, .int .i64 0, .int .i64 0, .int .i64 0, .int .i64 0]) (t := 53) ?hr ?_; (case hd => rfl); (case hg => rfl); (case hr => exact gS); intro gb428 hg w22 hbox hb; have BK428 := aM (hbox); have GW428 := aM ((gg hg)); have GE428 := aM ((gg hg)); replace HB := aM (qB bl hb); clear hb hbox hg; (refine cb8 BK428 ?_; intro _ _ _ _ _ _ _ _); (refine cz8 BK428 ?_; intro _ _ _ _ _ _ _ _)) | ((with_reducible refine qF (f := 73) rfl ?_); refine qn (some 16) rfl rfl Tryz.func73 (by kernel_rfl) rfl #[.slice A0 l0.length c0, .agg #[.int .i64 ((qA l1 x9_1).f0), .int .i64 ((qA l1 x9_1).f1), .int .i64 ((qA l1 x9_1).f2.f0), .int .i64 ((qA l1 x9_1).f2.f1), .int .i64 ((qA l1 x9_1).f2.f2), .int .i64 ((qA l1 x9_1).f2.f3), .int .i64 ((qA l1 x9_1).f2.f4), .int .i64 ((qA l1 x9_1).f2.f5)]] rfl gA ?_; (with_reducible refine (qnA.calls k1 _ _ l0 ((qA l1 x9_1).f0) ((qA l1 x9_1).f1) ((qA l1 x9_1).f2.f0) ((qA l1 x9_1).f2.f1) ((qA l1 x9_1).f2.f2) ((qA l1 x9_1).f2.f3) ((qA l1 x9_1).f2.f4) ((qA l1 x9_1).f2.f5) false _ ?side1 ?side2 A6.out).mono ?_); (case side1 => exact Kd.qY HR0.out bl); (case side2 => exact HC0.out); rintro e w24 ⟨rfl, hb⟩; refine ⟨_, rfl, ?_⟩; replace BK428 := aM (qDA (g := gb428) (o := .cells #[.int .i64 ((qA l1 x9_1).f0), .int .i64 ((qA l1 x9_1).f1), .int .i64 ((qA l1 x9_1).f2.f0), .int .i64 ((qA l1 x9_1).f2.f1), .int .i64 ((qA l1 x9_1).f2.f2), .int .i64 ((qA l1 x9_1).f2.f3), .int .i64 ((qA l1 x9_1).f2.f4), .int .i64 ((qA l1 x9_1).f2.f5)] 53 (0, 0)) (by (with_reducible repeat (first | refine qH ?_ _ | refine qE ?_ | refine qG ?_ _)); exact bP8 BK428) hb); replace HB := aM (qB bl hb); (try clear hb); (try clear hb2); (try clear hk); (try clear hi)))
       go_ret
       exact ⟨sR, bl⟩
     ·rw [if_neg c5] at H
      exact absurd H (by simp)
    ·rw [if_neg c4] at H
     exact absurd H (by simp)
   ·rw [if_neg c3] at H
    have c3b0 := decide_eq_false c3
    clear c3
    replace H := bO H
    obtain ⟨t426, A25, H⟩ := H
    obtain rfl := Option.some.inj H
    go_wp2_with (first | ((with_reducible refine qF (f := 59) rfl ?_); refine qn (some 28) rfl rfl Tryz.func59 (by kernel_rfl) rfl #[.int .i64 (l1.length : Int), .int .i64 1, .int .i64 3] rfl gA ?_; (with_reducible refine (qhA.calls (l1.length : Int) 1 3 t426 _ A25.out).mono ?_); rintro e w' ⟨rfl, ⟨nd, rfl⟩⟩; refine ⟨_, rfl, ?_⟩))
    go_ret
    exact ⟨sR, bl⟩
def qpA.f (k : Nat) (a0 : ByteArray) (l1 : List (S53)) : Option (List ByteArray × Bool) := (qnB.f k a0).bind fun bt435 => (if bt435.2 = true then ((qv.f k bt435.1 l1).bind fun t439 => (some (bt435.1, t439))) else (some (bt435.1, false)))
set_option maxHeartbeats 8000000 in
set_option maxRecDepth 100000 in
theorem qpA.calls (k : Nat) (a0 : ByteArray) (A1 : Option Addr) (c1 : Nat) (l1 : List (S53)) (r1 : List ByteArray) (r2 : Bool) (w : World) (hr1 : Kd.C k53 w A1 l1.length l1) (hc1 : l1.length ≤ c1) (hL : Laid w) (h : qpA.f k a0 l1 = some (r1, r2)) :
  Calls Tryz.prog 25 #[.string a0, .slice A1 l1.length c1] w fun e w' => ∃ v0_ : Value, e = .returned (.tuple #[v0_, .bool r2]) ∧ Kd.R Kd.string 9 w' w.heap.size (fun _ => True) v0_ r1 ∧ Below w.heap.size w w' := by
 have HR1 := aM hr1
 have HC1 := aM hc1
 clear hr1 hc1
 have HLD := aM hL
 clear hL
 have HB := aM (Below.refl w.heap.size w)
 have H : ((qnB.f k a0).bind fun bt435 => (if bt435.2 = true then ((qv.f k bt435.1 l1).bind fun t439 => (some (bt435.1, t439))) else (some (bt435.1, false)))) = some (r1, r2) := h
 clear h
 replace H := bO H
 obtain ⟨⟨t435, t436⟩, A3, H⟩ := H
 dsimp only at H A3
 by_cases c4 : t436 = true
 ·subst c4
  replace H := iT H
  replace H := bO H
  obtain ⟨t439, A5, H⟩ := H
  simp only [Option.some.injEq, Prod.mk.injEq] at H
  obtain ⟨rfl, rfl⟩ := H
  go_enter Tryz.func25, Tryz.ntmps25
  go_wp2_with (first | ((with_reducible refine qF (f := 34) rfl ?_); refine qn (some 10) rfl rfl Tryz.func34 (by kernel_rfl) rfl #[.string a0] rfl gA ?_; (with_reducible refine (qnB.calls k a0 t435 true _ ?side1 A3.out).mono ?_); (case side1 => first | (with_reducible exact HLD.out) | exact Laid.below HLD.out bl); rintro e w6 ⟨v437, rfl, ho0, hb⟩; refine ⟨_, rfl, ?_⟩; have HO438 := aM (Kd.qAA ho0 (qL bl)); replace HB := aM (qB bl hb); (try clear hb); (try clear hb2); (try clear hk); (try clear hi); (try clear ho0); obtain ⟨Ao7, co7, eo7⟩ := Kd.qFA HO438.out; subst eo7) | (go_at_call 54; (with_reducible refine (qv.calls k _ _ t435 _ _ l1 t439 _ ?side1 ?side2 ?side3 ?side4 A5.out).mono ?_); (case side1 => repeat (first | exact (Kd.qM HO438.out).2.2 | (with_reducible refine Kd.qS ?_ _) | (with_reducible refine Kd.qR ?_ _) | (with_reducible refine Kd.qe ?_))); (case side2 => exact (Kd.qM HO438.out).2.1); (case side3 => repeat (first | exact (Kd.qY HR1.out HB.out) | (with_reducible refine Kd.qS ?_ _) | (with_reducible refine Kd.qR ?_ _) | (with_reducible refine Kd.qe ?_))); (case side4 => exact HC1.out); rintro e w8 ⟨rfl, hb⟩; replace HO438 := aM (Kd.qZ (rR HO438) hb); replace HB := aM (qB bl hb); (try clear hb); (try clear hb2); (try clear hk); (try clear hi)))
  go_ret2
  exact ⟨_, sR, by (with_reducible repeat (first | apply Kd.qQ | apply Kd.qU | apply Kd.qV)); exact HO438.out, bl⟩
 ·replace c4 := Bool.eq_false_iff.mpr c4
  subst c4
  replace H := iF H
  simp only [Option.some.injEq, Prod.mk.injEq] at H
  obtain ⟨rfl, rfl⟩ := H
  go_enter Tryz.func25, Tryz.ntmps25
  go_wp2_with (first | ((with_reducible refine qF (f := 34) rfl ?_); refine qn (some 10) rfl rfl Tryz.func34 (by kernel_rfl) rfl #[.string a0] rfl gA ?_; (with_reducible refine (qnB.calls k a0 t435 false _ ?side1 A3.out).mono ?_); (case side1 => first | (with_reducible exact HLD.out) | exact Laid.below HLD.out bl); rintro e w9 ⟨v437, rfl, ho0, hb⟩; refine ⟨_, rfl, ?_⟩; have HO438 := aM (Kd.qAA ho0 (qL bl)); replace HB := aM (qB bl hb); (try clear hb); (try clear hb2); (try clear hk); (try clear hi); (try clear ho0)))
  go_ret2
  exact ⟨_, sR, by (with_reducible repeat (first | apply Kd.qQ | apply Kd.qU | apply Kd.qV)); exact HO438.out, bl⟩
end Go.Proofs.YthhiiceligjleaaGreatDoor.P
namespace Go.Proofs.YthhiiceligjleaaGreatDoor
open Go.RowKit Go.Proofs.YthhiiceligjleaaGreatDoor.P Go.Proofs.YthhiiceligjleaaGreatDoorW.PrintWords Go.Proofs.YthhiiceligjleaaGreatDoorW.PrintLast
set_option linter.unusedVariables false
set_option linter.unusedSimpArgs false
def stateB (a : ByteArray) (s : XS) : Bool := floorB a s.f0 s.f1 && dieB s.f2.f0 s.f2.f1 s.f2.f2 s.f2.f3 s.f2.f4 s.f2.f5
def atCell (x y : Int) (t : XS) : Bool := decide (t.f0 = x) && decide (t.f1 = y)
abbrev csOf (a : ByteArray) : List Int := numsOf (flatT a.data.toList)
theorem boFloor_eq {a : ByteArray} (g : Gnd a) (x y : Int) : qlA.f (wideT a : Int) (highT a : Int) (csOf a) x y = some (floorB a x y) := by
 unfold qlA.f floorB
 rw [boCell_eq g, Option.bind_some]
 cases h : hasB a x y with
 | false => rw [if_neg (by decide)]; rfl
 | true =>
  obtain ⟨h1, h2, h3⟩ := spec_at g x y h
  rw [if_pos rfl, if_pos h1, if_pos h2, h3]; rfl
theorem isState_ev {a : ByteArray} (g : Gnd a) (s : XS) : Ev (fun k => qnA.f k (rowsT a) s.f0 s.f1 s.f2.f0 s.f2.f1 s.f2.f2 s.f2.f3 s.f2.f4 s.f2.f5) (stateB a s) := by
 unfold qnA.f stateB
 refine Ev.bind (impl_IsDie_ev _ _ _ _ _ _) ?_
 obtain ⟨c, h1, h2⟩ := at_floor g s.f0 s.f1
 cases hd : dieB s.f2.f0 s.f2.f1 s.f2.f2 s.f2.f3 s.f2.f4 s.f2.f5 with
 | false =>
  rw [Bool.and_false]
  exact Ev.neg (by decide) (Ev.now _)
 | true =>
  rw [Bool.and_true, ← h2]
  exact Ev.pos rfl (Ev.bindc h1 (Ev.some_ rfl))
theorem boState_ev {a : ByteArray} (g : Gnd a) (s : XS) : Ev (fun k => qPB.f k (wideT a : Int) (highT a : Int) (csOf a) s.f0 s.f1 s.f2.f0 s.f2.f1 s.f2.f2 s.f2.f3 s.f2.f4 s.f2.f5) (stateB a s) := by
 unfold qPB.f stateB
 refine Ev.bindc (boFloor_eq g _ _) ?_
 cases hd : floorB a s.f0 s.f1 with
 | false => exact Ev.neg (by decide) (Ev.now _)
 | true => exact Ev.pos rfl (Ev.bind (spec_diGood_ev _ _ _ _ _ _) (Ev.now _))
theorem myAt_loop (l : List XS) (hl : l.length ≤ 140737488355328) (x y : Int) (d : Nat) : ∀ i : Nat, i ≤ l.length → l.length - i = d →
  ∃ r : Int, Ev (fun k => qTA.l0 k x y l (l.length : Int) (i : Int)) r ∧ decide (r ≥ 0) = (l.drop i).any (atCell x y) := by
 induction d with
 | zero =>
  intro i hi hd
  refine ⟨-1, Ev.step (f := fun k => _) (fun k => by rw [qTA.l0]) (Ev.neg (by omega) (Ev.now _)), ?_⟩
  rw [List.drop_eq_nil_of_le (by omega)]; rfl
 | succ d ih =>
  intro i hi hd
  have h : i < l.length := by omega
  have w : wrap64 ((i : Int) + 1) = ((i + 1 : Nat) : Int) := by unfold wrap64; omega
  obtain ⟨r, h1, h2⟩ := ih (i + 1) (by omega) (by omega)
  rw [List.drop_eq_getElem_cons h, List.any_cons]
  by_cases hx : l[i].f0 = x
  ·by_cases hy : l[i].f1 = y
   ·refine ⟨(i : Int), Ev.step (f := fun k => _) (fun k => by rw [qTA.l0]) (Ev.pos (by omega) (Ev.pos (by omega) (Ev.pos (by omega) ?_))), ?_⟩
    ·rw [rdXS l i h]
     exact Ev.pos hx (Ev.pos hy (Ev.now _))
    ·rw [decide_eq_true (by omega)]
     unfold atCell
     rw [decide_eq_true hx, decide_eq_true hy]; rfl
   ·refine ⟨r, Ev.step (f := fun k => _) (fun k => by rw [qTA.l0]) (Ev.pos (by omega) (Ev.pos (by omega) (Ev.pos (by omega) ?_))), ?_⟩
    ·rw [rdXS l i h, w]
     exact Ev.pos hx (Ev.neg hy h1)
    ·rw [h2]
     unfold atCell
     rw [decide_eq_false hy, Bool.and_false, Bool.false_or]
  ·refine ⟨r, Ev.step (f := fun k => _) (fun k => by rw [qTA.l0]) (Ev.pos (by omega) (Ev.pos (by omega) (Ev.pos (by omega) ?_))), ?_⟩
   ·rw [rdXS l i h, w]
    exact Ev.neg hx h1
   ·rw [h2]
    unfold atCell
    rw [decide_eq_false hx, Bool.false_and, Bool.false_or]
theorem myAt_ev (l : List XS) (hl : l.length ≤ 140737488355328) (x y : Int) : ∃ r : Int, Ev (fun k => qTA.f k l x y) r ∧ decide (r ≥ 0) = l.any (atCell x y) := by
 have := myAt_loop l hl x y l.length 0 (by omega) (by omega)
 simpa [qTA.f] using this
def goodL (a : ByteArray) : List XS → List XS → Bool
 | _, [] => true
 | e, s :: r => stateB a s && !(e.any (atCell s.f0 s.f1)) && goodL a (e ++ [s]) r
def in3 (n : Nat) : Bool := decide ((1 : Int) ≤ (n : Int)) && decide ((n : Int) ≤ 3)
def goodB (a : ByteArray) (l : List XS) : Bool := in3 l.length && goodL a [] l
theorem take_succ_drop {l : List XS} {i : Nat} (h : i < l.length) : l.take (i + 1) = l.take i ++ [l[i]] := by
 rw [List.take_succ_eq_append_getElem h]
theorem areDice_loop {a : ByteArray} (g : Gnd a) (l : List XS) (hl : l.length ≤ 2000000) (d : Nat) : ∀ i : Nat, i ≤ l.length → l.length - i = d →
  Ev (fun k => qv.l0 k (rowsT a) l l (l.length : Int) (i : Int)) (goodL a (l.take i) (l.drop i) && in3 l.length) := by
 induction d with
 | zero =>
  intro i hi hd
  refine Ev.step (f := fun k => _) (fun k => by rw [qv.l0]) (Ev.neg (by omega) (Ev.bindc (qpC _ _ _) (Ev.some_ ?_)))
  rw [List.drop_eq_nil_of_le (by omega)]; rfl
 | succ d ih =>
  intro i hi hd
  have h : i < l.length := by omega
  have w : wrap64 ((i : Int) + 1) = ((i + 1 : Nat) : Int) := by unfold wrap64; omega
  have hs := isState_ev g l[i]
  have hn := ih (i + 1) (by omega) (by omega)
  rw [take_succ_drop h] at hn
  rw [List.drop_eq_getElem_cons h]
  refine Ev.step (f := fun k => _) (fun k => by rw [qv.l0]) (Ev.pos (by omega) (Ev.pos (by omega) (Ev.pos (by omega) ?_)))
  rw [rdXS l i h, w]
  refine Ev.bind hs ?_
  unfold goodL
  cases hb : stateB a l[i] with
  | false => exact Ev.neg (by decide) (Ev.now _)
  | true =>
   refine Ev.pos rfl (Ev.pos (by omega) (Ev.bindc (show qCD.f _ _ _ _ _ _ _ _ _ = some _ from rfl) ?_))
   rw [Int.toNat_natCast]
   show Ev (fun k => if (l.take i).any (atCell l[i].f0 l[i].f1) = true then _ else _) _
   cases hq : (l.take i).any (atCell l[i].f0 l[i].f1) with
   | true => exact Ev.pos rfl (Ev.now _)
   | false =>
    refine Ev.neg (by decide) ?_
    simpa using hn
theorem areDice_ev {a : ByteArray} (g : Gnd a) (l : List XS) (hl : l.length ≤ 2000000) : Ev (fun k => qv.f k (rowsT a) l) (goodB a l) := by
 have := areDice_loop g l hl l.length 0 (by omega) (by omega)
 rw [Bool.and_comm] at this
 exact this
theorem myGood_loop {a : ByteArray} (g : Gnd a) (l : List XS) (hl : l.length ≤ 2000000) (d : Nat) : ∀ i : Nat, i ≤ l.length → l.length - i = d →
  Ev (fun k => qo.l0 k l l (l.length : Int) (i : Int) (wideT a : Int) (highT a : Int) (csOf a)) (goodL a (l.take i) (l.drop i)) := by
 induction d with
 | zero =>
  intro i hi hd
  refine Ev.step (f := fun k => _) (fun k => by rw [qo.l0]) (Ev.neg (by omega) (Ev.some_ ?_))
  rw [List.drop_eq_nil_of_le (by omega)]; rfl
 | succ d ih =>
  intro i hi hd
  have h : i < l.length := by omega
  have w : wrap64 ((i : Int) + 1) = ((i + 1 : Nat) : Int) := by unfold wrap64; omega
  have hs := boState_ev g l[i]
  have hn := ih (i + 1) (by omega) (by omega)
  rw [take_succ_drop h] at hn
  rw [List.drop_eq_getElem_cons h]
  refine Ev.step (f := fun k => _) (fun k => by rw [qo.l0]) (Ev.pos (by omega) (Ev.pos (by omega) (Ev.pos (by omega) ?_)))
  rw [rdXS l i h, w]
  refine Ev.bind hs ?_
  unfold goodL
  cases hb : stateB a l[i] with
  | false => exact Ev.neg (by decide) (Ev.now _)
  | true =>
   obtain ⟨r, h1, h2⟩ := myAt_ev (l.take i) (by rw [List.length_take]; omega) l[i].f0 l[i].f1
   refine Ev.pos rfl (Ev.pos (by omega) ?_)
   rw [Int.toNat_natCast]
   refine Ev.bind h1 ?_
   rw [← h2]
   by_cases hq : r ≥ 0
   ·rw [decide_eq_true hq]
    exact Ev.pos hq (Ev.now _)
   ·rw [decide_eq_false hq]
    refine Ev.neg hq ?_
    simpa using hn
theorem myGood_ev {a : ByteArray} (g : Gnd a) (l : List XS) (hl : l.length ≤ 2000000) : Ev (fun k => qo.f k (wideT a : Int) (highT a : Int) (csOf a) l) (goodB a l) := by
 unfold qo.f goodB in3
 refine Ev.bindc (qnD _ _ _) ?_
 cases hb : (decide ((1 : Int) ≤ (l.length : Int)) && decide ((l.length : Int) ≤ 3)) with
 | false => exact Ev.neg (by decide) (Ev.now _)
 | true =>
  refine Ev.pos rfl ?_
  rw [Bool.true_and]
  exact myGood_loop g l hl l.length 0 (by omega) (by omega)
def askD (a : ByteArray) (l : List XS) : Bool := boardB a && goodB a l
theorem quC {a : ByteArray} {l : List XS} (h : askD a l = true) : boardB a = true := by
 unfold askD at h
 rw [Bool.and_eq_true] at h
 exact h.1
theorem qLE {a : ByteArray} {l : List XS} (h : askD a l = true) : 1 ≤ l.length ∧ l.length ≤ 3 := by
 unfold askD goodB in3 at h
 simp only [Bool.and_eq_true, decide_eq_true_eq] at h
 omega
theorem goodL_state {a : ByteArray} : ∀ {e l : List XS}, goodL a e l = true → ∀ s ∈ l, stateB a s = true
 | _, [], _, s, hs => by cases hs
 | e, t :: r, h, s, hs => by
  unfold goodL at h
  simp only [Bool.and_eq_true] at h
  rcases List.mem_cons.1 hs with rfl | hs
  ·exact h.1.1
  ·exact goodL_state h.2 s hs
theorem askD_state {a : ByteArray} {l : List XS} (h : askD a l = true) : ∀ s ∈ l, stateB a s = true := by
 unfold askD goodB at h
 simp only [Bool.and_eq_true] at h
 exact goodL_state h.2.2
theorem together_ev (a : ByteArray) (l : List XS) (ha : a.size ≤ 1048576) (hl : l.length ≤ 2000000) : ∃ rows : List ByteArray, Ev (fun k => qpA.f k a l) (rows, askD a l) ∧ (askD a l = true → rows = rowsT a) := by
 obtain ⟨rows, h1, hr⟩ := board_ev a ha
 unfold qpA.f askD
 cases hg : boardB a with
 | false =>
  rw [hg] at h1
  exact ⟨rows, Ev.bind h1 (Ev.neg (by simp) (Ev.now _)), fun h => by cases h⟩
 | true =>
  have g := qRE hg
  have e := hr hg
  subst e
  rw [hg] at h1
  exact ⟨rowsT a, Ev.bind h1 (Ev.pos rfl (Ev.bind (areDice_ev g l hl) (Ev.now _))), fun _ => rfl⟩
theorem myAsked_ev (a : ByteArray) (l : List XS) (hl : l.length ≤ 2000000) : ∃ (w h : Int) (cs : List Int), Ev (fun k => qLA.f k a l) (w, h, cs, askD a l) ∧ (askD a l = true → w = (wideT a : Int) ∧ h = (highT a : Int) ∧ cs = csOf a) := by
 have h2 := boRead_ev a
 unfold qLA.f askD
 cases hg : boardB a with
 | false =>
  rw [hg, if_neg (by decide)] at h2
  exact ⟨_, _, _, Ev.bind h2 (Ev.neg (by simp [badG]) (Ev.now _)), fun h => by cases h⟩
 | true =>
  have g := qRE hg
  rw [hg, if_pos rfl] at h2
  exact ⟨_, _, _, Ev.bind h2 (Ev.pos rfl (Ev.bind (myGood_ev g l hl) (Ev.now _))), fun _ => ⟨rfl, rfl, rfl⟩⟩
end Go.Proofs.YthhiiceligjleaaGreatDoor
namespace Go.Proofs.YthhiiceligjleaaGreatDoor.P
open Go.RowKit Go.Proofs.YthhiiceligjleaaGreatDoorW.PrintWords Go.Proofs.YthhiiceligjleaaGreatDoorW.PrintLast Go.Proofs.YthhiiceligjleaaGreatDoorW.PrintMore
attribute [local go_sem] ql qj qu qt qd qc qk qi
set_option linter.unusedVariables false
set_option linter.unusedSimpArgs false
def qFC.f (a0 : Int) (a1 : Int) (a2 : Int) : Option (Int × Int) := if a2 = 110 then (some (a0, wrap64 (a1 - 1))) else (if a2 = 101 then (some (wrap64 (a0 + 1), a1)) else (if a2 = 115 then (some (a0, wrap64 (a1 + 1))) else (some (wrap64 (a0 - 1), a1))))
set_option maxHeartbeats 8000000 in
set_option maxRecDepth 100000 in
theorem qFC.calls (a0 : Int) (a1 : Int) (a2 : Int) (r1 : Int) (r2 : Int) (w : World) (h : qFC.f a0 a1 a2 = some (r1, r2)) :
  Calls Tryz.prog 83 #[.int .i64 a0, .int .i64 a1, .int .u8 a2] w fun e w' => e = .returned (.tuple #[.int .i64 r1, .int .i64 r2]) ∧ Drawn0 w w' := by
 have H : (if a2 = 110 then (some (a0, wrap64 (a1 - 1))) else (if a2 = 101 then (some (wrap64 (a0 + 1), a1)) else (if a2 = 115 then (some (a0, wrap64 (a1 + 1))) else (some (wrap64 (a0 - 1), a1))))) = some (r1, r2) := h
 clear h
 by_cases c4 : a2 = 110
 ·rw [if_pos c4] at H
  have c4b0 := beq_iff_eq.mpr c4
  have c4b1 := bne_eq_false_iff_eq.mpr c4
  clear c4
  simp only [Option.some.injEq, Prod.mk.injEq] at H
  obtain ⟨rfl, rfl⟩ := H
  go_enter Tryz.func83, Tryz.ntmps83
  go_wp2
  go_ret2
  exact ⟨by first | rfl | (simp; done) | (simp [*]; done), dR⟩
 ·rw [if_neg c4] at H
  have c4b0 := beq_eq_false_iff_ne.mpr c4
  have c4b1 := bne_iff_ne.mpr c4
  by_cases c5 : a2 = 101
  ·rw [if_pos c5] at H
   have c5b0 := beq_iff_eq.mpr c5
   have c5b1 := bne_eq_false_iff_eq.mpr c5
   clear c5
   simp only [Option.some.injEq, Prod.mk.injEq] at H
   obtain ⟨rfl, rfl⟩ := H
   go_enter Tryz.func83, Tryz.ntmps83
   go_wp2
   go_ret2
   exact ⟨by first | rfl | (simp; done) | (simp [*]; done), dR⟩
  ·rw [if_neg c5] at H
   have c5b0 := beq_eq_false_iff_ne.mpr c5
   have c5b1 := bne_iff_ne.mpr c5
   by_cases c6 : a2 = 115
   ·rw [if_pos c6] at H
    have c6b0 := beq_iff_eq.mpr c6
    have c6b1 := bne_eq_false_iff_eq.mpr c6
    clear c6
    simp only [Option.some.injEq, Prod.mk.injEq] at H
    obtain ⟨rfl, rfl⟩ := H
    go_enter Tryz.func83, Tryz.ntmps83
    go_wp2
    go_ret2
    exact ⟨by first | rfl | (simp; done) | (simp [*]; done), dR⟩
   ·rw [if_neg c6] at H
    have c6b0 := beq_eq_false_iff_ne.mpr c6
    have c6b1 := bne_iff_ne.mpr c6
    simp only [Option.some.injEq, Prod.mk.injEq] at H
    obtain ⟨rfl, rfl⟩ := H
    go_enter Tryz.func83, Tryz.ntmps83
    go_wp2
    go_ret2
    exact ⟨by first | rfl | (simp; done) | (simp [*]; done), dR⟩
def qRB.f (a0_0 : Int) (a0_1 : Int) (a0_2 : Int) (a0_3 : Int) (a0_4 : Int) (a0_5 : Int) (a1 : Int) : Option (Int × Int × Int × Int × Int × Int) := if a1 = 110 then (some (a0_3, a0_0, a0_2, a0_5, a0_4, a0_1)) else (if a1 = 101 then (some (a0_4, a0_1, a0_0, a0_3, a0_5, a0_2)) else (if a1 = 115 then (some (a0_1, a0_5, a0_2, a0_0, a0_4, a0_3)) else (some (a0_2, a0_1, a0_5, a0_3, a0_0, a0_4))))
set_option maxHeartbeats 8000000 in
set_option maxRecDepth 100000 in
theorem qRB.calls (a0_0 : Int) (a0_1 : Int) (a0_2 : Int) (a0_3 : Int) (a0_4 : Int) (a0_5 : Int) (a1 : Int) (r1 : Int) (r2 : Int) (r3 : Int) (r4 : Int) (r5 : Int) (r6 : Int) (w : World) (h : qRB.f a0_0 a0_1 a0_2 a0_3 a0_4 a0_5 a1 = some (r1, r2, r3, r4, r5, r6)) :
  Calls Tryz.prog 84 #[.agg #[.int .i64 a0_0, .int .i64 a0_1, .int .i64 a0_2, .int .i64 a0_3, .int .i64 a0_4, .int .i64 a0_5], .int .u8 a1] w fun e w' => e = .returned (.agg #[.int .i64 r1, .int .i64 r2, .int .i64 r3, .int .i64 r4, .int .i64 r5, .int .i64 r6]) ∧ Below w.heap.size w w' := by
 have hu51 := Tryz.underlying51
 have HB := aM (Below.refl w.heap.size w)
 have H : (if a1 = 110 then (some (a0_3, a0_0, a0_2, a0_5, a0_4, a0_1)) else (if a1 = 101 then (some (a0_4, a0_1, a0_0, a0_3, a0_5, a0_2)) else (if a1 = 115 then (some (a0_1, a0_5, a0_2, a0_0, a0_4, a0_3)) else (some (a0_2, a0_1, a0_5, a0_3, a0_0, a0_4))))) = some (r1, r2, r3, r4, r5, r6) := h
 clear h
 by_cases c3 : a1 = 110
 ·rw [if_pos c3] at H
  have c3b0 := beq_iff_eq.mpr c3
  have c3b1 := bne_eq_false_iff_eq.mpr c3
  clear c3
  simp only [Option.some.injEq, Prod.mk.injEq] at H
  obtain ⟨rfl, rfl, rfl, rfl, rfl, rfl⟩ := H
  go_enter Tryz.func84, Tryz.ntmps84
  go_wp2_with (first | ((with_reducible refine qJ (N := 2) rfl ?_); refine qI ?hg (N := 2) ?hd (cs := #[.int .i64 a0_0, .int .i64 a0_1, .int .i64 a0_2, .int .i64 a0_3, .int .i64 a0_4, .int .i64 a0_5]) (t := 51) ?hr ?_; (case hd => rfl); (case hg => rfl); (case hr => exact gS); intro gb440 hg w4 hbox hb; have BK440 := aM (hbox); have GW440 := aM ((gg hg)); have GE440 := aM ((gg hg)); replace HB := aM (qB bl hb); clear hb hbox hg) | ((with_reducible refine qJ (N := 4) rfl ?_); refine qI ?hg (N := 4) ?hd (cs := #[.int .i64 0, .int .i64 0, .int .i64 0, .int .i64 0, .int .i64 0, .int .i64 0]) (t := 51) ?hr ?_; (case hd => rfl); (case hg => rfl); (case hr => exact gS); intro gb441 hg w5 hbox hb; have BK441 := aM (hbox); have GW441 := aM ((gg hg)); have GE441 := aM ((gg hg)); have NB440_441 := aM ((nl BK440 hg)); have NB441_440 := aM ((nr BK440 hg)); replace BK440 := aM (bb BK440 hb); replace HB := aM (qB bl hb); clear hb hbox hg; have hnb6 := NB440_441.out; have hnc6 := NB441_440.out; (refine cb6 BK440 ?_; intro _ _ _ _ _ _); (refine cz6 BK440 ?_; intro _ _ _ _ _ _); (refine cb6 BK441 ?_; intro _ _ _ _ _ _); (refine cz6 BK441 ?_; intro _ _ _ _ _ _)))
  refine bodyPost_ret (results_cell_row rfl _ _ gb441 51 #[.int .i64 a0_3, .int .i64 a0_0, .int .i64 a0_2, .int .i64 a0_5, .int .i64 a0_4, .int .i64 a0_1] (0, 0) _ rfl (by (with_reducible repeat (first | refine qH ?_ _ | refine qE ?_ | refine qG ?_ _)); exact bP6 BK441) Tryz.underlying51 rfl (by kernel_rfl)) rfl ?_
  exact ⟨sR, bl⟩
 ·rw [if_neg c3] at H
  have c3b0 := beq_eq_false_iff_ne.mpr c3
  have c3b1 := bne_iff_ne.mpr c3
  by_cases c9 : a1 = 101
  ·rw [if_pos c9] at H
   have c9b0 := beq_iff_eq.mpr c9
   have c9b1 := bne_eq_false_iff_eq.mpr c9
   clear c9
   simp only [Option.some.injEq, Prod.mk.injEq] at H
   obtain ⟨rfl, rfl, rfl, rfl, rfl, rfl⟩ := H
   go_enter Tryz.func84, Tryz.ntmps84
   go_wp2_with (first | ((with_reducible refine qJ (N := 2) rfl ?_); refine qI ?hg (N := 2) ?hd (cs := #[.int .i64 a0_0, .int .i64 a0_1, .int .i64 a0_2, .int .i64 a0_3, .int .i64 a0_4, .int .i64 a0_5]) (t := 51) ?hr ?_; (case hd => rfl); (case hg => rfl); (case hr => exact gS); intro gb440 hg w10 hbox hb; have BK440 := aM (hbox); have GW440 := aM ((gg hg)); have GE440 := aM ((gg hg)); replace HB := aM (qB bl hb); clear hb hbox hg) | ((with_reducible refine qJ (N := 4) rfl ?_); refine qI ?hg (N := 4) ?hd (cs := #[.int .i64 0, .int .i64 0, .int .i64 0, .int .i64 0, .int .i64 0, .int .i64 0]) (t := 51) ?hr ?_; (case hd => rfl); (case hg => rfl); (case hr => exact gS); intro gb441 hg w11 hbox hb; have BK441 := aM (hbox); have GW441 := aM ((gg hg)); have GE441 := aM ((gg hg)); have NB440_441 := aM ((nl BK440 hg)); have NB441_440 := aM ((nr BK440 hg)); replace BK440 := aM (bb BK440 hb); replace HB := aM (qB bl hb); clear hb hbox hg; have hnb12 := NB440_441.out; have hnc12 := NB441_440.out; (refine cb6 BK440 ?_; intro _ _ _ _ _ _); (refine cz6 BK440 ?_; intro _ _ _ _ _ _); (refine cb6 BK441 ?_; intro _ _ _ _ _ _); (refine cz6 BK441 ?_; intro _ _ _ _ _ _)))
   refine bodyPost_ret (results_cell_row rfl _ _ gb441 51 #[.int .i64 a0_4, .int .i64 a0_1, .int .i64 a0_0, .int .i64 a0_3, .int .i64 a0_5, .int .i64 a0_2] (0, 0) _ rfl (by (with_reducible repeat (first | refine qH ?_ _ | refine qE ?_ | refine qG ?_ _)); exact bP6 BK441) Tryz.underlying51 rfl (by kernel_rfl)) rfl ?_
   exact ⟨sR, bl⟩
  ·rw [if_neg c9] at H
   have c9b0 := beq_eq_false_iff_ne.mpr c9
   have c9b1 := bne_iff_ne.mpr c9
   by_cases c15 : a1 = 115
   ·rw [if_pos c15] at H
    have c15b0 := beq_iff_eq.mpr c15
    have c15b1 := bne_eq_false_iff_eq.mpr c15
    clear c15
    simp only [Option.some.injEq, Prod.mk.injEq] at H
    obtain ⟨rfl, rfl, rfl, rfl, rfl, rfl⟩ := H
    go_enter Tryz.func84, Tryz.ntmps84
    go_wp2_with (first | ((with_reducible refine qJ (N := 2) rfl ?_); refine qI ?hg (N := 2) ?hd (cs := #[.int .i64 a0_0, .int .i64 a0_1, .int .i64 a0_2, .int .i64 a0_3, .int .i64 a0_4, .int .i64 a0_5]) (t := 51) ?hr ?_; (case hd => rfl); (case hg => rfl); (case hr => exact gS); intro gb440 hg w16 hbox hb; have BK440 := aM (hbox); have GW440 := aM ((gg hg)); have GE440 := aM ((gg hg)); replace HB := aM (qB bl hb); clear hb hbox hg) | ((with_reducible refine qJ (N := 4) rfl ?_); refine qI ?hg (N := 4) ?hd (cs := #[.int .i64 0, .int .i64 0, .int .i64 0, .int .i64 0, .int .i64 0, .int .i64 0]) (t := 51) ?hr ?_; (case hd => rfl); (case hg => rfl); (case hr => exact gS); intro gb441 hg w17 hbox hb; have BK441 := aM (hbox); have GW441 := aM ((gg hg)); have GE441 := aM ((gg hg)); have NB440_441 := aM ((nl BK440 hg)); have NB441_440 := aM ((nr BK440 hg)); replace BK440 := aM (bb BK440 hb); replace HB := aM (qB bl hb); clear hb hbox hg; have hnb18 := NB440_441.out; have hnc18 := NB441_440.out; (refine cb6 BK440 ?_; intro _ _ _ _ _ _); (refine cz6 BK440 ?_; intro _ _ _ _ _ _); (refine cb6 BK441 ?_; intro _ _ _ _ _ _); (refine cz6 BK441 ?_; intro _ _ _ _ _ _)))
    refine bodyPost_ret (results_cell_row rfl _ _ gb441 51 #[.int .i64 a0_1, .int .i64 a0_5, .int .i64 a0_2, .int .i64 a0_0, .int .i64 a0_4, .int .i64 a0_3] (0, 0) _ rfl (by (with_reducible repeat (first | refine qH ?_ _ | refine qE ?_ | refine qG ?_ _)); exact bP6 BK441) Tryz.underlying51 rfl (by kernel_rfl)) rfl ?_
    exact ⟨sR, bl⟩
   ·rw [if_neg c15] at H
    have c15b0 := beq_eq_false_iff_ne.mpr c15
    have c15b1 := bne_iff_ne.mpr c15
    simp only [Option.some.injEq, Prod.mk.injEq] at H
    obtain ⟨rfl, rfl, rfl, rfl, rfl, rfl⟩ := H
    go_enter Tryz.func84, Tryz.ntmps84
    go_wp2_with (first | ((with_reducible refine qJ (N := 2) rfl ?_); refine qI ?hg (N := 2) ?hd (cs := #[.int .i64 a0_0, .int .i64 a0_1, .int .i64 a0_2, .int .i64 a0_3, .int .i64 a0_4, .int .i64 a0_5]) (t := 51) ?hr ?_; (case hd => rfl); (case hg => rfl); (case hr => exact gS); intro gb440 hg w21 hbox hb; have BK440 := aM (hbox); have GW440 := aM ((gg hg)); have GE440 := aM ((gg hg)); replace HB := aM (qB bl hb); clear hb hbox hg) | ((with_reducible refine qJ (N := 4) rfl ?_); refine qI ?hg (N := 4) ?hd (cs := #[.int .i64 0, .int .i64 0, .int .i64 0, .int .i64 0, .int .i64 0, .int .i64 0]) (t := 51) ?hr ?_; (case hd => rfl); (case hg => rfl); (case hr => exact gS); intro gb441 hg w22 hbox hb; have BK441 := aM (hbox); have GW441 := aM ((gg hg)); have GE441 := aM ((gg hg)); have NB440_441 := aM ((nl BK440 hg)); have NB441_440 := aM ((nr BK440 hg)); replace BK440 := aM (bb BK440 hb); replace HB := aM (qB bl hb); clear hb hbox hg; have hnb23 := NB440_441.out; have hnc23 := NB441_440.out; (refine cb6 BK440 ?_; intro _ _ _ _ _ _); (refine cz6 BK440 ?_; intro _ _ _ _ _ _); (refine cb6 BK441 ?_; intro _ _ _ _ _ _); (refine cz6 BK441 ?_; intro _ _ _ _ _ _)))
    refine bodyPost_ret (results_cell_row rfl _ _ gb441 51 #[.int .i64 a0_2, .int .i64 a0_1, .int .i64 a0_5, .int .i64 a0_3, .int .i64 a0_0, .int .i64 a0_4] (0, 0) _ rfl (by (with_reducible repeat (first | refine qH ?_ _ | refine qE ?_ | refine qG ?_ _)); exact bP6 BK441) Tryz.underlying51 rfl (by kernel_rfl)) rfl ?_
    exact ⟨sR, bl⟩
def qvA.f (l0 : List ByteArray) (a1_0 : Int) (a1_1 : Int) (a1_2 : Int) (a1_3 : Int) (a1_4 : Int) (a1_5 : Int) (a1_6 : Int) (a1_7 : Int) (a2 : Int) : Option (Int × Int × Int × Int × Int × Int × Int × Int × Bool) := (qFC.f a1_0 a1_1 a2).bind fun bt444 => ((qRB.f a1_2 a1_3 a1_4 a1_5 a1_6 a1_7 a2).bind fun bt446 => ((qeA.f l0 bt444.1 bt444.2).bind fun t452 => (some (bt444.1, bt444.2, bt446.1, bt446.2.1, bt446.2.2.1, bt446.2.2.2.1, bt446.2.2.2.2.1, bt446.2.2.2.2.2, (t452 == 46)))))
set_option maxHeartbeats 8000000 in
set_option maxRecDepth 100000 in
theorem qvA.calls (A0 : Option Addr) (c0 : Nat) (l0 : List ByteArray) (a1_0 : Int) (a1_1 : Int) (a1_2 : Int) (a1_3 : Int) (a1_4 : Int) (a1_5 : Int) (a1_6 : Int) (a1_7 : Int) (a2 : Int) (r1 : Int) (r2 : Int) (r3 : Int) (r4 : Int) (r5 : Int) (r6 : Int) (r7 : Int) (r8 : Int) (r9 : Bool) (w : World) (hr0 : Kd.C Kd.string w A0 l0.length l0) (hc0 : l0.length ≤ c0) (h : qvA.f l0 a1_0 a1_1 a1_2 a1_3 a1_4 a1_5 a1_6 a1_7 a2 = some (r1, r2, r3, r4, r5, r6, r7, r8, r9)) :
  Calls Tryz.prog 69 #[.slice A0 l0.length c0, .agg #[.int .i64 a1_0, .int .i64 a1_1, .int .i64 a1_2, .int .i64 a1_3, .int .i64 a1_4, .int .i64 a1_5, .int .i64 a1_6, .int .i64 a1_7], .int .u8 a2] w fun e w' => e = .returned (.tuple #[.agg #[.int .i64 r1, .int .i64 r2, .int .i64 r3, .int .i64 r4, .int .i64 r5, .int .i64 r6, .int .i64 r7, .int .i64 r8], .bool r9]) ∧ Below w.heap.size w w' := by
 have hu53 := Tryz.underlying53
 have hu51 := Tryz.underlying51
 have HR0 := aM hr0
 have HC0 := aM hc0
 clear hr0 hc0
 have HB := aM (Below.refl w.heap.size w)
 have H : ((qFC.f a1_0 a1_1 a2).bind fun bt444 => ((qRB.f a1_2 a1_3 a1_4 a1_5 a1_6 a1_7 a2).bind fun bt446 => ((qeA.f l0 bt444.1 bt444.2).bind fun t452 => (some (bt444.1, bt444.2, bt446.1, bt446.2.1, bt446.2.2.1, bt446.2.2.2.1, bt446.2.2.2.2.1, bt446.2.2.2.2.2, (t452 == 46)))))) = some (r1, r2, r3, r4, r5, r6, r7, r8, r9) := h
 clear h
 replace H := bO H
 obtain ⟨⟨t444, t445⟩, A4, H⟩ := H
 dsimp only at H A4
 replace H := bO H
 obtain ⟨⟨t446, t447, t448, t449, t450, t451⟩, A5, H⟩ := H
 dsimp only at H A5
 replace H := bO H
 obtain ⟨t452, A6, H⟩ := H
 simp only [Option.some.injEq, Prod.mk.injEq] at H
 obtain ⟨rfl, rfl, rfl, rfl, rfl, rfl, rfl, rfl, rfl⟩ := H
 go_enter Tryz.func69, Tryz.ntmps69
 go_wp2_with (first | ((with_reducible refine qJ (N := 4) rfl ?_); refine qI ?hg (N := 4) ?hd (cs := #[.int .i64 a1_0, .int .i64 a1_1, .int .i64 a1_2, .int .i64 a1_3, .int .i64 a1_4, .int .i64 a1_5, .int .i64 a1_6, .int .i64 a1_7]) (t := 53) ?hr ?_; (case hd => rfl); (case hg => rfl); (case hr => exact gS); intro gb442 hg w7 hbox hb; have BK442 := aM (hbox); have GW442 := aM ((gg hg)); have GE442 := aM ((gg hg)); replace HB := aM (qB bl hb); clear hb hbox hg) | ((with_reducible refine qJ (N := 6) rfl ?_); refine qI ?hg (N := 6) ?hd (cs := #[.int .i64 0, .int .i64 0, .int .i64 0, .int .i64 0, .int .i64 0, .int .i64 0, .int .i64 0, .int .i64 0]) (t := 53) ?hr ?_; (case hd => rfl); (case hg => rfl); (case hr => exact gS); intro gb443 hg w8 hbox hb; have BK443 := aM (hbox); have GW443 := aM ((gg hg)); have GE443 := aM ((gg hg)); have NB442_443 := aM ((nl BK442 hg)); have NB443_442 := aM ((nr BK442 hg)); replace BK442 := aM (bb BK442 hb); replace HB := aM (qB bl hb); clear hb hbox hg; have hnb9 := NB442_443.out; have hnc9 := NB443_442.out; (refine cb8 BK442 ?_; intro _ _ _ _ _ _ _ _); (refine cz8 BK442 ?_; intro _ _ _ _ _ _ _ _)) | ((with_reducible refine qF (f := 83) rfl ?_); refine qn (some 16) rfl rfl Tryz.func83 (by kernel_rfl) rfl #[.int .i64 a1_0, .int .i64 a1_1, .int .u8 a2] rfl gA ?_; (with_reducible refine (qFC.calls a1_0 a1_1 a2 t444 t445 _ A4.out).mono ?_); rintro e w' ⟨rfl, ⟨nd, rfl⟩⟩; refine ⟨_, rfl, ?_⟩; (try (rw [qqC w8]; generalize hq_ : World.drewN w8 _ = w8; have n0_ : Aside0 (w8.heap[gb442]? = some (.cells #[.int .i64 a1_0, .int .i64 a1_1, .int .i64 a1_2, .int .i64 a1_3, .int .i64 a1_4, .int .i64 a1_5, .int .i64 a1_6, .int .i64 a1_7] 53 (0, 0))) := ⟨by rw [← hq_]; exact (rB BK442)⟩; have n1_ : Aside0 (w8.heap[gb443]? = some (.cells #[.int .i64 0, .int .i64 0, .int .i64 0, .int .i64 0, .int .i64 0, .int .i64 0, .int .i64 0, .int .i64 0] 53 (0, 0))) := ⟨by rw [← hq_]; exact (rB BK443)⟩; have n2_ : Aside0 (Below w.heap.size w w8) := ⟨by rw [← hq_]; exact bl⟩; clear BK442 BK443 HB hq_; have BK442 := n0_; have BK443 := n1_; have HB := n2_; clear n0_ n1_ n2_)); (refine cb8 BK442 ?_; intro _ _ _ _ _ _ _ _); (refine cz8 BK442 ?_; intro _ _ _ _ _ _ _ _)) | ((with_reducible refine qF (f := 84) rfl ?_); refine qn (some 24) rfl rfl Tryz.func84 (by kernel_rfl) rfl #[.agg #[.int .i64 a1_2, .int .i64 a1_3, .int .i64 a1_4, .int .i64 a1_5, .int .i64 a1_6, .int .i64 a1_7], .int .u8 a2] rfl gA ?_; (with_reducible refine (qRB.calls a1_2 a1_3 a1_4 a1_5 a1_6 a1_7 a2 t446 t447 t448 t449 t450 t451 _ A5.out).mono ?_); rintro e w12 ⟨rfl, hb⟩; refine ⟨_, rfl, ?_⟩; replace BK442 := aM (bb BK442 hb); replace BK443 := aM (bb BK443 hb); replace HB := aM (qB bl hb); (try clear hb); (try clear hb2); (try clear hk); (try clear hi)) | ((with_reducible refine qF (f := 85) rfl ?_); refine qn (some 29) rfl rfl Tryz.func85 (by kernel_rfl) rfl #[.slice A0 l0.length c0, .int .i64 t444, .int .i64 t445] rfl gA ?_; (with_reducible refine (qeA.calls _ _ l0 t444 t445 t452 _ ?side1 ?side2 A6.out).mono ?_); (case side1 => repeat (first | exact (Kd.qY HR0.out HB.out) | (with_reducible refine Kd.qS ?_ _) | (with_reducible refine Kd.qR ?_ _) | (with_reducible refine Kd.qe ?_))); (case side2 => exact HC0.out); rintro e w' ⟨rfl, ⟨nd, rfl⟩⟩; refine ⟨_, rfl, ?_⟩; (try (rw [qqC w12]; generalize hq_ : World.drewN w12 _ = w12; have n0_ : Aside0 (w12.heap[gb442]? = some (.cells #[.int .i64 a1_0, .int .i64 a1_1, .int .i64 a1_2, .int .i64 a1_3, .int .i64 a1_4, .int .i64 a1_5, .int .i64 a1_6, .int .i64 a1_7] 53 (0, 0))) := ⟨by rw [← hq_]; exact (rB BK442)⟩; have n1_ : Aside0 (w12.heap[gb443]? = some (.cells #[.int .i64 0, .int .i64 0, .int .i64 0, .int .i64 0, .int .i64 0, .int .i64 0, .int .i64 0, .int .i64 0] 53 (0, 0))) := ⟨by rw [← hq_]; exact (rB BK443)⟩; have n2_ : Aside0 (Below w.heap.size w w12) := ⟨by rw [← hq_]; exact bl⟩; clear BK442 BK443 HB hq_; have BK442 := n0_; have BK443 := n1_; have HB := n2_; clear n0_ n1_ n2_)); (refine cb8 BK443 ?_; intro _ _ _ _ _ _ _ _); (refine cz8 BK443 ?_; intro _ _ _ _ _ _ _ _)))
 refine bodyPost_ret (qxA rfl _ _ gb443 53 #[.int .i64 t444, .int .i64 t445, .int .i64 t446, .int .i64 t447, .int .i64 t448, .int .i64 t449, .int .i64 t450, .int .i64 t451] (0, 0) _ rfl (by (with_reducible repeat (first | refine qH ?_ _ | refine qE ?_ | refine qG ?_ _)); exact bP8 BK443) Tryz.underlying53 rfl (by kernel_rfl)) rfl ?_
 exact ⟨sR, bl⟩
end Go.Proofs.YthhiiceligjleaaGreatDoor.P
namespace Go.Proofs.YthhiiceligjleaaGreatDoor
open Go.RowKit Go.Proofs.YthhiiceligjleaaGreatDoor.P Go.Proofs.YthhiiceligjleaaGreatDoorW.PrintWords Go.Proofs.YthhiiceligjleaaGreatDoorW.PrintLast
set_option linter.unusedVariables false
set_option linter.unusedSimpArgs false
def qTD.f (l : List S53) (y0 y1 y2 y3 y4 y5 y6 y7 : Int) : Option Bool := some (l.any fun x => decide (x.f0 = y0) && decide (x.f1 = y1))
theorem at2_any_isAt (x : S53) (y0 y1 : Int) : qwA.f x.f0 x.f1 x.f2.f0 x.f2.f1 x.f2.f2 x.f2.f3 x.f2.f4 x.f2.f5 y0 y1 = some (decide (x.f0 = y0) && decide (x.f1 = y1)) := by
 unfold qwA.f
 by_cases h : x.f0 = y0
 ·rw [if_pos h, decide_eq_true h, Bool.true_and]; rfl
 ·rw [if_neg h, decide_eq_false h, Bool.false_and]
set_option maxHeartbeats 1000000 in
set_option maxRecDepth 100000 in
theorem at2_any_calls (x : S53) (b : Nat) (y0 y1 : Int) (w : World) (h0 : w.cell? ⟨b, 0, none⟩ = some (.int .i64 y0)) (h1 : w.cell? ⟨b, 1, none⟩ = some (.int .i64 y1)) :
  Calls Tryz.prog 71 (#[encState x] ++ #[.pointer (some ⟨b, 0, none⟩)]) w fun e w' => e = .returned (.bool (decide (x.f0 = y0) && decide (x.f1 = y1))) ∧ Below w.heap.size w w' := by
 have hu := Tryz.underlying53
 show Calls Tryz.prog 71 #[encState x, .pointer (some ⟨b, 0, none⟩)] w _
 unfold encState
 have g7 := World.block_lt_of_cell? w _ h0
 have HH := fun (W : World) => Lib.hid (qwA.calls x.f0 x.f1 x.f2.f0 x.f2.f1 x.f2.f2 x.f2.f3 x.f2.f4 x.f2.f5 y0 y1 _ W (at2_any_isAt x y0 y1))
 go_enter Tryz.func71, Tryz.ntmps71
 go_wp2_with (first | (go_at_call 39; refine (HH _).out.mono ?_; rintro e w1 ⟨rfl, hb⟩; have HB := Lib.hid (qtA (qNA (Below.refl w.heap.size w) _) (qL (qNA (Below.refl w.heap.size w) _)) hb); clear hb))
 go_ret
 exact ⟨rfl, HB.out⟩
theorem qTD.calls (A0 : Option Addr) (c0 : Nat) (l0 : List S53) (b : Nat) (y0 y1 y2 y3 y4 y5 y6 y7 : Int) (r : Bool) (w : World) (hr0 : Kd.C k53 w A0 l0.length l0) (hc0 : l0.length ≤ c0) (h0 : w.cell? ⟨b, 0, none⟩ = some (.int .i64 y0)) (h1 : w.cell? ⟨b, 1, none⟩ = some (.int .i64 y1)) (_h2 : w.cell? ⟨b, 2, none⟩ = some (.int .i64 y2)) (_h3 : w.cell? ⟨b, 3, none⟩ = some (.int .i64 y3)) (_h4 : w.cell? ⟨b, 4, none⟩ = some (.int .i64 y4)) (_h5 : w.cell? ⟨b, 5, none⟩ = some (.int .i64 y5)) (_h6 : w.cell? ⟨b, 6, none⟩ = some (.int .i64 y6)) (_h7 : w.cell? ⟨b, 7, none⟩ = some (.int .i64 y7))
  (h : qTD.f l0 y0 y1 y2 y3 y4 y5 y6 y7 = some r) :
  Calls Tryz.prog 70 #[.slice A0 l0.length c0, .func (.func 71) #[] #[.pointer (some ⟨b, 0, none⟩)]] w fun e w' => e = .returned (.bool r) ∧ Below w.heap.size w w' := by
 obtain rfl := Option.some.inj h
 have eg := Go.Proofs.enters_of Tryz.func71 (by kernel_rfl) rfl
 exact containsFunc_State (fun x => decide (x.f0 = y0) && decide (x.f1 = y1)) 71 _ eg A0 c0 l0 w hr0 fun W x hx hb => at2_any_calls x b y0 y1 W (qQB hb h0) (qQB hb h1)
end Go.Proofs.YthhiiceligjleaaGreatDoor
namespace Go.Proofs.YthhiiceligjleaaGreatDoor
open Go.RowKit Go.Proofs.YthhiiceligjleaaGreatDoor.P Go.Proofs.YthhiiceligjleaaGreatDoorW.PrintWords Go.Proofs.YthhiiceligjleaaGreatDoorW.PrintLast Go.Proofs.YthhiiceligjleaaGreatDoorW.PrintMore
set_option linter.unusedVariables false
set_option linter.unusedSimpArgs false
def qlB.f (l : List S53) : Option (List S53) := if l.length < 2199023255552 then some l else none
set_option maxHeartbeats 1000000 in
set_option maxRecDepth 100000 in
theorem qlB.calls (A0 : Option Addr) (c0 : Nat) (l0 : List S53) (r : List S53) (w : World) (hr0 : Kd.C k53 w A0 l0.length l0) (hc0 : l0.length ≤ c0) (h : qlB.f l0 = some r) :
  Calls Tryz.prog 72 #[.slice A0 l0.length c0] w fun e w' => ∃ v0_ : Value, e = .returned v0_ ∧ Kd.R k53 53 w' w.heap.size (fun _ => True) v0_ r ∧ Below w.heap.size w w' := by
 unfold qlB.f at h
 split at h
 case isFalse => cases h
 rename_i hl
 obtain rfl := Option.some.inj h
 clear h
 have HR := aM hr0
 have HL := aM hl
 clear hl
 have HB := aM (Below.refl w.heap.size w)
 cases A0 with
 | none =>
  have hn : l0.length = 0 := by
   rcases Nat.eq_zero_or_pos l0.length with h | h
   ·exact h
   ·obtain ⟨ad, e, _⟩ := hr0.2.2 h
    cases e
  obtain rfl := List.length_eq_zero_iff.1 hn
  clear hr0 hc0
  have qT := fun (w : World) => Lib.run_eql_slice_nil w 26 53 none 0 c0 0 0 Tryz.underlying26
  go_enter Tryz.func72, Tryz.ntmps72
  go_wp2
  go_ret
  exact ⟨_, rfl, Kd.R_nil _ _ _ _ _, HB.out⟩
 | some ad =>
  clear hr0 hc0
  have qT := fun (w : World) => Lib.run_eql_slice_nil w 26 53 (some ad) l0.length c0 0 0 Tryz.underlying26
  go_enter Tryz.func72, Tryz.ntmps72
  go_wp2_with (first | ((with_reducible refine qJ (N := 5) rfl ?_); refine Kd.R_lit k53 _ 53 ?hg (N := 5) ?hd (xs := ([] : List S53)) (inner := []) (ok := fun _ => True) (okp := fun _ => True) ?hr ?hp (fun _ hk => hk) trivial (Below.refl _ _) (Nat.le_refl _) (by simp) ?_; (case hd => rfl); (case hg => rfl); (case hr => exact gS); (case hp => exact (Reps.none _ _)); intro v1 w1 ho1 hb1 hg_ hnew_; clear hg_ hnew_; have HO := aM (Kd.qAA ho1 (qL HB.out)); have HB1 := aM (qB HB.out hb1); clear hb1 ho1) | ((with_reducible refine qBB (b := .append) (xs := #[.tmp 5, .tmp 6]) rfl ?_); at_builtin; refine Kd.qzB k53 (w0 := w) w.heap.size rfl (.tmp 5) (.tmp 6) 26 53 (.agg #[(.int .i64 0), (.int .i64 0), (.int .i64 0), (.int .i64 0), (.int .i64 0), (.int .i64 0), (.int .i64 0), (.int .i64 0)]) 64 rfl Tryz.underlying26 info53 rfl (by decide) (by omega) v1 [] l0 _ _ _ (fun _ => True) (fun _ => False) rfl rfl ?aO ?aR (fun _ _ h => h) (fun _ h => h.elim) ?aF ?aB ?aS ?aL ?_; (case aR => exact Kd.qY HR.out HB1.out); (case aB => exact HB1.out); (case aF => exact fun _ _ => trivial); (case aO => exact HO.out); (case aS => exact qL HB1.out); (case aL => have := HL.out; simp only [List.length_nil]; omega); intro v2 w2 ho2 hb2 hg2 hat2; rw [List.nil_append] at ho2; have HO2 := aM ho2; have HB2 := aM hb2; clear ho2 hb2 hg2 hat2))
  go_ret
  exact ⟨_, rfl, HO2.out, HB2.out⟩
end Go.Proofs.YthhiiceligjleaaGreatDoor
namespace Go.Proofs.YthhiiceligjleaaGreatDoor.P
open Go.RowKit Go.Proofs.YthhiiceligjleaaGreatDoorW.PrintWords Go.Proofs.YthhiiceligjleaaGreatDoorW.PrintLast Go.Proofs.YthhiiceligjleaaGreatDoorW.PrintMore
attribute [local go_sem] ql qj qu qt qd qc qk qi
set_option linter.unusedVariables false
set_option linter.unusedSimpArgs false
def qcA.f (l0 : List ByteArray) (l1 : List (S53)) (a2 : Int) (a3 : Int) : Option ((List (S53)) × Bool) := (qhA.f a2 0 (wrap64 ((l1.length : Int) - 1))).bind fun t453 => (if t453 = true then (if 0 ≤ a2 then (if a2 < (l1.length : Int) then ((qvA.f l0 ((qA l1 a2).f0) ((qA l1 a2).f1) ((qA l1 a2).f2.f0) ((qA l1 a2).f2.f1) ((qA l1 a2).f2.f2) ((qA l1 a2).f2.f3) ((qA l1 a2).f2.f4) ((qA l1 a2).f2.f5) a3).bind fun bt455 => (if bt455.2.2.2.2.2.2.2.2 = true then ((qTD.f l1 bt455.1 bt455.2.1 bt455.2.2.1 bt455.2.2.2.1 bt455.2.2.2.2.1 bt455.2.2.2.2.2.1 bt455.2.2.2.2.2.2.1 bt455.2.2.2.2.2.2.2.1).bind fun t465 => (if t465 = true then (some (([] : List (S53)), false)) else ((qlB.f l1).bind fun t466 => (if a2 < (t466.length : Int) then (some ((t466.set (a2 : Int).toNat (⟨bt455.1, bt455.2.1, (⟨bt455.2.2.1, bt455.2.2.2.1, bt455.2.2.2.2.1, bt455.2.2.2.2.2.1, bt455.2.2.2.2.2.2.1, bt455.2.2.2.2.2.2.2.1⟩ : S51)⟩ : S53)), true)) else (none))))) else (some (([] : List (S53)), false)))) else (none)) else (none)) else (some (([] : List (S53)), false)))
set_option maxHeartbeats 8000000 in
set_option maxRecDepth 100000 in
theorem qcA.calls (A0 : Option Addr) (c0 : Nat) (l0 : List ByteArray) (A1 : Option Addr) (c1 : Nat) (l1 : List (S53)) (a2 : Int) (a3 : Int) (r1 : List (S53)) (r2 : Bool) (w : World) (hr0 : Kd.C Kd.string w A0 l0.length l0) (hc0 : l0.length ≤ c0) (hr1 : Kd.C k53 w A1 l1.length l1) (hc1 : l1.length ≤ c1) (h : qcA.f l0 l1 a2 a3 = some (r1, r2)) :
  Calls Tryz.prog 53 #[.slice A0 l0.length c0, .slice A1 l1.length c1, .int .i64 a2, .int .u8 a3] w fun e w' => ∃ v0_ : Value, e = .returned (.tuple #[v0_, .bool r2]) ∧ Kd.R k53 53 w' w.heap.size (fun _ => True) v0_ r1 ∧ Below w.heap.size w w' := by
 have hu53 := Tryz.underlying53
 have HR0 := aM hr0
 have HC0 := aM hc0
 clear hr0 hc0
 have HR1 := aM hr1
 have HC1 := aM hc1
 clear hr1 hc1
 have HB := aM (Below.refl w.heap.size w)
 have H : ((qhA.f a2 0 (wrap64 ((l1.length : Int) - 1))).bind fun t453 => (if t453 = true then (if 0 ≤ a2 then (if a2 < (l1.length : Int) then ((qvA.f l0 ((qA l1 a2).f0) ((qA l1 a2).f1) ((qA l1 a2).f2.f0) ((qA l1 a2).f2.f1) ((qA l1 a2).f2.f2) ((qA l1 a2).f2.f3) ((qA l1 a2).f2.f4) ((qA l1 a2).f2.f5) a3).bind fun bt455 => (if bt455.2.2.2.2.2.2.2.2 = true then ((qTD.f l1 bt455.1 bt455.2.1 bt455.2.2.1 bt455.2.2.2.1 bt455.2.2.2.2.1 bt455.2.2.2.2.2.1 bt455.2.2.2.2.2.2.1 bt455.2.2.2.2.2.2.2.1).bind fun t465 => (if t465 = true then (some (([] : List (S53)), false)) else ((qlB.f l1).bind fun t466 => (if a2 < (t466.length : Int) then (some ((t466.set (a2 : Int).toNat (⟨bt455.1, bt455.2.1, (⟨bt455.2.2.1, bt455.2.2.2.1, bt455.2.2.2.2.1, bt455.2.2.2.2.2.1, bt455.2.2.2.2.2.2.1, bt455.2.2.2.2.2.2.2.1⟩ : S51)⟩ : S53)), true)) else (none))))) else (some (([] : List (S53)), false)))) else (none)) else (none)) else (some (([] : List (S53)), false)))) = some (r1, r2) := h
 clear h
 replace H := bO H
 obtain ⟨t453, A5, H⟩ := H
 by_cases c6 : t453 = true
 ·subst c6
  replace H := iT H
  by_cases c7 : 0 ≤ a2
  ·rw [if_pos c7] at H
   have c7b0 := decide_eq_true c7
   clear c7
   by_cases c8 : a2 < (l1.length : Int)
   ·rw [if_pos c8] at H
    have c8b0 := decide_eq_true c8
    clear c8
    replace H := bO H
    obtain ⟨⟨t455, t456, t457, t458, t459, t460, t461, t462, t463⟩, A9, H⟩ := H
    dsimp only at H A9
    by_cases c10 : t463 = true
    ·subst c10
     replace H := iT H
     replace H := bO H
     obtain ⟨t465, A11, H⟩ := H
     by_cases c12 : t465 = true
     ·subst c12
      replace H := iT H
      simp only [Option.some.injEq, Prod.mk.injEq] at H
      obtain ⟨rfl, rfl⟩ := H
      go_enter Tryz.func53, Tryz.ntmps53
      go_wp2_with (first | ((with_reducible refine qF (f := 59) rfl ?_); refine qn (some 17) rfl rfl Tryz.func59 (by kernel_rfl) rfl #[.int .i64 a2, .int .i64 0, .int .i64 (wrap64 ((l1.length : Int) - 1))] rfl gA ?_; (with_reducible refine (qhA.calls a2 0 (wrap64 ((l1.length : Int) - 1)) true _ A5.out).mono ?_); rintro e w' ⟨rfl, ⟨nd, rfl⟩⟩; refine ⟨_, rfl, ?_⟩; have p454 : 0 ≤ (a2 : Int) := of_decide_eq_true am; have q454 : a2 < (l1.length : Int) := of_decide_eq_true am; obtain ⟨ad454, e454, hx454_0, hx454_1, hx454_2, hx454_3, hx454_4, hx454_5, hx454_6, hx454_7⟩ := qGB HR1.out a2 p454 q454; cases e454; replace p454 := eq_true p454; replace q454 := eq_true q454) | ((with_reducible refine qF (f := 69) rfl ?_); refine qn (some 26) rfl rfl Tryz.func69 (by kernel_rfl) rfl #[.slice A0 l0.length c0, .agg #[.int .i64 ((qA l1 a2).f0), .int .i64 ((qA l1 a2).f1), .int .i64 ((qA l1 a2).f2.f0), .int .i64 ((qA l1 a2).f2.f1), .int .i64 ((qA l1 a2).f2.f2), .int .i64 ((qA l1 a2).f2.f3), .int .i64 ((qA l1 a2).f2.f4), .int .i64 ((qA l1 a2).f2.f5)], .int .u8 a3] rfl gA ?_; (with_reducible refine (qvA.calls _ _ l0 ((qA l1 a2).f0) ((qA l1 a2).f1) ((qA l1 a2).f2.f0) ((qA l1 a2).f2.f1) ((qA l1 a2).f2.f2) ((qA l1 a2).f2.f3) ((qA l1 a2).f2.f4) ((qA l1 a2).f2.f5) a3 t455 t456 t457 t458 t459 t460 t461 t462 true _ ?side1 ?side2 A9.out).mono ?_); (case side1 => repeat (first | exact HR0.out | (with_reducible refine Kd.qS ?_ _) | (with_reducible refine Kd.qR ?_ _) | (with_reducible refine Kd.qe ?_))); (case side2 => exact HC0.out); rintro e w13 ⟨rfl, hb⟩; refine ⟨_, rfl, ?_⟩; replace HB := aM (qB bl hb); (try clear hb); (try clear hb2); (try clear hk); (try clear hi)) | ((with_reducible refine qJ (N := 10) rfl ?_); refine qI ?hg (N := 10) ?hd (cs := #[.int .i64 0, .int .i64 0, .int .i64 0, .int .i64 0, .int .i64 0, .int .i64 0, .int .i64 0, .int .i64 0]) (t := 53) ?hr ?_; (case hd => rfl); (case hg => rfl); (case hr => exact gS); intro gb464 hg w14 hbox hb; have BK464 := aM (hbox); have GW464 := aM ((gg hg)); have GE464 := aM ((gg hg)); replace HB := aM (qB bl hb); clear hb hbox hg; (refine cb8 BK464 ?_; intro _ _ _ _ _ _ _ _); (refine cz8 BK464 ?_; intro _ _ _ _ _ _ _ _)) | (go_at_call 70; (with_reducible refine (qTD.calls _ _ l1 gb464 t455 t456 t457 t458 t459 t460 t461 t462 true _ ?side1 ?side2 ?side3 ?side4 ?side5 ?side6 ?side7 ?side8 ?side9 ?side10 A11.out).mono ?_); (case side1 => exact Kd.qY HR1.out bl); (case side2 => exact HC1.out); (case side3 => exact (cell_of_row _ gb464 0 _ 53 (0, 0) (by (with_reducible repeat (first | refine qH ?_ _ | refine qE ?_ | refine qG ?_ _)); exact bP8 BK464)).trans rfl); (case side4 => exact (cell_of_row _ gb464 1 _ 53 (0, 0) (by (with_reducible repeat (first | refine qH ?_ _ | refine qE ?_ | refine qG ?_ _)); exact bP8 BK464)).trans rfl); (case side5 => exact (cell_of_row _ gb464 2 _ 53 (0, 0) (by (with_reducible repeat (first | refine qH ?_ _ | refine qE ?_ | refine qG ?_ _)); exact bP8 BK464)).trans rfl); (case side6 => exact (cell_of_row _ gb464 3 _ 53 (0, 0) (by (with_reducible repeat (first | refine qH ?_ _ | refine qE ?_ | refine qG ?_ _)); exact bP8 BK464)).trans rfl); (case side7 => exact (cell_of_row _ gb464 4 _ 53 (0, 0) (by (with_reducible repeat (first | refine qH ?_ _ | refine qE ?_ | refine qG ?_ _)); exact bP8 BK464)).trans rfl); (case side8 => exact (cell_of_row _ gb464 5 _ 53 (0, 0) (by (with_reducible repeat (first | refine qH ?_ _ | refine qE ?_ | refine qG ?_ _)); exact bP8 BK464)).trans rfl); (case side9 => exact (cell_of_row _ gb464 6 _ 53 (0, 0) (by (with_reducible repeat (first | refine qH ?_ _ | refine qE ?_ | refine qG ?_ _)); exact bP8 BK464)).trans rfl); (case side10 => exact (cell_of_row _ gb464 7 _ 53 (0, 0) (by (with_reducible repeat (first | refine qH ?_ _ | refine qE ?_ | refine qG ?_ _)); exact bP8 BK464)).trans rfl); rintro e w16 ⟨rfl, hb⟩; replace BK464 := aM (qDA (g := gb464) (o := .cells #[.int .i64 t455, .int .i64 t456, .int .i64 t457, .int .i64 t458, .int .i64 t459, .int .i64 t460, .int .i64 t461, .int .i64 t462] 53 (0, 0)) (by (with_reducible repeat (first | refine qH ?_ _ | refine qE ?_ | refine qG ?_ _)); exact bP8 BK464) hb); replace HB := aM (qB bl hb); (try clear hb); (try clear hb2); (try clear hk); (try clear hi)))
      go_ret2
      exact ⟨_, sR, nK, bl⟩
     ·replace c12 := Bool.eq_false_iff.mpr c12
      subst c12
      replace H := iF H
      replace H := bO H
      obtain ⟨t466, A17, H⟩ := H
      by_cases c18 : a2 < (t466.length : Int)
      ·rw [if_pos c18] at H
       have c18b0 := decide_eq_true c18
       clear c18
       obtain ⟨y469, hy469⟩ : ∃ y_ : List (S53), y_ = (t466.set (a2 : Int).toNat (⟨t455, t456, (⟨t457, t458, t459, t460, t461, t462⟩ : S51)⟩ : S53)) := ⟨_, rfl⟩
       replace H : (some (y469, true)) = some (r1, r2) := by first | (rw [hy469]; with_reducible exact H) | (have H2_ := (Option.bind_some _ _).symm.trans H; rw [hy469]; with_reducible exact H2_) | (have H2_ := (Option.bind_some _ _).symm.trans H; with_reducible exact H2_) | with_reducible exact H | (rw [hy469]; exact H) | exact H
       have Ny469 := aM hy469
       clear hy469
       simp only [Option.some.injEq, Prod.mk.injEq] at H
       obtain ⟨rfl, rfl⟩ := H
       go_enter Tryz.func53, Tryz.ntmps53
       go_wp2_with (first | ((with_reducible refine qF (f := 59) rfl ?_); refine qn (some 17) rfl rfl Tryz.func59 (by kernel_rfl) rfl #[.int .i64 a2, .int .i64 0, .int .i64 (wrap64 ((l1.length : Int) - 1))] rfl gA ?_; (with_reducible refine (qhA.calls a2 0 (wrap64 ((l1.length : Int) - 1)) true _ A5.out).mono ?_); rintro e w' ⟨rfl, ⟨nd, rfl⟩⟩; refine ⟨_, rfl, ?_⟩; have p454 : 0 ≤ (a2 : Int) := of_decide_eq_true am; have q454 : a2 < (l1.length : Int) := of_decide_eq_true am; obtain ⟨ad454, e454, hx454_0, hx454_1, hx454_2, hx454_3, hx454_4, hx454_5, hx454_6, hx454_7⟩ := qGB HR1.out a2 p454 q454; cases e454; replace p454 := eq_true p454; replace q454 := eq_true q454) | ((with_reducible refine qF (f := 69) rfl ?_); refine qn (some 26) rfl rfl Tryz.func69 (by kernel_rfl) rfl #[.slice A0 l0.length c0, .agg #[.int .i64 ((qA l1 a2).f0), .int .i64 ((qA l1 a2).f1), .int .i64 ((qA l1 a2).f2.f0), .int .i64 ((qA l1 a2).f2.f1), .int .i64 ((qA l1 a2).f2.f2), .int .i64 ((qA l1 a2).f2.f3), .int .i64 ((qA l1 a2).f2.f4), .int .i64 ((qA l1 a2).f2.f5)], .int .u8 a3] rfl gA ?_; (with_reducible refine (qvA.calls _ _ l0 ((qA l1 a2).f0) ((qA l1 a2).f1) ((qA l1 a2).f2.f0) ((qA l1 a2).f2.f1) ((qA l1 a2).f2.f2) ((qA l1 a2).f2.f3) ((qA l1 a2).f2.f4) ((qA l1 a2).f2.f5) a3 t455 t456 t457 t458 t459 t460 t461 t462 true _ ?side1 ?side2 A9.out).mono ?_); (case side1 => repeat (first | exact HR0.out | (with_reducible refine Kd.qS ?_ _) | (with_reducible refine Kd.qR ?_ _) | (with_reducible refine Kd.qe ?_))); (case side2 => exact HC0.out); rintro e w20 ⟨rfl, hb⟩; refine ⟨_, rfl, ?_⟩; replace HB := aM (qB bl hb); (try clear hb); (try clear hb2); (try clear hk); (try clear hi)) | ((with_reducible refine qJ (N := 10) rfl ?_); refine qI ?hg (N := 10) ?hd (cs := #[.int .i64 0, .int .i64 0, .int .i64 0, .int .i64 0, .int .i64 0, .int .i64 0, .int .i64 0, .int .i64 0]) (t := 53) ?hr ?_; (case hd => rfl); (case hg => rfl); (case hr => exact gS); intro gb464 hg w21 hbox hb; have BK464 := aM (hbox); have GW464 := aM ((gg hg)); have GE464 := aM ((gg hg)); replace HB := aM (qB bl hb); clear hb hbox hg; (refine cb8 BK464 ?_; intro _ _ _ _ _ _ _ _); (refine cz8 BK464 ?_; intro _ _ _ _ _ _ _ _)) | (go_at_call 70; (with_reducible refine (qTD.calls _ _ l1 gb464 t455 t456 t457 t458 t459 t460 t461 t462 false _ ?side1 ?side2 ?side3 ?side4 ?side5 ?side6 ?side7 ?side8 ?side9 ?side10 A11.out).mono ?_); (case side1 => exact Kd.qY HR1.out bl); (case side2 => exact HC1.out); (case side3 => exact (cell_of_row _ gb464 0 _ 53 (0, 0) (by (with_reducible repeat (first | refine qH ?_ _ | refine qE ?_ | refine qG ?_ _)); exact bP8 BK464)).trans rfl); (case side4 => exact (cell_of_row _ gb464 1 _ 53 (0, 0) (by (with_reducible repeat (first | refine qH ?_ _ | refine qE ?_ | refine qG ?_ _)); exact bP8 BK464)).trans rfl); (case side5 => exact (cell_of_row _ gb464 2 _ 53 (0, 0) (by (with_reducible repeat (first | refine qH ?_ _ | refine qE ?_ | refine qG ?_ _)); exact bP8 BK464)).trans rfl); (case side6 => exact (cell_of_row _ gb464 3 _ 53 (0, 0) (by (with_reducible repeat (first | refine qH ?_ _ | refine qE ?_ | refine qG ?_ _)); exact bP8 BK464)).trans rfl); (case side7 => exact (cell_of_row _ gb464 4 _ 53 (0, 0) (by (with_reducible repeat (first | refine qH ?_ _ | refine qE ?_ | refine qG ?_ _)); exact bP8 BK464)).trans rfl); (case side8 => exact (cell_of_row _ gb464 5 _ 53 (0, 0) (by (with_reducible repeat (first | refine qH ?_ _ | refine qE ?_ | refine qG ?_ _)); exact bP8 BK464)).trans rfl); (case side9 => exact (cell_of_row _ gb464 6 _ 53 (0, 0) (by (with_reducible repeat (first | refine qH ?_ _ | refine qE ?_ | refine qG ?_ _)); exact bP8 BK464)).trans rfl); (case side10 => exact (cell_of_row _ gb464 7 _ 53 (0, 0) (by (with_reducible repeat (first | refine qH ?_ _ | refine qE ?_ | refine qG ?_ _)); exact bP8 BK464)).trans rfl); rintro e w23 ⟨rfl, hb⟩; replace BK464 := aM (qDA (g := gb464) (o := .cells #[.int .i64 t455, .int .i64 t456, .int .i64 t457, .int .i64 t458, .int .i64 t459, .int .i64 t460, .int .i64 t461, .int .i64 t462] 53 (0, 0)) (by (with_reducible repeat (first | refine qH ?_ _ | refine qE ?_ | refine qG ?_ _)); exact bP8 BK464) hb); replace HB := aM (qB bl hb); (try clear hb); (try clear hb2); (try clear hk); (try clear hi)) | ((with_reducible refine qF (f := 72) rfl ?_); refine qn (some 37) rfl rfl Tryz.func72 (by kernel_rfl) rfl #[.slice (some ad454) l1.length c1] rfl gA ?_; (with_reducible refine (qlB.calls _ _ l1 t466 _ ?side1 ?side2 A17.out).mono ?_); (case side1 => repeat (first | exact (Kd.qY HR1.out HB.out) | (with_reducible refine Kd.qS ?_ _) | (with_reducible refine Kd.qR ?_ _) | (with_reducible refine Kd.qe ?_))); (case side2 => exact HC1.out); rintro e w24 ⟨v467, rfl, ho0, hb⟩; refine ⟨_, rfl, ?_⟩; have HO468 := aM (Kd.qAA (Kd.qXB ho0 (rB BK464)) (qL bl)); replace BK464 := aM (bb BK464 hb); replace HB := aM (qB bl hb); (try clear hb); (try clear hb2); (try clear hk); (try clear hi); (try clear ho0); (refine cb8 BK464 ?_; intro _ _ _ _ _ _ _ _); (refine cz8 BK464 ?_; intro _ _ _ _ _ _ _ _); have p19 : 0 ≤ (a2 : Int) := of_decide_eq_true am; have q19 : (a2 : Int) < ((t466.length : Int) : Int) := of_decide_eq_true am; obtain ⟨go19, co19, eo19, gb19, gl19, cl19, HG19⟩ := Kd.qdE HO468.out (by omega); (first | cases eo19 | (injection eo19 with ea_ en_ ec_; (first | subst ea_ | (injection ea_ with ea_; subst ea_)); subst ec_; clear en_)); have GB19 := aM gb19; have GG19 := aM HG19; clear gb19 gl19 HG19; obtain ⟨ce19, hcl19, hM19, hcc19, hfr19⟩ := Kd.qrD HO468.out z53 (a2 : Int) p19 q19; obtain rfl := qTC hM19; have hx19_0 : w24.cell? ⟨go19, (a2 : Int).toNat * 8, none⟩ = some (.int .i64 ((qA t466 a2).f0)) := hcc19 0 _ rfl; have hx19_1 : w24.cell? ⟨go19, (a2 : Int).toNat * 8 + 1, none⟩ = some (.int .i64 ((qA t466 a2).f1)) := hcc19 1 _ rfl; have hx19_2 : w24.cell? ⟨go19, (a2 : Int).toNat * 8 + 2, none⟩ = some (.int .i64 ((qA t466 a2).f2.f0)) := hcc19 2 _ rfl; have hx19_3 : w24.cell? ⟨go19, (a2 : Int).toNat * 8 + 3, none⟩ = some (.int .i64 ((qA t466 a2).f2.f1)) := hcc19 3 _ rfl; have hx19_4 : w24.cell? ⟨go19, (a2 : Int).toNat * 8 + 4, none⟩ = some (.int .i64 ((qA t466 a2).f2.f2)) := hcc19 4 _ rfl; have hx19_5 : w24.cell? ⟨go19, (a2 : Int).toNat * 8 + 5, none⟩ = some (.int .i64 ((qA t466 a2).f2.f3)) := hcc19 5 _ rfl; have hx19_6 : w24.cell? ⟨go19, (a2 : Int).toNat * 8 + 6, none⟩ = some (.int .i64 ((qA t466 a2).f2.f4)) := hcc19 6 _ rfl; have hx19_7 : w24.cell? ⟨go19, (a2 : Int).toNat * 8 + 7, none⟩ = some (.int .i64 ((qA t466 a2).f2.f5)) := hcc19 7 _ rfl; have hf19_0 : w24.frozen? ⟨go19, (a2 : Int).toNat * 8, none⟩ = false := hfr19 0; have hf19_1 : w24.frozen? ⟨go19, (a2 : Int).toNat * 8 + 1, none⟩ = false := hfr19 1; have hf19_2 : w24.frozen? ⟨go19, (a2 : Int).toNat * 8 + 2, none⟩ = false := hfr19 2; have hf19_3 : w24.frozen? ⟨go19, (a2 : Int).toNat * 8 + 3, none⟩ = false := hfr19 3; have hf19_4 : w24.frozen? ⟨go19, (a2 : Int).toNat * 8 + 4, none⟩ = false := hfr19 4; have hf19_5 : w24.frozen? ⟨go19, (a2 : Int).toNat * 8 + 5, none⟩ = false := hfr19 5; have hf19_6 : w24.frozen? ⟨go19, (a2 : Int).toNat * 8 + 6, none⟩ = false := hfr19 6; have hf19_7 : w24.frozen? ⟨go19, (a2 : Int).toNat * 8 + 7, none⟩ = false := hfr19 7; clear hcl19 hcc19 hfr19 hM19; replace p19 := eq_true p19; replace q19 := eq_true q19; have n_ := aM (Kd.qa (ok' := (fun k_ => k_ ≠ gb464)) HO468.out (fun k_ hk => hk.2)); clear HO468; have HO468 := n_; clear n_; have HX26 := aM (show Kd.R k53 53 w24 w.heap.size (fun k_ => k_ ≠ gb464) (.slice (some ⟨go19, 0, none⟩) t466.length co19) t466 from (rR HO468)); obtain ⟨ce26, hcl26, hM26, hcc26, hfr26⟩ := Kd.qrD HX26.out z53 (a2 : Int) (of_decide_eq_true am) (by have h_ : (a2 : Int) < ((t466.length : Int) : Int) := of_decide_eq_true am; first | exact h_ | (have e_ := (Kd.qM HO468.out).1; omega) | simpa using h_); obtain rfl := qTC hM26; have HP26 := Kd.R_seg HX26.out (a2 : Int) (of_decide_eq_true am) (by have h_ : (a2 : Int) < ((t466.length : Int) : Int) := of_decide_eq_true am; first | exact h_ | (have e_ := (Kd.qM HO468.out).1; omega) | simpa using h_) (seg := [.int .i64 t455, .int .i64 t456, .int .i64 t457, .int .i64 t458, .int .i64 t459, .int .i64 t460, .int .i64 t461, .int .i64 t462]) (j := 0) hcl26 hcc26 (show 8 ≤ 8 from by decide) (x' := (⟨t455, t456, (⟨t457, t458, t459, t460, t461, t462⟩ : S51)⟩ : S53)) (qGE _ _ _ (⟨t455, t456, (⟨t457, t458, t459, t460, t461, t462⟩ : S51)⟩ : S53) ) (fun _ hk => hk); have hx26_0 := hcc26 0 _ rfl; (try simp only [show (k53).sz = 8 from rfl, Nat.mul_one, Nat.add_zero] at hx26_0); have hf26_0 := hfr26 0; (try simp only [show (k53).sz = 8 from rfl, Nat.mul_one, Nat.add_zero] at hf26_0); have hx26_1 := hcc26 1 _ rfl; (try simp only [show (k53).sz = 8 from rfl, Nat.mul_one, Nat.add_zero] at hx26_1); have hf26_1 := hfr26 1; (try simp only [show (k53).sz = 8 from rfl, Nat.mul_one, Nat.add_zero] at hf26_1); have hx26_2 := hcc26 2 _ rfl; (try simp only [show (k53).sz = 8 from rfl, Nat.mul_one, Nat.add_zero] at hx26_2); have hf26_2 := hfr26 2; (try simp only [show (k53).sz = 8 from rfl, Nat.mul_one, Nat.add_zero] at hf26_2); have hx26_3 := hcc26 3 _ rfl; (try simp only [show (k53).sz = 8 from rfl, Nat.mul_one, Nat.add_zero] at hx26_3); have hf26_3 := hfr26 3; (try simp only [show (k53).sz = 8 from rfl, Nat.mul_one, Nat.add_zero] at hf26_3); have hx26_4 := hcc26 4 _ rfl; (try simp only [show (k53).sz = 8 from rfl, Nat.mul_one, Nat.add_zero] at hx26_4); have hf26_4 := hfr26 4; (try simp only [show (k53).sz = 8 from rfl, Nat.mul_one, Nat.add_zero] at hf26_4); have hx26_5 := hcc26 5 _ rfl; (try simp only [show (k53).sz = 8 from rfl, Nat.mul_one, Nat.add_zero] at hx26_5); have hf26_5 := hfr26 5; (try simp only [show (k53).sz = 8 from rfl, Nat.mul_one, Nat.add_zero] at hf26_5); have hx26_6 := hcc26 6 _ rfl; (try simp only [show (k53).sz = 8 from rfl, Nat.mul_one, Nat.add_zero] at hx26_6); have hf26_6 := hfr26 6; (try simp only [show (k53).sz = 8 from rfl, Nat.mul_one, Nat.add_zero] at hf26_6); have hx26_7 := hcc26 7 _ rfl; (try simp only [show (k53).sz = 8 from rfl, Nat.mul_one, Nat.add_zero] at hx26_7); have hf26_7 := hfr26 7; (try simp only [show (k53).sz = 8 from rfl, Nat.mul_one, Nat.add_zero] at hf26_7); clear hcl26 hcc26 hfr26 hM26) | ((with_reducible refine qBC (t := 53) (p := 41) rfl ?_); refine qEC (t := 53) (p := 41) (v := ?vo_w27) (w1 := ((((((((w24.setCell ⟨go19, (a2 : Int).toNat * 8, none⟩ (.int .i64 t455)).setCell ⟨go19, (a2 : Int).toNat * 8 + 1, none⟩ (.int .i64 t456)).setCell ⟨go19, (a2 : Int).toNat * 8 + 2, none⟩ (.int .i64 t457)).setCell ⟨go19, (a2 : Int).toNat * 8 + 3, none⟩ (.int .i64 t458)).setCell ⟨go19, (a2 : Int).toNat * 8 + 4, none⟩ (.int .i64 t459)).setCell ⟨go19, (a2 : Int).toNat * 8 + 5, none⟩ (.int .i64 t460)).setCell ⟨go19, (a2 : Int).toNat * 8 + 6, none⟩ (.int .i64 t461)).setCell ⟨go19, (a2 : Int).toNat * 8 + 7, none⟩ (.int .i64 t462))) ?hg ?ho ?hn ?hr ?_; (case ho => rfl); (case hg => rfl); (case hn => rfl); (case hr => exact gS); intro w27 hw; have hg : w24.grownBy w27 (some go19) := (by rw [hw]; exact HP26.2); have hp_ : Kd.R k53 53 w27 w.heap.size (fun k_ => k_ ≠ gb464) (.slice (some ⟨go19, 0, none⟩) t466.length co19) y469 := (by rw [hw, Ny469.out]; exact HP26.1); clear HP26; replace BK464 := aM (qp (rB BK464) hg (Kd.qVB HO468.out (fun _ hk => hk))); replace HO468 := aM (hp_); replace HB := aM ((by rw [hw]; exact qEA (qEA (qEA (qEA (qEA (qEA (qEA (qEA (HB.out) GB19.out) GB19.out) GB19.out) GB19.out) GB19.out) GB19.out) GB19.out) GB19.out : Below w.heap.size w w27)); clear hg hw hp_))
       go_ret2
       exact ⟨_, sR, by (with_reducible repeat (first | apply Kd.qQ | apply Kd.qU | apply Kd.qV)); exact Kd.qa HO468.out (fun _ hk => trivial), bl⟩
      ·rw [if_neg c18] at H
       exact absurd H (by simp)
    ·replace c10 := Bool.eq_false_iff.mpr c10
     subst c10
     replace H := iF H
     simp only [Option.some.injEq, Prod.mk.injEq] at H
     obtain ⟨rfl, rfl⟩ := H
     go_enter Tryz.func53, Tryz.ntmps53
     go_wp2_with (first | ((with_reducible refine qF (f := 59) rfl ?_); refine qn (some 17) rfl rfl Tryz.func59 (by kernel_rfl) rfl #[.int .i64 a2, .int .i64 0, .int .i64 (wrap64 ((l1.length : Int) - 1))] rfl gA ?_; (with_reducible refine (qhA.calls a2 0 (wrap64 ((l1.length : Int) - 1)) true _ A5.out).mono ?_); rintro e w' ⟨rfl, ⟨nd, rfl⟩⟩; refine ⟨_, rfl, ?_⟩; have p454 : 0 ≤ (a2 : Int) := of_decide_eq_true am; have q454 : a2 < (l1.length : Int) := of_decide_eq_true am; obtain ⟨ad454, e454, hx454_0, hx454_1, hx454_2, hx454_3, hx454_4, hx454_5, hx454_6, hx454_7⟩ := qGB HR1.out a2 p454 q454; cases e454; replace p454 := eq_true p454; replace q454 := eq_true q454) | ((with_reducible refine qF (f := 69) rfl ?_); refine qn (some 26) rfl rfl Tryz.func69 (by kernel_rfl) rfl #[.slice A0 l0.length c0, .agg #[.int .i64 ((qA l1 a2).f0), .int .i64 ((qA l1 a2).f1), .int .i64 ((qA l1 a2).f2.f0), .int .i64 ((qA l1 a2).f2.f1), .int .i64 ((qA l1 a2).f2.f2), .int .i64 ((qA l1 a2).f2.f3), .int .i64 ((qA l1 a2).f2.f4), .int .i64 ((qA l1 a2).f2.f5)], .int .u8 a3] rfl gA ?_; (with_reducible refine (qvA.calls _ _ l0 ((qA l1 a2).f0) ((qA l1 a2).f1) ((qA l1 a2).f2.f0) ((qA l1 a2).f2.f1) ((qA l1 a2).f2.f2) ((qA l1 a2).f2.f3) ((qA l1 a2).f2.f4) ((qA l1 a2).f2.f5) a3 t455 t456 t457 t458 t459 t460 t461 t462 false _ ?side1 ?side2 A9.out).mono ?_); (case side1 => repeat (first | exact HR0.out | (with_reducible refine Kd.qS ?_ _) | (with_reducible refine Kd.qR ?_ _) | (with_reducible refine Kd.qe ?_))); (case side2 => exact HC0.out); rintro e w28 ⟨rfl, hb⟩; refine ⟨_, rfl, ?_⟩; replace HB := aM (qB bl hb); (try clear hb); (try clear hb2); (try clear hk); (try clear hi)) | ((with_reducible refine qJ (N := 10) rfl ?_); refine qI ?hg (N := 10) ?hd (cs := #[.int .i64 0, .int .i64 0, .int .i64 0, .int .i64 0, .int .i64 0, .int .i64 0, .int .i64 0, .int .i64 0]) (t := 53) ?hr ?_; (case hd => rfl); (case hg => rfl); (case hr => exact gS); intro gb464 hg w29 hbox hb; have BK464 := aM (hbox); have GW464 := aM ((gg hg)); have GE464 := aM ((gg hg)); replace HB := aM (qB bl hb); clear hb hbox hg; (refine cb8 BK464 ?_; intro _ _ _ _ _ _ _ _); (refine cz8 BK464 ?_; intro _ _ _ _ _ _ _ _)))
     go_ret2
     exact ⟨_, sR, nK, bl⟩
   ·rw [if_neg c8] at H
    exact absurd H (by simp)
  ·rw [if_neg c7] at H
   exact absurd H (by simp)
 ·replace c6 := Bool.eq_false_iff.mpr c6
  subst c6
  replace H := iF H
  simp only [Option.some.injEq, Prod.mk.injEq] at H
  obtain ⟨rfl, rfl⟩ := H
  go_enter Tryz.func53, Tryz.ntmps53
  go_wp2_with (first | ((with_reducible refine qF (f := 59) rfl ?_); refine qn (some 17) rfl rfl Tryz.func59 (by kernel_rfl) rfl #[.int .i64 a2, .int .i64 0, .int .i64 (wrap64 ((l1.length : Int) - 1))] rfl gA ?_; (with_reducible refine (qhA.calls a2 0 (wrap64 ((l1.length : Int) - 1)) false _ A5.out).mono ?_); rintro e w' ⟨rfl, ⟨nd, rfl⟩⟩; refine ⟨_, rfl, ?_⟩))
  go_ret2
  exact ⟨_, sR, nK, bl⟩
end Go.Proofs.YthhiiceligjleaaGreatDoor.P
namespace Go.Proofs.YthhiiceligjleaaGreatDoor
open Go.RowKit Go.Proofs.YthhiiceligjleaaGreatDoor.P Go.Proofs.YthhiiceligjleaaGreatDoorW.PrintWords Go.Proofs.YthhiiceligjleaaGreatDoorW.PrintLast
set_option linter.unusedVariables false
set_option linter.unusedSimpArgs false
def dOf (c : Int) : Int := if c = 110 then 0 else if c = 101 then 1 else if c = 115 then 2 else 3
def nextC (x y d : Int) : Int × Int := if d = 0 then (x, wrap64 (y - 1)) else if d = 1 then (wrap64 (x + 1), y) else if d = 2 then (x, wrap64 (y + 1)) else (wrap64 (x - 1), y)
abbrev XD := S51
def rollD (x : XD) (d : Int) : XD := if d = 0 then ⟨x.f3, x.f0, x.f2, x.f5, x.f4, x.f1⟩ else if d = 1 then ⟨x.f4, x.f1, x.f0, x.f3, x.f5, x.f2⟩ else if d = 2 then ⟨x.f1, x.f5, x.f2, x.f0, x.f4, x.f3⟩ else ⟨x.f2, x.f1, x.f5, x.f3, x.f0, x.f4⟩
def tupD (x : XD) : Int × Int × Int × Int × Int × Int := (x.f0, x.f1, x.f2, x.f3, x.f4, x.f5)
def rollS (s : XS) (d : Int) : XS := ⟨(nextC s.f0 s.f1 d).1, (nextC s.f0 s.f1 d).2, rollD s.f2 d⟩
theorem implNext_eq (x y c : Int) : qFC.f x y c = some (nextC x y (dOf c)) := by
 unfold qFC.f nextC dOf
 by_cases h1 : c = 110
 ·simp [h1]
 by_cases h2 : c = 101
 ·simp [h1, h2]
 by_cases h3 : c = 115
 ·simp [h1, h2, h3]
 simp [h1, h2, h3]
theorem specNext_eq (x y d : Int) : qYB.f x y d = some (nextC x y d) := by
 unfold qYB.f nextC
 by_cases h1 : d = 0
 ·simp [h1]
 by_cases h2 : d = 1
 ·simp [h1, h2]
 by_cases h3 : d = 2
 ·simp [h1, h2, h3]
 simp [h1, h2, h3]
theorem implDie_eq (x : XD) (c : Int) : qRB.f x.f0 x.f1 x.f2 x.f3 x.f4 x.f5 c = some (tupD (rollD x (dOf c))) := by
 unfold qRB.f rollD dOf
 by_cases h1 : c = 110
 ·simp [tupD, h1]
 by_cases h2 : c = 101
 ·simp [tupD, h1, h2]
 by_cases h3 : c = 115
 ·simp [tupD, h1, h2, h3]
 simp [tupD, h1, h2, h3]
theorem specDie_eq (x : XD) (d : Int) : qCB.f x.f0 x.f1 x.f2 x.f3 x.f4 x.f5 d = some (tupD (rollD x d)) := by
 unfold qCB.f rollD
 by_cases h1 : d = 0
 ·simp [tupD, h1]
 by_cases h2 : d = 1
 ·simp [tupD, h1, h2]
 by_cases h3 : d = 2
 ·simp [tupD, h1, h2, h3]
 simp [tupD, h1, h2, h3]
theorem implRoll_eq {a : ByteArray} (g : Gnd a) (s : XS) (c : Int) : qvA.f (rowsT a) s.f0 s.f1 s.f2.f0 s.f2.f1 s.f2.f2 s.f2.f3 s.f2.f4 s.f2.f5 c = some ((rollS s (dOf c)).f0, (rollS s (dOf c)).f1, (rollS s (dOf c)).f2.f0, (rollS s (dOf c)).f2.f1, (rollS s (dOf c)).f2.f2, (rollS s (dOf c)).f2.f3, (rollS s (dOf c)).f2.f4, (rollS s (dOf c)).f2.f5, floorB a (rollS s (dOf c)).f0 (rollS s (dOf c)).f1) := by
 unfold qvA.f
 obtain ⟨q, h1, h2⟩ := at_floor g (rollS s (dOf c)).f0 (rollS s (dOf c)).f1
 rw [implNext_eq, Option.bind_some, implDie_eq, Option.bind_some]
 rw [show qeA.f (rowsT a) (nextC s.f0 s.f1 (dOf c)).1 (nextC s.f0 s.f1 (dOf c)).2 = some q from h1, Option.bind_some, ← h2]
 rfl
theorem specRoll_eq {a : ByteArray} (g : Gnd a) (s : XS) (d : Int) : qzA.f (wideT a : Int) (highT a : Int) (csOf a) s.f0 s.f1 s.f2.f0 s.f2.f1 s.f2.f2 s.f2.f3 s.f2.f4 s.f2.f5 d = some (if floorB a (rollS s d).f0 (rollS s d).f1 = true then ((rollS s d).f0, (rollS s d).f1, (rollS s d).f2.f0, (rollS s d).f2.f1, (rollS s d).f2.f2, (rollS s d).f2.f3, (rollS s d).f2.f4, (rollS s d).f2.f5, true) else (0, 0, 0, 0, 0, 0, 0, 0, false)) := by
 unfold qzA.f
 rw [specNext_eq, Option.bind_some, show qlA.f (wideT a : Int) (highT a : Int) (csOf a) (nextC s.f0 s.f1 d).1 (nextC s.f0 s.f1 d).2 = some (floorB a (rollS s d).f0 (rollS s d).f1) from boFloor_eq g _ _, Option.bind_some]
 cases h : floorB a (rollS s d).f0 (rollS s d).f1 with
 | true =>
  rw [if_pos rfl, specDie_eq, Option.bind_some, if_pos rfl]; rfl
 | false => rw [if_neg (by decide), if_neg (by decide)]
def moveB (a : ByteArray) (l : List XS) (k : Nat) (d : Int) : List XS × Bool :=
 if h : k < l.length then (if floorB a (rollS l[k] d).f0 (rollS l[k] d).f1 = true ∧ l.any (atCell (rollS l[k] d).f0 (rollS l[k] d).f1) = false then (l.set k (rollS l[k] d), true) else ([], false)) else ([], false)
theorem moveB_len {a : ByteArray} {l : List XS} {k : Nat} {d : Int} (h : (moveB a l k d).2 = true) : (moveB a l k d).1.length = l.length := by
 unfold moveB at h ⊢
 split
 ·rename_i hk
  rw [dif_pos hk] at h
  split
  ·simp
  ·rename_i hc
   rw [if_neg hc] at h; cases h
 ·rename_i hk
  rw [dif_neg hk] at h; cases h
theorem implMove_eq {a : ByteArray} (g : Gnd a) (l : List XS) (hl : l.length ≤ 2000000) (k : Nat) (c : Int) : qcA.f (rowsT a) l (k : Int) c = some (moveB a l k (dOf c)) := by
 unfold qcA.f moveB
 have w : wrap64 ((l.length : Int) - 1) = (l.length : Int) - 1 := by unfold wrap64; omega
 rw [qpC, w, Option.bind_some]
 by_cases hk : k < l.length
 ·rw [dif_pos hk, if_pos (by simp only [Bool.and_eq_true, decide_eq_true_eq]; omega), if_pos (by omega), if_pos (by omega), rdXS l k hk, implRoll_eq g, Option.bind_some]
  show (if floorB a (rollS l[k] (dOf c)).f0 (rollS l[k] (dOf c)).f1 = true then _ else _) = _
  cases hf : floorB a (rollS l[k] (dOf c)).f0 (rollS l[k] (dOf c)).f1 with
  | false => rw [if_neg (by decide), if_neg (by simp)]
  | true =>
   rw [if_pos rfl]
   show (if l.any (atCell (rollS l[k] (dOf c)).f0 (rollS l[k] (dOf c)).f1) = true then _ else _) = _
   cases ha : l.any (atCell (rollS l[k] (dOf c)).f0 (rollS l[k] (dOf c)).f1) with
   | true => rw [if_pos rfl, if_neg (by simp)]
   | false =>
    rw [if_neg (by decide), if_pos ⟨rfl, rfl⟩]
    unfold qlB.f
    rw [if_pos (by omega), Option.bind_some, if_pos (by omega), Int.toNat_natCast]
 ·rw [dif_neg hk, if_neg (by simp only [Bool.and_eq_true, decide_eq_true_eq]; omega)]
theorem specMove_ev {a : ByteArray} (g : Gnd a) (l : List XS) (hl : l.length ≤ 2000000) (k : Nat) (hk : k < l.length) (d : Int) : Ev (fun n => qQA.f n (wideT a : Int) (highT a : Int) (csOf a) l (k : Int) d) (moveB a l k d) := by
 unfold qQA.f moveB
 rw [dif_pos hk]
 obtain ⟨r, h1, h2⟩ := myAt_ev l (by omega) (rollS l[k] d).f0 (rollS l[k] d).f1
 refine Ev.pos (by omega) (Ev.pos (by omega) ?_)
 rw [rdXS l k hk]
 refine Ev.bindc (specRoll_eq g l[k] d) ?_
 cases hf : floorB a (rollS l[k] d).f0 (rollS l[k] d).f1 with
 | false => exact Ev.neg (by simp) (Ev.some_ (by simp))
 | true =>
  refine Ev.pos rfl (Ev.bind h1 ?_)
  rw [← h2]
  by_cases hq : r ≥ 0
  ·rw [decide_eq_true hq]
   exact Ev.pos hq (Ev.some_ (by simp))
  ·rw [decide_eq_false hq]
   refine Ev.neg hq (Ev.bindc rfl (Ev.pos (by simp; omega) (Ev.bindc rfl (Ev.pos (by simp; omega) (Ev.some_ ?_)))))
   rw [List.nil_append, Int.toNat_natCast]
   exact (if_pos ⟨rfl, rfl⟩).symm
end Go.Proofs.YthhiiceligjleaaGreatDoor
namespace Go.Proofs.YthhiiceligjleaaGreatDoor.P
open Go.RowKit Go.Proofs.YthhiiceligjleaaGreatDoorW.PrintWords Go.Proofs.YthhiiceligjleaaGreatDoorW.PrintLast Go.Proofs.YthhiiceligjleaaGreatDoorW.PrintMore
attribute [local go_sem] ql qj qu qt qd qc qk qi
set_option linter.unusedVariables false
set_option linter.unusedSimpArgs false
mutual
def qg.l0 : Nat → List ByteArray → List (S53) → List ByteArray → Int → Int → Option (List ByteArray)
 | 0, _, _, _, _, _ => none
 | k + 1, x0, x1, x5, x12, x13 => if x13 < x12 then (qg.l1 k x0 x1 x5 x13 x12 x13 0) else (some x5)
def qg.l1 : Nat → List ByteArray → List (S53) → List ByteArray → Int → Int → Int → Int → Option (List ByteArray)
 | 0, _, _, _, _, _, _, _ => none
 | k + 1, x0, x1, x5, x6, x12, x13, x16 => if x16 < 4 then (if 0 ≤ x16 then ((qcA.f x0 x1 x6 (bt (⟨#[110, 101, 115, 119]⟩ : ByteArray) x16)).bind fun bt473 => (if bt473.2 = true then (if x5.length < 8796093022208 then (qg.l1 k x0 x1 (x5 ++ [strOfNums (([(wrap64 (48 + x6)) % 256, bt (⟨#[110, 101, 115, 119]⟩ : ByteArray) x16] : List Int))]) x6 x12 x13 (wrap64 (x16 + 1))) else (none)) else (qg.l1 k x0 x1 x5 x6 x12 x13 (wrap64 (x16 + 1))))) else (none)) else (qg.l0 k x0 x1 x5 x12 (wrap64 (x13 + 1)))
end
def qg.f (k : Nat) (l0 : List ByteArray) (l1 : List (S53)) : Option (List ByteArray) := qg.l0 k l0 l1 (([] : List ByteArray)) (l1.length : Int) 0
set_option maxHeartbeats 8000000 in
set_option maxRecDepth 100000 in
theorem qg.calls (k : Nat) (A0 : Option Addr) (c0 : Nat) (l0 : List ByteArray) (A1 : Option Addr) (c1 : Nat) (l1 : List (S53)) (r : List ByteArray) (w : World) (hr0 : Kd.C Kd.string w A0 l0.length l0) (hc0 : l0.length ≤ c0) (hr1 : Kd.C k53 w A1 l1.length l1) (hc1 : l1.length ≤ c1) (h : qg.f k l0 l1 = some r) :
  Calls Tryz.prog 52 #[.slice A0 l0.length c0, .slice A1 l1.length c1] w fun e w' => ∃ v0_ : Value, e = .returned (v0_) ∧ Kd.R Kd.string 9 w' w.heap.size (fun _ => True) v0_ r ∧ Below w.heap.size w w' := by
 have HR0 := aM hr0
 have HC0 := aM hc0
 clear hr0 hc0
 have HR1 := aM hr1
 have HC1 := aM hc1
 clear hr1 hc1
 have HB := aM (Below.refl w.heap.size w)
 have H : (qg.l0 k l0 l1 (([] : List ByteArray)) (l1.length : Int) 0) = some r := h
 clear h
 obtain ⟨y470, hy470⟩ : ∃ y_ : List ByteArray, y_ = (([] : List ByteArray)) := ⟨_, rfl⟩
 replace H : (qg.l0 k l0 l1 y470 (l1.length : Int) 0) = some r := by first | (rw [hy470]; with_reducible exact H) | (have H2_ := (Option.bind_some _ _).symm.trans H; rw [hy470]; with_reducible exact H2_) | (have H2_ := (Option.bind_some _ _).symm.trans H; with_reducible exact H2_) | with_reducible exact H | (rw [hy470]; exact H) | exact H
 have Ny470 := aM hy470
 clear hy470
 have H' := aM H
 clear H
 go_enter Tryz.func52, Tryz.ntmps52
 go_wp2_with (first | ((with_reducible refine qJ (N := 10) rfl ?_); refine Kd.R_lit Kd.string _ 9 ?hg (N := 10) ?hd (xs := ([] : List ByteArray)) (inner := []) (ok := fun _ => True) (okp := fun _ => True) ?hr ?hp (fun _ hk => hk) trivial (Below.refl _ _) (Nat.le_refl _) (by simp) ?_; (case hd => rfl); (case hg => rfl); (case hr => exact gS); (case hp => exact (Reps.none _ _)); intro v471 w3 ho4 hb hg_ hnew_; clear hg_ hnew_; (first | rw [← Ny470.out] at ho4 | (simp only [Int.reduceToNat] at ho4; rw [← Ny470.out] at ho4)); have HO472 := aM (Kd.qAA ho4 (qL bl)); replace HB := aM (qB bl hb); clear hb ho4))
 go_loopg [5, 13] k (fun kq v5 v13 w' => ∃ (x5_1 : List ByteArray) (x13_1 : Int), v13 = .int .i64 x13_1 ∧ Aside0 (qg.l0 kq l0 l1 x5_1 (l1.length : Int) x13_1 = some r) ∧ Aside0 (kq ≤ k) ∧ Aside0 (Kd.R Kd.string 9 w' w.heap.size (fun _ => True) v5 x5_1) ∧ Aside0 (Below w.heap.size w w'))
 case atStart => exact ⟨(y470), (0), sD, H', ⟨Nat.le_refl _⟩, ⟨rR HO472⟩, ⟨bl⟩⟩
 case round =>
  clear H'; (try clear c1); (try clear p2)
  obtain ⟨x5_1, x13_1, rfl, HA, HK1, HO_5, HB⟩ := hrel
  cases gk with
  | zero => exact absurd HA.out (by simp [qg.l0])
  | succ k1 =>
   have H := HA.out
   clear HA
   simp only [qg.l0] at H
   by_cases c5 : x13_1 < (l1.length : Int)
   ·rw [if_pos c5] at H
    have c5b0 := decide_eq_true c5
    clear c5
    have H' := aM H
    clear H
    go_wp2
    go_loopg [5, 16] k1 (fun kq v5 v16 w' => ∃ (x5_2 : List ByteArray) (x16_2 : Int), v16 = .int .i64 x16_2 ∧ Aside0 (qg.l1 kq l0 l1 x5_2 x13_1 (l1.length : Int) x13_1 x16_2 = some r) ∧ Aside0 (kq ≤ k1) ∧ Aside0 (Kd.R Kd.string 9 w' w.heap.size (fun _ => True) v5 x5_2) ∧ Aside0 (Below w.heap.size w w'))
    case atStart => exact ⟨(x5_1), (0), sD, H', ⟨Nat.le_refl _⟩, ⟨rR HO_5⟩, ⟨bl⟩⟩
    case round =>
     clear H'; (try clear c1); (try clear p2); (try clear c5); (try clear c5b0); (try clear p2)
     obtain ⟨x5_2, x16_2, rfl, HA, HK2, HO_5, HB⟩ := hrel
     cases gk with
     | zero => exact absurd HA.out (by simp [qg.l1])
     | succ k2 =>
      have H := HA.out
      clear HA
      simp only [qg.l1] at H
      by_cases c6 : x16_2 < 4
      ·rw [if_pos c6] at H
       have c6b0 := decide_eq_true c6
       clear c6
       by_cases c7 : 0 ≤ x16_2
       ·rw [if_pos c7] at H
        have c7b0 := decide_eq_true c7
        clear c7
        replace H := bO H
        obtain ⟨⟨t473, t474⟩, A9, H⟩ := H
        dsimp only at H A9
        by_cases c10 : t474 = true
        ·subst c10
         replace H := iT H
         obtain ⟨y477, hy477⟩ : ∃ y_ : List Int, y_ = (([(wrap64 (48 + x13_1)) % 256, bt (⟨#[110, 101, 115, 119]⟩ : ByteArray) x16_2] : List Int)) := ⟨_, rfl⟩
         replace H : (if x5_2.length < 8796093022208 then (qg.l1 k2 l0 l1 (x5_2 ++ [strOfNums y477]) x13_1 (l1.length : Int) x13_1 (wrap64 (x16_2 + 1))) else (none)) = some r := by first | (rw [hy477]; with_reducible exact H) | (have H2_ := (Option.bind_some _ _).symm.trans H; rw [hy477]; with_reducible exact H2_) | (have H2_ := (Option.bind_some _ _).symm.trans H; with_reducible exact H2_) | with_reducible exact H | (rw [hy477]; exact H) | exact H
         have Ny477 := aM hy477
         clear hy477
         by_cases c12 : x5_2.length < 8796093022208
         ·rw [if_pos c12] at H
          have LMc12 := aM c12
          clear c12
          obtain ⟨y480, hy480⟩ : ∃ y_ : List ByteArray, y_ = (x5_2 ++ [strOfNums y477]) := ⟨_, rfl⟩
          replace H : (qg.l1 k2 l0 l1 y480 x13_1 (l1.length : Int) x13_1 (wrap64 (x16_2 + 1))) = some r := by first | (rw [hy480]; with_reducible exact H) | (have H2_ := (Option.bind_some _ _).symm.trans H; rw [hy480]; with_reducible exact H2_) | (have H2_ := (Option.bind_some _ _).symm.trans H; with_reducible exact H2_) | with_reducible exact H | (rw [hy480]; exact H) | exact H
          have Ny480 := aM hy480
          clear hy480
          have H' := aM H
          clear H
          have p8 : 0 ≤ (x16_2 : Int) := of_decide_eq_true am
          have q8 : x16_2 < (4 : Int) := of_decide_eq_true am
          have hx8 := bt_at (⟨#[110, 101, 115, 119]⟩ : ByteArray) x16_2
          replace p8 := eq_true p8
          replace q8 := eq_true q8
          go_wp2_with (first | ((with_reducible refine qF (f := 53) rfl ?_); refine qn (some 25) rfl rfl Tryz.func53 (by kernel_rfl) rfl #[.slice A0 l0.length c0, .slice A1 l1.length c1, .int .i64 x13_1, .int .u8 (bt (⟨#[110, 101, 115, 119]⟩ : ByteArray) x16_2)] rfl gA ?_; (with_reducible refine (qcA.calls _ _ l0 _ _ l1 x13_1 (bt (⟨#[110, 101, 115, 119]⟩ : ByteArray) x16_2) t473 true _ ?side1 ?side2 ?side3 ?side4 A9.out).mono ?_); (case side1 => repeat (first | exact (Kd.qY HR0.out HB.out) | (with_reducible refine Kd.qS ?_ _) | (with_reducible refine Kd.qR ?_ _) | (with_reducible refine Kd.qe ?_))); (case side2 => exact HC0.out); (case side3 => repeat (first | exact (Kd.qY HR1.out HB.out) | (with_reducible refine Kd.qS ?_ _) | (with_reducible refine Kd.qR ?_ _) | (with_reducible refine Kd.qe ?_))); (case side4 => exact HC1.out); rintro e w13 ⟨v475, rfl, ho0, hb⟩; refine ⟨_, rfl, ?_⟩; have HO476 := aM (Kd.qAA ho0 (qL bl)); replace HO_5 := aM (Kd.qZ (rR HO_5) hb); replace HB := aM (qB bl hb); (try clear hb); (try clear hb2); (try clear hk); (try clear hi); (try clear ho0); have p11 : 0 ≤ (x16_2 : Int) := of_decide_eq_true am; have q11 : x16_2 < (4 : Int) := of_decide_eq_true am; have hx11 := bt_at (⟨#[110, 101, 115, 119]⟩ : ByteArray) x16_2; replace p11 := eq_true p11; replace q11 := eq_true q11) | ((with_reducible refine qJ (N := 35) rfl ?_); refine Kd.R_lit (Kd.int .u8) _ 5 ?hg (N := 35) ?hd (xs := ([(wrap64 (48 + x13_1)) % 256, bt (⟨#[110, 101, 115, 119]⟩ : ByteArray) x16_2] : List Int)) (inner := [.int .u8 ((wrap64 (48 + x13_1)) % 256), .int .u8 (bt (⟨#[110, 101, 115, 119]⟩ : ByteArray) x16_2)]) (ok := fun _ => True) (okp := fun _ => True) ?hr ?hp (fun _ hk => hk) trivial (Below.refl _ _) (Nat.le_refl _) (by simp) ?_; (case hd => rfl); (case hg => rfl); (case hr => exact gS); (case hp => exact (Reps.one (show Kd.M (Kd.int .u8) _ _ _ ((wrap64 (48 + x13_1)) % 256) [.int .u8 ((wrap64 (48 + x13_1)) % 256)] from rfl) (Reps.one (show Kd.M (Kd.int .u8) _ _ _ (bt (⟨#[110, 101, 115, 119]⟩ : ByteArray) x16_2) [.int .u8 (bt (⟨#[110, 101, 115, 119]⟩ : ByteArray) x16_2)] from rfl) (Reps.none _ _)))); intro v478 w14 ho15 hb hg_ hnew_; clear hg_ hnew_; (first | rw [← Ny477.out] at ho15 | (simp only [Int.reduceToNat] at ho15; rw [← Ny477.out] at ho15)); have HO479 := aM (Kd.qAA ho15 (qL bl)); replace HO_5 := aM (Kd.qZ (rR HO_5) hb); replace HO476 := aM (Kd.qZ (rR HO476) hb); replace HB := aM (qB bl hb); clear hb ho15; have hcv16 := qQC (P := Tryz.prog) Tryz.underlying38 Tryz.underlying5 Tryz.underlying9 (Kd.qYC HO479.out)) | ((with_reducible refine qBB (b := .append) (xs := #[.tmp 29, .tmp 37]) rfl ?_); at_builtin; refine Kd.qbD Kd.string (w0 := w) w.heap.size rfl (.tmp 29) (.tmp 37) 61 9 (.string ⟨#[]⟩) 16 rfl Tryz.underlying61 info9 rfl (by decide) (by omega) u5 x5_2 (strOfNums y477) [.string (strOfNums y477)] (fun _ => True) (fun _ => False) rfl rfl ?aP (fun _ hk => hk.elim) ?aF ?aO ?aB ?aS ?aL ?_; (case aP => exact rfl); (case aB => exact bl); (case aF => exact (fun _ _ => trivial)); (case aO => exact (rR HO_5)); (case aS => exact (qL bl)); (case aL => have := LMc12.out; omega); intro v481 w17 ho hb hg hat; rw [← Ny480.out] at ho; have HO482 := aM (ho); replace HO476 := aM (Kd.qWB (rR HO476) (Kd.qKB (rR HO_5)) (by decide) hg); replace HO479 := aM (Kd.qWB (rR HO479) (Kd.qKB (rR HO_5)) (by decide) hg); replace HB := aM (hb); clear HO_5; clear ho hb hg hat))
          go_roundg k2
          case measure => have := HK1.out; have := HK2.out; omega
          case rel => exact ⟨(y480), (wrap64 (x16_2 + 1)), sD, H', ⟨by have := HK1.out; have := HK2.out; omega⟩, ⟨rR HO482⟩, ⟨bl⟩⟩
         ·rw [if_neg c12] at H
          exact absurd H (by simp)
        ·replace c10 := Bool.eq_false_iff.mpr c10
         subst c10
         replace H := iF H
         have H' := aM H
         clear H
         have p8 : 0 ≤ (x16_2 : Int) := of_decide_eq_true am
         have q8 : x16_2 < (4 : Int) := of_decide_eq_true am
         have hx8 := bt_at (⟨#[110, 101, 115, 119]⟩ : ByteArray) x16_2
         replace p8 := eq_true p8
         replace q8 := eq_true q8
         go_wp2_with (first | ((with_reducible refine qF (f := 53) rfl ?_); refine qn (some 25) rfl rfl Tryz.func53 (by kernel_rfl) rfl #[.slice A0 l0.length c0, .slice A1 l1.length c1, .int .i64 x13_1, .int .u8 (bt (⟨#[110, 101, 115, 119]⟩ : ByteArray) x16_2)] rfl gA ?_; (with_reducible refine (qcA.calls _ _ l0 _ _ l1 x13_1 (bt (⟨#[110, 101, 115, 119]⟩ : ByteArray) x16_2) t473 false _ ?side1 ?side2 ?side3 ?side4 A9.out).mono ?_); (case side1 => repeat (first | exact (Kd.qY HR0.out HB.out) | (with_reducible refine Kd.qS ?_ _) | (with_reducible refine Kd.qR ?_ _) | (with_reducible refine Kd.qe ?_))); (case side2 => exact HC0.out); (case side3 => repeat (first | exact (Kd.qY HR1.out HB.out) | (with_reducible refine Kd.qS ?_ _) | (with_reducible refine Kd.qR ?_ _) | (with_reducible refine Kd.qe ?_))); (case side4 => exact HC1.out); rintro e w18 ⟨v475, rfl, ho0, hb⟩; refine ⟨_, rfl, ?_⟩; have HO476 := aM (Kd.qAA ho0 (qL bl)); replace HO_5 := aM (Kd.qZ (rR HO_5) hb); replace HB := aM (qB bl hb); (try clear hb); (try clear hb2); (try clear hk); (try clear hi); (try clear ho0)))
         go_roundg k2
         case measure => have := HK1.out; have := HK2.out; omega
         case rel => exact ⟨(x5_2), (wrap64 (x16_2 + 1)), sD, H', ⟨by have := HK1.out; have := HK2.out; omega⟩, ⟨rR HO_5⟩, ⟨bl⟩⟩
       ·rw [if_neg c7] at H
        exact absurd H (by simp)
      ·rw [if_neg c6] at H
       have c6b0 := decide_eq_false c6
       clear c6
       have H' := aM H
       clear H
       go_wp2
       go_roundg k2
       case measure => have := HK1.out; have := HK2.out; omega
       case rel => exact ⟨(x5_2), (wrap64 (x13_1 + 1)), sD, H', ⟨by have := HK1.out; have := HK2.out; omega⟩, ⟨rR HO_5⟩, ⟨bl⟩⟩
   ·rw [if_neg c5] at H
    have c5b0 := decide_eq_false c5
    clear c5
    obtain rfl := Option.some.inj H
    go_wp2
    go_ret
    exact ⟨_, sR, by (with_reducible repeat (first | apply Kd.qQ | apply Kd.qU | apply Kd.qV)); exact HO_5.out, bl⟩
end Go.Proofs.YthhiiceligjleaaGreatDoor.P
namespace Go.Proofs.YthhiiceligjleaaGreatDoor
open Go.RowKit Go.Proofs.YthhiiceligjleaaGreatDoor.P Go.Proofs.YthhiiceligjleaaGreatDoorW.PrintWords Go.Proofs.YthhiiceligjleaaGreatDoorW.PrintLast
set_option linter.unusedVariables false
set_option linter.unusedSimpArgs false
def dirsT : ByteArray := ⟨#[110, 101, 115, 119]⟩
def signN (k i : Nat) : ByteArray := strOfNums [48 + (k : Int), bt dirsT (i : Int)]
theorem dOf_bt (i : Nat) (h : i < 4) : dOf (bt dirsT (i : Int)) = (i : Int) := by
 have : i = 0 ∨ i = 1 ∨ i = 2 ∨ i = 3 := by omega
 rcases this with rfl | rfl | rfl | rfl <;> decide +kernel
theorem sign_spec (k i : Nat) (hk : k < 3) (hi : i < 4) : Ev (fun n => qjB.f n (k : Int) (i : Int)) (signN k i) := by
 have h1 : i = 0 ∨ i = 1 ∨ i = 2 ∨ i = 3 := by omega
 have h2 : k = 0 ∨ k = 1 ∨ k = 2 := by omega
 refine Ev.at_ 1 fun n => ?_
 unfold qjB.f
 rw [qaA.f, if_pos (by omega)]
 rcases h2 with rfl | rfl | rfl <;> rcases h1 with rfl | rfl | rfl | rfl <;> decide +kernel
theorem qgD (k i : Nat) : (signN k i).size = 2 := rfl
theorem qwD (k i : Nat) (hk : k < 3) (hi : i < 4) : (bt (signN k i) 0 - 48) % 256 = (k : Int) := by
 have h1 : i = 0 ∨ i = 1 ∨ i = 2 ∨ i = 3 := by omega
 have h2 : k = 0 ∨ k = 1 ∨ k = 2 := by omega
 rcases h2 with rfl | rfl | rfl <;> rcases h1 with rfl | rfl | rfl | rfl <;> decide +kernel
def mv1 (a : ByteArray) (l : List XS) (k i : Nat) : List ByteArray := if (moveB a l k (i : Int)).2 = true then [signN k i] else []
def mvK (a : ByteArray) (l : List XS) (k : Nat) : List ByteArray := mv1 a l k 0 ++ (mv1 a l k 1 ++ (mv1 a l k 2 ++ mv1 a l k 3))
def mvs (a : ByteArray) (l : List XS) : Nat → Nat → List ByteArray
 | _, 0 => []
 | k, d + 1 => mvK a l k ++ mvs a l (k + 1) d
theorem qgC (a : ByteArray) (l : List XS) (k i : Nat) : (mv1 a l k i).length ≤ 1 := by
 unfold mv1; split <;> simp
theorem mvK_len (a : ByteArray) (l : List XS) (k : Nat) : (mvK a l k).length ≤ 4 := by
 have h0 := qgC a l k 0
 have h1 := qgC a l k 1
 have h2 := qgC a l k 2
 have h3 := qgC a l k 3
 unfold mvK
 simp only [List.length_append]; omega
theorem mvs_len (a : ByteArray) (l : List XS) (d : Nat) : ∀ k, (mvs a l k d).length ≤ 4 * d := by
 induction d with
 | zero => intro k; simp [mvs]
 | succ d ih =>
  intro k
  have := ih (k + 1)
  have h := mvK_len a l k
  unfold mvs
  simp only [List.length_append]; omega
theorem qnC {a : ByteArray} (g : Gnd a) (l : List XS) (hl : l.length ≤ 3) (k : Nat) (hk : k < l.length) (i : Nat) (hi : i < 4) (out : List ByteArray) (ho : out.length ≤ 1000) (r : List ByteArray)
  (h : Ev (fun n => qg.l1 n (rowsT a) l (out ++ mv1 a l k i) (k : Int) (l.length : Int) (k : Int) ((i + 1 : Nat) : Int)) r) :
  Ev (fun n => qg.l1 n (rowsT a) l out (k : Int) (l.length : Int) (k : Int) (i : Int)) r := by
 have w : wrap64 ((i : Int) + 1) = ((i + 1 : Nat) : Int) := by unfold wrap64; omega
 have w2 : wrap64 (48 + (k : Int)) % 256 = 48 + (k : Int) := by unfold wrap64; omega
 refine Ev.step (f := fun n => _) (fun n => by rw [qg.l1]) (Ev.pos (by omega) (Ev.pos (by omega) (Ev.bindc (implMove_eq g l (by omega) k _) ?_)))
 rw [w, w2, show dOf (bt (⟨#[110, 101, 115, 119]⟩ : ByteArray) (i : Int)) = (i : Int) from dOf_bt i hi]
 unfold mv1 at h
 cases hm : (moveB a l k (i : Int)).2 with
 | true =>
  rw [hm, if_pos rfl] at h
  exact Ev.pos rfl (Ev.pos (by omega) h)
 | false =>
  rw [hm, if_neg (by decide), List.append_nil] at h
  exact Ev.neg (by decide) h
theorem moves_loop {a : ByteArray} (g : Gnd a) (l : List XS) (hl : l.length ≤ 3) (d : Nat) : ∀ (k : Nat) (out : List ByteArray), k ≤ l.length → l.length - k = d → out.length ≤ 100 * k →
  Ev (fun n => qg.l0 n (rowsT a) l out (l.length : Int) (k : Int)) (out ++ mvs a l k d) := by
 induction d with
 | zero =>
  intro k out hk hd ho
  refine Ev.step (f := fun n => _) (fun n => by rw [qg.l0]) (Ev.neg (by omega) (Ev.some_ ?_))
  simp [mvs]
 | succ d ih =>
  intro k out hk hd ho
  have h : k < l.length := by omega
  have w : wrap64 ((k : Int) + 1) = ((k + 1 : Nat) : Int) := by unfold wrap64; omega
  have h0 := qgC a l k 0
  have h1 := qgC a l k 1
  have h2 := qgC a l k 2
  have h3 := qgC a l k 3
  have hn := ih (k + 1) (out ++ mvK a l k) (by omega) (by omega) (by have := mvK_len a l k; simp only [List.length_append]; omega)
  refine Ev.step (f := fun n => _) (fun n => by rw [qg.l0]) (Ev.pos (by omega) ?_)
  refine qnC g l hl k h 0 (by omega) _ (by omega) _ (qnC g l hl k h 1 (by omega) _ (by simp only [List.length_append]; omega) _ (qnC g l hl k h 2 (by omega) _ (by simp only [List.length_append]; omega) _ (qnC g l hl k h 3 (by omega) _ (by simp only [List.length_append]; omega) _ ?_)))
  refine Ev.step (f := fun n => _) (fun n => by rw [qg.l1]) (Ev.neg (by omega) ?_)
  rw [w]
  unfold mvs
  unfold mvK at hn
  simpa only [mvK, List.append_assoc] using hn
theorem moves_ev {a : ByteArray} (g : Gnd a) (l : List XS) (hl : l.length ≤ 3) : Ev (fun n => qg.f n (rowsT a) l) (mvs a l 0 l.length) := by
 have := moves_loop g l hl l.length 0 [] (by omega) (by omega) (by simp)
 rwa [List.nil_append] at this
end Go.Proofs.YthhiiceligjleaaGreatDoor
set_option linter.unusedSectionVars false
namespace Go.Proofs.YthhiiceligjleaaGreatDoor.Bfs
section
variable {α β : Type} [DecidableEq α]
def put (L : List (α × β)) (y : Option α) (p : β) : List (α × β) := match y with
 | none => L
 | some y => if y ∈ L.map Prod.fst then L else L ++ [(y, p)]
def puts (L : List (α × β)) : List (Option α × β) → List (α × β)
 | [] => L
 | (y, p) :: r => puts (put L y p) r
variable (next : Nat → α → β → List (Option α × β))
def round (i : Nat) (L : List (α × β)) : List (α × β) := match L[i]? with
 | none => L
 | some x => puts L (next i x.1 x.2)
def run : Nat → Nat → List (α × β) → List (α × β)
 | 0, _, L => L
 | n + 1, i, L => if i < L.length then run n (i + 1) (round next i L) else L
theorem qBE {L : List (α × β)} {y : α} (h : y ∈ L.map Prod.fst) (p : β) : put L (some y) p = L := if_pos h
theorem qAE {L : List (α × β)} {y : α} (h : ¬ y ∈ L.map Prod.fst) (p : β) : put L (some y) p = L ++ [(y, p)] := if_neg h
theorem put_prefix (L : List (α × β)) (y : Option α) (p : β) : L <+: put L y p := by
 unfold put
 split
 ·exact List.prefix_refl _
 ·split
  ·exact List.prefix_refl _
  ·exact List.prefix_append _ _
theorem puts_prefix (l : List (Option α × β)) : ∀ L : List (α × β), L <+: puts L l := by
 induction l with
 | nil => intro L; exact List.prefix_refl _
 | cons x l ih => intro L; exact (put_prefix L x.1 x.2).trans (ih _)
theorem qfC (i : Nat) (L : List (α × β)) : L <+: round next i L := by
 unfold round
 split
 ·exact List.prefix_refl _
 ·exact puts_prefix _ _
theorem qkC : ∀ (n i : Nat) (L : List (α × β)), L <+: run next n i L
 | 0, _, L => List.prefix_refl _
 | n + 1, i, L => by
  unfold run
  split
  ·exact (qfC next i L).trans (qkC n (i + 1) _)
  ·exact List.prefix_refl _
theorem put_nodup {L : List (α × β)} (h : (L.map Prod.fst).Nodup) (y : Option α) (p : β) : ((put L y p).map Prod.fst).Nodup := by
 unfold put
 split
 ·exact h
 ·rename_i y
  split
  ·exact h
  ·rename_i hy
   rw [List.map_append, List.nodup_append]
   refine ⟨h, by simp, ?_⟩
   intro a ha b hb e
   simp at hb
   subst hb
   subst e
   exact hy ha
theorem puts_nodup (l : List (Option α × β)) : ∀ {L : List (α × β)}, (L.map Prod.fst).Nodup → ((puts L l).map Prod.fst).Nodup := by
 induction l with
 | nil => intro L h; exact h
 | cons x l ih => intro L h; exact ih (put_nodup h _ _)
theorem round_nodup {L : List (α × β)} (h : (L.map Prod.fst).Nodup) (i : Nat) : ((round next i L).map Prod.fst).Nodup := by
 unfold round
 split
 ·exact h
 ·exact puts_nodup _ h
theorem run_nodup : ∀ (n i : Nat) {L : List (α × β)}, (L.map Prod.fst).Nodup → ((run next n i L).map Prod.fst).Nodup
 | 0, _, L, h => h
 | n + 1, i, L, h => by
  unfold run
  split
  ·exact run_nodup n (i + 1) (round_nodup next h i)
  ·exact h
theorem put_all {Q : α × β → Prop} {L : List (α × β)} (h : ∀ x ∈ L, Q x) (y : Option α) (p : β) (hy : ∀ z, y = some z → Q (z, p)) : ∀ x ∈ put L y p, Q x := by
 unfold put
 split
 ·exact h
 ·rename_i z
  split
  ·exact h
  ·intro x hx
   rcases List.mem_append.1 hx with hx | hx
   ·exact h x hx
   ·simp at hx; subst hx; exact hy z rfl
theorem qzD {Q : α × β → Prop} : ∀ (l : List (Option α × β)) {L : List (α × β)}, (∀ x ∈ L, Q x) → (∀ s ∈ l, ∀ z, s.1 = some z → Q (z, s.2)) → ∀ x ∈ puts L l, Q x
 | [], L, h, _ => h
 | s :: l, L, h, hs => qzD l (put_all h s.1 s.2 (hs s (by simp))) (fun t ht => hs t (by simp [ht]))
theorem round_all {Q : α × β → Prop} (hn : ∀ i x p, Q (x, p) → ∀ s ∈ next i x p, ∀ z, s.1 = some z → Q (z, s.2)) (i : Nat) {L : List (α × β)} (h : ∀ x ∈ L, Q x) : ∀ x ∈ round next i L, Q x := by
 unfold round
 split
 ·exact h
 ·rename_i x hx
  exact qzD _ h (hn i x.1 x.2 (h x (List.mem_of_getElem? hx)))
theorem run_all {Q : α × β → Prop} (hn : ∀ i x p, Q (x, p) → ∀ s ∈ next i x p, ∀ z, s.1 = some z → Q (z, s.2)) : ∀ (n i : Nat) {L : List (α × β)}, (∀ x ∈ L, Q x) → ∀ x ∈ run next n i L, Q x
 | 0, _, L, h => h
 | n + 1, i, L, h => by
  unfold run
  split
  ·exact run_all hn n (i + 1) (round_all next hn i h)
  ·exact h
theorem nodup_len {U : List α} : ∀ {l : List α}, l.Nodup → (∀ x ∈ l, x ∈ U) → l.length ≤ U.length := by
 intro l
 induction l generalizing U with
 | nil => intro _ _; simp
 | cons a l ih =>
  intro hn hu
  obtain ⟨h1, h2⟩ := List.nodup_cons.1 hn
  have ha : a ∈ U := hu a (by simp)
  have := ih (U := U.erase a) h2 (fun x hx => by
   have hne : x ≠ a := fun e => h1 (e ▸ hx)
   exact (List.mem_erase_of_ne hne).2 (hu x (by simp [hx])))
  rw [List.length_erase_of_mem ha] at this
  have : 0 < U.length := List.length_pos_of_mem ha
  simp only [List.length_cons]
  omega
theorem run_stop : ∀ (n i : Nat) {L : List (α × β)}, L.length ≤ i → run next n i L = L
 | 0, _, _, _ => rfl
 | n + 1, i, L, h => by unfold run; rw [if_neg (by omega)]
theorem put_mem (L : List (α × β)) (y : α) (p : β) : y ∈ (put L (some y) p).map Prod.fst := by
 unfold put
 split
 ·cases ‹some y = none›
 ·rename_i z hz
  cases hz
  split
  ·assumption
  ·simp
theorem qRD {L M : List (α × β)} (h : L <+: M) {y : α} (hy : y ∈ L.map Prod.fst) : y ∈ M.map Prod.fst := by
 obtain ⟨t, rfl⟩ := h
 rw [List.map_append]
 exact List.mem_append_left _ hy
theorem puts_mem : ∀ (l : List (Option α × β)) (L : List (α × β)) (s : Option α × β), s ∈ l → ∀ z, s.1 = some z → z ∈ (puts L l).map Prod.fst
 | [], _, _, h, _, _ => by cases h
 | t :: l, L, s, h, z, hz => by
  rcases List.mem_cons.1 h with rfl | h
  ·have := put_mem L z s.2
   rw [← hz] at this
   exact qRD (puts_prefix l _) this
  ·exact puts_mem l _ s h z hz
theorem run_closed : ∀ (n i : Nat) (L : List (α × β)) (N : Nat), (∀ m, (run next m i L).length ≤ N) → N ≤ i + n →
  ∀ (j : Nat), i ≤ j → ∀ x, (run next n i L)[j]? = some x → ∀ s ∈ next j x.1 x.2, ∀ z, s.1 = some z → z ∈ (run next n i L).map Prod.fst
 | 0, i, L, N, hN, hn, j, hj, x, hx, s, hs, z, hz => by
  have := hN 0
  unfold run at this hx
  have := (List.getElem?_eq_some_iff.1 hx).1
  omega
 | n + 1, i, L, N, hN, hn, j, hj, x, hx, s, hs, z, hz => by
  by_cases hi : i < L.length
  ·have e : run next (n + 1) i L = run next n (i + 1) (round next i L) := by rw [run, if_pos hi]
   rw [e] at hx ⊢
   by_cases hji : j = i
   ·subst hji
    have hp := (qfC next j L).trans (qkC next n (j + 1) (round next j L))
    obtain ⟨t, ht⟩ := hp
    rw [← ht, List.getElem?_append_left hi] at hx
    have hr : round next j L = puts L (next j x.1 x.2) := by unfold round; rw [hx]
    have hm := puts_mem (next j x.1 x.2) L s hs z hz
    rw [← hr] at hm
    exact qRD (qkC next n (j + 1) _) hm
   ·refine run_closed n (i + 1) (round next i L) N (fun m => ?_) (by omega) j (by omega) x hx s hs z hz
    have := hN (m + 1)
    rw [run, if_pos hi] at this
    exact this
  ·rw [run_stop next _ _ (by omega)] at hx
   have := (List.getElem?_eq_some_iff.1 hx).1
   omega
end
end Go.Proofs.YthhiiceligjleaaGreatDoor.Bfs
namespace Go.Proofs.YthhiiceligjleaaGreatDoor
open Go.RowKit Go.Proofs.YthhiiceligjleaaGreatDoor.P Go.Proofs.YthhiiceligjleaaGreatDoorW.PrintWords Go.Proofs.YthhiiceligjleaaGreatDoorW.PrintLast
set_option linter.unusedVariables false
set_option linter.unusedSimpArgs false
abbrev DD := S51
theorem qSE {a b : DD} (h0 : a.f0 = b.f0) (h1 : a.f1 = b.f1) (h2 : a.f2 = b.f2) (h3 : a.f3 = b.f3) (h4 : a.f4 = b.f4) (h5 : a.f5 = b.f5) : a = b := by
 cases a; cases b; simp only at h0 h1 h2 h3 h4 h5; subst h0; subst h1; subst h2; subst h3; subst h4; subst h5; rfl
instance ddDec : DecidableEq DD := fun a b =>
 if h : a.f0 = b.f0 ∧ a.f1 = b.f1 ∧ a.f2 = b.f2 ∧ a.f3 = b.f3 ∧ a.f4 = b.f4 ∧ a.f5 = b.f5 then isTrue (qSE h.1 h.2.1 h.2.2.1 h.2.2.2.1 h.2.2.2.2.1 h.2.2.2.2.2) else isFalse (fun e => h (by subst e; exact ⟨rfl, rfl, rfl, rfl, rfl, rfl⟩))
def rolD (x : DD) (d : Nat) : DD := if d = 0 then ⟨x.f3, x.f0, x.f2, x.f5, x.f4, x.f1⟩ else if d = 1 then ⟨x.f4, x.f1, x.f0, x.f3, x.f5, x.f2⟩ else if d = 2 then ⟨x.f1, x.f5, x.f2, x.f0, x.f4, x.f3⟩ else ⟨x.f2, x.f1, x.f5, x.f3, x.f0, x.f4⟩
def dirsW : ByteArray := ⟨#[110, 101, 115, 119]⟩
def dirW (d : Nat) : ByteArray := dirsW.extract d (d + 1)
theorem dirW_size (d : Nat) (h : d < 4) : (dirW d).size = 1 := by
 have : d = 0 ∨ d = 1 ∨ d = 2 ∨ d = 3 := by omega
 rcases this with rfl | rfl | rfl | rfl <;> decide +kernel
def stepsD (x : DD) (w : ByteArray) : Nat → Nat → List (Option DD × ByteArray)
 | 0, _ => []
 | n + 1, d => (some (rolD x d), w ++ dirW d) :: stepsD x w n (d + 1)
def nextD (_ : Nat) (x : DD) (w : ByteArray) : List (Option DD × ByteArray) := stepsD x w 4 0
def faceD (x : DD) (n : Int) : Int := if n = 0 then x.f0 else if n = 1 then x.f1 else if n = 2 then x.f2 else if n = 3 then x.f3 else if n = 4 then x.f4 else x.f5
def putD (x p : DD) : DD := ⟨faceD x p.f0, faceD x p.f1, faceD x p.f2, faceD x p.f3, faceD x p.f4, faceD x p.f5⟩
theorem putD_rol (x p : DD) (d : Nat) : rolD (putD x p) d = putD x (rolD p d) := by
 unfold rolD
 by_cases h0 : d = 0
 ·simp only [if_pos h0]; rfl
 by_cases h1 : d = 1
 ·simp only [if_neg h0, if_pos h1]; rfl
 by_cases h2 : d = 2
 ·simp only [if_neg h0, if_neg h1, if_pos h2]; rfl
 ·simp only [if_neg h0, if_neg h1, if_neg h2]; rfl
def plainD : DD := ⟨0, 1, 2, 3, 4, 5⟩
theorem putD_plain (x : DD) : putD x plainD = x := rfl
def runD (x : DD) : List (DD × ByteArray) := Bfs.run nextD 24 0 [(x, ⟨#[]⟩)]
def rots : List DD := (runD plainD).map Prod.fst
def rotWords : List ByteArray := (runD plainD).map Prod.snd
theorem rots_len : rots.length = 24 := by decide +kernel
theorem rots_closed : ∀ p ∈ rots, rolD p 0 ∈ rots ∧ rolD p 1 ∈ rots ∧ rolD p 2 ∈ rots ∧ rolD p 3 ∈ rots := by decide +kernel
theorem rots_plain : plainD ∈ rots := by decide +kernel
def imgs (x : DD) : List DD := rots.map (putD x)
theorem imgs_len (x : DD) : (imgs x).length = 24 := by unfold imgs; rw [List.length_map, rots_len]
theorem qlD (x : DD) : x ∈ imgs x := List.mem_map.2 ⟨plainD, rots_plain, putD_plain x⟩
theorem qJE {x y : DD} (h : y ∈ imgs x) (d : Nat) (hd : d < 4) : rolD y d ∈ imgs x := by
 obtain ⟨p, hp, rfl⟩ := List.mem_map.1 h
 rw [putD_rol]
 refine List.mem_map_of_mem ?_
 have hc := rots_closed p hp
 have : d = 0 ∨ d = 1 ∨ d = 2 ∨ d = 3 := by omega
 rcases this with rfl | rfl | rfl | rfl
 ·exact hc.1
 ·exact hc.2.1
 ·exact hc.2.2.1
 ·exact hc.2.2.2
theorem qeD (x : DD) (w : ByteArray) : ∀ (n d : Nat), d + n = 4 → ∀ s ∈ stepsD x w n d, ∃ e, e < 4 ∧ s = (some (rolD x e), w ++ dirW e)
 | 0, _, _, s, hs => by cases hs
 | n + 1, d, hd, s, hs => by
  rcases List.mem_cons.1 hs with rfl | hs
  ·exact ⟨d, by omega, rfl⟩
  ·exact qeD x w n (d + 1) (by omega) s hs
theorem mem_steps (x : DD) (w : ByteArray) (e : Nat) : ∀ (n d : Nat), d ≤ e → e < d + n → (some (rolD x e), w ++ dirW e) ∈ stepsD x w n d
 | 0, d, h1, h2 => by omega
 | n + 1, d, h1, h2 => by
  by_cases h : e = d
  ·subst h; exact List.mem_cons_self
  ·exact List.mem_cons_of_mem _ (mem_steps x w e n (d + 1) (by omega) (by omega))
structure FoundD (x : DD) (L : List (DD × ByteArray)) : Prop where
 nodup : (L.map Prod.fst).Nodup
 img : ∀ z ∈ L, z.1 ∈ imgs x
theorem FoundD.len {x : DD} {L : List (DD × ByteArray)} (h : FoundD x L) : L.length ≤ 24 := by
 have := Bfs.nodup_len (U := imgs x) h.nodup (fun y hy => by
  obtain ⟨z, hz, rfl⟩ := List.mem_map.1 hy
  exact h.img z hz)
 rwa [imgs_len, List.length_map] at this
theorem FoundD.put {x : DD} {L : List (DD × ByteArray)} (h : FoundD x L) (y : Option DD) (p : ByteArray) (hy : ∀ z, y = some z → z ∈ imgs x) : FoundD x (Bfs.put L y p) :=
 ⟨Bfs.put_nodup h.nodup y p, Bfs.put_all (Q := fun z => z.1 ∈ imgs x) h.img y p hy⟩
theorem nextD_img {x : DD} (i : Nat) (y : DD) (p : ByteArray) (h : y ∈ imgs x) : ∀ s ∈ nextD i y p, ∀ z, s.1 = some z → z ∈ imgs x := by
 intro s hs z hz
 obtain ⟨e, he, rfl⟩ := qeD y p 4 0 rfl s hs
 cases hz
 exact qJE h e he
theorem FoundD.round {x : DD} {L : List (DD × ByteArray)} (h : FoundD x L) (i : Nat) : FoundD x (Bfs.round nextD i L) :=
 ⟨Bfs.round_nodup _ h.nodup i, Bfs.round_all nextD (Q := fun z => z.1 ∈ imgs x) (fun i y p hy => nextD_img i y p hy) i h.img⟩
theorem FoundD.run {x : DD} {L : List (DD × ByteArray)} (h : FoundD x L) (n i : Nat) : FoundD x (Bfs.run nextD n i L) :=
 ⟨Bfs.run_nodup _ n i h.nodup, Bfs.run_all nextD (Q := fun z => z.1 ∈ imgs x) (fun i y p hy => nextD_img i y p hy) n i h.img⟩
theorem qhC (x : DD) : FoundD x [(x, ⟨#[]⟩)] := ⟨by simp, fun z hz => by rw [List.mem_singleton] at hz; subst hz; exact qlD x⟩
theorem qOD (x : DD) : FoundD x (runD x) := (qhC x).run 24 0
theorem runD_closed (x : DD) {y : DD} (h : y ∈ (runD x).map Prod.fst) (d : Nat) (hd : d < 4) : rolD y d ∈ (runD x).map Prod.fst := by
 obtain ⟨z, hz, rfl⟩ := List.mem_map.1 h
 obtain ⟨j, hj⟩ := List.mem_iff_getElem?.1 hz
 exact Bfs.run_closed nextD 24 0 _ 24 (fun m => ((qhC x).run m 0).len) (by omega) j (by omega) z hj _ (mem_steps z.1 z.2 d 4 0 (by omega) (by omega)) _ rfl
theorem runD_self (x : DD) : x ∈ (runD x).map Prod.fst := Bfs.qRD (Bfs.qkC nextD 24 0 _) (by simp)
def rolls (x : DD) (l : List Nat) : DD := l.foldl rolD x
theorem rolls_put (x : DD) : ∀ (l : List Nat) (p : DD), rolls (putD x p) l = putD x (rolls p l)
 | [], p => rfl
 | d :: l, p => by
  show rolls (rolD (putD x p) d) l = _
  rw [putD_rol]
  exact rolls_put x l (rolD p d)
theorem rolls_mem (x : DD) : ∀ (l : List Nat), (∀ d ∈ l, d < 4) → ∀ y ∈ (runD x).map Prod.fst, rolls y l ∈ (runD x).map Prod.fst
 | [], _, y, h => h
 | d :: l, hl, y, h => rolls_mem x l (fun e he => hl e (by simp [he])) (rolD y d) (runD_closed x h d (hl d (by simp)))
def dirNum (c : UInt8) : Nat := if c = 110 then 0 else if c = 101 then 1 else if c = 115 then 2 else 3
def numsW (w : ByteArray) : List Nat := w.data.toList.map dirNum
theorem dirNum_lt (c : UInt8) : dirNum c < 4 := by
 unfold dirNum
 split
 ·omega
 ·split
  ·omega
  ·split <;> omega
theorem numsW_lt (w : ByteArray) : ∀ d ∈ numsW w, d < 4 := by
 intro d hd
 obtain ⟨c, _, rfl⟩ := List.mem_map.1 hd
 exact dirNum_lt c
theorem rots_words : rots = rotWords.map fun w => rolls plainD (numsW w) := by decide +kernel
theorem imgs_words (x : DD) : imgs x = rotWords.map fun w => rolls x (numsW w) := by
 unfold imgs
 rw [rots_words, List.map_map]
 refine List.map_congr_left fun w _ => ?_
 show putD x (rolls plainD (numsW w)) = _
 rw [← rolls_put, putD_plain]
theorem mem_run (x y : DD) : y ∈ (runD x).map Prod.fst ↔ y ∈ imgs x := by
 constructor
 ·intro h
  obtain ⟨z, hz, rfl⟩ := List.mem_map.1 h
  exact (qOD x).img z hz
 ·intro h
  rw [imgs_words] at h
  obtain ⟨w, _, rfl⟩ := List.mem_map.1 h
  exact rolls_mem x _ (numsW_lt w) x (runD_self x)
end Go.Proofs.YthhiiceligjleaaGreatDoor
set_option linter.unusedSectionVars false
namespace Go.Proofs.YthhiiceligjleaaGreatDoor.Cap
section
variable {α β : Type} [DecidableEq α]
def put (N : Nat) (L : List (α × β)) (y : α) (p : β) : Option (List (α × β)) := if y ∈ L.map Prod.fst then some L else if L.length = N then none else some (L ++ [(y, p)])
def puts (N : Nat) : List (α × β) → List (α × β) → Option (List (α × β))
 | L, [] => some L
 | L, s :: r => (put N L s.1 s.2).bind fun L1 => puts N L1 r
variable (N : Nat) (next : Nat → α → List (α × β))
def run : Nat → Nat → List (α × β) → Option (List (α × β))
 | 0, _, L => some L
 | n + 1, i, L => match L[i]? with
  | none => some L
  | some x => (puts N L (next i x.1)).bind (run n (i + 1))
theorem qBE {L : List (α × β)} {y : α} (h : y ∈ L.map Prod.fst) (p : β) : put N L y p = some L := if_pos h
theorem put_full {L : List (α × β)} {y : α} (h : ¬ y ∈ L.map Prod.fst) (hl : L.length = N) (p : β) : put N L y p = none := by
 unfold put; rw [if_neg h, if_pos hl]
theorem qAE {L : List (α × β)} {y : α} (h : ¬ y ∈ L.map Prod.fst) (hl : L.length ≠ N) (p : β) : put N L y p = some (L ++ [(y, p)]) := by
 unfold put; rw [if_neg h, if_neg hl]
theorem run_end {n i : Nat} {L : List (α × β)} (h : L.length ≤ i) : run N next n i L = some L := by
 cases n with
 | zero => rfl
 | succ n => unfold run; rw [List.getElem?_eq_none h]
theorem run_step {n i : Nat} {L : List (α × β)} (h : i < L.length) : run N next (n + 1) i L = (puts N L (next i L[i].1)).bind (run N next n (i + 1)) := by
 rw [run, List.getElem?_eq_getElem h]
theorem put_keep {P : List (α × β) → Prop} {L M : List (α × β)} {y : α} {p : β} (h : put N L y p = some M) (hL : P L) (hP : ¬ y ∈ L.map Prod.fst → L.length ≠ N → P (L ++ [(y, p)])) : P M := by
 unfold put at h
 split at h
 ·injection h with h; exact h ▸ hL
 ·rename_i h1
  split at h
  ·cases h
  ·rename_i h2
   injection h with h
   exact h ▸ hP h1 h2
theorem puts_keep {P : List (α × β) → Prop} : ∀ (l : List (α × β)) {L M : List (α × β)}, puts N L l = some M → P L →
  (∀ K : List (α × β), P K → ∀ s ∈ l, ¬ s.1 ∈ K.map Prod.fst → K.length ≠ N → P (K ++ [s])) → P M
 | [], L, M, h, hL, _ => by injection h with h; exact h ▸ hL
 | s :: l, L, M, h, hL, hP => by
  obtain ⟨K, h1, h2⟩ := Option.bind_eq_some_iff.1 h
  exact puts_keep l h2 (put_keep N h1 hL (hP L hL s List.mem_cons_self)) (fun K hK t ht => hP K hK t (List.mem_cons_of_mem _ ht))
theorem qxD {P : List (α × β) → Prop} (hP : ∀ (i : Nat) (L K : List (α × β)) (x : α × β), P L → L[i]? = some x → L <+: K → P K → ∀ s ∈ next i x.1, ¬ s.1 ∈ K.map Prod.fst → K.length ≠ N → P (K ++ [s])) :
  ∀ (n i : Nat) {L M : List (α × β)}, run N next n i L = some M → P L → P M
 | 0, i, L, M, h, hL => by injection h with h; exact h ▸ hL
 | n + 1, i, L, M, h, hL => by
  unfold run at h
  cases hx : L[i]? with
  | none => rw [hx] at h; injection h with h; exact h ▸ hL
  | some x =>
   rw [hx] at h
   obtain ⟨K, h1, h2⟩ := Option.bind_eq_some_iff.1 h
   refine qxD hP n (i + 1) h2 ?_
   have : L <+: K ∧ P K := puts_keep N (P := fun K => L <+: K ∧ P K) _ h1 ⟨List.prefix_refl _, hL⟩ (fun K hK s hs h3 h4 => ⟨hK.1.trans (List.prefix_append _ _), hP i L K x hL hx hK.1 hK.2 s hs h3 h4⟩)
   exact this.2
end
end Go.Proofs.YthhiiceligjleaaGreatDoor.Cap
namespace Go.Proofs.YthhiiceligjleaaGreatDoor
open Go.RowKit Go.Proofs.YthhiiceligjleaaGreatDoor.P Go.Proofs.YthhiiceligjleaaGreatDoorW.PrintWords Go.Proofs.YthhiiceligjleaaGreatDoorW.PrintLast
set_option linter.unusedVariables false
set_option linter.unusedSimpArgs false
theorem qaE {a b : XS} (h0 : a.f0 = b.f0) (h1 : a.f1 = b.f1) (h2 : a.f2 = b.f2) : a = b := by
 cases a; cases b; simp only at h0 h1 h2; subst h0; subst h1; subst h2; rfl
instance xsDec : DecidableEq XS := fun a b =>
 if h : a.f0 = b.f0 ∧ a.f1 = b.f1 ∧ a.f2 = b.f2 then isTrue (qaE h.1 h.2.1 h.2.2) else isFalse (fun e => h (by subst e; exact ⟨rfl, rfl, rfl⟩))
def mp1 (a : ByteArray) (l : List XS) (k i : Nat) : List (Nat × Nat) := if (moveB a l k (i : Int)).2 = true then [(k, i)] else []
def mpK (a : ByteArray) (l : List XS) (k : Nat) : List (Nat × Nat) := mp1 a l k 0 ++ (mp1 a l k 1 ++ (mp1 a l k 2 ++ mp1 a l k 3))
def mps (a : ByteArray) (l : List XS) : Nat → Nat → List (Nat × Nat)
 | _, 0 => []
 | k, d + 1 => mpK a l k ++ mps a l (k + 1) d
theorem mv1_mp (a : ByteArray) (l : List XS) (k i : Nat) : mv1 a l k i = (mp1 a l k i).map fun p => signN p.1 p.2 := by
 unfold mv1 mp1; split <;> rfl
theorem qgE (a : ByteArray) (l : List XS) (d : Nat) : ∀ k, mvs a l k d = (mps a l k d).map fun p => signN p.1 p.2 := by
 induction d with
 | zero => intro k; rfl
 | succ d ih =>
  intro k
  unfold mvs mps mvK mpK
  simp only [List.map_append, mv1_mp, ih]
theorem mp1_mem {a : ByteArray} {l : List XS} {k i : Nat} {p : Nat × Nat} (h : p ∈ mp1 a l k i) : p = (k, i) ∧ (moveB a l k (i : Int)).2 = true := by
 unfold mp1 at h
 split at h
 ·rename_i hm
  rw [List.mem_singleton] at h
  exact ⟨h, hm⟩
 ·cases h
theorem mpK_mem {a : ByteArray} {l : List XS} {k : Nat} {p : Nat × Nat} (h : p ∈ mpK a l k) : p.1 = k ∧ p.2 < 4 ∧ (moveB a l p.1 (p.2 : Int)).2 = true := by
 unfold mpK at h
 simp only [List.mem_append] at h
 rcases h with h | h | h | h <;> (obtain ⟨rfl, h2⟩ := mp1_mem h; exact ⟨rfl, by show _ < 4; omega, h2⟩)
theorem qVE {a : ByteArray} {l : List XS} {p : Nat × Nat} (d : Nat) : ∀ k, p ∈ mps a l k d → k ≤ p.1 ∧ p.1 < k + d ∧ p.2 < 4 ∧ (moveB a l p.1 (p.2 : Int)).2 = true := by
 induction d with
 | zero => intro k h; cases h
 | succ d ih =>
  intro k h
  unfold mps at h
  rcases List.mem_append.1 h with h | h
  ·obtain ⟨h1, h2, h3⟩ := mpK_mem h
   exact ⟨by omega, by omega, h2, h3⟩
  ·obtain ⟨h1, h2, h3⟩ := ih (k + 1) h
   exact ⟨by omega, by omega, h3⟩
theorem mpK_self (a : ByteArray) (l : List XS) (k d : Nat) (hd : d < 4) (hm : (moveB a l k (d : Int)).2 = true) : (k, d) ∈ mpK a l k := by
 have h1 : (k, d) ∈ mp1 a l k d := by unfold mp1; rw [if_pos hm]; exact List.mem_singleton.2 rfl
 unfold mpK
 simp only [List.mem_append]
 have : d = 0 ∨ d = 1 ∨ d = 2 ∨ d = 3 := by omega
 rcases this with rfl | rfl | rfl | rfl
 ·exact .inl h1
 ·exact .inr (.inl h1)
 ·exact .inr (.inr (.inl h1))
 ·exact .inr (.inr (.inr h1))
theorem mps_all (a : ByteArray) (l : List XS) (k d : Nat) (hd : d < 4) (hm : (moveB a l k (d : Int)).2 = true) : ∀ (r j : Nat), j ≤ k → k < j + r → (k, d) ∈ mps a l j r
 | 0, j, h1, h2 => by omega
 | r + 1, j, h1, h2 => by
  unfold mps
  by_cases e : j = k
  ·subst e
   exact List.mem_append_left _ (mpK_self a l j d hd hm)
  ·exact List.mem_append_right _ (mps_all a l k d hd hm r (j + 1) (by omega) (by omega))
theorem mps_self (a : ByteArray) (l : List XS) (k d : Nat) (hk : k < l.length) (hd : d < 4) (hm : (moveB a l k (d : Int)).2 = true) : (k, d) ∈ mps a l 0 l.length :=
 mps_all a l k d hd hm l.length 0 (Nat.zero_le _) (by omega)
abbrev PN := List XS × (Int × ByteArray)
def nextP (a : ByteArray) (i : Nat) (l : List XS) : List PN := (mps a l 0 l.length).map fun p => ((moveB a l p.1 (p.2 : Int)).1, ((i : Int), signN p.1 p.2))
def allP (a : ByteArray) (l : List XS) : Option (List PN) := Cap.run 6000 (nextP a) 6000 0 [(l, (-1, (⟨#[]⟩ : ByteArray)))]
def plansB (a : ByteArray) (l : List XS) : Option (List PN) := if askD a l = true ∧ l.length ≤ 2 then allP a l else none
def kinS (a : ByteArray) (s t : XS) : Prop := stateB a t = true ∧ t.f2 ∈ imgs s.f2
def kinD (a : ByteArray) (l m : List XS) : Prop := m.length = l.length ∧ ∀ (k : Nat) (s t : XS), l[k]? = some s → m[k]? = some t → kinS a s t
theorem rollD_rolD (x : DD) (d : Nat) (h : d < 4) : rollD x (d : Int) = rolD x d := by
 have : d = 0 ∨ d = 1 ∨ d = 2 ∨ d = 3 := by omega
 rcases this with rfl | rfl | rfl | rfl <;> rfl
theorem rolD_good {x : DD} (h : dieB x.f0 x.f1 x.f2 x.f3 x.f4 x.f5 = true) (d : Nat) : dieB (rolD x d).f0 (rolD x d).f1 (rolD x d).f2 (rolD x d).f3 (rolD x d).f4 (rolD x d).f5 = true := by
 unfold dieB at h ⊢
 simp only [List.all_cons, List.all_nil, Bool.and_true, Bool.and_eq_true] at h ⊢
 unfold rolD
 by_cases h0 : d = 0
 ·simp only [if_pos h0]; simp only [h, and_self]
 by_cases h1 : d = 1
 ·simp only [if_neg h0, if_pos h1]; simp only [h, and_self]
 by_cases h2 : d = 2
 ·simp only [if_neg h0, if_neg h1, if_pos h2]; simp only [h, and_self]
 ·simp only [if_neg h0, if_neg h1, if_neg h2]; simp only [h, and_self]
theorem qjD {a : ByteArray} {l : List XS} (h : askD a l = true) : kinD a l l := ⟨rfl, fun k s t hs ht => by
 rw [hs] at ht
 cases ht
 exact ⟨askD_state h s (List.mem_of_getElem? hs), qlD _⟩⟩
theorem kinD_move {a : ByteArray} {l m : List XS} (h : kinD a l m) (k d : Nat) (hd : d < 4) (hm : (moveB a m k (d : Int)).2 = true) : kinD a l (moveB a m k (d : Int)).1 := by
 refine ⟨(moveB_len hm).trans h.1, fun j s t hs ht => ?_⟩
 unfold moveB at hm ht
 split at hm
 case isFalse => cases hm
 rename_i hk
 rw [dif_pos hk] at ht
 split at hm
 case isFalse => cases hm
 rename_i hc
 rw [if_pos hc] at ht
 simp only [List.getElem?_set] at ht
 split at ht
 ·rename_i hkj
  subst hkj
  injection ht with ht
  subst ht
  obtain ⟨h1, h2⟩ := h.2 k s m[k] hs (List.getElem?_eq_getElem hk)
  have e : (rollS m[k] (d : Int)).f2 = rolD m[k].f2 d := rollD_rolD _ d hd
  refine ⟨?_, by rw [e]; exact qJE h2 d hd⟩
  unfold stateB at h1 ⊢
  rw [Bool.and_eq_true] at h1 ⊢
  rw [e]
  exact ⟨hc.1, rolD_good h1.2 d⟩
 ·exact h.2 j s t hs ht
theorem qiD {a : ByteArray} {l m : List XS} (h : kinD a l m) (i : Nat) {s : PN} (hs : s ∈ nextP a i m) : kinD a l s.1 := by
 unfold nextP at hs
 obtain ⟨p, hp, rfl⟩ := List.mem_map.1 hs
 obtain ⟨_, _, h2, h3⟩ := qVE _ _ hp
 exact kinD_move h p.1 p.2 h2 h3
structure AllOk (a : ByteArray) (l : List XS) (L : List PN) : Prop where
 kin : ∀ x ∈ L, kinD a l x.1
 len : L.length ≤ 6000
 pos : 1 ≤ L.length
 fst : ∀ x, L[0]? = some x → x.2.1 = -1
 bef : ∀ (j : Nat) (x : PN), 0 < j → L[j]? = some x → 0 ≤ x.2.1 ∧ x.2.1 < (j : Int)
 sgn : ∀ x ∈ L, x.2.2.size ≤ 2
theorem AllOk.start {a : ByteArray} {l : List XS} (h : askD a l = true) : AllOk a l [(l, (-1, (⟨#[]⟩ : ByteArray)))] := by
 refine ⟨fun x hx => ?_, by simp, by simp, fun x hx => ?_, fun j x hj hx => ?_, fun x hx => ?_⟩
 ·rw [List.mem_singleton] at hx; subst hx; exact qjD h
 ·simp at hx; subst hx; rfl
 ·have := (List.getElem?_eq_some_iff.1 hx).1
  simp at this; omega
 ·rw [List.mem_singleton] at hx; subst hx; show (ByteArray.size ⟨#[]⟩) ≤ 2; decide
theorem AllOk.add {a : ByteArray} {l : List XS} {L : List PN} (h : AllOk a l L) {i : Nat} {x : PN} (hx : L[i]? = some x) {s : PN} (hs : s ∈ nextP a i x.1) (hn : L.length ≠ 6000) : AllOk a l (L ++ [s]) := by
 have hi := (List.getElem?_eq_some_iff.1 hx).1
 have hl := h.len
 have hp := h.pos
 have hs' := hs
 unfold nextP at hs'
 obtain ⟨p, hp', e⟩ := List.mem_map.1 hs'
 refine ⟨fun y hy => ?_, ?_, ?_, fun y hy => ?_, fun j y hj hy => ?_, fun y hy => ?_⟩
 ·rcases List.mem_append.1 hy with hy | hy
  ·exact h.kin y hy
  ·rw [List.mem_singleton] at hy; subst hy; exact qiD (h.kin x (List.mem_of_getElem? hx)) i hs
 ·simp only [List.length_append, List.length_singleton]; omega
 ·simp only [List.length_append, List.length_singleton]; omega
 ·rw [List.getElem?_append_left (by omega)] at hy; exact h.fst y hy
 ·rcases Nat.lt_or_ge j L.length with hj' | hj'
  ·rw [List.getElem?_append_left hj'] at hy; exact h.bef j y hj hy
  ·have := (List.getElem?_eq_some_iff.1 hy).1
   simp only [List.length_append, List.length_singleton] at this
   have hjj : j = L.length := by omega
   subst hjj
   rw [List.getElem?_append_right (Nat.le_refl _), Nat.sub_self] at hy
   injection hy with hy
   subst hy
   rw [← e]
   exact ⟨by simp, by simp only; omega⟩
 ·rcases List.mem_append.1 hy with hy | hy
  ·exact h.sgn y hy
  ·rw [List.mem_singleton] at hy; subst hy; rw [← e]; exact Nat.le_of_eq (qgD _ _)
theorem plansB_ok {a : ByteArray} {l : List XS} {L : List PN} (h : plansB a l = some L) : AllOk a l L := by
 unfold plansB at h
 split at h
 case isFalse => cases h
 rename_i hc
 refine Cap.qxD 6000 (nextP a) (P := AllOk a l) (fun i L K x hL hx hp hK s hs hm hn => ?_) 6000 0 h (AllOk.start hc.1)
 obtain ⟨t, rfl⟩ := hp
 exact hK.add (by rw [List.getElem?_append_left (List.getElem?_eq_some_iff.1 hx).1]; exact hx) hs hn
theorem sign_dir (k i : Nat) (hk : k < 3) (hi : i < 4) : bt (signN k i) 1 = bt dirsT (i : Int) := by
 have h1 : i = 0 ∨ i = 1 ∨ i = 2 ∨ i = 3 := by omega
 have h2 : k = 0 ∨ k = 1 ∨ k = 2 := by omega
 rcases h2 with rfl | rfl | rfl <;> rcases h1 with rfl | rfl | rfl | rfl <;> decide +kernel
theorem move_sign {a : ByteArray} (g : Gnd a) (l : List XS) (hl : l.length ≤ 3) (k i : Nat) (hk : k < l.length) (hi : i < 4) :
  qcA.f (rowsT a) l ((bt (signN k i) 0 - 48) % 256) (bt (signN k i) 1) = some (moveB a l k (i : Int)) := by
 rw [qwD k i (by omega) hi, sign_dir k i (by omega) hi, implMove_eq g l (by omega) k, dOf_bt i hi]
end Go.Proofs.YthhiiceligjleaaGreatDoor
namespace Go.Proofs.YthhiiceligjleaaGreatDoor
open Go Go.ChangeMaps Go.RowKit Go.Proofs.YthhiiceligjleaaGreatDoor.P Go.Proofs.YthhiiceligjleaaGreatDoorW.PrintWords Go.Proofs.YthhiiceligjleaaGreatDoorW.PrintLast
set_option linter.unusedVariables false
set_option linter.unusedSimpArgs false
def okN (zs : List Int) : Prop := zs.length = 16 ∧ ∀ n ∈ zs, (Lit.int .i64 n).wf = true
def litN (zs : List Int) : Lit := .string (keyBytes (zs.map (Lit.int .i64)))
def encN (zs : List Int) : Value := .agg (kyC zs)
theorem encN_inj (x y : List Int) (h : encN x = encN y) : x = y := by
 unfold encN kyC at h
 simp only [Value.agg.injEq] at h
 have := congrArg Array.toList h
 simp only at this
 exact (List.map_inj_right (fun a b e => by injection e)).1 this
theorem laidOutP : laidOutB Tryz.prog = true := by kernel_rfl
theorem keyedN : Go.Maps.Keyed Tryz.prog 94 := Go.Maps.Keyed.of_law (deep_law_laid laidOutP (m := 5) (by decide) (of_decide_eq_true (by kernel_rfl)) (by kernel_rfl) (by kernel_rfl))
theorem qwB (d : Nat) (n : Int) (h : (Lit.int .i64 n).wf = true) : Tryz.prog.keyLits (d + 1) 3 [.int .i64 n] = some [.int .i64 n] := by
 unfold Program.keyLits
 rw [Tryz.underlying3]
 simp only [h, and_self, if_true]
theorem list_of_6n : ∀ zs : List Int, zs.length = 6 → ∃ x0 x1 x2 x3 x4 x5 : Int, zs = [x0, x1, x2, x3, x4, x5]
 | [x0, x1, x2, x3, x4, x5], _ => ⟨x0, x1, x2, x3, x4, x5, rfl⟩
theorem list_of_8n : ∀ zs : List Int, zs.length = 8 → ∃ x0 x1 x2 x3 x4 x5 x6 x7 : Int, zs = [x0, x1, x2, x3, x4, x5, x6, x7]
 | [x0, x1, x2, x3, x4, x5, x6, x7], _ => ⟨x0, x1, x2, x3, x4, x5, x6, x7, rfl⟩
theorem litsN_die (d : Nat) (zs : List Int) (h6 : zs.length = 6) (h : ∀ n ∈ zs, (Lit.int .i64 n).wf = true) : Tryz.prog.keyLits (d + 2) 51 (zs.map (Value.int .i64)) = some (zs.map (Lit.int .i64)) := by
 obtain ⟨x0, x1, x2, x3, x4, x5, rfl⟩ := list_of_6n zs h6
 have h0 := h x0 (by simp)
 have h1 := h x1 (by simp)
 have h2 := h x2 (by simp)
 have h3 := h x3 (by simp)
 have h4 := h x4 (by simp)
 have h5 := h x5 (by simp)
 clear h
 have hc : Tryz.prog.cellsOf 51 = 6 := by kernel_rfl
 have hc3 : Tryz.prog.cellsOf 3 = 1 := by kernel_rfl
 unfold Program.keyLits
 rw [Tryz.underlying51]
 simp [hc, hc3, List.mapM_cons, List.mapM_nil, qwB d x0 h0, qwB d x1 h1, qwB d x2 h2, qwB d x3 h3, qwB d x4 h4, qwB d x5 h5]
theorem litsN_state (d : Nat) (zs : List Int) (h8 : zs.length = 8) (h : ∀ n ∈ zs, (Lit.int .i64 n).wf = true) : Tryz.prog.keyLits (d + 3) 53 (zs.map (Value.int .i64)) = some (zs.map (Lit.int .i64)) := by
 obtain ⟨y0, y1, x0, x1, x2, x3, x4, x5, rfl⟩ := list_of_8n zs h8
 have h0 := h y0 (by simp)
 have h1 := h y1 (by simp)
 have hd := litsN_die d [x0, x1, x2, x3, x4, x5] rfl (fun n hn => h n (by simp only [List.mem_cons, List.not_mem_nil, or_false] at hn ⊢; exact .inr (.inr hn)))
 clear h
 have hc : Tryz.prog.cellsOf 51 = 6 := by kernel_rfl
 have hc8 : Tryz.prog.cellsOf 53 = 8 := by kernel_rfl
 have hc3 : Tryz.prog.cellsOf 3 = 1 := by kernel_rfl
 unfold Program.keyLits
 rw [Tryz.underlying53]
 simp only [List.map_cons, List.map_nil] at hd
 simp [hc, hc3, hc8, List.mapM_cons, List.mapM_nil, qwB (d + 1) y0 h0, qwB (d + 1) y1 h1, hd]
theorem keyN (zs : List Int) (h : okN zs) : keyOf Tryz.prog 94 (encN zs) = some (litN zs) := by
 obtain ⟨h16, hw⟩ := h
 have hc16 : Tryz.prog.cellsOf 94 = 16 := by kernel_rfl
 have hc8 : Tryz.prog.cellsOf 53 = 8 := by kernel_rfl
 have hk : Tryz.prog.keyType 94 = true := by kernel_rfl
 have hf : (encN zs).formed Tryz.prog 94 = true := by
  unfold encN Value.formed
  rw [Tryz.underlying94]
  simp [hc16, kyC, h16]
 obtain ⟨m, hm⟩ : ∃ m, Tryz.prog.types.size = m + 3 := ⟨Tryz.prog.types.size - 3, by have : 3 ≤ Tryz.prog.types.size := of_decide_eq_true (by kernel_rfl); omega⟩
 have ha := litsN_state m (zs.take 8) (by rw [List.length_take]; omega) (fun n hn => hw n (List.mem_of_mem_take hn))
 have hb := litsN_state m (zs.drop 8) (by rw [List.length_drop]; omega) (fun n hn => hw n (List.mem_of_mem_drop hn))
 have hl : Tryz.prog.keyLits (Tryz.prog.types.size + 1) 94 (zs.map (Value.int .i64)) = some (zs.map (Lit.int .i64)) := by
  unfold Program.keyLits
  rw [Tryz.underlying94, hm]
  have e : List.range 2 = [0, 1] := by decide
  have e2 : ((zs.map (Value.int .i64)).drop 8).take 8 = (zs.drop 8).map (Value.int .i64) := by
   rw [← List.map_drop, List.take_of_length_le (by rw [List.length_map, List.length_drop]; omega)]
  simp only [hc16, hc8, List.length_map, h16, if_true, e, List.mapM_cons, List.mapM_nil, Nat.zero_mul, List.drop_zero, Nat.one_mul, ← List.map_take, ha]
  rw [← List.map_drop, ← List.map_take, List.take_of_length_le (l := zs.drop 8) (by rw [List.length_drop]; omega), hb]
  simp [← List.map_append]
 unfold keyOf
 rw [Tryz.underlying94]
 simp only [hk, hf, Bool.and_self, if_true]
 show (Tryz.prog.keyLits (Tryz.prog.types.size + 1) 94 (kyC zs).toList).map _ = _
 rw [show (kyC zs).toList = zs.map (Value.int .i64) from rfl, hl]
 rfl
noncomputable def mapK : MapKit Tryz.prog (List Int) Bool where
 t := 93
 k := 94
 e := 4
 law := keyedN
 ht := Tryz.underlying93
 okK := okN
 key := encN
 lit := litN
 hkey := keyN
 inj := encN_inj
 okV := fun _ => True
 val := .bool
 dat := fun v => .lit (.bool v)
 R := plainElem Tryz.prog 4
 hval := (elem_bool Tryz.underlying4).1
 hdat := (elem_bool Tryz.underlying4).2
 zero := false
 okz := trivial
 hz := Tryz.zeroValue4
def metP (L : List PN) : List (List Int × Bool) := (L.map fun x => (keyL x.1, true)).reverse
theorem metP_append (L : List PN) (s : PN) : metP (L ++ [s]) = (keyL s.1, true) :: metP L := by simp [metP]
theorem metP_len (L : List PN) : (metP L).length = L.length := by simp [metP]
theorem numsX_inj {x y : XS} (h : numsX x = numsX y) : x = y := by
 unfold numsX at h
 simp only [List.cons.injEq, and_true] at h
 obtain ⟨h0, h1, h2, h3, h4, h5, h6, h7⟩ := h
 exact qaE h0 h1 (qSE h2 h3 h4 h5 h6 h7)
theorem flatS_inj : ∀ {l m : List XS}, l.length = m.length → flatS l = flatS m → l = m
 | [], [], _, _ => rfl
 | [], _ :: _, h, _ => by simp at h
 | _ :: _, [], h, _ => by simp at h
 | x :: l, y :: m, h, e => by
  unfold flatS at e
  rw [List.flatMap_cons, List.flatMap_cons] at e
  have := List.append_inj e (by rw [qRC, qRC])
  rw [numsX_inj this.1, flatS_inj (by simpa using h) this.2]
theorem keyL_inj {l m : List XS} (h : l.length = m.length) (e : keyL l = keyL m) : l = m := by
 unfold keyL at e
 exact flatS_inj h (List.append_inj e (by rw [qfB, qfB, h])).1
theorem look_metP (L : List PN) (m : List XS) (hL : ∀ x ∈ L, x.1.length = m.length) : mapK.look (metP L) (keyL m) = decide (m ∈ L.map Prod.fst) := by
 unfold MapKit.look
 by_cases h : m ∈ L.map Prod.fst
 ·rw [decide_eq_true h]
  obtain ⟨z, hz, rfl⟩ := List.mem_map.1 h
  cases hf : (metP L).find? (fun y => decide (y.1 = keyL z.1)) with
  | none =>
   rw [List.find?_eq_none] at hf
   have := hf (keyL z.1, true) (by unfold metP; rw [List.mem_reverse]; exact List.mem_map.2 ⟨z, hz, rfl⟩)
   simp at this
  | some y =>
   have hm := List.mem_of_find?_eq_some hf
   unfold metP at hm
   rw [List.mem_reverse] at hm
   obtain ⟨u, _, rfl⟩ := List.mem_map.1 hm
   rfl
 ·rw [decide_eq_false h]
  cases hf : (metP L).find? (fun y => decide (y.1 = keyL m)) with
  | none => rfl
  | some y =>
   have hm := List.mem_of_find?_eq_some hf
   have hy := List.find?_some hf
   unfold metP at hm
   rw [List.mem_reverse] at hm
   obtain ⟨u, hu, rfl⟩ := List.mem_map.1 hm
   simp only [decide_eq_true_eq] at hy
   exact absurd ((keyL_inj (hL u hu) hy) ▸ List.mem_map_of_mem hu) h
theorem wf_of_small {n : Int} (h0 : -1000 ≤ n) (h1 : n ≤ 1000) : (Lit.int .i64 n).wf = true := by
 unfold Lit.wf
 simp only [Bool.and_eq_true, decide_eq_true_eq]
 exact ⟨by show (-9223372036854775808 : Int) ≤ n; omega, by show n ≤ (9223372036854775807 : Int); omega⟩
theorem state_small {a : ByteArray} (g : Gnd a) {s : XS} (h : stateB a s = true) : ∀ n ∈ numsX s, -1000 ≤ n ∧ n ≤ 1000 := by
 unfold stateB floorB at h
 simp only [Bool.and_eq_true] at h
 obtain ⟨⟨h1, _⟩, h2⟩ := h
 have hh := (qYD a s.f0 s.f1).1 h1
 have hd := dieB_face h2
 have hw7 := g.w7
 have hh7 := g.h7
 intro n hn
 unfold numsX at hn
 simp only [List.mem_cons, List.not_mem_nil, or_false] at hn
 rcases hn with rfl | rfl | hn
 ·omega
 ·omega
 ·have := hd n (by simp only [List.mem_cons, List.not_mem_nil, or_false]; exact hn)
  omega
theorem keyL_ok {a : ByteArray} (g : Gnd a) {l m : List XS} (h : kinD a l m) (hl : l.length ≤ 2) : okN (keyL m) := by
 refine ⟨qoC m (by rw [h.1]; exact hl), fun n hn => ?_⟩
 unfold keyL at hn
 rcases List.mem_append.1 hn with hn | hn
 ·unfold flatS at hn
  obtain ⟨t, ht, hn⟩ := List.mem_flatMap.1 hn
  obtain ⟨k, hk⟩ := List.mem_iff_getElem?.1 ht
  have hkl := (List.getElem?_eq_some_iff.1 hk).1
  rw [h.1] at hkl
  have := (h.2 k _ t (List.getElem?_eq_getElem hkl) hk).1
  obtain ⟨h1, h2⟩ := state_small g this n hn
  exact wf_of_small h1 h2
 ·rw [List.eq_of_mem_replicate hn]
  exact wf_of_small (by omega) (by omega)
def plK (w : World) : Kd (List XS) := Kd.mix 53 k53 k53 w
theorem qQE (w : World) {e t : Nat} (h1 : e ≠ t) (h2 : 53 ≠ t) : ∀ q, q ∈ e :: (plK w).E → q ≠ t := by
 intro q hq
 rw [show e :: (plK w).E = [e, 53] from rfl] at hq
 simp only [List.mem_cons, List.not_mem_nil, or_false] at hq
 rcases hq with rfl | rfl
 ·exact h1
 ·exact h2
theorem plK_C {w0 w : World} (hb : Below w0.heap.size w0 w) {A : Option Addr} {n : Nat} {L : List (List XS)} (h : (plK w0).C w A n L) : Kd.C (Kd.slice 53 k53) w A n L :=
 Kd.C_read (d := Kd.slice 53 k53) (dm := plK w0) rfl (fun x cs hk => by
  obtain ⟨A, c, rfl, hl, hC⟩ := Kd.mix_read (w0 := w0) rfl (fun _ _ hk => hk) hb hk
  exact ⟨A, c, rfl, hl, hC⟩) h
theorem at_row {w : World} {ad : Addr} {n : Nat} {L : List (List XS)} (h : Kd.C (Kd.slice 53 k53) w (some ad) n L) (i : Nat) (hi : i < L.length) :
  ∃ A c, w.cell? (ad.add i) = some (.slice A L[i].length c) ∧ L[i].length ≤ c ∧ Kd.C k53 w A L[i].length L[i] := by
 obtain ⟨ad', e, hc⟩ := h.2.2 (by have := h.1; omega)
 injection e with e
 subst e
 obtain ⟨c, hcl, ⟨A, cc, rfl, hl, hC⟩, hcell⟩ := hc i _ (List.getElem?_eq_getElem hi)
 have h1 := hcell 0 _ rfl
 rw [show (Kd.slice 53 k53).sz = 1 from rfl, Nat.mul_one, Nat.add_zero] at h1
 exact ⟨A, cc, h1, hl, hC⟩
structure PlO (a : ByteArray) (l : List XS) (L : List PN) (i : Nat) (R : Option (List PN)) : Prop where
 ok : AllOk a l L
 le : i ≤ L.length
 fin : Cap.run 6000 (nextP a) (6000 - i) i L = R
structure PlN (a : ByteArray) (l : List XS) (L : List PN) (i j : Nat) (x : List XS) (R : Option (List PN)) : Prop where
 ok : AllOk a l L
 at_ : ∃ p, L[i]? = some (x, p)
 fin : (Cap.puts 6000 L ((nextP a i x).drop j)).bind (Cap.run 6000 (nextP a) (6000 - (i + 1)) (i + 1)) = R
section
variable {a : ByteArray} {l x : List XS} {L : List PN} {i j : Nat} {R : Option (List PN)}
theorem PlO.start (h : askD a l = true) (h2 : l.length ≤ 2) : PlO a l [(l, (-1, (⟨#[]⟩ : ByteArray)))] 0 (plansB a l) :=
 ⟨AllOk.start h, by simp, by unfold plansB; rw [if_pos ⟨h, h2⟩]; rfl⟩
theorem PlO.inner (h : PlO a l L i R) (hi : i < L.length) : PlN a l L i 0 L[i].1 R := by
 refine ⟨h.ok, ⟨L[i].2, List.getElem?_eq_getElem hi⟩, ?_⟩
 have hf := h.fin
 have := h.ok.len
 rw [show 6000 - i = (6000 - (i + 1)) + 1 by omega, Cap.run_step 6000 (nextP a) hi] at hf
 rw [List.drop_zero]
 exact hf
theorem PlO.done (h : PlO a l L i R) (hi : ¬ i < L.length) : R = some L := by
 have hf := h.fin
 rw [Cap.run_end 6000 (nextP a) (by omega)] at hf
 exact hf.symm
theorem PlN.outer (h : PlN a l L i j x R) (hj : (nextP a i x).length ≤ j) : PlO a l L (i + 1) R := by
 obtain ⟨p, hp⟩ := h.at_
 have hi := (List.getElem?_eq_some_iff.1 hp).1
 refine ⟨h.ok, by omega, ?_⟩
 have hf := h.fin
 rw [List.drop_eq_nil_of_le hj, Cap.puts, Option.bind_some] at hf
 exact hf
theorem PlN.met (h : PlN a l L i j x R) {s : PN} (hs : (nextP a i x)[j]? = some s) (hm : s.1 ∈ L.map Prod.fst) : PlN a l L i (j + 1) x R := by
 refine ⟨h.ok, h.at_, ?_⟩
 obtain ⟨hj, e⟩ := List.getElem?_eq_some_iff.1 hs
 have hf := h.fin
 rw [List.drop_eq_getElem_cons hj, e, Cap.puts, Cap.qBE 6000 hm, Option.bind_some] at hf
 exact hf
theorem PlN.full (h : PlN a l L i j x R) {s : PN} (hs : (nextP a i x)[j]? = some s) (hm : ¬ s.1 ∈ L.map Prod.fst) (hn : L.length = 6000) : R = none := by
 obtain ⟨hj, e⟩ := List.getElem?_eq_some_iff.1 hs
 have hf := h.fin
 rw [List.drop_eq_getElem_cons hj, e, Cap.puts, Cap.put_full 6000 hm hn, Option.bind_none, Option.bind_none] at hf
 exact hf.symm
theorem PlN.new (h : PlN a l L i j x R) {s : PN} (hs : (nextP a i x)[j]? = some s) (hm : ¬ s.1 ∈ L.map Prod.fst) (hn : L.length ≠ 6000) : PlN a l (L ++ [s]) i (j + 1) x R := by
 obtain ⟨hj, e⟩ := List.getElem?_eq_some_iff.1 hs
 obtain ⟨p, hp⟩ := h.at_
 refine ⟨h.ok.add hp (List.mem_of_getElem? hs) hn, ⟨p, ?_⟩, ?_⟩
 ·rw [List.getElem?_append_left (List.getElem?_eq_some_iff.1 hp).1]; exact hp
 ·have hf := h.fin
  rw [List.drop_eq_getElem_cons hj, e, Cap.puts, Cap.qAE 6000 hm hn, Option.bind_some] at hf
  exact hf
theorem PlN.kin (h : PlN a l L i j x R) : kinD a l x := by
 obtain ⟨p, hp⟩ := h.at_
 exact h.ok.kin _ (List.mem_of_getElem? hp)
theorem PlN.lens (h : PlN a l L i j x R) {s : PN} (hs : (nextP a i x)[j]? = some s) : ∀ y ∈ L, y.1.length = s.1.length := fun y hy =>
 (h.ok.kin y hy).1.trans (qiD h.kin i (List.mem_of_getElem? hs)).1.symm
end
end Go.Proofs.YthhiiceligjleaaGreatDoor
