/- The program's TopsAt and the reference's: the same, at all texts, states and cells. -/
import Derived.Test.YtdhbimankkpllaaGreatDoorKFnExactTopsAt2
import Derived.KernelRfl

namespace Go.Proofs.YtdhbimankkpllaaGreatDoor
open Go.RowKit Go.Proofs.YtdhbimankkpllaaGreatDoor.P Go.Proofs.YtdhbimankkpllaaGreatDoorW.PrintWords Go.Proofs.YtdhbimankkpllaaGreatDoorW.PrintLast
set_option linter.unusedVariables false
set_option linter.unusedSimpArgs false
theorem bx_specIn (n a b : Int) : qiA.f n a b = some (decide (a ≤ n) && decide (n ≤ b)) := by
 unfold qiA.f
 by_cases h : n ≥ a
 case pos => rw [if_pos h, decide_eq_true (show a ≤ n from h), Bool.true_and]
 rw [if_neg h, decide_eq_false (show ¬ a ≤ n from h), Bool.false_and]
def rowsL (a : ByteArray) : List (List UInt8) := (sp 47 a.data.toList).1 :: (sp 47 a.data.toList).2
theorem flat_get (w : Nat) : ∀ (L : List (List UInt8)) (i j : Nat), (∀ r ∈ L, r.length = w) → i < L.length → j < w → L.flatten[i * w + j]? = (L[i]?.bind fun r => r[j]?)
 | [], i, j, _, hi, _ => by simp at hi
 | r :: L, 0, j, h, _, hj => by
  have := h r List.mem_cons_self
  simp only [List.flatten_cons, Nat.zero_mul, Nat.zero_add, List.getElem?_cons_zero, Option.bind_some]
  rw [List.getElem?_append_left (by omega)]
 | r :: L, i + 1, j, h, hi, hj => by
  have h1 := h r List.mem_cons_self
  have ih := flat_get w L i j (fun q hq => h q (List.mem_cons_of_mem _ hq)) (by simpa using hi) hj
  simp only [List.flatten_cons, List.getElem?_cons_succ]
  have e : (i + 1) * w + j = r.length + (i * w + j) := by rw [Nat.add_mul, h1]; omega
  rw [e, List.getElem?_append_right (by omega), Nat.add_sub_cancel_left]
  exact ih
structure Gnd (a : ByteArray) : Prop where
 w1 : 1 ≤ wideT a
 w7 : wideT a ≤ 7
 h1 : 1 ≤ highT a
 h7 : highT a ≤ 7
 rows : ∀ r ∈ rowsL a, r.length = wideT a
theorem qwC {a : ByteArray} (h : boardB a = true) : Gnd a := by
 unfold boardB szR at h
 simp only [Bool.and_eq_true, decide_eq_true_eq] at h
 obtain ⟨hr, ⟨⟨⟨g1, g2⟩, g3⟩, g4⟩, g5⟩ := h
 obtain ⟨_, h2⟩ := (qpB a).1 hr
 exact ⟨g3, g4, g1, g2, fun r hr => by
  rcases List.mem_cons.1 hr with rfl | hr
  ·rfl
  ·exact h2 r hr⟩
theorem qxB (a : ByteArray) : (rowsL a).length = highT a := rfl
theorem rowsT_get (a : ByteArray) (i : Nat) (h : i < (rowsT a).length) (h' : i < (rowsL a).length) : ((rowsT a)[i]).data.toList = (rowsL a)[i] := by
 have := qjB a
 have e : ((rowsT a).map (·.data.toList))[i]'(by simpa using h) = (rowsL a)[i] := by
  simp only [this]; rfl
 rwa [List.getElem_map] at e
theorem flatT_eq (a : ByteArray) : flatT a.data.toList = (rowsL a).flatten := rfl
def hasB (a : ByteArray) (x y : Int) : Bool := decide (0 ≤ y) && decide (y ≤ (highT a : Int) - 1) && (decide (0 ≤ x) && decide (x ≤ (wideT a : Int) - 1))
def cellU (a : ByteArray) (x y : Int) : UInt8 := ((rowsL a).getD y.toNat []).getD x.toNat 0
def cellN (a : ByteArray) (x y : Int) : Int := ((cellU a x y).toNat : Int)
theorem qjC (a : ByteArray) (x y : Int) : hasB a x y = true ↔ (0 ≤ y ∧ y < (highT a : Int)) ∧ (0 ≤ x ∧ x < (wideT a : Int)) := by
 unfold hasB
 simp only [Bool.and_eq_true, decide_eq_true_eq]
 omega
theorem gr_size {a : ByteArray} (g : Gnd a) (i : Nat) (h : i < (rowsT a).length) : ((rowsT a)[i]).size = wideT a := by
 have h' : i < (rowsL a).length := by rw [qxB, ← qeB]; exact h
 rw [← qdB, rowsT_get a i h h']
 exact g.rows _ (List.getElem_mem h')
theorem qbD {a : ByteArray} (g : Gnd a) (x y : Int) : qbA.f (rowsT a) x y = some (hasB a x y) := by
 have hl := qeB a
 have h0 : 0 < (rowsT a).length := by rw [hl]; exact g.h1
 have e0 : rdOf ByteArray.empty (rowsT a) 0 = (rowsT a)[0] := qcD (rowsT a) 0 h0
 have e1 := gr_size g 0 h0
 have g1 := g.h7
 have g2 := g.w7
 unfold qbA.f
 rw [qkC, hl, e0, e1]
 have w1 : wrap64 ((highT a : Int) - 1) = (highT a : Int) - 1 := by unfold wrap64; omega
 have w2 : wrap64 ((wideT a : Int) - 1) = (wideT a : Int) - 1 := by unfold wrap64; omega
 rw [w1, w2]
 simp only [Option.bind_some]
 have g0 := g.h1
 unfold hasB
 by_cases h : (decide (0 ≤ y) && decide (y ≤ (highT a : Int) - 1)) = true
 case pos => rw [if_pos h, if_pos (by omega), qkC, h, Bool.true_and]; rfl
 rw [if_neg h, Bool.eq_false_iff.2 h, Bool.false_and]
theorem at_eq {a : ByteArray} (g : Gnd a) (x y : Int) (h : hasB a x y = true) : qRA.f (rowsT a) x y = some (cellN a x y) := by
 obtain ⟨⟨h1, h2⟩, h3, h4⟩ := (qjC a x y).1 h
 obtain ⟨i, rfl⟩ := Int.eq_ofNat_of_zero_le h1
 obtain ⟨j, rfl⟩ := Int.eq_ofNat_of_zero_le h3
 have hl := qeB a
 have hi : i < (rowsT a).length := by omega
 have hi' : i < (rowsL a).length := by rw [qxB]; omega
 have hs := gr_size g i hi
 have hr := rowsT_get a i hi hi'
 have hw := g.rows _ (List.getElem_mem hi')
 unfold qRA.f
 rw [qbD g, h, qcD (rowsT a) i hi]
 simp only [Option.bind_some, if_true]
 rw [if_pos (by omega), if_pos (by omega), if_pos (by omega), if_pos (by rw [hs]; omega)]
 have hj : j < ((rowsT a)[i]).data.toList.length := by rw [qdB, hs]; omega
 rw [gr_bt _ j hj]
 congr 1
 unfold cellN cellU
 have e : (rowsL a).getD i [] = (rowsL a)[i] := by rw [List.getD_eq_getElem?_getD, List.getElem?_eq_getElem hi']; rfl
 have e2 : ((rowsT a)[i]).data.toList[j] = ((rowsL a)[i])[j]'(by rw [← hr]; exact hj) := by simp only [hr]
 rw [e2, Int.toNat_natCast, Int.toNat_natCast, e, List.getD_eq_getElem?_getD, List.getElem?_eq_getElem (by rw [← hr]; exact hj)]
 rfl
theorem qCD {a : ByteArray} (g : Gnd a) (cs : List Int) (x y : Int) : qhA.f (wideT a : Int) (highT a : Int) cs x y = some (hasB a x y) := by
 have g1 := g.h7
 have g2 := g.w7
 unfold qhA.f
 have w1 : wrap64 ((highT a : Int) - 1) = (highT a : Int) - 1 := by unfold wrap64; omega
 have w2 : wrap64 ((wideT a : Int) - 1) = (wideT a : Int) - 1 := by unfold wrap64; omega
 rw [w1, w2, bx_specIn, bx_specIn]
 simp only [Option.bind_some]
 unfold hasB
 by_cases h : (decide (0 ≤ x) && decide (x ≤ (wideT a : Int) - 1)) = true
 case pos => rw [if_pos h, h, Bool.and_true]
 rw [if_neg h, Bool.eq_false_iff.2 h, Bool.and_false]
theorem spec_at {a : ByteArray} (g : Gnd a) (x y : Int) (h : hasB a x y = true) :
  0 ≤ wrap64 (wrap64 (y * (wideT a : Int)) + x) ∧ wrap64 (wrap64 (y * (wideT a : Int)) + x) < ((numsOf (flatT a.data.toList)).length : Int) ∧ rd (numsOf (flatT a.data.toList)) (wrap64 (wrap64 (y * (wideT a : Int)) + x)) = cellN a x y := by
 obtain ⟨⟨h1, h2⟩, h3, h4⟩ := (qjC a x y).1 h
 obtain ⟨i, rfl⟩ := Int.eq_ofNat_of_zero_le h1
 obtain ⟨j, rfl⟩ := Int.eq_ofNat_of_zero_le h3
 have g1 := g.h7
 have g2 := g.w7
 have hi' : i < (rowsL a).length := by rw [qxB]; omega
 have hf := flat_get (wideT a) (rowsL a) i j g.rows hi' (by omega)
 have hw := g.rows _ (List.getElem_mem hi')
 have hj : j < ((rowsL a)[i]).length := by omega
 rw [List.getElem?_eq_getElem hi', Option.bind_some, List.getElem?_eq_getElem hj] at hf
 have hm : i * wideT a ≤ 7 * 7 := Nat.mul_le_mul (by omega) g2
 have ec : ((i : Int) * (wideT a : Int)) = ((i * wideT a : Nat) : Int) := by push_cast; rfl
 rw [ec]
 have e : wrap64 (wrap64 ((i * wideT a : Nat) : Int) + (j : Int)) = ((i * wideT a + j : Nat) : Int) := by
  generalize i * wideT a = m at *
  unfold wrap64; omega
 rw [e, flatT_eq]
 obtain ⟨hlt, hv⟩ := List.getElem?_eq_some_iff.1 hf
 refine ⟨by omega, ?_, ?_⟩
 ·unfold numsOf
  rw [List.length_map]; omega
 ·unfold rd numsOf cellN cellU
  rw [Int.toNat_natCast, List.getD_eq_getElem?_getD, List.getElem?_map, hf, Int.toNat_natCast, Int.toNat_natCast, List.getD_eq_getElem?_getD (l := rowsL a), List.getElem?_eq_getElem hi']
  simp only [Option.map_some, Option.getD_some]
  rw [List.getD_eq_getElem?_getD, List.getElem?_eq_getElem hj]
  rfl
theorem at_all {a : ByteArray} (g : Gnd a) (x y : Int) : qRA.f (rowsT a) x y = some (if hasB a x y = true then cellN a x y else 0) := by
 cases h : hasB a x y with
 | true => rw [at_eq g x y h]; rfl
 | false =>
  unfold qRA.f
  rw [qbD g, h]; rfl
def floorB (a : ByteArray) (x y : Int) : Bool := hasB a x y && (cellN a x y == 46)
theorem at_floor {a : ByteArray} (g : Gnd a) (x y : Int) : ∃ c, qRA.f (rowsT a) x y = some c ∧ decide (c = 46) = floorB a x y := by
 refine ⟨_, at_all g x y, ?_⟩
 unfold floorB
 cases h : hasB a x y with
 | true => rw [if_pos rfl, Bool.true_and]; rfl
 | false => rw [if_neg (by decide)]; rfl
end Go.Proofs.YtdhbimankkpllaaGreatDoor
namespace Go.Proofs.YtdhbimankkpllaaGreatDoor.P
open Go.RowKit Go.Proofs.YtdhbimankkpllaaGreatDoorW.PrintWords Go.Proofs.YtdhbimankkpllaaGreatDoorW.PrintLast Go.Proofs.YtdhbimankkpllaaGreatDoorW.PrintMore
attribute [local go_sem] qq qo qBA qAA qe qd qp qn
set_option linter.unusedVariables false
set_option linter.unusedSimpArgs false
def qPB.f (a0_0 : Int) (a0_1 : Int) (a0_2 : Int) (a0_3 : Int) (a0_4 : Int) (a0_5 : Int) : Option (List Int) := some (([a0_0, a0_1, a0_2, a0_3, a0_4, a0_5] : List Int))
set_option maxHeartbeats 8000000 in
set_option maxRecDepth 100000 in
theorem qPB.calls (a0_0 : Int) (a0_1 : Int) (a0_2 : Int) (a0_3 : Int) (a0_4 : Int) (a0_5 : Int) (r : List Int) (w : World) (h : qPB.f a0_0 a0_1 a0_2 a0_3 a0_4 a0_5 = some r) :
  Calls Tryz.prog 51 #[.agg #[.int .i64 a0_0, .int .i64 a0_1, .int .i64 a0_2, .int .i64 a0_3, .int .i64 a0_4, .int .i64 a0_5]] w fun e w' => ∃ v0_ : Value, e = .returned (v0_) ∧ Kd.R (Kd.int .i64) 3 w' w.heap.size (fun _ => True) v0_ r ∧ Below w.heap.size w w' := by
 have hu29 := Tryz.underlying29
 have HB := aM (Below.refl w.heap.size w)
 have H : (some (([a0_0, a0_1, a0_2, a0_3, a0_4, a0_5] : List Int))) = some r := h
 clear h
 obtain ⟨y361, hy361⟩ : ∃ y_ : List Int, y_ = (([a0_0, a0_1, a0_2, a0_3, a0_4, a0_5] : List Int)) := ⟨_, rfl⟩
 replace H : (some y361) = some r := by first | (rw [hy361]; with_reducible exact H) | (have H2_ := (Option.bind_some _ _).symm.trans H; rw [hy361]; with_reducible exact H2_) | (have H2_ := (Option.bind_some _ _).symm.trans H; with_reducible exact H2_) | with_reducible exact H | (rw [hy361]; exact H) | exact H
 have Ny361 := aM hy361
 clear hy361
 obtain rfl := Option.some.inj H
 go_enter Tryz.func51, Tryz.ntmps51
 go_wp2_with (first | ((with_reducible refine qN (N := 1) rfl ?_); refine bE (N := 1) (cs := #[.int .i64 a0_0, .int .i64 a0_1, .int .i64 a0_2, .int .i64 a0_3, .int .i64 a0_4, .int .i64 a0_5]) (t := 29) ?_; intro gb360 hg w2 hbox hb; have BK360 := aM (hbox); have GW360 := aM ((gg hg)); have GE360 := aM ((gg hg)); replace HB := aM (qB bl hb); clear hb hbox hg; (refine cb6 BK360 ?_; intro _ _ _ _ _ _); (refine cz6 BK360 ?_; intro _ _ _ _ _ _)) | ((with_reducible refine qN (N := 15) rfl ?_); refine Kd.R_lit (Kd.int .i64) _ 3 ?hg (N := 15) ?hd (xs := ([a0_0, a0_1, a0_2, a0_3, a0_4, a0_5] : List Int)) (inner := [.int .i64 a0_0, .int .i64 a0_1, .int .i64 a0_2, .int .i64 a0_3, .int .i64 a0_4, .int .i64 a0_5]) (ok := fun _ => True) (okp := fun _ => True) ?hr ?hp (fun _ hk => hk) trivial (Below.refl _ _) (Nat.le_refl _) (by simp) ?_; (case hd => rfl); (case hg => rfl); (case hr => exact gS); (case hp => exact (Reps.one (show Kd.M (Kd.int .i64) _ _ _ a0_0 [.int .i64 a0_0] from rfl) (Reps.one (show Kd.M (Kd.int .i64) _ _ _ a0_1 [.int .i64 a0_1] from rfl) (Reps.one (show Kd.M (Kd.int .i64) _ _ _ a0_2 [.int .i64 a0_2] from rfl) (Reps.one (show Kd.M (Kd.int .i64) _ _ _ a0_3 [.int .i64 a0_3] from rfl) (Reps.one (show Kd.M (Kd.int .i64) _ _ _ a0_4 [.int .i64 a0_4] from rfl) (Reps.one (show Kd.M (Kd.int .i64) _ _ _ a0_5 [.int .i64 a0_5] from rfl) (Reps.none _ _)))))))); intro v362 w4 ho5 hb hg_ hnew_; clear hg_ hnew_; (first | rw [← Ny361.out] at ho5 | (simp only [Int.reduceToNat] at ho5; rw [← Ny361.out] at ho5)); have HO363 := aM (Kd.qHA ho5 (qT bl)); replace BK360 := aM (bb BK360 hb); replace HB := aM (qB bl hb); clear hb ho5))
 go_ret
 exact ⟨_, sR, by (with_reducible repeat (first | apply Kd.qR | apply Kd.qU | apply Kd.qQ)); exact HO363.out, bl⟩
def qFB.f (a0 : Int) : Option (Bool) := (qmA.f a0 0 9).bind fun t364 => (some (!t364))
set_option maxHeartbeats 8000000 in
set_option maxRecDepth 100000 in
theorem qFB.calls (a0 : Int) (r : Bool) (w : World) (h : qFB.f a0 = some r) :
  Calls Tryz.prog 90 #[.int .i64 a0] w fun e w' => e = .returned (.bool r) ∧ Drawn0 w w' := by
 have H : ((qmA.f a0 0 9).bind fun t364 => (some (!t364))) = some r := h
 clear h
 replace H := bO H
 obtain ⟨t364, A2, H⟩ := H
 obtain rfl := Option.some.inj H
 go_enter Tryz.func90, Tryz.ntmps90
 go_wp2_with (first | ((with_reducible refine qF (f := 47) rfl ?_); refine qh (some 4) rfl rfl Tryz.func47 (by kernel_rfl) rfl #[.int .i64 a0, .int .i64 0, .int .i64 9] rfl gA ?_; (with_reducible refine (qmA.calls a0 0 9 t364 _ A2.out).mono ?_); rintro e w' ⟨rfl, ⟨nd, rfl⟩⟩; refine ⟨_, rfl, ?_⟩))
 go_ret
 exact ⟨by first | rfl | (simp; done) | (simp [*]; done), dR⟩
def qG.l0 : Nat → List Int → Int → Int → Option (Int)
 | 0, _, _, _ => none
 | k + 1, x0, x7, x8 => if x8 < x7 then (if 0 ≤ x8 then (if x8 < (x0.length : Int) then ((qFB.f (rd x0 x8)).bind fun t366 => (if t366 = true then (some x8) else (qG.l0 k x0 x7 (wrap64 (x8 + 1))))) else (none)) else (none)) else (some (-1))
def qG.f (k : Nat) (l0 : List Int)  : Option (Int) := qG.l0 k l0 (l0.length : Int) 0
set_option maxHeartbeats 8000000 in
set_option maxRecDepth 100000 in
theorem qG.calls (k : Nat) (A0 : Option Addr) (c0 : Nat) (l0 : List Int)  (r : Int) (w : World) (hr0 : Kd.C (Kd.int .i64) w A0 l0.length l0) (hc0 : l0.length ≤ c0) (h : qG.f k l0 = some r) :
  Calls Tryz.prog 99 #[.slice A0 l0.length c0, .func (.func 90) #[] #[]] w fun e w' => e = .returned (.int .i64 r) ∧ Drawn0 w w' := by
 have HR0 := aM hr0
 have HC0 := aM hc0
 clear hr0 hc0
 have H : (qG.l0 k l0 (l0.length : Int) 0) = some r := h
 clear h
 have H' := aM H
 clear H
 go_enter Tryz.func99, Tryz.ntmps99
 go_wp2
 go_loopg [8] k (fun kq v8 w' => ∃ (x8_1 : Int), v8 = .int .i64 x8_1 ∧ Aside0 (qG.l0 kq l0 (l0.length : Int) x8_1 = some r) ∧ Aside0 (kq ≤ k) ∧ Drawn0 w w')
 case atStart => exact ⟨(0), sD, H', ⟨Nat.le_refl _⟩, dR⟩
 case round =>
  clear H'; (try clear p2)
  obtain ⟨x8_1, rfl, HA, HK1, ⟨m1, rfl⟩⟩ := hrel
  cases gk with
  | zero => exact absurd HA.out (by simp [qG.l0])
  | succ k1 =>
   have H := HA.out
   clear HA
   simp only [qG.l0] at H
   by_cases c3 : x8_1 < (l0.length : Int)
   ·rw [if_pos c3] at H
    have c3b0 := decide_eq_true c3
    clear c3
    by_cases c4 : 0 ≤ x8_1
    case neg => exact nN c4 H
    rw [if_pos c4] at H
    have c4b0 := decide_eq_true c4
    clear c4
    by_cases c5 : x8_1 < (l0.length : Int)
    case neg => exact nN c5 H
    rw [if_pos c5] at H
    have c5b0 := decide_eq_true c5
    clear c5
    replace H := bO H
    obtain ⟨t366, A6, H⟩ := H
    by_cases c7 : t366 = true
    ·subst c7
     replace H := iT H
     obtain rfl := Option.some.inj H
     have p365 : 0 ≤ (x8_1 : Int) := of_decide_eq_true am
     have q365 : x8_1 < (l0.length : Int) := of_decide_eq_true am
     obtain ⟨ad365, e365, hx365_0⟩ := Kd.qjA HR0.out x8_1 p365 q365
     cases e365
     replace p365 := eq_true p365
     replace q365 := eq_true q365
     go_wp2_with (first | ((with_reducible refine gate_value (s := 11) rfl ?_); refine goesLV_ (some 16) 11 rfl rfl Tryz.func90 (by kernel_rfl) rfl #[.int .i64 (rd l0 x8_1)] rfl rfl gA ?_; (with_reducible refine (qFB.calls (rd l0 x8_1) true _ A6.out).mono ?_); rintro e w' ⟨rfl, ⟨nd, rfl⟩⟩; refine ⟨_, rfl, ?_⟩))
     go_ret
     exact ⟨by first | rfl | (simp; done) | (simp [*]; done), dR⟩
    ·replace c7 := Bool.eq_false_iff.mpr c7
     subst c7
     replace H := iF H
     have H' := aM H
     clear H
     have p365 : 0 ≤ (x8_1 : Int) := of_decide_eq_true am
     have q365 : x8_1 < (l0.length : Int) := of_decide_eq_true am
     obtain ⟨ad365, e365, hx365_0⟩ := Kd.qjA HR0.out x8_1 p365 q365
     cases e365
     replace p365 := eq_true p365
     replace q365 := eq_true q365
     go_wp2_with (first | ((with_reducible refine gate_value (s := 11) rfl ?_); refine goesLV_ (some 16) 11 rfl rfl Tryz.func90 (by kernel_rfl) rfl #[.int .i64 (rd l0 x8_1)] rfl rfl gA ?_; (with_reducible refine (qFB.calls (rd l0 x8_1) false _ A6.out).mono ?_); rintro e w' ⟨rfl, ⟨nd, rfl⟩⟩; refine ⟨_, rfl, ?_⟩))
     go_roundg k1
     case measure => have := HK1.out; omega
     case rel => exact ⟨(wrap64 (x8_1 + 1)), sD, H', ⟨by have := HK1.out; omega⟩, dR⟩
   ·rw [if_neg c3] at H
    have c3b0 := decide_eq_false c3
    clear c3
    obtain rfl := Option.some.inj H
    go_wp2
    go_ret
    exact ⟨by first | rfl | (simp; done) | (simp [*]; done), dR⟩
def qg.f (k : Nat) (l0 : List Int)  : Option (Bool) := (qG.f k l0).bind fun t367 => (some (decide (t367 ≥ 0)))
set_option maxHeartbeats 8000000 in
set_option maxRecDepth 100000 in
theorem qg.calls (k : Nat) (A0 : Option Addr) (c0 : Nat) (l0 : List Int)  (r : Bool) (w : World) (hr0 : Kd.C (Kd.int .i64) w A0 l0.length l0) (hc0 : l0.length ≤ c0) (h : qg.f k l0 = some r) :
  Calls Tryz.prog 89 #[.slice A0 l0.length c0, .func (.func 90) #[] #[]] w fun e w' => e = .returned (.bool r) ∧ Drawn0 w w' := by
 have HR0 := aM hr0
 have HC0 := aM hc0
 clear hr0 hc0
 have H : ((qG.f k l0).bind fun t367 => (some (decide (t367 ≥ 0)))) = some r := h
 clear h
 replace H := bO H
 obtain ⟨t367, A3, H⟩ := H
 obtain rfl := Option.some.inj H
 go_enter Tryz.func89, Tryz.ntmps89
 go_wp2_with (first | ((with_reducible refine qF (f := 99) rfl ?_); refine qh (some 7) rfl rfl Tryz.func99 (by kernel_rfl) rfl #[.slice A0 l0.length c0, .func (.func 90) #[] #[]] rfl gA ?_; (with_reducible refine (qG.calls k _ _ l0  t367 _ ?side1 ?side2 A3.out).mono ?_); (case side1 => repeat (first | exact HR0.out | (with_reducible refine Kd.qc ?_ _) | (with_reducible refine Kd.qb ?_ _) | (with_reducible refine Kd.qu ?_))); (case side2 => exact HC0.out); rintro e w' ⟨rfl, ⟨nd, rfl⟩⟩; refine ⟨_, rfl, ?_⟩))
 go_ret
 exact ⟨by first | rfl | (simp; done) | (simp [*]; done), dR⟩
def qUB.f (k : Nat) (a0_0 : Int) (a0_1 : Int) (a0_2 : Int) (a0_3 : Int) (a0_4 : Int) (a0_5 : Int) : Option (Bool) := (qPB.f a0_0 a0_1 a0_2 a0_3 a0_4 a0_5).bind fun t369 => ((qg.f k t369).bind fun t372 => (some (!t372)))
set_option maxHeartbeats 8000000 in
set_option maxRecDepth 100000 in
theorem qUB.calls (k : Nat) (a0_0 : Int) (a0_1 : Int) (a0_2 : Int) (a0_3 : Int) (a0_4 : Int) (a0_5 : Int) (r : Bool) (w : World) (h : qUB.f k a0_0 a0_1 a0_2 a0_3 a0_4 a0_5 = some r) :
  Calls Tryz.prog 74 #[.agg #[.int .i64 a0_0, .int .i64 a0_1, .int .i64 a0_2, .int .i64 a0_3, .int .i64 a0_4, .int .i64 a0_5]] w fun e w' => e = .returned (.bool r) ∧ Below w.heap.size w w' := by
 have hu29 := Tryz.underlying29
 have HB := aM (Below.refl w.heap.size w)
 have H : ((qPB.f a0_0 a0_1 a0_2 a0_3 a0_4 a0_5).bind fun t369 => ((qg.f k t369).bind fun t372 => (some (!t372)))) = some r := h
 clear h
 replace H := bO H
 obtain ⟨t369, A2, H⟩ := H
 replace H := bO H
 obtain ⟨t372, A3, H⟩ := H
 obtain rfl := Option.some.inj H
 go_enter Tryz.func74, Tryz.ntmps74
 go_wp2_with (first | ((with_reducible refine qN (N := 1) rfl ?_); refine bE (N := 1) (cs := #[.int .i64 a0_0, .int .i64 a0_1, .int .i64 a0_2, .int .i64 a0_3, .int .i64 a0_4, .int .i64 a0_5]) (t := 29) ?_; intro gb368 hg w4 hbox hb; have BK368 := aM (hbox); have GW368 := aM ((gg hg)); have GE368 := aM ((gg hg)); replace HB := aM (qB bl hb); clear hb hbox hg; (refine cb6 BK368 ?_; intro _ _ _ _ _ _); (refine cz6 BK368 ?_; intro _ _ _ _ _ _)) | ((with_reducible refine qF (f := 51) rfl ?_); refine qh (some 4) rfl rfl Tryz.func51 (by kernel_rfl) rfl #[.agg #[.int .i64 a0_0, .int .i64 a0_1, .int .i64 a0_2, .int .i64 a0_3, .int .i64 a0_4, .int .i64 a0_5]] rfl gA ?_; (with_reducible refine (qPB.calls a0_0 a0_1 a0_2 a0_3 a0_4 a0_5 t369 _ A2.out).mono ?_); rintro e w6 ⟨v370, rfl, ho0, hb⟩; refine ⟨_, rfl, ?_⟩; have HO371 := aM (Kd.qHA ho0 (qT bl)); replace BK368 := aM (bb BK368 hb); replace HB := aM (qB bl hb); (try clear hb); (try clear hb2); (try clear hk); (try clear hi); (try clear ho0); obtain ⟨Ao7, co7, eo7⟩ := Kd.qi HO371.out; subst eo7) | ((with_reducible refine qF (f := 89) rfl ?_); refine qh (some 5) rfl rfl Tryz.func89 (by kernel_rfl) rfl #[.slice Ao7 t369.length co7, .func (.func 90) #[] #[]] rfl gA ?_; (with_reducible refine (qg.calls k _ _ t369  t372 _ ?side1 ?side2 A3.out).mono ?_); (case side1 => repeat (first | exact (Kd.qE HO371.out).2.2 | (with_reducible refine Kd.qc ?_ _) | (with_reducible refine Kd.qb ?_ _) | (with_reducible refine Kd.qu ?_))); (case side2 => exact (Kd.qE HO371.out).2.1); rintro e w' ⟨rfl, ⟨nd, rfl⟩⟩; refine ⟨_, rfl, ?_⟩))
 go_ret
 exact ⟨sR, bl⟩
end Go.Proofs.YtdhbimankkpllaaGreatDoor.P
namespace Go.Proofs.YtdhbimankkpllaaGreatDoor
open Go.RowKit Go.Proofs.YtdhbimankkpllaaGreatDoor.P Go.Proofs.YtdhbimankkpllaaGreatDoorW.PrintWords Go.Proofs.YtdhbimankkpllaaGreatDoorW.PrintLast
set_option linter.unusedVariables false
set_option linter.unusedSimpArgs false
def inFace (n : Int) : Bool := decide (0 ≤ n) && decide (n ≤ 9)
def dieB (a b c d e f : Int) : Bool := [a, b, c, d, e, f].all inFace
theorem rdn (l : List Int) (i : Nat) (h : i < l.length) : rd l (i : Int) = l[i] := by
 unfold rd
 rw [Int.toNat_natCast, List.getD_eq_getElem?_getD, List.getElem?_eq_getElem h]; rfl
theorem spec_l1In_eq (n a b : Int) : qiA.f n a b = some (decide (a ≤ n) && decide (n ≤ b)) := by
 unfold qiA.f
 by_cases h : n ≥ a
 case pos => rw [if_pos h, decide_eq_true (show a ≤ n from h), Bool.true_and]
 rw [if_neg h, decide_eq_false (show ¬ a ≤ n from h), Bool.false_and]
theorem impl_in_eq (n a b : Int) : qmA.f n a b = some (decide (a ≤ n) && decide (n ≤ b)) := by
 unfold qmA.f
 by_cases h : a ≤ n
 case pos => rw [if_pos h, decide_eq_true h, Bool.true_and]
 rw [if_neg h, decide_eq_false h, Bool.false_and]
theorem l1All_loop (l : List Int) (a b : Int) (hl : l.length ≤ 140737488355328) (d : Nat) : ∀ i : Nat, i ≤ l.length → l.length - i = d →
  Ev (fun k => qTA.l0 k a b l (l.length : Int) (i : Int)) ((l.drop i).all fun n => decide (a ≤ n) && decide (n ≤ b)) := by
 induction d with
 | zero =>
  intro i hi hd
  refine Ev.step (f := fun k => _) (fun k => by rw [qTA.l0]) (Ev.neg (by omega) (Ev.some_ ?_))
  rw [List.drop_eq_nil_of_le (by omega)]; rfl
 | succ d ih =>
  intro i hi hd
  have h : i < l.length := by omega
  refine Ev.step (f := fun k => _) (fun k => by rw [qTA.l0]) (Ev.pos (by omega) (Ev.pos (by omega) (Ev.pos (by omega) (Ev.bindc (spec_l1In_eq _ _ _) ?_))))
  rw [rdn l i h, List.drop_eq_getElem_cons h, List.all_cons, show wrap64 ((i : Int) + 1) = ((i + 1 : Nat) : Int) by unfold wrap64; omega]
  cases hb : (decide (a ≤ l[i]) && decide (l[i] ≤ b)) with
  | true => exact Ev.pos rfl (ih (i + 1) (by omega) (by omega))
  | false => exact Ev.neg (by decide) (Ev.some_ rfl)
theorem spec_l1All_ev (l : List Int) (a b : Int) (hl : l.length ≤ 140737488355328) : Ev (fun k => qTA.f k l a b) (l.all fun n => decide (a ≤ n) && decide (n ≤ b)) := by
 have := l1All_loop l a b hl l.length 0 (by omega) (by omega)
 simpa [qTA.f] using this
theorem spec_diGood_ev (a b c d e f : Int) : Ev (fun k => qRB.f k a b c d e f) (dieB a b c d e f) := by
 unfold qRB.f
 exact Ev.bindc rfl (Ev.bind (spec_l1All_ev [a, b, c, d, e, f] 0 9 (by simp)) (Ev.some_ rfl))
theorem isDie1_eq (n : Int) : qFB.f n = some (!inFace n) := by
 unfold qFB.f
 rw [impl_in_eq]; rfl
theorem idxDie_loop (l : List Int) (hl : l.length ≤ 140737488355328) (d : Nat) : ∀ i : Nat, i ≤ l.length → l.length - i = d →
  ∃ r : Int, Ev (fun k => qG.l0 k l (l.length : Int) (i : Int)) r ∧ decide (r ≥ 0) = !((l.drop i).all inFace) := by
 induction d with
 | zero =>
  intro i hi hd
  refine ⟨-1, Ev.step (f := fun k => _) (fun k => by rw [qG.l0]) (Ev.neg (by omega) (Ev.some_ rfl)), ?_⟩
  rw [List.drop_eq_nil_of_le (by omega)]; rfl
 | succ d ih =>
  intro i hi hd
  have h : i < l.length := by omega
  rw [List.drop_eq_getElem_cons h, List.all_cons]
  cases hb : inFace l[i] with
  | true =>
   obtain ⟨r, h1, h2⟩ := ih (i + 1) (by omega) (by omega)
   refine ⟨r, Ev.step (f := fun k => _) (fun k => by rw [qG.l0]) (Ev.pos (by omega) (Ev.pos (by omega) (Ev.pos (by omega) (Ev.bindc (isDie1_eq _) ?_)))), by rw [Bool.true_and]; exact h2⟩
   rw [rdn l i h, hb, show wrap64 ((i : Int) + 1) = ((i + 1 : Nat) : Int) by unfold wrap64; omega]
   exact Ev.neg (by decide) h1
  | false =>
   refine ⟨(i : Int), Ev.step (f := fun k => _) (fun k => by rw [qG.l0]) (Ev.pos (by omega) (Ev.pos (by omega) (Ev.pos (by omega) (Ev.bindc (isDie1_eq _) ?_)))), ?_⟩
   ·rw [rdn l i h, hb]
    exact Ev.pos rfl (Ev.now _)
   ·rw [Bool.false_and]; exact decide_eq_true (by omega)
theorem impl_IsDie_ev (a b c d e f : Int) : Ev (fun k => qUB.f k a b c d e f) (dieB a b c d e f) := by
 obtain ⟨r, h1, h2⟩ := idxDie_loop [a, b, c, d, e, f] (by simp) 6 0 (by simp) (by simp)
 unfold qUB.f qg.f qG.f
 refine Ev.bindc rfl (Ev.bind (a := decide (r ≥ 0)) (Ev.bind h1 (Ev.now _)) (Ev.some_ ?_))
 rw [h2]
 simp [dieB]
theorem dieB_face {a b c d e f : Int} (h : dieB a b c d e f = true) : ∀ n ∈ [a, b, c, d, e, f], 0 ≤ n ∧ n ≤ 9 := by
 intro n hn
 have := List.all_eq_true.1 h n hn
 simpa [inFace] using this
end Go.Proofs.YtdhbimankkpllaaGreatDoor
namespace Go.Proofs.YtdhbimankkpllaaGreatDoor.P
open Go.RowKit Go.Proofs.YtdhbimankkpllaaGreatDoorW.PrintWords Go.Proofs.YtdhbimankkpllaaGreatDoorW.PrintLast Go.Proofs.YtdhbimankkpllaaGreatDoorW.PrintMore
attribute [local go_sem] qq qo qBA qAA qe qd qp qn
set_option linter.unusedVariables false
set_option linter.unusedSimpArgs false
def qaA.f (k : Nat) (l0 : List ByteArray) (a1_0 : Int) (a1_1 : Int) (a1_2 : Int) (a1_3 : Int) (a1_4 : Int) (a1_5 : Int) (a1_6 : Int) (a1_7 : Int) : Option (Bool) := (qUB.f k a1_2 a1_3 a1_4 a1_5 a1_6 a1_7).bind fun t374 => (if t374 = true then ((qRA.f l0 a1_0 a1_1).bind fun t375 => (some (t375 == 46))) else (some false))
set_option maxHeartbeats 8000000 in
set_option maxRecDepth 100000 in
theorem qaA.calls (k : Nat) (A0 : Option Addr) (c0 : Nat) (l0 : List ByteArray) (a1_0 : Int) (a1_1 : Int) (a1_2 : Int) (a1_3 : Int) (a1_4 : Int) (a1_5 : Int) (a1_6 : Int) (a1_7 : Int) (r : Bool) (w : World) (hr0 : Kd.C Kd.string w A0 l0.length l0) (hc0 : l0.length ≤ c0) (h : qaA.f k l0 a1_0 a1_1 a1_2 a1_3 a1_4 a1_5 a1_6 a1_7 = some r) :
  Calls Tryz.prog 56 #[.slice A0 l0.length c0, .agg #[.int .i64 a1_0, .int .i64 a1_1, .int .i64 a1_2, .int .i64 a1_3, .int .i64 a1_4, .int .i64 a1_5, .int .i64 a1_6, .int .i64 a1_7]] w fun e w' => e = .returned (.bool r) ∧ Below w.heap.size w w' := by
 have hu31 := Tryz.underlying31
 have hu29 := Tryz.underlying29
 have HR0 := aM hr0
 have HC0 := aM hc0
 clear hr0 hc0
 have HB := aM (Below.refl w.heap.size w)
 have H : ((qUB.f k a1_2 a1_3 a1_4 a1_5 a1_6 a1_7).bind fun t374 => (if t374 = true then ((qRA.f l0 a1_0 a1_1).bind fun t375 => (some (t375 == 46))) else (some false))) = some r := h
 clear h
 replace H := bO H
 obtain ⟨t374, A3, H⟩ := H
 by_cases c4 : t374 = true
 ·subst c4
  replace H := iT H
  replace H := bO H
  obtain ⟨t375, A5, H⟩ := H
  obtain rfl := Option.some.inj H
  go_enter Tryz.func56, Tryz.ntmps56
  go_wp2_with (first | ((with_reducible refine qN (N := 3) rfl ?_); refine bE (N := 3) (cs := #[.int .i64 a1_0, .int .i64 a1_1, .int .i64 a1_2, .int .i64 a1_3, .int .i64 a1_4, .int .i64 a1_5, .int .i64 a1_6, .int .i64 a1_7]) (t := 31) ?_; intro gb373 hg w6 hbox hb; have BK373 := aM (hbox); have GW373 := aM ((gg hg)); have GE373 := aM ((gg hg)); replace HB := aM (qB bl hb); clear hb hbox hg; (refine cb8 BK373 ?_; intro _ _ _ _ _ _ _ _); (refine cz8 BK373 ?_; intro _ _ _ _ _ _ _ _)) | ((with_reducible refine qF (f := 74) rfl ?_); refine qh (some 7) rfl rfl Tryz.func74 (by kernel_rfl) rfl #[.agg #[.int .i64 a1_2, .int .i64 a1_3, .int .i64 a1_4, .int .i64 a1_5, .int .i64 a1_6, .int .i64 a1_7]] rfl gA ?_; (with_reducible refine (qUB.calls k a1_2 a1_3 a1_4 a1_5 a1_6 a1_7 true _ A3.out).mono ?_); rintro e w8 ⟨rfl, hb⟩; refine ⟨_, rfl, ?_⟩; replace BK373 := aM (bb BK373 hb); replace HB := aM (qB bl hb); (try clear hb); (try clear hb2); (try clear hk); (try clear hi); (refine cb8 BK373 ?_; intro _ _ _ _ _ _ _ _); (refine cz8 BK373 ?_; intro _ _ _ _ _ _ _ _)) | (go_at_call 59; (with_reducible refine (qRA.calls _ _ l0 a1_0 a1_1 t375 _ ?side1 ?side2 A5.out).mono ?_); (case side1 => repeat (first | exact (Kd.qPA HR0.out HB.out) | (with_reducible refine Kd.qc ?_ _) | (with_reducible refine Kd.qb ?_ _) | (with_reducible refine Kd.qu ?_))); (case side2 => exact HC0.out); rintro e w' ⟨rfl, ⟨nd, rfl⟩⟩))
  go_ret
  exact ⟨sR, bl⟩
 ·replace c4 := Bool.eq_false_iff.mpr c4
  subst c4
  replace H := iF H
  obtain rfl := Option.some.inj H
  go_enter Tryz.func56, Tryz.ntmps56
  go_wp2_with (first | ((with_reducible refine qN (N := 3) rfl ?_); refine bE (N := 3) (cs := #[.int .i64 a1_0, .int .i64 a1_1, .int .i64 a1_2, .int .i64 a1_3, .int .i64 a1_4, .int .i64 a1_5, .int .i64 a1_6, .int .i64 a1_7]) (t := 31) ?_; intro gb373 hg w10 hbox hb; have BK373 := aM (hbox); have GW373 := aM ((gg hg)); have GE373 := aM ((gg hg)); replace HB := aM (qB bl hb); clear hb hbox hg; (refine cb8 BK373 ?_; intro _ _ _ _ _ _ _ _); (refine cz8 BK373 ?_; intro _ _ _ _ _ _ _ _)) | ((with_reducible refine qF (f := 74) rfl ?_); refine qh (some 7) rfl rfl Tryz.func74 (by kernel_rfl) rfl #[.agg #[.int .i64 a1_2, .int .i64 a1_3, .int .i64 a1_4, .int .i64 a1_5, .int .i64 a1_6, .int .i64 a1_7]] rfl gA ?_; (with_reducible refine (qUB.calls k a1_2 a1_3 a1_4 a1_5 a1_6 a1_7 false _ A3.out).mono ?_); rintro e w12 ⟨rfl, hb⟩; refine ⟨_, rfl, ?_⟩; replace BK373 := aM (bb BK373 hb); replace HB := aM (qB bl hb); (try clear hb); (try clear hb2); (try clear hk); (try clear hi)))
  go_ret
  exact ⟨sR, bl⟩
def qcB.f (a0 : Int) (a1 : Int) (a2 : Int) : Option (Int × Int) := if a2 = 110 then (some (a0, wrap64 (a1 - 1))) else (if a2 = 101 then (some (wrap64 (a0 + 1), a1)) else (if a2 = 115 then (some (a0, wrap64 (a1 + 1))) else (some (wrap64 (a0 - 1), a1))))
set_option maxHeartbeats 8000000 in
set_option maxRecDepth 100000 in
theorem qcB.calls (a0 : Int) (a1 : Int) (a2 : Int) (r1 : Int) (r2 : Int) (w : World) (h : qcB.f a0 a1 a2 = some (r1, r2)) :
  Calls Tryz.prog 57 #[.int .i64 a0, .int .i64 a1, .int .u8 a2] w fun e w' => e = .returned (.tuple #[.int .i64 r1, .int .i64 r2]) ∧ Drawn0 w w' := by
 have H : (if a2 = 110 then (some (a0, wrap64 (a1 - 1))) else (if a2 = 101 then (some (wrap64 (a0 + 1), a1)) else (if a2 = 115 then (some (a0, wrap64 (a1 + 1))) else (some (wrap64 (a0 - 1), a1))))) = some (r1, r2) := h
 clear h
 by_cases c4 : a2 = 110
 ·rw [if_pos c4] at H
  have c4b0 := beq_iff_eq.mpr c4
  have c4b1 := bne_eq_false_iff_eq.mpr c4
  clear c4
  simp only [Option.some.injEq, Prod.mk.injEq] at H
  obtain ⟨rfl, rfl⟩ := H
  go_enter Tryz.func57, Tryz.ntmps57
  go_wp2
  go_ret2
  exact ⟨by first | rfl | (simp; done) | (simp [*]; done), dR⟩
 ·rw [if_neg c4] at H
  have c4b0 := beq_eq_false_iff_ne.mpr c4
  have c4b1 := bne_iff_ne.mpr c4
  by_cases c5 : a2 = 101
  ·rw [if_pos c5] at H
   have c5b0 := beq_iff_eq.mpr c5
   have c5b1 := bne_eq_false_iff_eq.mpr c5
   clear c5
   simp only [Option.some.injEq, Prod.mk.injEq] at H
   obtain ⟨rfl, rfl⟩ := H
   go_enter Tryz.func57, Tryz.ntmps57
   go_wp2
   go_ret2
   exact ⟨by first | rfl | (simp; done) | (simp [*]; done), dR⟩
  ·rw [if_neg c5] at H
   have c5b0 := beq_eq_false_iff_ne.mpr c5
   have c5b1 := bne_iff_ne.mpr c5
   by_cases c6 : a2 = 115
   ·rw [if_pos c6] at H
    have c6b0 := beq_iff_eq.mpr c6
    have c6b1 := bne_eq_false_iff_eq.mpr c6
    clear c6
    simp only [Option.some.injEq, Prod.mk.injEq] at H
    obtain ⟨rfl, rfl⟩ := H
    go_enter Tryz.func57, Tryz.ntmps57
    go_wp2
    go_ret2
    exact ⟨by first | rfl | (simp; done) | (simp [*]; done), dR⟩
   ·rw [if_neg c6] at H
    have c6b0 := beq_eq_false_iff_ne.mpr c6
    have c6b1 := bne_iff_ne.mpr c6
    simp only [Option.some.injEq, Prod.mk.injEq] at H
    obtain ⟨rfl, rfl⟩ := H
    go_enter Tryz.func57, Tryz.ntmps57
    go_wp2
    go_ret2
    exact ⟨by first | rfl | (simp; done) | (simp [*]; done), dR⟩
def qxA.f (a0_0 : Int) (a0_1 : Int) (a0_2 : Int) (a0_3 : Int) (a0_4 : Int) (a0_5 : Int) (a1 : Int) : Option (Int × Int × Int × Int × Int × Int) := if a1 = 110 then (some (a0_3, a0_0, a0_2, a0_5, a0_4, a0_1)) else (if a1 = 101 then (some (a0_4, a0_1, a0_0, a0_3, a0_5, a0_2)) else (if a1 = 115 then (some (a0_1, a0_5, a0_2, a0_0, a0_4, a0_3)) else (some (a0_2, a0_1, a0_5, a0_3, a0_0, a0_4))))
set_option maxHeartbeats 8000000 in
set_option maxRecDepth 100000 in
theorem qxA.calls (a0_0 : Int) (a0_1 : Int) (a0_2 : Int) (a0_3 : Int) (a0_4 : Int) (a0_5 : Int) (a1 : Int) (r1 : Int) (r2 : Int) (r3 : Int) (r4 : Int) (r5 : Int) (r6 : Int) (w : World) (h : qxA.f a0_0 a0_1 a0_2 a0_3 a0_4 a0_5 a1 = some (r1, r2, r3, r4, r5, r6)) :
  Calls Tryz.prog 58 #[.agg #[.int .i64 a0_0, .int .i64 a0_1, .int .i64 a0_2, .int .i64 a0_3, .int .i64 a0_4, .int .i64 a0_5], .int .u8 a1] w fun e w' => e = .returned (.agg #[.int .i64 r1, .int .i64 r2, .int .i64 r3, .int .i64 r4, .int .i64 r5, .int .i64 r6]) ∧ Below w.heap.size w w' := by
 have hu29 := Tryz.underlying29
 have HB := aM (Below.refl w.heap.size w)
 have H : (if a1 = 110 then (some (a0_3, a0_0, a0_2, a0_5, a0_4, a0_1)) else (if a1 = 101 then (some (a0_4, a0_1, a0_0, a0_3, a0_5, a0_2)) else (if a1 = 115 then (some (a0_1, a0_5, a0_2, a0_0, a0_4, a0_3)) else (some (a0_2, a0_1, a0_5, a0_3, a0_0, a0_4))))) = some (r1, r2, r3, r4, r5, r6) := h
 clear h
 by_cases c3 : a1 = 110
 ·rw [if_pos c3] at H
  have c3b0 := beq_iff_eq.mpr c3
  have c3b1 := bne_eq_false_iff_eq.mpr c3
  clear c3
  simp only [Option.some.injEq, Prod.mk.injEq] at H
  obtain ⟨rfl, rfl, rfl, rfl, rfl, rfl⟩ := H
  go_enter Tryz.func58, Tryz.ntmps58
  go_wp2_with (first | ((with_reducible refine qN (N := 2) rfl ?_); refine bE (N := 2) (cs := #[.int .i64 a0_0, .int .i64 a0_1, .int .i64 a0_2, .int .i64 a0_3, .int .i64 a0_4, .int .i64 a0_5]) (t := 29) ?_; intro gb540 hg w4 hbox hb; have BK540 := aM (hbox); have GW540 := aM ((gg hg)); have GE540 := aM ((gg hg)); replace HB := aM (qB bl hb); clear hb hbox hg) | ((with_reducible refine qN (N := 4) rfl ?_); refine bE (N := 4) (cs := #[.int .i64 0, .int .i64 0, .int .i64 0, .int .i64 0, .int .i64 0, .int .i64 0]) (t := 29) ?_; intro gb541 hg w5 hbox hb; have BK541 := aM (hbox); have GW541 := aM ((gg hg)); have GE541 := aM ((gg hg)); have NB540_541 := aM ((nl BK540 hg)); have NB541_540 := aM ((nr BK540 hg)); replace BK540 := aM (bb BK540 hb); replace HB := aM (qB bl hb); clear hb hbox hg; have hnb6 := NB540_541.out; have hnc6 := NB541_540.out; (refine cb6 BK540 ?_; intro _ _ _ _ _ _); (refine cz6 BK540 ?_; intro _ _ _ _ _ _); (refine cb6 BK541 ?_; intro _ _ _ _ _ _); (refine cz6 BK541 ?_; intro _ _ _ _ _ _)))
  refine bodyPost_ret (results_cell_row rfl _ _ gb541 29 #[.int .i64 a0_3, .int .i64 a0_0, .int .i64 a0_2, .int .i64 a0_5, .int .i64 a0_4, .int .i64 a0_1] (0, 0) _ rfl (by (with_reducible repeat (first | refine qL ?_ _ | refine qH ?_ | refine qK ?_ _)); exact bP6 BK541) Tryz.underlying29 rfl (by kernel_rfl)) rfl ?_
  exact ⟨sR, bl⟩
 ·rw [if_neg c3] at H
  have c3b0 := beq_eq_false_iff_ne.mpr c3
  have c3b1 := bne_iff_ne.mpr c3
  by_cases c9 : a1 = 101
  ·rw [if_pos c9] at H
   have c9b0 := beq_iff_eq.mpr c9
   have c9b1 := bne_eq_false_iff_eq.mpr c9
   clear c9
   simp only [Option.some.injEq, Prod.mk.injEq] at H
   obtain ⟨rfl, rfl, rfl, rfl, rfl, rfl⟩ := H
   go_enter Tryz.func58, Tryz.ntmps58
   go_wp2_with (first | ((with_reducible refine qN (N := 2) rfl ?_); refine bE (N := 2) (cs := #[.int .i64 a0_0, .int .i64 a0_1, .int .i64 a0_2, .int .i64 a0_3, .int .i64 a0_4, .int .i64 a0_5]) (t := 29) ?_; intro gb540 hg w10 hbox hb; have BK540 := aM (hbox); have GW540 := aM ((gg hg)); have GE540 := aM ((gg hg)); replace HB := aM (qB bl hb); clear hb hbox hg) | ((with_reducible refine qN (N := 4) rfl ?_); refine bE (N := 4) (cs := #[.int .i64 0, .int .i64 0, .int .i64 0, .int .i64 0, .int .i64 0, .int .i64 0]) (t := 29) ?_; intro gb541 hg w11 hbox hb; have BK541 := aM (hbox); have GW541 := aM ((gg hg)); have GE541 := aM ((gg hg)); have NB540_541 := aM ((nl BK540 hg)); have NB541_540 := aM ((nr BK540 hg)); replace BK540 := aM (bb BK540 hb); replace HB := aM (qB bl hb); clear hb hbox hg; have hnb12 := NB540_541.out; have hnc12 := NB541_540.out; (refine cb6 BK540 ?_; intro _ _ _ _ _ _); (refine cz6 BK540 ?_; intro _ _ _ _ _ _); (refine cb6 BK541 ?_; intro _ _ _ _ _ _); (refine cz6 BK541 ?_; intro _ _ _ _ _ _)))
   refine bodyPost_ret (results_cell_row rfl _ _ gb541 29 #[.int .i64 a0_4, .int .i64 a0_1, .int .i64 a0_0, .int .i64 a0_3, .int .i64 a0_5, .int .i64 a0_2] (0, 0) _ rfl (by (with_reducible repeat (first | refine qL ?_ _ | refine qH ?_ | refine qK ?_ _)); exact bP6 BK541) Tryz.underlying29 rfl (by kernel_rfl)) rfl ?_
   exact ⟨sR, bl⟩
  ·rw [if_neg c9] at H
   have c9b0 := beq_eq_false_iff_ne.mpr c9
   have c9b1 := bne_iff_ne.mpr c9
   by_cases c15 : a1 = 115
   ·rw [if_pos c15] at H
    have c15b0 := beq_iff_eq.mpr c15
    have c15b1 := bne_eq_false_iff_eq.mpr c15
    clear c15
    simp only [Option.some.injEq, Prod.mk.injEq] at H
    obtain ⟨rfl, rfl, rfl, rfl, rfl, rfl⟩ := H
    go_enter Tryz.func58, Tryz.ntmps58
    go_wp2_with (first | ((with_reducible refine qN (N := 2) rfl ?_); refine bE (N := 2) (cs := #[.int .i64 a0_0, .int .i64 a0_1, .int .i64 a0_2, .int .i64 a0_3, .int .i64 a0_4, .int .i64 a0_5]) (t := 29) ?_; intro gb540 hg w16 hbox hb; have BK540 := aM (hbox); have GW540 := aM ((gg hg)); have GE540 := aM ((gg hg)); replace HB := aM (qB bl hb); clear hb hbox hg) | ((with_reducible refine qN (N := 4) rfl ?_); refine bE (N := 4) (cs := #[.int .i64 0, .int .i64 0, .int .i64 0, .int .i64 0, .int .i64 0, .int .i64 0]) (t := 29) ?_; intro gb541 hg w17 hbox hb; have BK541 := aM (hbox); have GW541 := aM ((gg hg)); have GE541 := aM ((gg hg)); have NB540_541 := aM ((nl BK540 hg)); have NB541_540 := aM ((nr BK540 hg)); replace BK540 := aM (bb BK540 hb); replace HB := aM (qB bl hb); clear hb hbox hg; have hnb18 := NB540_541.out; have hnc18 := NB541_540.out; (refine cb6 BK540 ?_; intro _ _ _ _ _ _); (refine cz6 BK540 ?_; intro _ _ _ _ _ _); (refine cb6 BK541 ?_; intro _ _ _ _ _ _); (refine cz6 BK541 ?_; intro _ _ _ _ _ _)))
    refine bodyPost_ret (results_cell_row rfl _ _ gb541 29 #[.int .i64 a0_1, .int .i64 a0_5, .int .i64 a0_2, .int .i64 a0_0, .int .i64 a0_4, .int .i64 a0_3] (0, 0) _ rfl (by (with_reducible repeat (first | refine qL ?_ _ | refine qH ?_ | refine qK ?_ _)); exact bP6 BK541) Tryz.underlying29 rfl (by kernel_rfl)) rfl ?_
    exact ⟨sR, bl⟩
   ·rw [if_neg c15] at H
    have c15b0 := beq_eq_false_iff_ne.mpr c15
    have c15b1 := bne_iff_ne.mpr c15
    simp only [Option.some.injEq, Prod.mk.injEq] at H
    obtain ⟨rfl, rfl, rfl, rfl, rfl, rfl⟩ := H
    go_enter Tryz.func58, Tryz.ntmps58
    go_wp2_with (first | ((with_reducible refine qN (N := 2) rfl ?_); refine bE (N := 2) (cs := #[.int .i64 a0_0, .int .i64 a0_1, .int .i64 a0_2, .int .i64 a0_3, .int .i64 a0_4, .int .i64 a0_5]) (t := 29) ?_; intro gb540 hg w21 hbox hb; have BK540 := aM (hbox); have GW540 := aM ((gg hg)); have GE540 := aM ((gg hg)); replace HB := aM (qB bl hb); clear hb hbox hg) | ((with_reducible refine qN (N := 4) rfl ?_); refine bE (N := 4) (cs := #[.int .i64 0, .int .i64 0, .int .i64 0, .int .i64 0, .int .i64 0, .int .i64 0]) (t := 29) ?_; intro gb541 hg w22 hbox hb; have BK541 := aM (hbox); have GW541 := aM ((gg hg)); have GE541 := aM ((gg hg)); have NB540_541 := aM ((nl BK540 hg)); have NB541_540 := aM ((nr BK540 hg)); replace BK540 := aM (bb BK540 hb); replace HB := aM (qB bl hb); clear hb hbox hg; have hnb23 := NB540_541.out; have hnc23 := NB541_540.out; (refine cb6 BK540 ?_; intro _ _ _ _ _ _); (refine cz6 BK540 ?_; intro _ _ _ _ _ _); (refine cb6 BK541 ?_; intro _ _ _ _ _ _); (refine cz6 BK541 ?_; intro _ _ _ _ _ _)))
    refine bodyPost_ret (results_cell_row rfl _ _ gb541 29 #[.int .i64 a0_2, .int .i64 a0_1, .int .i64 a0_5, .int .i64 a0_3, .int .i64 a0_0, .int .i64 a0_4] (0, 0) _ rfl (by (with_reducible repeat (first | refine qL ?_ _ | refine qH ?_ | refine qK ?_ _)); exact bP6 BK541) Tryz.underlying29 rfl (by kernel_rfl)) rfl ?_
    exact ⟨sR, bl⟩
def qOB.f (l0 : List ByteArray) (a1_0 : Int) (a1_1 : Int) (a1_2 : Int) (a1_3 : Int) (a1_4 : Int) (a1_5 : Int) (a1_6 : Int) (a1_7 : Int) (a2 : Int) : Option (Int × Int × Int × Int × Int × Int × Int × Int × Bool) := (qcB.f a1_0 a1_1 a2).bind fun bt544 => ((qxA.f a1_2 a1_3 a1_4 a1_5 a1_6 a1_7 a2).bind fun bt546 => ((qRA.f l0 bt544.1 bt544.2).bind fun t552 => (some (bt544.1, bt544.2, bt546.1, bt546.2.1, bt546.2.2.1, bt546.2.2.2.1, bt546.2.2.2.2.1, bt546.2.2.2.2.2, (t552 == 46)))))
set_option maxHeartbeats 8000000 in
set_option maxRecDepth 100000 in
theorem qOB.calls (A0 : Option Addr) (c0 : Nat) (l0 : List ByteArray) (a1_0 : Int) (a1_1 : Int) (a1_2 : Int) (a1_3 : Int) (a1_4 : Int) (a1_5 : Int) (a1_6 : Int) (a1_7 : Int) (a2 : Int) (r1 : Int) (r2 : Int) (r3 : Int) (r4 : Int) (r5 : Int) (r6 : Int) (r7 : Int) (r8 : Int) (r9 : Bool) (w : World) (hr0 : Kd.C Kd.string w A0 l0.length l0) (hc0 : l0.length ≤ c0) (h : qOB.f l0 a1_0 a1_1 a1_2 a1_3 a1_4 a1_5 a1_6 a1_7 a2 = some (r1, r2, r3, r4, r5, r6, r7, r8, r9)) :
  Calls Tryz.prog 45 #[.slice A0 l0.length c0, .agg #[.int .i64 a1_0, .int .i64 a1_1, .int .i64 a1_2, .int .i64 a1_3, .int .i64 a1_4, .int .i64 a1_5, .int .i64 a1_6, .int .i64 a1_7], .int .u8 a2] w fun e w' => e = .returned (.tuple #[.agg #[.int .i64 r1, .int .i64 r2, .int .i64 r3, .int .i64 r4, .int .i64 r5, .int .i64 r6, .int .i64 r7, .int .i64 r8], .bool r9]) ∧ Below w.heap.size w w' := by
 have hu31 := Tryz.underlying31
 have hu29 := Tryz.underlying29
 have HR0 := aM hr0
 have HC0 := aM hc0
 clear hr0 hc0
 have HB := aM (Below.refl w.heap.size w)
 have H : ((qcB.f a1_0 a1_1 a2).bind fun bt544 => ((qxA.f a1_2 a1_3 a1_4 a1_5 a1_6 a1_7 a2).bind fun bt546 => ((qRA.f l0 bt544.1 bt544.2).bind fun t552 => (some (bt544.1, bt544.2, bt546.1, bt546.2.1, bt546.2.2.1, bt546.2.2.2.1, bt546.2.2.2.2.1, bt546.2.2.2.2.2, (t552 == 46)))))) = some (r1, r2, r3, r4, r5, r6, r7, r8, r9) := h
 clear h
 replace H := bO H
 obtain ⟨⟨t544, t545⟩, A4, H⟩ := H
 dsimp only at H A4
 replace H := bO H
 obtain ⟨⟨t546, t547, t548, t549, t550, t551⟩, A5, H⟩ := H
 dsimp only at H A5
 replace H := bO H
 obtain ⟨t552, A6, H⟩ := H
 simp only [Option.some.injEq, Prod.mk.injEq] at H
 obtain ⟨rfl, rfl, rfl, rfl, rfl, rfl, rfl, rfl, rfl⟩ := H
 go_enter Tryz.func45, Tryz.ntmps45
 go_wp2_with (first | ((with_reducible refine qN (N := 4) rfl ?_); refine bE (N := 4) (cs := #[.int .i64 a1_0, .int .i64 a1_1, .int .i64 a1_2, .int .i64 a1_3, .int .i64 a1_4, .int .i64 a1_5, .int .i64 a1_6, .int .i64 a1_7]) (t := 31) ?_; intro gb542 hg w7 hbox hb; have BK542 := aM (hbox); have GW542 := aM ((gg hg)); have GE542 := aM ((gg hg)); replace HB := aM (qB bl hb); clear hb hbox hg) | ((with_reducible refine qN (N := 6) rfl ?_); refine bE (N := 6) (cs := #[.int .i64 0, .int .i64 0, .int .i64 0, .int .i64 0, .int .i64 0, .int .i64 0, .int .i64 0, .int .i64 0]) (t := 31) ?_; intro gb543 hg w8 hbox hb; have BK543 := aM (hbox); have GW543 := aM ((gg hg)); have GE543 := aM ((gg hg)); have NB542_543 := aM ((nl BK542 hg)); have NB543_542 := aM ((nr BK542 hg)); replace BK542 := aM (bb BK542 hb); replace HB := aM (qB bl hb); clear hb hbox hg; have hnb9 := NB542_543.out; have hnc9 := NB543_542.out; (refine cb8 BK542 ?_; intro _ _ _ _ _ _ _ _); (refine cz8 BK542 ?_; intro _ _ _ _ _ _ _ _)) | ((with_reducible refine qF (f := 57) rfl ?_); refine qh (some 16) rfl rfl Tryz.func57 (by kernel_rfl) rfl #[.int .i64 a1_0, .int .i64 a1_1, .int .u8 a2] rfl gA ?_; (with_reducible refine (qcB.calls a1_0 a1_1 a2 t544 t545 _ A4.out).mono ?_); rintro e w' ⟨rfl, ⟨nd, rfl⟩⟩; refine ⟨_, rfl, ?_⟩; (try (rw [qFC w8]; generalize hq_ : World.drewN w8 _ = w8; have n0_ : Aside0 (w8.heap[gb542]? = some (.cells #[.int .i64 a1_0, .int .i64 a1_1, .int .i64 a1_2, .int .i64 a1_3, .int .i64 a1_4, .int .i64 a1_5, .int .i64 a1_6, .int .i64 a1_7] 31 (0, 0))) := ⟨by rw [← hq_]; exact (rB BK542)⟩; have n1_ : Aside0 (w8.heap[gb543]? = some (.cells #[.int .i64 0, .int .i64 0, .int .i64 0, .int .i64 0, .int .i64 0, .int .i64 0, .int .i64 0, .int .i64 0] 31 (0, 0))) := ⟨by rw [← hq_]; exact (rB BK543)⟩; have n2_ : Aside0 (Below w.heap.size w w8) := ⟨by rw [← hq_]; exact bl⟩; clear BK542 BK543 HB hq_; have BK542 := n0_; have BK543 := n1_; have HB := n2_; clear n0_ n1_ n2_)); (refine cb8 BK542 ?_; intro _ _ _ _ _ _ _ _); (refine cz8 BK542 ?_; intro _ _ _ _ _ _ _ _)) | ((with_reducible refine qF (f := 58) rfl ?_); refine qh (some 24) rfl rfl Tryz.func58 (by kernel_rfl) rfl #[.agg #[.int .i64 a1_2, .int .i64 a1_3, .int .i64 a1_4, .int .i64 a1_5, .int .i64 a1_6, .int .i64 a1_7], .int .u8 a2] rfl gA ?_; (with_reducible refine (qxA.calls a1_2 a1_3 a1_4 a1_5 a1_6 a1_7 a2 t546 t547 t548 t549 t550 t551 _ A5.out).mono ?_); rintro e w12 ⟨rfl, hb⟩; refine ⟨_, rfl, ?_⟩; replace BK542 := aM (bb BK542 hb); replace BK543 := aM (bb BK543 hb); replace HB := aM (qB bl hb); (try clear hb); (try clear hb2); (try clear hk); (try clear hi)) | ((with_reducible refine qF (f := 59) rfl ?_); refine qh (some 29) rfl rfl Tryz.func59 (by kernel_rfl) rfl #[.slice A0 l0.length c0, .int .i64 t544, .int .i64 t545] rfl gA ?_; (with_reducible refine (qRA.calls _ _ l0 t544 t545 t552 _ ?side1 ?side2 A6.out).mono ?_); (case side1 => repeat (first | exact (Kd.qPA HR0.out HB.out) | (with_reducible refine Kd.qc ?_ _) | (with_reducible refine Kd.qb ?_ _) | (with_reducible refine Kd.qu ?_))); (case side2 => exact HC0.out); rintro e w' ⟨rfl, ⟨nd, rfl⟩⟩; refine ⟨_, rfl, ?_⟩; (try (rw [qFC w12]; generalize hq_ : World.drewN w12 _ = w12; have n0_ : Aside0 (w12.heap[gb542]? = some (.cells #[.int .i64 a1_0, .int .i64 a1_1, .int .i64 a1_2, .int .i64 a1_3, .int .i64 a1_4, .int .i64 a1_5, .int .i64 a1_6, .int .i64 a1_7] 31 (0, 0))) := ⟨by rw [← hq_]; exact (rB BK542)⟩; have n1_ : Aside0 (w12.heap[gb543]? = some (.cells #[.int .i64 0, .int .i64 0, .int .i64 0, .int .i64 0, .int .i64 0, .int .i64 0, .int .i64 0, .int .i64 0] 31 (0, 0))) := ⟨by rw [← hq_]; exact (rB BK543)⟩; have n2_ : Aside0 (Below w.heap.size w w12) := ⟨by rw [← hq_]; exact bl⟩; clear BK542 BK543 HB hq_; have BK542 := n0_; have BK543 := n1_; have HB := n2_; clear n0_ n1_ n2_)); (refine cb8 BK543 ?_; intro _ _ _ _ _ _ _ _); (refine cz8 BK543 ?_; intro _ _ _ _ _ _ _ _)))
 refine bodyPost_ret (qfA rfl _ _ gb543 31 #[.int .i64 t544, .int .i64 t545, .int .i64 t546, .int .i64 t547, .int .i64 t548, .int .i64 t549, .int .i64 t550, .int .i64 t551] (0, 0) _ rfl (by (with_reducible repeat (first | refine qL ?_ _ | refine qH ?_ | refine qK ?_ _)); exact bP8 BK543) Tryz.underlying31 rfl (by kernel_rfl)) rfl ?_
 exact ⟨sR, bl⟩
end Go.Proofs.YtdhbimankkpllaaGreatDoor.P
namespace Go.Proofs.YtdhbimankkpllaaGreatDoor
open Go.RowKit Go.Proofs.YtdhbimankkpllaaGreatDoor.P Go.Proofs.YtdhbimankkpllaaGreatDoorW.PrintWords Go.Proofs.YtdhbimankkpllaaGreatDoorW.PrintLast
set_option linter.unusedVariables false
set_option linter.unusedSimpArgs false
abbrev XS := S31
def stateB (a : ByteArray) (s : XS) : Bool := floorB a s.f0 s.f1 && dieB s.f2.f0 s.f2.f1 s.f2.f2 s.f2.f3 s.f2.f4 s.f2.f5
abbrev csOf (a : ByteArray) : List Int := numsOf (flatT a.data.toList)
theorem boFloor_eq {a : ByteArray} (g : Gnd a) (x y : Int) : qUA.f (wideT a : Int) (highT a : Int) (csOf a) x y = some (floorB a x y) := by
 unfold qUA.f floorB
 rw [qCD g, Option.bind_some]
 cases h : hasB a x y with
 | false => rw [if_neg (by decide)]; rfl
 | true =>
  obtain ⟨h1, h2, h3⟩ := spec_at g x y h
  rw [if_pos rfl, if_pos h1, if_pos h2, h3]; rfl
theorem isState_ev {a : ByteArray} (g : Gnd a) (s : XS) : Ev (fun k => qaA.f k (rowsT a) s.f0 s.f1 s.f2.f0 s.f2.f1 s.f2.f2 s.f2.f3 s.f2.f4 s.f2.f5) (stateB a s) := by
 unfold qaA.f stateB
 refine Ev.bind (impl_IsDie_ev _ _ _ _ _ _) ?_
 obtain ⟨c, h1, h2⟩ := at_floor g s.f0 s.f1
 cases hd : dieB s.f2.f0 s.f2.f1 s.f2.f2 s.f2.f3 s.f2.f4 s.f2.f5 with
 | false =>
  rw [Bool.and_false]
  exact Ev.neg (by decide) (Ev.now _)
 | true =>
  rw [Bool.and_true, ← h2]
  exact Ev.pos rfl (Ev.bindc h1 (Ev.some_ rfl))
theorem boState_ev {a : ByteArray} (g : Gnd a) (s : XS) : Ev (fun k => qDB.f k (wideT a : Int) (highT a : Int) (csOf a) s.f0 s.f1 s.f2.f0 s.f2.f1 s.f2.f2 s.f2.f3 s.f2.f4 s.f2.f5) (stateB a s) := by
 unfold qDB.f stateB
 refine Ev.bindc (boFloor_eq g _ _) ?_
 cases hd : floorB a s.f0 s.f1 with
 | false => exact Ev.neg (by decide) (Ev.now _)
 | true => exact Ev.pos rfl (Ev.bind (spec_diGood_ev _ _ _ _ _ _) (Ev.now _))
def dOf (c : Int) : Int := if c = 110 then 0 else if c = 101 then 1 else if c = 115 then 2 else 3
def nextC (x y d : Int) : Int × Int := if d = 0 then (x, wrap64 (y - 1)) else if d = 1 then (wrap64 (x + 1), y) else if d = 2 then (x, wrap64 (y + 1)) else (wrap64 (x - 1), y)
abbrev XD := S29
def rollD (x : XD) (d : Int) : XD := if d = 0 then ⟨x.f3, x.f0, x.f2, x.f5, x.f4, x.f1⟩ else if d = 1 then ⟨x.f4, x.f1, x.f0, x.f3, x.f5, x.f2⟩ else if d = 2 then ⟨x.f1, x.f5, x.f2, x.f0, x.f4, x.f3⟩ else ⟨x.f2, x.f1, x.f5, x.f3, x.f0, x.f4⟩
def tupD (x : XD) : Int × Int × Int × Int × Int × Int := (x.f0, x.f1, x.f2, x.f3, x.f4, x.f5)
def rollS (s : XS) (d : Int) : XS := ⟨(nextC s.f0 s.f1 d).1, (nextC s.f0 s.f1 d).2, rollD s.f2 d⟩
theorem implNext_eq (x y c : Int) : qcB.f x y c = some (nextC x y (dOf c)) := by
 unfold qcB.f nextC dOf
 by_cases h1 : c = 110
 ·simp [h1]
 by_cases h2 : c = 101
 ·simp [h1, h2]
 by_cases h3 : c = 115
 ·simp [h1, h2, h3]
 simp [h1, h2, h3]
theorem specNext_eq (x y d : Int) : qEB.f x y d = some (nextC x y d) := by
 unfold qEB.f nextC
 by_cases h1 : d = 0
 ·simp [h1]
 by_cases h2 : d = 1
 ·simp [h1, h2]
 by_cases h3 : d = 2
 ·simp [h1, h2, h3]
 simp [h1, h2, h3]
theorem implDie_eq (x : XD) (c : Int) : qxA.f x.f0 x.f1 x.f2 x.f3 x.f4 x.f5 c = some (tupD (rollD x (dOf c))) := by
 unfold qxA.f rollD dOf
 by_cases h1 : c = 110
 ·simp [tupD, h1]
 by_cases h2 : c = 101
 ·simp [tupD, h1, h2]
 by_cases h3 : c = 115
 ·simp [tupD, h1, h2, h3]
 simp [tupD, h1, h2, h3]
theorem specDie_eq (x : XD) (d : Int) : qQB.f x.f0 x.f1 x.f2 x.f3 x.f4 x.f5 d = some (tupD (rollD x d)) := by
 unfold qQB.f rollD
 by_cases h1 : d = 0
 ·simp [tupD, h1]
 by_cases h2 : d = 1
 ·simp [tupD, h1, h2]
 by_cases h3 : d = 2
 ·simp [tupD, h1, h2, h3]
 simp [tupD, h1, h2, h3]
theorem implRoll_eq {a : ByteArray} (g : Gnd a) (s : XS) (c : Int) : qOB.f (rowsT a) s.f0 s.f1 s.f2.f0 s.f2.f1 s.f2.f2 s.f2.f3 s.f2.f4 s.f2.f5 c = some ((rollS s (dOf c)).f0, (rollS s (dOf c)).f1, (rollS s (dOf c)).f2.f0, (rollS s (dOf c)).f2.f1, (rollS s (dOf c)).f2.f2, (rollS s (dOf c)).f2.f3, (rollS s (dOf c)).f2.f4, (rollS s (dOf c)).f2.f5, floorB a (rollS s (dOf c)).f0 (rollS s (dOf c)).f1) := by
 unfold qOB.f
 obtain ⟨q, h1, h2⟩ := at_floor g (rollS s (dOf c)).f0 (rollS s (dOf c)).f1
 rw [implNext_eq, Option.bind_some, implDie_eq, Option.bind_some]
 rw [show qRA.f (rowsT a) (nextC s.f0 s.f1 (dOf c)).1 (nextC s.f0 s.f1 (dOf c)).2 = some q from h1, Option.bind_some, ← h2]
 rfl
theorem specRoll_eq {a : ByteArray} (g : Gnd a) (s : XS) (d : Int) : qpA.f (wideT a : Int) (highT a : Int) (csOf a) s.f0 s.f1 s.f2.f0 s.f2.f1 s.f2.f2 s.f2.f3 s.f2.f4 s.f2.f5 d = some (if floorB a (rollS s d).f0 (rollS s d).f1 = true then ((rollS s d).f0, (rollS s d).f1, (rollS s d).f2.f0, (rollS s d).f2.f1, (rollS s d).f2.f2, (rollS s d).f2.f3, (rollS s d).f2.f4, (rollS s d).f2.f5, true) else (0, 0, 0, 0, 0, 0, 0, 0, false)) := by
 unfold qpA.f
 rw [specNext_eq, Option.bind_some, show qUA.f (wideT a : Int) (highT a : Int) (csOf a) (nextC s.f0 s.f1 d).1 (nextC s.f0 s.f1 d).2 = some (floorB a (rollS s d).f0 (rollS s d).f1) from boFloor_eq g _ _, Option.bind_some]
 cases h : floorB a (rollS s d).f0 (rollS s d).f1 with
 | true =>
  rw [if_pos rfl, specDie_eq, Option.bind_some, if_pos rfl]; rfl
 | false => rw [if_neg (by decide), if_neg (by decide)]
abbrev DD := S29
theorem qdD {a b : DD} (h0 : a.f0 = b.f0) (h1 : a.f1 = b.f1) (h2 : a.f2 = b.f2) (h3 : a.f3 = b.f3) (h4 : a.f4 = b.f4) (h5 : a.f5 = b.f5) : a = b := by
 cases a; cases b; simp only at h0 h1 h2 h3 h4 h5; subst h0; subst h1; subst h2; subst h3; subst h4; subst h5; rfl
instance ddDec : DecidableEq DD := fun a b =>
 if h : a.f0 = b.f0 ∧ a.f1 = b.f1 ∧ a.f2 = b.f2 ∧ a.f3 = b.f3 ∧ a.f4 = b.f4 ∧ a.f5 = b.f5 then isTrue (qdD h.1 h.2.1 h.2.2.1 h.2.2.2.1 h.2.2.2.2.1 h.2.2.2.2.2) else isFalse (fun e => h (by subst e; exact ⟨rfl, rfl, rfl, rfl, rfl, rfl⟩))
def rolD (x : DD) (d : Nat) : DD := if d = 0 then ⟨x.f3, x.f0, x.f2, x.f5, x.f4, x.f1⟩ else if d = 1 then ⟨x.f4, x.f1, x.f0, x.f3, x.f5, x.f2⟩ else if d = 2 then ⟨x.f1, x.f5, x.f2, x.f0, x.f4, x.f3⟩ else ⟨x.f2, x.f1, x.f5, x.f3, x.f0, x.f4⟩
def dirsW : ByteArray := ⟨#[110, 101, 115, 119]⟩
def dirW (d : Nat) : ByteArray := dirsW.extract d (d + 1)
def stepsD (x : DD) (w : ByteArray) : Nat → Nat → List (Option DD × ByteArray)
 | 0, _ => []
 | n + 1, d => (some (rolD x d), w ++ dirW d) :: stepsD x w n (d + 1)
def nextD (_ : Nat) (x : DD) (w : ByteArray) : List (Option DD × ByteArray) := stepsD x w 4 0
def faceD (x : DD) (n : Int) : Int := if n = 0 then x.f0 else if n = 1 then x.f1 else if n = 2 then x.f2 else if n = 3 then x.f3 else if n = 4 then x.f4 else x.f5
def putD (x p : DD) : DD := ⟨faceD x p.f0, faceD x p.f1, faceD x p.f2, faceD x p.f3, faceD x p.f4, faceD x p.f5⟩
theorem putD_rol (x p : DD) (d : Nat) : rolD (putD x p) d = putD x (rolD p d) := by
 unfold rolD
 by_cases h0 : d = 0
 ·simp only [if_pos h0]; rfl
 by_cases h1 : d = 1
 ·simp only [if_neg h0, if_pos h1]; rfl
 by_cases h2 : d = 2
 case pos => simp only [if_neg h0, if_neg h1, if_pos h2]; rfl
 simp only [if_neg h0, if_neg h1, if_neg h2]; rfl
def plainD : DD := ⟨0, 1, 2, 3, 4, 5⟩
def runD (x : DD) : List (DD × ByteArray) := Bfs.run nextD 24 0 [(x, ⟨#[]⟩)]
def rots : List DD := (runD plainD).map Prod.fst
theorem rots_len : rots.length = 24 := by decide +kernel
theorem rots_closed : ∀ p ∈ rots, rolD p 0 ∈ rots ∧ rolD p 1 ∈ rots ∧ rolD p 2 ∈ rots ∧ rolD p 3 ∈ rots := by decide +kernel
def imgs (x : DD) : List DD := rots.map (putD x)
theorem imgs_len (x : DD) : (imgs x).length = 24 := by unfold imgs; rw [List.length_map, rots_len]
theorem imgs_rol {x y : DD} (h : y ∈ imgs x) (d : Nat) (hd : d < 4) : rolD y d ∈ imgs x := by
 obtain ⟨p, hp, rfl⟩ := List.mem_map.1 h
 rw [putD_rol]
 refine List.mem_map_of_mem ?_
 have hc := rots_closed p hp
 have : d = 0 ∨ d = 1 ∨ d = 2 ∨ d = 3 := by omega
 rcases this with rfl | rfl | rfl | rfl
 ·exact hc.1
 ·exact hc.2.1
 ·exact hc.2.2.1
 ·exact hc.2.2.2
theorem steps_mem (x : DD) (w : ByteArray) : ∀ (n d : Nat), d + n = 4 → ∀ s ∈ stepsD x w n d, ∃ e, e < 4 ∧ s = (some (rolD x e), w ++ dirW e)
 | 0, _, _, s, hs => by cases hs
 | n + 1, d, hd, s, hs => by
  rcases List.mem_cons.1 hs with rfl | hs
  ·exact ⟨d, by omega, rfl⟩
  ·exact steps_mem x w n (d + 1) (by omega) s hs
structure FoundD (x : DD) (L : List (DD × ByteArray)) : Prop where
 nodup : (L.map Prod.fst).Nodup
 img : ∀ z ∈ L, z.1 ∈ imgs x
theorem FoundD.len {x : DD} {L : List (DD × ByteArray)} (h : FoundD x L) : L.length ≤ 24 := by
 have := Bfs.quC (U := imgs x) h.nodup (fun y hy => by
  obtain ⟨z, hz, rfl⟩ := List.mem_map.1 hy
  exact h.img z hz)
 rwa [imgs_len, List.length_map] at this
theorem FoundD.put {x : DD} {L : List (DD × ByteArray)} (h : FoundD x L) (y : Option DD) (p : ByteArray) (hy : ∀ z, y = some z → z ∈ imgs x) : FoundD x (Bfs.put L y p) :=
 ⟨Bfs.qtC h.nodup y p, Bfs.qUD (Q := fun z => z.1 ∈ imgs x) h.img y p hy⟩
theorem nextD_img {x : DD} (i : Nat) (y : DD) (p : ByteArray) (h : y ∈ imgs x) : ∀ s ∈ nextD i y p, ∀ z, s.1 = some z → z ∈ imgs x := by
 intro s hs z hz
 obtain ⟨e, he, rfl⟩ := steps_mem y p 4 0 rfl s hs
 cases hz
 exact imgs_rol h e he
theorem FoundD.round {x : DD} {L : List (DD × ByteArray)} (h : FoundD x L) (i : Nat) : FoundD x (Bfs.round nextD i L) :=
 ⟨Bfs.qLC _ h.nodup i, Bfs.qsC nextD (Q := fun z => z.1 ∈ imgs x) (fun i y p hy => nextD_img i y p hy) i h.img⟩
theorem FoundD.run {x : DD} {L : List (DD × ByteArray)} (h : FoundD x L) (n i : Nat) : FoundD x (Bfs.run nextD n i L) :=
 ⟨Bfs.qrC _ n i h.nodup, Bfs.qSD nextD (Q := fun z => z.1 ∈ imgs x) (fun i y p hy => nextD_img i y p hy) n i h.img⟩
end Go.Proofs.YtdhbimankkpllaaGreatDoor
namespace Go.Proofs.YtdhbimankkpllaaGreatDoor
set_option linter.unusedVariables false
set_option linter.unusedSimpArgs false
def cmpI (a b : Int) : Int := if a < b then -1 else if a > b then 1 else 0
def lexI : List Int → List Int → Int
 | [], [] => 0
 | [], _ :: _ => -1
 | _ :: _, [] => 1
 | a :: l, b :: m => if cmpI a b = 0 then lexI l m else cmpI a b
theorem cmpI_neg (a b : Int) : cmpI a b < 0 ↔ a < b := by
 unfold cmpI
 split
 ·omega
 ·split <;> omega
theorem qBD (a b : Int) : cmpI a b = 0 ↔ a = b := by
 unfold cmpI
 split
 ·omega
 ·split <;> omega
theorem lexI_self : ∀ l : List Int, lexI l l = 0
 | [] => rfl
 | a :: l => by
  have h := (qBD a a).2 rfl
  rw [lexI, if_pos h]
  exact lexI_self l
theorem qJB (a b : Int) (l m : List Int) : lexI (a :: l) (b :: m) < 0 ↔ a < b ∨ (a = b ∧ lexI l m < 0) := by
 have h1 := cmpI_neg a b
 have h2 := qBD a b
 rw [lexI]
 split <;> omega
theorem lexI_pos_cons (a b : Int) (l m : List Int) : 0 < lexI (a :: l) (b :: m) ↔ b < a ∨ (a = b ∧ 0 < lexI l m) := by
 have h1 := cmpI_neg a b
 have h2 := qBD a b
 rw [lexI]
 split <;> omega
theorem lexI_trans : ∀ l m k : List Int, l.length = m.length → m.length = k.length → lexI l m < 0 → lexI m k < 0 → lexI l k < 0
 | [], [], [], _, _, h, _ => h
 | a :: l, b :: m, c :: k, h1, h2, h3, h4 => by
  rw [qJB] at *
  have ih := lexI_trans l m k (by simpa using h1) (by simpa using h2)
  by_cases e1 : lexI l m < 0
  ·by_cases e2 : lexI m k < 0
   ·have := ih e1 e2; omega
   ·omega
  ·omega
theorem qNC : ∀ l m k : List Int, l.length = m.length → m.length = k.length → ¬ lexI l m < 0 → ¬ lexI m k < 0 → ¬ lexI l k < 0
 | [], [], [], _, _, h, _ => h
 | a :: l, b :: m, c :: k, h1, h2, h3, h4 => by
  rw [qJB] at *
  have ih := qNC l m k (by simpa using h1) (by simpa using h2)
  by_cases e1 : lexI l m < 0
  case pos => omega
  by_cases e2 : lexI m k < 0
  case pos => omega
  have := ih e1 e2; omega
theorem lexI_tot : ∀ l m : List Int, l.length = m.length → ¬ lexI l m < 0 → ¬ lexI m l < 0 → l = m
 | [], [], _, _, _ => rfl
 | a :: l, b :: m, h, h1, h2 => by
  rw [qJB] at h1 h2
  have e : a = b := by omega
  subst e
  rw [lexI_tot l m (by simpa using h) (by omega) (by omega)]
theorem lexI_anti : ∀ l m : List Int, l.length = m.length → (lexI l m < 0 ↔ 0 < lexI m l)
 | [], [], _ => by simp [lexI]
 | a :: l, b :: m, h => by
  have ih := lexI_anti l m (by simpa using h)
  rw [qJB, lexI_pos_cons]
  omega
end Go.Proofs.YtdhbimankkpllaaGreatDoor
namespace Go.Proofs.YtdhbimankkpllaaGreatDoor.Sorts
section
variable {α : Type}
def ins (lt : α → α → Bool) (x : α) : List α → List α
 | [] => [x]
 | y :: l => if lt y x = true then y :: ins lt x l else x :: y :: l
def insAll (lt : α → α → Bool) : List α → List α → List α
 | acc, [] => acc
 | acc, x :: l => insAll lt (ins lt x acc) l
structure Weak (lt : α → α → Bool) : Prop where
 asym : ∀ a b, lt a b = true → lt b a = false
 trans : ∀ a b c, lt b a = false → lt c b = false → lt c a = false
variable {lt : α → α → Bool}
theorem Weak.total (W : Weak lt) (a b : α) : ((!lt b a) || (!lt a b)) = true := by
 cases h : lt b a with
 | false => rfl
 | true => rw [W.asym b a h]; rfl
theorem qiC (lt : α → α → Bool) (x : α) : ∀ l : List α, (ins lt x l).Perm (x :: l)
 | [] => List.Perm.refl _
 | y :: l => by
  unfold ins
  split
  ·exact ((qiC lt x l).cons y).trans (List.Perm.swap x y l)
  ·exact List.Perm.refl _
theorem qPC (lt : α → α → Bool) : ∀ (l acc : List α), (insAll lt acc l).Perm (l ++ acc)
 | [], acc => List.Perm.refl _
 | x :: l, acc => by
  refine (qPC lt l (ins lt x acc)).trans ?_
  exact ((List.Perm.refl l).append (qiC lt x acc)).trans List.perm_middle
theorem ins_sorted (W : Weak lt) (x : α) : ∀ l : List α, l.Pairwise (fun a b => lt b a = false) → (ins lt x l).Pairwise (fun a b => lt b a = false)
 | [], _ => List.pairwise_singleton _ _
 | y :: l, h => by
  obtain ⟨h1, h2⟩ := List.pairwise_cons.1 h
  unfold ins
  split
  ·rename_i hy
   refine List.pairwise_cons.2 ⟨fun z hz => ?_, ins_sorted W x l h2⟩
   rcases List.mem_cons.1 ((qiC lt x l).mem_iff.1 hz) with rfl | hz
   ·exact W.asym _ _ hy
   ·exact h1 z hz
  ·rename_i hy
   have hy : lt y x = false := by simpa using hy
   refine List.pairwise_cons.2 ⟨fun z hz => ?_, h⟩
   rcases List.mem_cons.1 hz with rfl | hz
   ·exact hy
   ·exact W.trans _ _ _ hy (h1 z hz)
theorem qsB (W : Weak lt) : ∀ (l acc : List α), acc.Pairwise (fun a b => lt b a = false) → (insAll lt acc l).Pairwise (fun a b => lt b a = false)
 | [], _, h => h
 | x :: l, acc, h => qsB W l _ (ins_sorted W x acc h)
def sorted (lt : α → α → Bool) (l : List α) : List α := l.mergeSort fun x y => !lt y x
theorem qnB (lt : α → α → Bool) (l : List α) : (sorted lt l).Perm l := List.mergeSort_perm _ _
theorem sorted_sorted (W : Weak lt) (l : List α) : (sorted lt l).Pairwise (fun a b => lt b a = false) := by
 have := List.pairwise_mergeSort (le := fun x y => !lt y x) (fun a b c h1 h2 => by
  simp only [Bool.not_eq_true'] at *
  exact W.trans a b c h1 h2) (fun a b => W.total a b) l
 refine this.imp fun h => ?_
 simpa using h
theorem one {l l' : List α} (h : l.Pairwise (fun a b => lt b a = false)) (h' : l'.Pairwise (fun a b => lt b a = false)) (hp : l.Perm l') (ha : ∀ a ∈ l, ∀ b ∈ l, lt a b = false → lt b a = false → a = b) : l = l' :=
 List.Perm.eq_of_pairwise (le := fun a b => lt b a = false) (fun a b h1 h2 h3 h4 => ha a h1 b (hp.mem_iff.2 h2) h4 h3) h h' hp
theorem sorted_eq_ins (W : Weak lt) (l : List α) (ha : ∀ a ∈ l, ∀ b ∈ l, lt a b = false → lt b a = false → a = b) : sorted lt l = insAll lt [] l := by
 refine one (sorted_sorted W l) (qsB W l [] List.Pairwise.nil) ?_ ?_
 ·refine (qnB lt l).trans ?_
  have := qPC lt l []
  rw [List.append_nil] at this
  exact this.symm
 ·intro a h1 b h2
  exact ha a ((qnB lt l).mem_iff.1 h1) b ((qnB lt l).mem_iff.1 h2)
def less (lt : α → α → Bool) (x : α) : List α → Nat
 | [] => 0
 | y :: l => if lt y x = true then less lt x l + 1 else 0
theorem less_le (x : α) : ∀ l : List α, less lt x l ≤ l.length
 | [] => Nat.le_refl _
 | y :: l => by
  unfold less
  split
  ·have := less_le x l; simp only [List.length_cons]; omega
  ·omega
theorem ins_eq (x : α) : ∀ l : List α, ins lt x l = l.take (less lt x l) ++ x :: l.drop (less lt x l)
 | [] => rfl
 | y :: l => by
  unfold ins less
  split
  ·rw [ins_eq x l]; rfl
  ·rfl
theorem less_lt (x : α) : ∀ (l : List α) (i : Nat) (h : i < l.length), i < less lt x l → lt l[i] x = true
 | y :: l, 0, _, h => by
  unfold less at h
  split at h
  ·assumption
  ·omega
 | y :: l, i + 1, hl, h => by
  unfold less at h
  split at h
  ·exact less_lt x l i (by simpa using hl) (by omega)
  ·omega
theorem less_stop (x : α) : ∀ (l : List α) (h : less lt x l < l.length), lt l[less lt x l] x = false
 | y :: l, h => by
  by_cases hy : lt y x = true
  case pos => (have e : less lt x (y :: l) = less lt x l + 1 := by rw [less, if_pos hy]); simp only [e, List.getElem_cons_succ]; exact less_stop x l (by rw [e] at h; simpa using h)
  have e : less lt x (y :: l) = 0 := by rw [less, if_neg hy]
  simp only [e, List.getElem_cons_zero]
  simpa using hy
end
theorem quA {α : Type} {L : List α} {i : Nat} {c : α} {cs : List α} (h : L.drop i = c :: cs) : ∃ hi : i < L.length, L[i] = c ∧ L.drop (i + 1) = cs := by
 have hi : i < L.length := by
  rcases Nat.lt_or_ge i L.length with h1 | h1
  ·exact h1
  ·rw [List.drop_eq_nil_of_le h1] at h; cases h
 rw [List.drop_eq_getElem_cons hi] at h
 injection h with h1 h2
 exact ⟨hi, h1, h2⟩
theorem qGB {α : Type} {L : List α} {i : Nat} (h : L.drop i = []) : L.length ≤ i := by
 rcases Nat.lt_or_ge i L.length with h1 | h1
 ·rw [List.drop_eq_getElem_cons h1] at h; cases h
 ·exact h1
end Go.Proofs.YtdhbimankkpllaaGreatDoor.Sorts
namespace Go.Proofs.YtdhbimankkpllaaGreatDoor
open Go.RowKit Go.Proofs.YtdhbimankkpllaaGreatDoor.P Go.Proofs.YtdhbimankkpllaaGreatDoorW.PrintWords Go.Proofs.YtdhbimankkpllaaGreatDoorW.PrintLast
set_option linter.unusedVariables false
set_option linter.unusedSimpArgs false
def facesD (x : DD) : List Int := [x.f0, x.f1, x.f2, x.f3, x.f4, x.f5]
theorem qaC {x y : DD} (h : facesD x = facesD y) : x = y := by
 unfold facesD at h
 injection h with h0 h
 injection h with h1 h
 injection h with h2 h
 injection h with h3 h
 injection h with h4 h
 injection h with h5 h
 exact qdD h0 h1 h2 h3 h4 h5
def ltD (x y : DD) : Bool := decide (lexI (facesD x) (facesD y) < 0)
theorem ltD_weak : Sorts.Weak ltD := by
 refine ⟨fun a b h => ?_, fun a b c h1 h2 => ?_⟩
 ·unfold ltD at *
  rw [decide_eq_true_eq] at h
  rw [decide_eq_false_iff_not]
  have := (lexI_anti (facesD a) (facesD b) rfl).1 h
  omega
 ·unfold ltD at *
  rw [decide_eq_false_iff_not] at *
  exact qNC (facesD c) (facesD b) (facesD a) rfl rfl h2 h1
theorem ltD_tot (a b : DD) (h1 : ltD a b = false) (h2 : ltD b a = false) : a = b := by
 unfold ltD at *
 rw [decide_eq_false_iff_not] at *
 exact qaC (lexI_tot _ _ rfl h1 h2)
theorem ltD_irrefl (a : DD) : ltD a a = false := by
 unfold ltD
 rw [lexI_self]; rfl
def codeF (o : Int) (l : List Int) : Int := l.foldl (fun o f => 10 * o + f) o
def codeD (x : DD) : Int := codeF 0 (facesD x)
theorem qAD : ∀ (l m : List Int) (o p : Int), l.length = m.length → (∀ n ∈ l, 0 ≤ n ∧ n ≤ 9) → (∀ n ∈ m, 0 ≤ n ∧ n ≤ 9) → codeF o l = codeF p m → o = p ∧ l = m
 | [], [], o, p, _, _, _, h => ⟨h, rfl⟩
 | [], _ :: _, _, _, h, _, _, _ => by simp at h
 | _ :: _, [], _, _, h, _, _, _ => by simp at h
 | a :: l, b :: m, o, p, hl, h1, h2, h => by
  obtain ⟨h3, h4⟩ := qAD l m (10 * o + a) (10 * p + b) (by simpa using hl) (fun n hn => h1 n (List.mem_cons_of_mem _ hn)) (fun n hn => h2 n (List.mem_cons_of_mem _ hn)) h
  have ha := h1 a List.mem_cons_self
  have hb := h2 b List.mem_cons_self
  have : o = p := by omega
  refine ⟨this, ?_⟩
  rw [h4, show a = b by omega]
def goodD (x : DD) : Prop := ∀ n ∈ facesD x, 0 ≤ n ∧ n ≤ 9
theorem goodD_of {x : DD} (h : dieB x.f0 x.f1 x.f2 x.f3 x.f4 x.f5 = true) : goodD x := dieB_face h
theorem codeD_inj {x y : DD} (hx : goodD x) (hy : goodD y) (h : codeD x = codeD y) : x = y :=
 qaC (qAD (facesD x) (facesD y) 0 0 rfl hx hy h).2
theorem rdI (l : List Int) (i : Nat) (h : i < l.length) : rd l (i : Int) = l[i] := by
 unfold rd
 rw [Int.toNat_natCast, List.getD_eq_getElem?_getD, List.getElem?_eq_getElem h]; rfl
theorem wyCode_loop (F : List Int) (hF : F.length ≤ 6) : ∀ (u : List Int) (i : Nat) (o : Int), F.drop i = u → i ≤ F.length → (∀ n ∈ u, 0 ≤ n ∧ n ≤ 9) → 0 ≤ o → o < 100 * 10 ^ i →
  Ev (fun k => qv.l0 k o F (F.length : Int) (i : Int)) (codeF o u)
 | [], i, o, hd, hi, _, _, _ => by
  have := Sorts.qGB hd
  refine Ev.step (f := fun k => _) (fun k => by rw [qv.l0]) ?_
  exact Ev.neg (by omega) (Ev.now _)
 | a :: u, i, o, hd, hi, hu, h0, h1 => by
  obtain ⟨hlt, hc, hd'⟩ := Sorts.quA hd
  have ha := hu a List.mem_cons_self
  have hp : (10 : Int) ^ (i + 1) = 10 ^ i * 10 := Int.pow_succ _ _
  have hb : (10 : Int) ^ i ≤ 1000000 := by
   have : i < 6 := by omega
   have : i = 0 ∨ i = 1 ∨ i = 2 ∨ i = 3 ∨ i = 4 ∨ i = 5 := by omega
   rcases this with rfl | rfl | rfl | rfl | rfl | rfl <;> decide
  have ih := wyCode_loop F hF u (i + 1) (10 * o + a) hd' (by omega) (fun n hn => hu n (List.mem_cons_of_mem _ hn)) (by omega) (by rw [hp]; omega)
  have w : wrap64 ((i : Int) + 1) = ((i + 1 : Nat) : Int) := by unfold wrap64; omega
  have w1 : wrap64 (10 * o) = 10 * o := by unfold wrap64; omega
  have w2 : wrap64 (10 * o + a) = 10 * o + a := by unfold wrap64; omega
  refine Ev.step (f := fun k => _) (fun k => by rw [qv.l0]) ?_
  rw [rdI F i hlt, hc, w, w1, w2]
  clear hd hd' hc
  exact Ev.pos (by omega) (Ev.pos (by omega) (Ev.pos (by omega) ih))
theorem wyCode_ev (W H : Int) (cs : List Int) (x y : Int) (d : DD) (hd : goodD d) (h0 : 0 ≤ y * W + x) (h1 : y * W + x < 100) (hw : wrap64 (y * W) = y * W) :
  Ev (fun k => qv.f k W H cs x y d.f0 d.f1 d.f2 d.f3 d.f4 d.f5) (codeF (y * W + x) (facesD d)) := by
 unfold qv.f
 refine Ev.bindc (show qIA.f d.f0 d.f1 d.f2 d.f3 d.f4 d.f5 = some (facesD d) from rfl) ?_
 rw [hw, show wrap64 (y * W + x) = y * W + x by unfold wrap64; omega]
 exact wyCode_loop (facesD d) (by show 6 ≤ 6; omega) (facesD d) 0 _ rfl (by omega) hd h0 (by simpa using h1)
def plc (n : Int) : List Int → Nat → Int
 | [], _ => -1
 | x :: l, i => if x = n then (i : Int) else plc n l (i + 1)
theorem plc_mem (n : Int) : ∀ (l : List Int) (i : Nat), n ∈ l → ∃ j, j < l.length ∧ plc n l i = ((i + j : Nat) : Int) ∧ l[j]? = some n
 | [], _, h => by cases h
 | x :: l, i, h => by
  unfold plc
  by_cases e : x = n
  case pos => rw [if_pos e]; exact ⟨0, by simp, by simp, by simp [e]⟩
  rw [if_neg e]
  rcases List.mem_cons.1 h with h | h
  ·exact absurd h.symm e
  obtain ⟨j, h1, h2, h3⟩ := plc_mem n l (i + 1) h
  refine ⟨j + 1, by simp only [List.length_cons]; omega, by rw [h2]; congr 1; omega, by simpa using h3⟩
theorem wyPlace_loop (L : List Int) (hL : L.length ≤ 100000000) (n : Int) : ∀ (u : List Int) (i : Nat), L.drop i = u → i ≤ L.length → Ev (fun k => qJA.l0 k n L (L.length : Int) (i : Int)) (plc n u i)
 | [], i, hd, hi => by
  have := Sorts.qGB hd
  refine Ev.step (f := fun k => _) (fun k => by rw [qJA.l0]) ?_
  exact Ev.neg (by omega) (Ev.now _)
 | x :: u, i, hd, hi => by
  obtain ⟨hlt, hc, hd'⟩ := Sorts.quA hd
  have ih := wyPlace_loop L hL n u (i + 1) hd' (by omega)
  have w : wrap64 ((i : Int) + 1) = ((i + 1 : Nat) : Int) := by unfold wrap64; omega
  refine Ev.step (f := fun k => _) (fun k => by rw [qJA.l0]) ?_
  rw [rdI L i hlt, hc, w]
  clear hd hd' hc
  unfold plc
  refine Ev.pos (by omega) (Ev.pos (by omega) (Ev.pos (by omega) ?_))
  by_cases e : x = n
  case pos => rw [if_pos e]; exact Ev.pos e (Ev.now _)
  rw [if_neg e]; exact Ev.neg e ih
theorem wyPlace_ev (L : List Int) (hL : L.length ≤ 100000000) (n : Int) : Ev (fun k => qJA.f k L n) (plc n L 0) := wyPlace_loop L hL n L 0 rfl (by omega)
theorem qYD {a b : XS} (h0 : a.f0 = b.f0) (h1 : a.f1 = b.f1) (h2 : a.f2 = b.f2) : a = b := by
 cases a; cases b; simp only at h0 h1 h2; subst h0; subst h1; subst h2; rfl
instance xsDec : DecidableEq XS := fun a b =>
 if h : a.f0 = b.f0 ∧ a.f1 = b.f1 ∧ a.f2 = b.f2 then isTrue (qYD h.1 h.2.1 h.2.2) else isFalse (fun e => h (by subst e; exact ⟨rfl, rfl, rfl⟩))
abbrev WB := Int × (Int × Int)
def rollO (a : ByteArray) (x : XS) (d : Int) : Option XS := if floorB a (rollS x d).f0 (rollS x d).f1 = true then some (rollS x d) else none
def stepsW (a : ByteArray) (i : Nat) (x : XS) (p : WB) : Nat → Nat → List (Option XS × WB)
 | 0, _ => []
 | n + 1, d => (rollO a x (d : Int), ((p.1.toNat : Int) + 1, ((i : Int), (d : Int)))) :: stepsW a i x p n (d + 1)
def nextW (a : ByteArray) (i : Nat) (x : XS) (p : WB) : List (Option XS × WB) := stepsW a i x p 4 0
theorem rollD_good {x : XD} {d : Int} (h : dieB x.f0 x.f1 x.f2 x.f3 x.f4 x.f5 = true) : dieB (rollD x d).f0 (rollD x d).f1 (rollD x d).f2 (rollD x d).f3 (rollD x d).f4 (rollD x d).f5 = true := by
 unfold rollD
 unfold dieB at h ⊢
 rw [List.all_eq_true] at h ⊢
 intro n hn
 refine h n ?_
 split at hn
 ·simp only [List.mem_cons, List.not_mem_nil, or_false] at hn ⊢
  omega
 split at hn
 ·simp only [List.mem_cons, List.not_mem_nil, or_false] at hn ⊢
  omega
 split at hn
 ·simp only [List.mem_cons, List.not_mem_nil, or_false] at hn ⊢
  omega
 ·simp only [List.mem_cons, List.not_mem_nil, or_false] at hn ⊢
  omega
theorem qBC {a : ByteArray} {x : XS} (h : stateB a x = true) {d : Int} {z : XS} (hz : rollO a x d = some z) : stateB a z = true := by
 unfold rollO at hz
 split at hz
 case isFalse => cases hz
 rename_i hf
 injection hz with hz
 subst hz
 unfold stateB at h ⊢
 rw [Bool.and_eq_true] at h ⊢
 exact ⟨hf, rollD_good h.2⟩
theorem qKC (a : ByteArray) (i : Nat) {x : XS} (h : stateB a x = true) (p : WB) : ∀ (n d : Nat), ∀ s ∈ stepsW a i x p n d, ∀ z, s.1 = some z → stateB a z = true
 | 0, _, s, hs, _, _ => by cases hs
 | n + 1, d, s, hs, z, hz => by
  rcases List.mem_cons.1 hs with rfl | hs
  ·exact qBC h hz
  ·exact qKC a i h p n (d + 1) s hs z hz
structure FoundW (a : ByteArray) (L : List (XS × WB)) : Prop where
 nd : (L.map Prod.fst).Nodup
 ok : ∀ z ∈ L, stateB a z.1 = true
theorem FoundW.start {a : ByteArray} {x : XS} (h : stateB a x = true) (p : WB) : FoundW a [(x, p)] := ⟨by simp, fun z hz => by rw [List.mem_singleton] at hz; subst hz; exact h⟩
theorem FoundW.put {a : ByteArray} {L : List (XS × WB)} (h : FoundW a L) (y : Option XS) (p : WB) (hy : ∀ z, y = some z → stateB a z = true) : FoundW a (Bfs.put L y p) :=
 ⟨Bfs.qtC h.nd y p, Bfs.qUD h.ok y p hy⟩
theorem FoundW.puts {a : ByteArray} {L : List (XS × WB)} (h : FoundW a L) (l : List (Option XS × WB)) (hl : ∀ s ∈ l, ∀ z, s.1 = some z → stateB a z = true) : FoundW a (Bfs.puts L l) :=
 ⟨Bfs.puts_nodup l h.nd, Bfs.qhC l h.ok hl⟩
theorem FoundW.round {a : ByteArray} {L : List (XS × WB)} (h : FoundW a L) (i : Nat) : FoundW a (Bfs.round (nextW a) i L) :=
 ⟨Bfs.qLC _ h.nd i, Bfs.qsC _ (Q := fun z => stateB a z.1 = true) (fun i x p hx s hs z hz => qKC a i hx p 4 0 s hs z hz) i h.ok⟩
theorem FoundW.run {a : ByteArray} {L : List (XS × WB)} (h : FoundW a L) (n i : Nat) : FoundW a (Bfs.run (nextW a) n i L) :=
 ⟨Bfs.qrC _ n i h.nd, Bfs.qSD _ (Q := fun z => stateB a z.1 = true) (fun i x p hx s hs z hz => qKC a i hx p 4 0 s hs z hz) n i h.ok⟩
def cellsN (a : ByteArray) : Int := (wideT a : Int) * (highT a : Int)
theorem cell_lin {x y W H : Int} (y0 : 0 ≤ y) (y1 : y < H) (x0 : 0 ≤ x) (x1 : x < W) : 0 ≤ y * W + x ∧ y * W + x < W * H := by
 have hp : (y + 1) * W ≤ H * W := Int.mul_le_mul_of_nonneg_right (by omega) (by omega)
 have hq : 0 ≤ y * W := Int.mul_nonneg y0 (by omega)
 rw [Int.add_mul, Int.one_mul] at hp
 rw [Int.mul_comm W H]
 generalize y * W = m at *
 generalize H * W = M at *
 omega
theorem qlB {a : ByteArray} (g : Gnd a) {t : XS} (h : stateB a t = true) : 0 ≤ t.f1 * (wideT a : Int) + t.f0 ∧ t.f1 * (wideT a : Int) + t.f0 < cellsN a ∧ 0 ≤ t.f0 ∧ t.f0 < (wideT a : Int) ∧ 0 ≤ t.f1 ∧ t.f1 < (highT a : Int) := by
 unfold stateB floorB at h
 simp only [Bool.and_eq_true] at h
 obtain ⟨⟨h1, _⟩, _⟩ := h
 obtain ⟨⟨y0, y1⟩, x0, x1⟩ := (qjC a t.f0 t.f1).1 h1
 obtain ⟨z0, z1⟩ := cell_lin y0 y1 x0 x1
 exact ⟨z0, z1, x0, x1, y0, y1⟩
theorem cellsN_le {a : ByteArray} (g : Gnd a) : 1 ≤ cellsN a ∧ cellsN a ≤ 49 := by
 have h1 := g.w1
 have h2 := g.h1
 have h3 := g.w7
 have h4 := g.h7
 unfold cellsN
 have e : (wideT a : Int) * (highT a : Int) = ((wideT a * highT a : Nat) : Int) := by rw [Int.natCast_mul]
 rw [e]
 have h5 : 1 * 1 ≤ wideT a * highT a := Nat.mul_le_mul h1 h2
 have h6 : wideT a * highT a ≤ 7 * 7 := Nat.mul_le_mul h3 h4
 omega
def codeY (a : ByteArray) (t : XS) : Int := codeF (t.f1 * (wideT a : Int) + t.f0) (facesD t.f2)
theorem qiB {a : ByteArray} {t : XS} (h : stateB a t = true) : goodD t.f2 := by
 unfold stateB at h
 rw [Bool.and_eq_true] at h
 exact goodD_of h.2
theorem codeY_bound {a : ByteArray} (g : Gnd a) {t : XS} (h : stateB a t = true) : 0 ≤ codeY a t ∧ codeY a t < 49000000 := by
 obtain ⟨h0, h1, _⟩ := qlB g h
 have h2 := (cellsN_le g).2
 have hd := qiB h
 unfold codeY codeF facesD
 unfold goodD facesD at hd
 generalize t.f1 * (wideT a : Int) + t.f0 = o at h0 h1 ⊢
 have q0 := hd t.f2.f0 (by simp)
 have q1 := hd t.f2.f1 (by simp)
 have q2 := hd t.f2.f2 (by simp)
 have q3 := hd t.f2.f3 (by simp)
 have q4 := hd t.f2.f4 (by simp)
 have q5 := hd t.f2.f5 (by simp)
 simp only [List.foldl]
 omega
theorem codeY_inj {a : ByteArray} (g : Gnd a) {t u : XS} (ht : stateB a t = true) (hu : stateB a u = true) (h : codeY a t = codeY a u) : t = u := by
 obtain ⟨h1, h2⟩ := qAD (facesD t.f2) (facesD u.f2) _ _ rfl (qiB ht) (qiB hu) h
 obtain ⟨_, _, x0, x1, y0, y1⟩ := qlB g ht
 obtain ⟨_, _, x2, x3, y2, y3⟩ := qlB g hu
 have hy : t.f1 = u.f1 := by
  rcases Int.lt_trichotomy t.f1 u.f1 with q | q | q
  ·have : (t.f1 + 1) * (wideT a : Int) ≤ u.f1 * (wideT a : Int) := Int.mul_le_mul_of_nonneg_right (by omega) (by omega)
   rw [Int.add_mul, Int.one_mul] at this
   generalize t.f1 * (wideT a : Int) = m at *
   generalize u.f1 * (wideT a : Int) = n at *
   omega
  ·exact q
  ·have : (u.f1 + 1) * (wideT a : Int) ≤ t.f1 * (wideT a : Int) := Int.mul_le_mul_of_nonneg_right (by omega) (by omega)
   rw [Int.add_mul, Int.one_mul] at this
   generalize t.f1 * (wideT a : Int) = m at *
   generalize u.f1 * (wideT a : Int) = n at *
   omega
 rw [hy] at h1
 exact qYD (by omega) hy (qaC h2)
theorem FoundW.len {a : ByteArray} (g : Gnd a) {L : List (XS × WB)} (h : FoundW a L) : L.length ≤ 49000000 := by
 have hs : ∀ x ∈ L.map Prod.fst, stateB a x = true := by
  intro x hx
  obtain ⟨y, hy, rfl⟩ := List.mem_map.1 hx
  exact h.ok y hy
 have h1 : ((L.map Prod.fst).map (codeY a)).Nodup := by
  rw [List.Nodup, List.pairwise_map]
  exact List.Pairwise.imp_of_mem (fun hx hy hne e => hne (codeY_inj g (hs _ hx) (hs _ hy) e)) h.nd
 have h2 := Bfs.quC (U := (List.range 49000000).map fun n : Nat => (n : Int)) h1 (fun x hx => by
  obtain ⟨y, hy, rfl⟩ := List.mem_map.1 hx
  obtain ⟨b0, b1⟩ := codeY_bound g (hs y hy)
  exact List.mem_map.2 ⟨(codeY a y).toNat, List.mem_range.2 (by omega), by omega⟩)
 rw [List.length_map, List.length_map, List.length_map, List.length_range] at h2
 exact h2
theorem wyCodeY_ev {a : ByteArray} (g : Gnd a) {t : XS} (h : stateB a t = true) : Ev (fun k => qv.f k (wideT a : Int) (highT a : Int) (csOf a) t.f0 t.f1 t.f2.f0 t.f2.f1 t.f2.f2 t.f2.f3 t.f2.f4 t.f2.f5) (codeY a t) := by
 obtain ⟨h0, h1, x0, x1, y0, y1⟩ := qlB g h
 have h2 := (cellsN_le g).2
 exact wyCode_ev _ _ _ t.f0 t.f1 t.f2 (qiB h) h0 (by omega) (by
  have hq : 0 ≤ t.f1 * (wideT a : Int) := Int.mul_nonneg y0 (by omega)
  generalize t.f1 * (wideT a : Int) = m at *
  unfold wrap64; omega)
theorem putW_get {L : List (XS × WB)} {i : Nat} {x : XS × WB} (h : L[i]? = some x) (y : Option XS) (p : WB) : (Bfs.put L y p)[i]? = some x := by
 obtain ⟨t, ht⟩ := Bfs.put_prefix L y p
 rw [← ht, List.getElem?_append_left (List.getElem?_eq_some_iff.1 h).1]
 exact h
def FarOk (L : List (XS × WB)) (i : Nat) : Prop := ∀ z ∈ L, 0 ≤ z.2.1 ∧ z.2.1 ≤ (i : Int)
theorem stepsW_far (a : ByteArray) (i : Nat) (x : XS) (p : WB) : ∀ (n d : Nat), ∀ s ∈ stepsW a i x p n d, s.2.1 = (p.1.toNat : Int) + 1
 | 0, _, s, hs => by cases hs
 | n + 1, d, s, hs => by
  rcases List.mem_cons.1 hs with rfl | hs
  ·rfl
  ·exact stepsW_far a i x p n (d + 1) s hs
theorem FarOk.puts {a : ByteArray} {L : List (XS × WB)} {i : Nat} (h : FarOk L i) {x : XS} {p : WB} (hx : L[i]? = some (x, p)) : FarOk (Bfs.puts L (stepsW a i x p 4 0)) (i + 1) :=
 Bfs.qhC (Q := fun z : XS × WB => 0 ≤ z.2.1 ∧ z.2.1 ≤ ((i + 1 : Nat) : Int)) (stepsW a i x p 4 0) (fun z hz => by have := h z hz; omega) (fun s hs z _ => by
  have h1 := stepsW_far a i x p 4 0 s hs
  have h2 := h (x, p) (List.mem_of_getElem? hx)
  show 0 ≤ s.2.1 ∧ s.2.1 ≤ ((i + 1 : Nat) : Int)
  simp only at h2
  omega)
def reachW (a : ByteArray) (s : XS) : List (XS × WB) := Bfs.run (nextW a) 49000000 0 [(s, (0, (-1, 0)))]
def askS (a : ByteArray) (s : XS) : Bool := boardB a && stateB a s
structure RlO (a : ByteArray) (L : List (XS × WB)) (i : Nat) (R : List (XS × WB)) : Prop where
 ok : FoundW a L
 far : FarOk L i
 le : i ≤ L.length
 fin : Bfs.run (nextW a) (49000000 - i) i L = R
structure RlN (a : ByteArray) (L : List (XS × WB)) (i d : Nat) (x : XS) (p : WB) (R : List (XS × WB)) : Prop where
 ok : FoundW a L
 far : FarOk L (i + 1)
 px : 0 ≤ p.1 ∧ p.1 ≤ (i : Int)
 at_ : L[i]? = some (x, p)
 fin : Bfs.run (nextW a) (49000000 - (i + 1)) (i + 1) (Bfs.puts L (stepsW a i x p (4 - d) d)) = R
section
variable {a : ByteArray} {L R : List (XS × WB)} {i d : Nat} {x : XS} {p : WB}
theorem RlO.start {s : XS} (h : stateB a s = true) : RlO a [(s, (0, (-1, 0)))] 0 (reachW a s) :=
 ⟨FoundW.start h _, fun z hz => by rw [List.mem_singleton] at hz; subst hz; exact ⟨Int.le_refl _, Int.le_refl _⟩, Nat.zero_le _, rfl⟩
theorem RlO.inner (g : Gnd a) (h : RlO a L i R) (hx : L[i]? = some (x, p)) : RlN a L i 0 x p R := by
 have hi := (List.getElem?_eq_some_iff.1 hx).1
 have hl := h.ok.len g
 have hf := h.fin
 have hp := h.far (x, p) (List.mem_of_getElem? hx)
 refine ⟨h.ok, fun z hz => ?_, hp, hx, ?_⟩
 ·have := h.far z hz
  omega
 ·rw [show 49000000 - i = (49000000 - (i + 1)) + 1 by omega, Bfs.run, if_pos hi] at hf
  rw [← hf]
  unfold Bfs.round
  rw [hx]
  rfl
theorem RlO.done (h : RlO a L i R) (hi : ¬ i < L.length) : R = L := by
 have hf := h.fin
 cases hn : 49000000 - i with
 | zero => rw [hn, Bfs.run] at hf; exact hf.symm
 | succ n => rw [hn, Bfs.run, if_neg hi] at hf; exact hf.symm
theorem RlN.outer (h : RlN a L i 4 x p R) : RlO a L (i + 1) R :=
 ⟨h.ok, h.far, (List.getElem?_eq_some_iff.1 h.at_).1, h.fin⟩
theorem RlN.steps (hd : d < 4) : stepsW a i x p (4 - d) d = (rollO a x (d : Int), ((p.1.toNat : Int) + 1, ((i : Int), (d : Int)))) :: stepsW a i x p (4 - (d + 1)) (d + 1) := by
 rw [show 4 - d = (4 - (d + 1)) + 1 by omega]
 rfl
theorem RlN.none (h : RlN a L i d x p R) (hd : d < 4) (hr : rollO a x (d : Int) = none) : RlN a L i (d + 1) x p R := by
 refine ⟨h.ok, h.far, h.px, h.at_, ?_⟩
 have hf := h.fin
 rw [RlN.steps hd, hr] at hf
 exact hf
theorem RlN.met (h : RlN a L i d x p R) (hd : d < 4) {y : XS} (hr : rollO a x (d : Int) = some y) (hm : y ∈ L.map Prod.fst) : RlN a L i (d + 1) x p R := by
 refine ⟨h.ok, h.far, h.px, h.at_, ?_⟩
 have hf := h.fin
 rw [RlN.steps hd, hr, Bfs.puts, Bfs.put_met hm] at hf
 exact hf
theorem RlN.good (h : RlN a L i d x p R) {y : XS} (hr : rollO a x (d : Int) = some y) : stateB a y = true :=
 qBC (h.ok.ok (x, p) (List.mem_of_getElem? h.at_)) hr
theorem RlN.new (h : RlN a L i d x p R) (hd : d < 4) {y : XS} (hr : rollO a x (d : Int) = some y) (hm : ¬ y ∈ L.map Prod.fst) : RlN a (L ++ [(y, (p.1 + 1, ((i : Int), (d : Int))))]) i (d + 1) x p R := by
 have hp := h.px
 have e : (p.1.toNat : Int) + 1 = p.1 + 1 := by omega
 have hok := h.ok.put (some y) (p.1 + 1, ((i : Int), (d : Int))) (fun z hz => by injection hz with hz; subst hz; exact h.good hr)
 rw [Bfs.qTD hm] at hok
 refine ⟨hok, fun z hz => ?_, hp, ?_, ?_⟩
 ·rcases List.mem_append.1 hz with hz | hz
  ·exact h.far z hz
  ·rw [List.mem_singleton] at hz
   subst hz
   show 0 ≤ p.1 + 1 ∧ p.1 + 1 ≤ ((i + 1 : Nat) : Int)
   omega
 ·rw [List.getElem?_append_left (List.getElem?_eq_some_iff.1 h.at_).1]
  exact h.at_
 ·have hf := h.fin
  rw [RlN.steps hd, hr, Bfs.puts, e, Bfs.qTD hm] at hf
  exact hf
end
end Go.Proofs.YtdhbimankkpllaaGreatDoor
namespace Go.Proofs.YtdhbimankkpllaaGreatDoor
open Go Go.ChangeMaps Go.RowKit Go.Proofs.YtdhbimankkpllaaGreatDoor.P Go.Proofs.YtdhbimankkpllaaGreatDoorW.PrintWords Go.Proofs.YtdhbimankkpllaaGreatDoorW.PrintLast
set_option linter.unusedVariables false
set_option linter.unusedSimpArgs false
def numsQ (x : XS) : List Int := [x.f0, x.f1, x.f2.f0, x.f2.f1, x.f2.f2, x.f2.f3, x.f2.f4, x.f2.f5]
def wfS (x : XS) : Prop := ∀ n ∈ numsQ x, (Lit.int .i64 n).wf = true
def encS (x : XS) : Value := .agg #[.int .i64 x.f0, .int .i64 x.f1, .int .i64 x.f2.f0, .int .i64 x.f2.f1, .int .i64 x.f2.f2, .int .i64 x.f2.f3, .int .i64 x.f2.f4, .int .i64 x.f2.f5]
def litS (x : XS) : Lit := .string (keyBytes [.int .i64 x.f0, .int .i64 x.f1, .int .i64 x.f2.f0, .int .i64 x.f2.f1, .int .i64 x.f2.f2, .int .i64 x.f2.f3, .int .i64 x.f2.f4, .int .i64 x.f2.f5])
theorem encS_inj (x y : XS) (h : encS x = encS y) : x = y := by
 unfold encS at h
 simp only [Value.agg.injEq, Array.mk.injEq, List.cons.injEq, Value.int.injEq, true_and, and_true] at h
 exact qYD h.1 h.2.1 (qdD h.2.2.1 h.2.2.2.1 h.2.2.2.2.1 h.2.2.2.2.2.1 h.2.2.2.2.2.2.1 h.2.2.2.2.2.2.2)
theorem laidOutS : laidOutB Tryz.prog = true := by kernel_rfl
theorem keyedS : Go.Maps.Keyed Tryz.prog 31 := Go.Maps.Keyed.of_law (deep_law_laid laidOutS (m := 4) (by decide) (of_decide_eq_true (by kernel_rfl)) (by kernel_rfl) (by kernel_rfl))
theorem qYB (d : Nat) (n : Int) (h : (Lit.int .i64 n).wf = true) : Tryz.prog.keyLits (d + 1) 3 [.int .i64 n] = some [.int .i64 n] := by
 unfold Program.keyLits
 rw [Tryz.underlying3]
 simp only [h, and_self, if_true]
theorem litsS_die (d : Nat) (x0 x1 x2 x3 x4 x5 : Int) (h0 : (Lit.int .i64 x0).wf = true) (h1 : (Lit.int .i64 x1).wf = true) (h2 : (Lit.int .i64 x2).wf = true) (h3 : (Lit.int .i64 x3).wf = true) (h4 : (Lit.int .i64 x4).wf = true) (h5 : (Lit.int .i64 x5).wf = true) :
  Tryz.prog.keyLits (d + 2) 29 [.int .i64 x0, .int .i64 x1, .int .i64 x2, .int .i64 x3, .int .i64 x4, .int .i64 x5] = some [.int .i64 x0, .int .i64 x1, .int .i64 x2, .int .i64 x3, .int .i64 x4, .int .i64 x5] := by
 have hc : Tryz.prog.cellsOf 29 = 6 := by kernel_rfl
 have hc3 : Tryz.prog.cellsOf 3 = 1 := by kernel_rfl
 unfold Program.keyLits
 rw [Tryz.underlying29]
 simp [hc, hc3, List.mapM_cons, List.mapM_nil, qYB d x0 h0, qYB d x1 h1, qYB d x2 h2, qYB d x3 h3, qYB d x4 h4, qYB d x5 h5]
theorem keyS (x : XS) (h : wfS x) : keyOf Tryz.prog 31 (encS x) = some (litS x) := by
 unfold wfS numsQ at h
 have g0 := h x.f0 (by simp)
 have g1 := h x.f1 (by simp)
 have h0 := h x.f2.f0 (by simp)
 have h1 := h x.f2.f1 (by simp)
 have h2 := h x.f2.f2 (by simp)
 have h3 := h x.f2.f3 (by simp)
 have h4 := h x.f2.f4 (by simp)
 have h5 := h x.f2.f5 (by simp)
 clear h
 have hc : Tryz.prog.cellsOf 29 = 6 := by kernel_rfl
 have hc8 : Tryz.prog.cellsOf 31 = 8 := by kernel_rfl
 have hc3 : Tryz.prog.cellsOf 3 = 1 := by kernel_rfl
 have hk : Tryz.prog.keyType 31 = true := by kernel_rfl
 have hf : (encS x).formed Tryz.prog 31 = true := by
  unfold encS Value.formed
  rw [Tryz.underlying31]
  simp only [hc8]
  rfl
 obtain ⟨m, hm⟩ : ∃ m, Tryz.prog.types.size = m + 2 := ⟨Tryz.prog.types.size - 2, by have : 2 ≤ Tryz.prog.types.size := of_decide_eq_true (by kernel_rfl); omega⟩
 have hl : Tryz.prog.keyLits (Tryz.prog.types.size + 1) 31 [.int .i64 x.f0, .int .i64 x.f1, .int .i64 x.f2.f0, .int .i64 x.f2.f1, .int .i64 x.f2.f2, .int .i64 x.f2.f3, .int .i64 x.f2.f4, .int .i64 x.f2.f5] = some [.int .i64 x.f0, .int .i64 x.f1, .int .i64 x.f2.f0, .int .i64 x.f2.f1, .int .i64 x.f2.f2, .int .i64 x.f2.f3, .int .i64 x.f2.f4, .int .i64 x.f2.f5] := by
  have hd := litsS_die m x.f2.f0 x.f2.f1 x.f2.f2 x.f2.f3 x.f2.f4 x.f2.f5 h0 h1 h2 h3 h4 h5
  unfold Program.keyLits
  rw [Tryz.underlying31, hm]
  simp [hc, hc3, hc8, List.mapM_cons, List.mapM_nil, qYB (m + 1) x.f0 g0, qYB (m + 1) x.f1 g1, hd]
 unfold keyOf
 rw [Tryz.underlying31]
 simp only [hk, hf, Bool.and_self, if_true]
 show (Tryz.prog.keyLits (Tryz.prog.types.size + 1) 31 [.int .i64 x.f0, .int .i64 x.f1, .int .i64 x.f2.f0, .int .i64 x.f2.f1, .int .i64 x.f2.f2, .int .i64 x.f2.f3, .int .i64 x.f2.f4, .int .i64 x.f2.f5]).map _ = _
 rw [hl]
 rfl
noncomputable def mapW : MapKit Tryz.prog XS Int where
 t := 54
 k := 31
 e := 3
 law := keyedS
 ht := Tryz.underlying54
 okK := wfS
 key := encS
 lit := litS
 hkey := keyS
 inj := encS_inj
 okV := fun n => (Lit.int .i64 n).wf = true
 val := .int .i64
 dat := fun n => .lit (.int .i64 n)
 R := plainElem Tryz.prog 3
 hval := (elem_int Tryz.underlying3).1
 hdat := (elem_int Tryz.underlying3).2
 zero := 0
 okz := by decide
 hz := Tryz.zeroValue3
def metW : List (XS × WB) → Nat → List (XS × Int)
 | [], _ => []
 | x :: L, i => metW L (i + 1) ++ [(x.1, (i : Int))]
theorem metW_append : ∀ (L : List (XS × WB)) (x : XS × WB) (i : Nat), metW (L ++ [x]) i = (x.1, ((i + L.length : Nat) : Int)) :: metW L i
 | [], x, i => rfl
 | y :: L, x, i => by
  show metW (L ++ [x]) (i + 1) ++ _ = _ :: (metW L (i + 1) ++ _)
  rw [metW_append L x (i + 1), List.cons_append, List.length_cons]
  congr 3
  omega
theorem metW_len : ∀ (L : List (XS × WB)) (i : Nat), (metW L i).length = L.length
 | [], _ => rfl
 | x :: L, i => by
  show (metW L (i + 1) ++ _).length = _
  rw [List.length_append, metW_len L (i + 1)]; rfl
theorem metW_any : ∀ (L : List (XS × WB)) (y : XS) (i : Nat), MapKit.met (metW L i) y = decide (y ∈ L.map Prod.fst)
 | [], y, i => by simp [metW, MapKit.met]
 | x :: L, y, i => by
  have ih := metW_any L y (i + 1)
  unfold MapKit.met at ih ⊢
  show (metW L (i + 1) ++ [(x.1, (i : Int))]).any _ = _
  rw [List.any_append, ih]
  by_cases h : x.1 = y
  case pos => simp [h]
  have h' : ¬ y = x.1 := fun e => h e.symm
  simp [h, h']
theorem qwB {n : Int} (h0 : -1000 ≤ n) (h1 : n ≤ 1000) : (Lit.int .i64 n).wf = true := by
 unfold Lit.wf
 simp only [Bool.and_eq_true, decide_eq_true_eq]
 exact ⟨by show (-9223372036854775808 : Int) ≤ n; omega, by show n ≤ (9223372036854775807 : Int); omega⟩
theorem wf_of_place {n : Nat} (h : n ≤ 49000000) : (Lit.int .i64 (n : Int)).wf = true := by
 unfold Lit.wf
 simp only [Bool.and_eq_true, decide_eq_true_eq]
 exact ⟨by show (-9223372036854775808 : Int) ≤ (n : Int); omega, by show (n : Int) ≤ (9223372036854775807 : Int); omega⟩
theorem wfS_of {a : ByteArray} (g : Gnd a) {s : XS} (h : floorB a s.f0 s.f1 = true ∨ -500 ≤ s.f0 ∧ s.f0 ≤ 500 ∧ -500 ≤ s.f1 ∧ s.f1 ≤ 500) (hd : dieB s.f2.f0 s.f2.f1 s.f2.f2 s.f2.f3 s.f2.f4 s.f2.f5 = true) : wfS s := by
 have hw7 := g.w7
 have hh7 := g.h7
 have hxy : -1000 ≤ s.f0 ∧ s.f0 ≤ 1000 ∧ -1000 ≤ s.f1 ∧ s.f1 ≤ 1000 := by
  rcases h with h | h
  ·unfold floorB at h
   rw [Bool.and_eq_true] at h
   have hh := (qjC a s.f0 s.f1).1 h.1
   omega
  ·omega
 have hf := dieB_face hd
 intro n hn
 unfold numsQ at hn
 simp only [List.mem_cons, List.not_mem_nil, or_false] at hn
 rcases hn with rfl | rfl | hn
 ·exact qwB hxy.1 hxy.2.1
 ·exact qwB hxy.2.2.1 hxy.2.2.2
 ·have := hf n (by simp only [List.mem_cons, List.not_mem_nil, or_false]; exact hn)
  exact qwB (by omega) (by omega)
theorem wfS_roll {a : ByteArray} (g : Gnd a) {s : XS} (h : stateB a s = true) (d : Int) : wfS (rollS s d) := by
 obtain ⟨_, _, x0, x1, y0, y1⟩ := qlB g h
 have hw7 := g.w7
 have hh7 := g.h7
 unfold stateB at h
 rw [Bool.and_eq_true] at h
 refine wfS_of g (.inr ?_) (rollD_good h.2)
 show -500 ≤ (nextC s.f0 s.f1 d).1 ∧ (nextC s.f0 s.f1 d).1 ≤ 500 ∧ -500 ≤ (nextC s.f0 s.f1 d).2 ∧ (nextC s.f0 s.f1 d).2 ≤ 500
 unfold nextC
 split
 ·simp only [wrap64]; omega
 split
 ·simp only [wrap64]; omega
 split
 ·simp only [wrap64]; omega
 ·simp only [wrap64]; omega
theorem wfS_state {a : ByteArray} (g : Gnd a) {s : XS} (h : stateB a s = true) : wfS s := by
 unfold stateB at h
 rw [Bool.and_eq_true] at h
 exact wfS_of g (.inl h.1) h.2
def dirC (d : Int) : Int := if d = 0 then 110 else if d = 1 then 101 else if d = 2 then 115 else 119
def sgW (p : WB) : Int := if p.2.1 < 0 then 0 else dirC p.2.2
abbrev fromW (L : List (XS × WB)) : List Int := L.map fun z => z.2.2.1
abbrev signW (L : List (XS × WB)) : List Int := L.map fun z => sgW z.2
abbrev farW (L : List (XS × WB)) : List Int := L.map fun z => z.2.1
abbrev stW (L : List (XS × WB)) : List XS := L.map Prod.fst
def ReachAt (w : World) (v : Value) (L : List (XS × WB)) : Prop := ∃ (g gm : Nat) (A0 A1 A2 A3 : Option Addr) (c0 c1 c2 c3 : Nat), v = .pointer (some ⟨g, 0, none⟩) ∧
 w.heap[g]? = some (.cells #[.slice A0 L.length c0, .slice A1 L.length c1, .slice A2 L.length c2, .slice A3 L.length c3, .map (some gm)] 56 (0, 0)) ∧
 Kd.C k31 w A0 L.length (stW L) ∧ Kd.C (Kd.int .i64) w A1 L.length (fromW L) ∧ Kd.C (Kd.int .u8) w A2 L.length (signW L) ∧ Kd.C (Kd.int .i64) w A3 L.length (farW L) ∧ mapW.Is w gm (metW L 0)
theorem ReachAt.below {w w1 : World} {v : Value} {L : List (XS × WB)} (h : ReachAt w v L) (hb : Below w.heap.size w w1) : ReachAt w1 v L := by
 obtain ⟨g, gm, A0, A1, A2, A3, c0, c1, c2, c3, e, hg, h0, h1, h2, h3, hm⟩ := h
 exact ⟨g, gm, A0, A1, A2, A3, c0, c1, c2, c3, e, qWA hg hb, Kd.qPA h0 hb, Kd.qPA h1 hb, Kd.qPA h2 hb, Kd.qPA h3 hb, hm.below hb⟩
end Go.Proofs.YtdhbimankkpllaaGreatDoor
namespace Go.Proofs.YtdhbimankkpllaaGreatDoor
open Go.RowKit Go.Proofs.YtdhbimankkpllaaGreatDoor.P Go.Proofs.YtdhbimankkpllaaGreatDoorW.PrintWords Go.Proofs.YtdhbimankkpllaaGreatDoorW.PrintLast Go.Proofs.YtdhbimankkpllaaGreatDoorW.PrintMore
set_option linter.unusedVariables false
set_option linter.unusedSimpArgs false
theorem plLit0 {α : Type} {d : Kd α} {e base : Nat} {ok : Nat → Prop} {W w1 : World} {u : Value} {xs : List α} (h : d.R e W base ok u xs) (hg : W.grownBy w1 none) : d.R e w1 base ok u xs :=
 Kd.qY (Kd.qfC (Kd.qWB h) (fun k hk hlt => hg.block k hlt (by simp))) (fun _ hk => hk.1)
def ApartV (u v : Value) : Prop := ∀ k, u.ownBlock = some k → some k ≠ v.ownBlock
theorem ApartV.symm {u v : Value} (h : ApartV u v) : ApartV v u := fun k hk e => h k e.symm hk.symm
theorem qAC {W : World} {u v : Value} (hn : ∃ b, u.ownBlock = some b ∧ W.heap.size ≤ b) (hl : ∀ k, v.ownBlock = some k → k < W.heap.size) : ApartV u v := by
 obtain ⟨b, hb, hle⟩ := hn
 intro k hk e
 rw [hb] at hk
 injection hk with hk
 subst hk
 have := hl b e.symm
 omega
theorem qcC {W : World} {u u1 v : Value} (hat : u1.ownBlock = u.ownBlock ∨ ∃ b, u1.ownBlock = some b ∧ W.heap.size ≤ b) (h : ApartV u v) (hl : ∀ k, v.ownBlock = some k → k < W.heap.size) : ApartV u1 v := by
 rcases hat with hat | hat
 ·intro k hk
  rw [hat] at hk
  exact h k hk
 ·exact qAC hat hl
theorem rcInfoS : (Tryz.prog.info? 31).map (fun i => (i.zero, i.size, i.bytes)) = some (some (.agg #[.int .i64 0, .int .i64 0, .int .i64 0, .int .i64 0, .int .i64 0, .int .i64 0, .int .i64 0, .int .i64 0]), 8, 64) := by kernel_rfl
theorem rcInfoI : (Tryz.prog.info? 3).map (fun i => (i.zero, i.size, i.bytes)) = some (some (.int .i64 0), 1, 8) := by kernel_rfl
theorem rcInfoU : (Tryz.prog.info? 5).map (fun i => (i.zero, i.size, i.bytes)) = some (some (.int .u8 0), 1, 1) := by kernel_rfl
theorem rcStore {own : XS} {v0 v1 v2 v3 v4 v5 v6 v7 : Value} {w : World} {ρ : Operand → Value} {o : Oper} (p v : Operand) (g8 : Nat) (hop : o.op = Op.store 31 p v) (hp : ρ p = .pointer (some ⟨g8, 0, none⟩)) (hv : ρ v = .agg #[.int .i64 own.f0, .int .i64 own.f1, .int .i64 own.f2.f0, .int .i64 own.f2.f1, .int .i64 own.f2.f2, .int .i64 own.f2.f3, .int .i64 own.f2.f4, .int .i64 own.f2.f5])
  (hb : w.heap[g8]? = some (.cells #[v0, v1, v2, v3, v4, v5, v6, v7] 31 (0, 0))) : (execOp ρ o).run Tryz.prog w = .ok .skip (((((((((w.setCell ⟨g8, 0, none⟩ (.int .i64 own.f0)).setCell ⟨g8, 1, none⟩ (.int .i64 own.f1)).setCell ⟨g8, 2, none⟩ (.int .i64 own.f2.f0)).setCell ⟨g8, 3, none⟩ (.int .i64 own.f2.f1)).setCell ⟨g8, 4, none⟩ (.int .i64 own.f2.f2)).setCell ⟨g8, 5, none⟩ (.int .i64 own.f2.f3)).setCell ⟨g8, 6, none⟩ (.int .i64 own.f2.f4)).setCell ⟨g8, 7, none⟩ (.int .i64 own.f2.f5))) := by
 have hu_ := Tryz.underlying31
 have h0 : w.cell? ⟨g8, 0, none⟩ = some v0 := (qD hb 0).trans rfl
 have h1 : w.cell? ⟨g8, 1, none⟩ = some v1 := (qD hb 1).trans rfl
 have h2 : w.cell? ⟨g8, 2, none⟩ = some v2 := (qD hb 2).trans rfl
 have h3 : w.cell? ⟨g8, 3, none⟩ = some v3 := (qD hb 3).trans rfl
 have h4 : w.cell? ⟨g8, 4, none⟩ = some v4 := (qD hb 4).trans rfl
 have h5 : w.cell? ⟨g8, 5, none⟩ = some v5 := (qD hb 5).trans rfl
 have h6 : w.cell? ⟨g8, 6, none⟩ = some v6 := (qD hb 6).trans rfl
 have h7 : w.cell? ⟨g8, 7, none⟩ = some v7 := (qD hb 7).trans rfl
 have f0 := qJ hb 0
 have f1 := qJ hb 1
 have f2 := qJ hb 2
 have f3 := qJ hb 3
 have f4 := qJ hb 4
 have f5 := qJ hb 5
 have f6 := qJ hb 6
 have f7 := qJ hb 7
 clear hb
 unfold execOp
 simp only [hop, hp, hv]
 go_simp
theorem rcFar {own : XS} (w : World) (g8 : Nat) (k : Nat) (h : k ≠ g8) : (((((((((w.setCell ⟨g8, 0, none⟩ (.int .i64 own.f0)).setCell ⟨g8, 1, none⟩ (.int .i64 own.f1)).setCell ⟨g8, 2, none⟩ (.int .i64 own.f2.f0)).setCell ⟨g8, 3, none⟩ (.int .i64 own.f2.f1)).setCell ⟨g8, 4, none⟩ (.int .i64 own.f2.f2)).setCell ⟨g8, 5, none⟩ (.int .i64 own.f2.f3)).setCell ⟨g8, 6, none⟩ (.int .i64 own.f2.f4)).setCell ⟨g8, 7, none⟩ (.int .i64 own.f2.f5))).heap[k]? = w.heap[k]? :=
 (Below.heap_setCell _ _ _ k h).trans ((Below.heap_setCell _ _ _ k h).trans ((Below.heap_setCell _ _ _ k h).trans ((Below.heap_setCell _ _ _ k h).trans ((Below.heap_setCell _ _ _ k h).trans ((Below.heap_setCell _ _ _ k h).trans ((Below.heap_setCell _ _ _ k h).trans (Below.heap_setCell _ _ _ k h)))))))
theorem rcNew {own : XS} {v0 v1 v2 v3 v4 v5 v6 v7 : Value} {w : World} {g8 : Nat} (hb : w.heap[g8]? = some (.cells #[v0, v1, v2, v3, v4, v5, v6, v7] 31 (0, 0))) : (((((((((w.setCell ⟨g8, 0, none⟩ (.int .i64 own.f0)).setCell ⟨g8, 1, none⟩ (.int .i64 own.f1)).setCell ⟨g8, 2, none⟩ (.int .i64 own.f2.f0)).setCell ⟨g8, 3, none⟩ (.int .i64 own.f2.f1)).setCell ⟨g8, 4, none⟩ (.int .i64 own.f2.f2)).setCell ⟨g8, 5, none⟩ (.int .i64 own.f2.f3)).setCell ⟨g8, 6, none⟩ (.int .i64 own.f2.f4)).setCell ⟨g8, 7, none⟩ (.int .i64 own.f2.f5))).heap[g8]? = some (.cells #[.int .i64 own.f0, .int .i64 own.f1, .int .i64 own.f2.f0, .int .i64 own.f2.f1, .int .i64 own.f2.f2, .int .i64 own.f2.f3, .int .i64 own.f2.f4, .int .i64 own.f2.f5] 31 (0, 0)) := by
 have h1 := qr (cs' := #[.int .i64 own.f0, v1, v2, v3, v4, v5, v6, v7]) hb 0 (.int .i64 own.f0) rfl
 have h2 := qr (cs' := #[.int .i64 own.f0, .int .i64 own.f1, v2, v3, v4, v5, v6, v7]) h1 1 (.int .i64 own.f1) rfl
 have h3 := qr (cs' := #[.int .i64 own.f0, .int .i64 own.f1, .int .i64 own.f2.f0, v3, v4, v5, v6, v7]) h2 2 (.int .i64 own.f2.f0) rfl
 have h4 := qr (cs' := #[.int .i64 own.f0, .int .i64 own.f1, .int .i64 own.f2.f0, .int .i64 own.f2.f1, v4, v5, v6, v7]) h3 3 (.int .i64 own.f2.f1) rfl
 have h5 := qr (cs' := #[.int .i64 own.f0, .int .i64 own.f1, .int .i64 own.f2.f0, .int .i64 own.f2.f1, .int .i64 own.f2.f2, v5, v6, v7]) h4 4 (.int .i64 own.f2.f2) rfl
 have h6 := qr (cs' := #[.int .i64 own.f0, .int .i64 own.f1, .int .i64 own.f2.f0, .int .i64 own.f2.f1, .int .i64 own.f2.f2, .int .i64 own.f2.f3, v6, v7]) h5 5 (.int .i64 own.f2.f3) rfl
 have h7 := qr (cs' := #[.int .i64 own.f0, .int .i64 own.f1, .int .i64 own.f2.f0, .int .i64 own.f2.f1, .int .i64 own.f2.f2, .int .i64 own.f2.f3, .int .i64 own.f2.f4, v7]) h6 6 (.int .i64 own.f2.f4) rfl
 have h8 := qr (cs' := #[.int .i64 own.f0, .int .i64 own.f1, .int .i64 own.f2.f0, .int .i64 own.f2.f1, .int .i64 own.f2.f2, .int .i64 own.f2.f3, .int .i64 own.f2.f4, .int .i64 own.f2.f5]) h7 7 (.int .i64 own.f2.f5) rfl
 exact h8
theorem rcSet {own : XS} {w w0 : World} {g8 : Nat} (hg : w0.heap.size ≤ g8) (hB : Below w0.heap.size w0 w) : Below w0.heap.size w0 (((((((((w.setCell ⟨g8, 0, none⟩ (.int .i64 own.f0)).setCell ⟨g8, 1, none⟩ (.int .i64 own.f1)).setCell ⟨g8, 2, none⟩ (.int .i64 own.f2.f0)).setCell ⟨g8, 3, none⟩ (.int .i64 own.f2.f1)).setCell ⟨g8, 4, none⟩ (.int .i64 own.f2.f2)).setCell ⟨g8, 5, none⟩ (.int .i64 own.f2.f3)).setCell ⟨g8, 6, none⟩ (.int .i64 own.f2.f4)).setCell ⟨g8, 7, none⟩ (.int .i64 own.f2.f5))) :=
 qw (qw (qw (qw (qw (qw (qw (qw hB hg) hg) hg) hg) hg) hg) hg) hg
theorem rcRow {α : Type} {d : Kd α} {e base g8 : Nat} {ok : Nat → Prop} {w w1 : World} {v : Value} {xs : List α} (h : d.R e w base ok v xs) (hE : d.E = []) (hne : some g8 ≠ v.ownBlock) (hfar : ∀ k, k ≠ g8 → w1.heap[k]? = w.heap[k]?) : d.R e w1 base ok v xs :=
 Kd.qY (Kd.qfC (Kd.R_far1 h hE hne) (fun k hk _ => hfar k hk.2)) (fun _ hk => hk.1)
theorem rcRow' {α : Type} {d : Kd α} {e base g8 t : Nat} {ok : Nat → Prop} {w w1 : World} {v : Value} {xs : List α} {cs : Array Value} (h : d.R e w base ok v xs) (hb : w.heap[g8]? = some (.cells cs t (0, 0))) (ht : ∀ q, q ∈ e :: d.E → q ≠ t) (hfar : ∀ k, k ≠ g8 → w1.heap[k]? = w.heap[k]?) : d.R e w1 base ok v xs :=
 Kd.qY (Kd.qfC (Kd.qlA h hb ht) (fun k hk _ => hfar k hk.2)) (fun _ hk => hk.1)
theorem rcIx (s : ByteArray) (i : Nat) (n : Int) (hn : bt s (i : Int) = n) : ∀ h : i < s.size, ((s[i]'h).toNat : Int) = n := by
 intro h
 rw [← hn]
 unfold bt
 rw [dif_pos (by simpa using h)]
 simp only [Int.toNat_natCast]
theorem rcSign (d : Nat) (hd : d < 4) : bt ⟨#[110, 101, 115, 119]⟩ (d : Int) = dirC (d : Int) ∧ dOf (dirC (d : Int)) = (d : Int) := by
 have : d = 0 ∨ d = 1 ∨ d = 2 ∨ d = 3 := by omega
 rcases this with rfl | rfl | rfl | rfl <;> exact ⟨by decide, by decide⟩
def MovesW (a : ByteArray) (fn : Nat) (fc cc : Array Value) (w : World) : Prop := ∀ (W : World) (x : XS) (c : Int), stateB a x = true → Below w.heap.size w W →
 Calls Tryz.prog fn (fc ++ #[.agg #[.int .i64 x.f0, .int .i64 x.f1, .int .i64 x.f2.f0, .int .i64 x.f2.f1, .int .i64 x.f2.f2, .int .i64 x.f2.f3, .int .i64 x.f2.f4, .int .i64 x.f2.f5], .int .u8 c] ++ cc) W fun e w' => e = .returned (.tuple #[encS (rollS x (dOf c)), .bool (floorB a (rollS x (dOf c)).f0 (rollS x (dOf c)).f1)]) ∧ Below W.heap.size W w'
def rcT1 : Bool × List (List Nat × List Nat) := (true, [([], []), ([0], [0]), ([], []), ([], []), ([], []), ([], []), ([], []), ([5, 6], [5, 6]), ([5, 6, 7], [5]), ([1, 2, 3, 4, 8], [1, 2, 3, 4, 8]), ([9], [9]), ([10, 0, 1, 2, 3, 4, 5, 6, 7, 8, 9, 10], [10])])
def rcB1 : List Nat := [0, 1, 0, 0, 0, 0, 0, 96, 224, 511, 1023, 2047]
theorem rcTab1 : rtab .any (opsOf Tryz.f44 1) = rcT1 := by kernel_rfl
theorem rcBits1 : waitsOk rcT1.2 rcB1 = true := by kernel_rfl
def rcT8 : Bool × List (List Nat × List Nat) := (true, [([], []), ([], []), ([1], [1]), ([2], [2]), ([3], [3]), ([], []), ([4, 5], [4, 5]), ([6], [6]), ([], []), ([8], [8]), ([0, 7, 9], [0, 7, 9]), ([10], [10]), ([11], [11]), ([11], [11]), ([], []), ([14, 12, 10, 0, 1, 2, 3, 4, 5, 6, 7, 8, 9, 10, 11, 12, 14], [12, 14]), ([13, 15, 0, 1, 2, 3, 4, 5, 6, 7, 8, 9, 10, 11, 12, 13, 14, 15], [13])])
def rcB8 : List Nat := [0, 0, 2, 6, 14, 0, 62, 126, 0, 256, 1023, 2047, 4095, 4095, 0, 24575, 65535]
theorem rcTab8 : rtab .any (opsOf Tryz.f44 8) = rcT8 := by kernel_rfl
theorem rcBits8 : waitsOk rcT8.2 rcB8 = true := by kernel_rfl
def rcT9 : Bool × List (List Nat × List Nat) := (true, [([], []), ([0], [0]), ([1], [1]), ([2], [2]), ([], []), ([3, 4], [3, 4]), ([5], [5]), ([6], [6]), ([6], [6]), ([7, 0, 1, 2, 3, 4, 5, 6, 7], [7]), ([8, 9, 0, 1, 2, 3, 4, 5, 6, 7, 8, 9], [8])])
def rcB9 : List Nat := [0, 1, 3, 7, 0, 31, 63, 127, 127, 255, 1023]
theorem rcTab9 : rtab .any (opsOf Tryz.f44 9) = rcT9 := by kernel_rfl
theorem rcBits9 : waitsOk rcT9.2 rcB9 = true := by kernel_rfl
def rcT11 : Bool × List (List Nat × List Nat) := (true, [([], []), ([0], [0]), ([1], [1]), ([2], [2]), ([], []), ([], []), ([5], [5]), ([6], [6]), ([7], [7]), ([8], [8]), ([3, 4, 9, 0, 1, 2, 3, 4, 5, 6, 7, 8, 9], [3, 4, 9])])
def rcB11 : List Nat := [0, 1, 3, 7, 0, 0, 32, 96, 224, 480, 1023]
theorem rcTab11 : rtab .any (opsOf Tryz.f44 11) = rcT11 := by kernel_rfl
theorem rcBits11 : waitsOk rcT11.2 rcB11 = true := by kernel_rfl
def rcT12 : Bool × List (List Nat × List Nat) := (true, [([], []), ([], []), ([], []), ([], []), ([], []), ([4], [4]), ([5], [5]), ([6], [6]), ([], []), ([8], [8]), ([7, 9], [7, 9]), ([], []), ([11], [11]), ([12], [12]), ([13], [13]), ([], []), ([15], [15]), ([14, 16, 10], [14, 16]), ([], []), ([18], [18]), ([19], [19]), ([20], [20]), ([], []), ([22], [22]), ([23], [23]), ([21, 24, 17], [21, 24]), ([], []), ([26], [26]), ([27], [27]), ([28], [28]), ([], []), ([30], [30]), ([31], [31]), ([32], [32]), ([], []), ([33, 34], [33, 34]), ([35], [35]), ([36], [36]), ([37], [37]), ([29, 38, 25], [29, 38]), ([0, 0, 4, 5, 6, 7, 8, 9, 10, 14, 17, 21, 25, 29, 33, 36, 39], [0]), ([40, 0, 4, 5, 6, 7, 8, 9, 10, 14, 17, 21, 25, 29, 33, 36, 39], [40]), ([41, 10, 39, 0, 4, 5, 6, 7, 8, 9, 10, 14, 17, 21, 25, 29, 33, 36, 39], [10, 41]), ([1, 0, 1, 4, 5, 6, 7, 8, 9, 10, 11, 12, 13, 14, 15, 16, 17, 21, 25, 29, 33, 36, 39, 40, 41, 42], [1]), ([43, 0, 1, 4, 5, 6, 7, 8, 9, 10, 11, 12, 13, 14, 15, 16, 17, 21, 25, 29, 33, 36, 39, 40, 41, 42], [43]), ([44, 17, 42, 0, 1, 4, 5, 6, 7, 8, 9, 10, 11, 12, 13, 14, 15, 16, 17, 21, 25, 29, 33, 36, 39, 40, 41, 42], [17, 44]), ([2, 0, 1, 2, 4, 5, 6, 7, 8, 9, 10, 11, 12, 13, 14, 15, 16, 17, 18, 19, 20, 21, 22, 23, 24, 25, 29, 33, 36, 39, 40, 41, 42, 43, 44, 45], [2]), ([46, 0, 1, 2, 4, 5, 6, 7, 8, 9, 10, 11, 12, 13, 14, 15, 16, 17, 18, 19, 20, 21, 22, 23, 24, 25, 29, 33, 36, 39, 40, 41, 42, 43, 44, 45], [46]), ([47, 25, 45, 0, 1, 2, 4, 5, 6, 7, 8, 9, 10, 11, 12, 13, 14, 15, 16, 17, 18, 19, 20, 21, 22, 23, 24, 25, 29, 33, 36, 39, 40, 41, 42, 43, 44, 45], [25, 47]), ([3, 0, 1, 2, 3, 4, 5, 6, 7, 8, 9, 10, 11, 12, 13, 14, 15, 16, 17, 18, 19, 20, 21, 22, 23, 24, 25, 26, 27, 28, 29, 30, 31, 32, 33, 34, 35, 36, 37, 38, 39, 40, 41, 42, 43, 44, 45, 46, 47, 48], [3]), ([49, 0, 1, 2, 3, 4, 5, 6, 7, 8, 9, 10, 11, 12, 13, 14, 15, 16, 17, 18, 19, 20, 21, 22, 23, 24, 25, 26, 27, 28, 29, 30, 31, 32, 33, 34, 35, 36, 37, 38, 39, 40, 41, 42, 43, 44, 45, 46, 47, 48], [49]), ([50, 39, 48, 0, 1, 2, 3, 4, 5, 6, 7, 8, 9, 10, 11, 12, 13, 14, 15, 16, 17, 18, 19, 20, 21, 22, 23, 24, 25, 26, 27, 28, 29, 30, 31, 32, 33, 34, 35, 36, 37, 38, 39, 40, 41, 42, 43, 44, 45, 46, 47, 48], [39, 50])])
def rcB12 : List Nat := [0, 0, 0, 0, 0, 16, 48, 112, 0, 256, 1008, 0, 2048, 6144, 14336, 0, 32768, 131056, 0, 262144, 786432, 1835008, 0, 4194304, 12582912, 33554416, 0, 67108864, 201326592, 469762048, 0, 1073741824, 3221225472, 7516192768, 0, 33285996544, 67645734912, 136365211648, 273804165120, 549755813872, 1099511627761, 2199023255537, 4398046511089, 8796093022195, 17592186044403, 35184372088819, 70368744177655, 140737488355319, 281474976710647, 562949953421311, 1125899906842623, 2251799813685247]
theorem rcTab12 : rtab .any (opsOf Tryz.f44 12) = rcT12 := by kernel_rfl
theorem rcBits12 : waitsOk rcT12.2 rcB12 = true := by kernel_rfl
set_option maxHeartbeats 8000000 in
set_option maxRecDepth 100000 in
theorem reached_calls {a : ByteArray} (g : Gnd a) (s : XS) (hs : stateB a s = true) (fn : Nat) (fc cc : Array Value) (he : ∀ args w, (callFunc fn args).run Tryz.prog w = .ok (.enter fn args) w) (w : World) (hm : MovesW a fn fc cc w) :
  Calls Tryz.prog 44 #[.agg #[.int .i64 s.f0, .int .i64 s.f1, .int .i64 s.f2.f0, .int .i64 s.f2.f1, .int .i64 s.f2.f2, .int .i64 s.f2.f3, .int .i64 s.f2.f4, .int .i64 s.f2.f5], .func (.func fn) fc cc] w fun e w' => ∃ v, e = .returned v ∧ ReachAt w' v (reachW a s) ∧ Below w.heap.size w w' := by
 have hu_ := Tryz.underlying31
 have hu2_ := Tryz.underlying56
 have HGD := aM g
 have HE := aM he
 have HMV := aM hm
 have HP0 := aM (RlO.start hs)
 have HWS := aM (wfS_state g hs)
 have B := aM (Below.refl w.heap.size w)
 generalize reachW a s = RR at HP0 ⊢
 clear g he hm hs
 go_enter Tryz.func44, Tryz.ntmps44
 go_wp2_with (first | ((with_reducible refine qN (N := 2) rfl ?_); go_loud (refine bE (N := 2) (cs := #[.int .i64 s.f0, .int .i64 s.f1, .int .i64 s.f2.f0, .int .i64 s.f2.f1, .int .i64 s.f2.f2, .int .i64 s.f2.f3, .int .i64 s.f2.f4, .int .i64 s.f2.f5]) (t := 31) ?_; intro gs hgs w1 hbox hb; have CS := aM hbox; replace B := aM (ql B.out B.out.size hb); clear hbox hb hgs)))
 refine qAB (n := 12) (S := fun w' => True) (ds := []) #[false, false, false, false, false, false, false, false, false, false, false, false] (by kernel_rfl) rfl rfl trivial (fun hHeld => ?_); refine qMA rcTab1 rcBits1 (fun HT_ HW_ => ?_)
 refine qOD [0, 1, 2, 3, 4, 5, 6, 7, 8, 9, 10, 11] (fun a0_ b a w' => ∃ (s13 : Value) (s14 : Value) (s15 : Value) (s16 : Value) (gm : Nat) (gp : Nat) (m5_ : Value) (m8_ : Value) (m9_ : Value) (m10_ : Value) (m11_ : Value), a = putSel a0_ b [(0, 12, .agg #[.int .i64 s.f0, .int .i64 s.f1, .int .i64 s.f2.f0, .int .i64 s.f2.f1, .int .i64 s.f2.f2, .int .i64 s.f2.f3, .int .i64 s.f2.f4, .int .i64 s.f2.f5]), (1, 13, s13), (2, 14, s14), (3, 15, s15), (4, 16, s16), (5, 17, m5_), (6, 18, .agg #[.int .i64 s.f0, .int .i64 s.f1, .int .i64 s.f2.f0, .int .i64 s.f2.f1, .int .i64 s.f2.f2, .int .i64 s.f2.f3, .int .i64 s.f2.f4, .int .i64 s.f2.f5]), (8, 19, m8_), (9, 20, m9_), (10, 21, m10_), (11, 5, m11_)] ∧ (Below w.heap.size w w') ∧ (w'.heap[gs]? = some (.cells #[.int .i64 s.f0, .int .i64 s.f1, .int .i64 s.f2.f0, .int .i64 s.f2.f1, .int .i64 s.f2.f2, .int .i64 s.f2.f3, .int .i64 s.f2.f4, .int .i64 s.f2.f5] 31 (0, 0))) ∧ (b 1 = true → Kd.R k31 31 w' w.heap.size (fun _ => True) s13 [s]) ∧ (b 2 = true → Kd.R (Kd.int .i64) 3 w' w.heap.size (fun _ => True) s14 [(-1 : Int)]) ∧ (b 3 = true → Kd.R (Kd.int .u8) 5 w' w.heap.size (fun _ => True) s15 [(0 : Int)]) ∧ (b 4 = true → Kd.R (Kd.int .i64) 3 w' w.heap.size (fun _ => True) s16 [(0 : Int)]) ∧ (b 2 = true → b 4 = true → ApartV s14 s16) ∧ (b 5 = true → w.heap.size ≤ gm) ∧ (b 5 = true → b 7 = false → mapW.Is w' gm []) ∧ (b 7 = true → mapW.Is w' gm [(s, 0)]) ∧ (b 10 = true → w'.heap[gp]? = some (.cells #[s13, s14, s15, s16, .map (some gm)] 56 (0, 0))) ∧ (b 10 = true → w.heap.size ≤ gp) ∧ (b 10 = true → gm ≠ gp) ∧ (b 5 = true → (m5_ : Value) = .map (some gm)) ∧ (b 8 = true → (m8_ : Value) = .map (some gm)) ∧ (b 9 = true → (m9_ : Value) = .agg #[s13, s14, s15, s16, .map (some gm)]) ∧ (b 10 = true → (m10_ : Value) = .pointer (some ⟨gp, 0, none⟩)) ∧ (b 11 = true → (m11_ : Value) = .pointer (some ⟨gp, 0, none⟩))) HT_.out HW_.out (by kernel_rfl) (by kernel_rfl) ?_ ?_ ?_
 ·exact ⟨.bool false, .bool false, .bool false, .bool false, 0, 0, .bool false, .bool false, .bool false, .bool false, .bool false, by simp only [putSel, Bool.false_eq_true, if_false], qm B.out, qH CS.out, fun h_ => absurd h_ (by decide), fun h_ => absurd h_ (by decide), fun h_ => absurd h_ (by decide), fun h_ => absurd h_ (by decide), fun h_ => absurd h_ (by decide), fun h_ => absurd h_ (by decide), fun h_ => absurd h_ (by decide), fun h_ => absurd h_ (by decide), fun h_ => absurd h_ (by decide), fun h_ => absurd h_ (by decide), fun h_ => absurd h_ (by decide), fun h_ => absurd h_ (by decide), fun h_ => absurd h_ (by decide), fun h_ => absurd h_ (by decide), fun h_ => absurd h_ (by decide), fun h_ => absurd h_ (by decide)⟩
 ·skip
  clear B CS
  refine qO ?_ ?_
  ·rintro b a w' ⟨s13, s14, s15, s16, gm, gp, m5_, m8_, m9_, m10_, m11_, ha, Q_B, Q_CS, Q_D1, Q_F1, Q_U1, Q_G1, Q_NFG, Q_HGM, Q_MA, Q_MB, Q_BP, Q_HGP, Q_HNE, Q_X5_, Q_X8_, Q_X9_, Q_X10_, Q_X11_⟩ hb_ hon hoff
   refine ⟨_, rfl, fun K hK => ?_⟩
   have e2 : a.tmps[2]? = some (.pointer (some ⟨gs, 0, none⟩)) := by rw [ha]; exact (qz rfl).trans rfl
   replace ha := aM ha
   have B := aM Q_B
   have CS := aM Q_CS
   have hc0_ : w'.cell? ⟨gs, 0, none⟩ = some (.int .i64 s.f0) := (qD CS.out 0).trans rfl
   have hc1_ : w'.cell? ⟨gs, 1, none⟩ = some (.int .i64 s.f1) := (qD CS.out 1).trans rfl
   have hc2_ : w'.cell? ⟨gs, 2, none⟩ = some (.int .i64 s.f2.f0) := (qD CS.out 2).trans rfl
   have hc3_ : w'.cell? ⟨gs, 3, none⟩ = some (.int .i64 s.f2.f1) := (qD CS.out 3).trans rfl
   have hc4_ : w'.cell? ⟨gs, 4, none⟩ = some (.int .i64 s.f2.f2) := (qD CS.out 4).trans rfl
   have hc5_ : w'.cell? ⟨gs, 5, none⟩ = some (.int .i64 s.f2.f3) := (qD CS.out 5).trans rfl
   have hc6_ : w'.cell? ⟨gs, 6, none⟩ = some (.int .i64 s.f2.f4) := (qD CS.out 6).trans rfl
   have hc7_ : w'.cell? ⟨gs, 7, none⟩ = some (.int .i64 s.f2.f5) := (qD CS.out 7).trans rfl
   refine qNA (w1 := w') (v := .agg #[.int .i64 s.f0, .int .i64 s.f1, .int .i64 s.f2.f0, .int .i64 s.f2.f1, .int .i64 s.f2.f2, .int .i64 s.f2.f3, .int .i64 s.f2.f4, .int .i64 s.f2.f5]) (by rfl) rfl ?_ ?_
   ·go_simp
    (try simp only [i64_w])
    try rfl
   refine hK.out _ _ ⟨s13, s14, s15, s16, gm, gp, m5_, m8_, m9_, m10_, m11_, (by rw [ha.out]; exact qS 0 hb_ rfl rfl rfl), Q_B, Q_CS, fun h0_ => aF (hoff 1 kr) h0_, Q_F1, Q_U1, Q_G1, Q_NFG, Q_HGM, Q_MA, Q_MB, fun h0_ => aF (hoff 10 kr) h0_, fun h0_ => aF (hoff 10 kr) h0_, fun h0_ => aF (hoff 10 kr) h0_, Q_X5_, Q_X8_, fun h0_ => aF (hoff 9 kr) h0_, fun h0_ => aF (hoff 10 kr) h0_, fun h0_ => aF (hoff 11 kr) h0_⟩
  refine qO ?_ ?_
  ·rintro b a w' ⟨s13, s14, s15, s16, gm, gp, m5_, m8_, m9_, m10_, m11_, ha, Q_B, Q_CS, Q_D1, Q_F1, Q_U1, Q_G1, Q_NFG, Q_HGM, Q_MA, Q_MB, Q_BP, Q_HGP, Q_HNE, Q_X5_, Q_X8_, Q_X9_, Q_X10_, Q_X11_⟩ hb_ hon hoff
   refine ⟨_, rfl, fun K hK => ?_⟩
   have e12 : a.tmps[12]? = some (.agg #[.int .i64 s.f0, .int .i64 s.f1, .int .i64 s.f2.f0, .int .i64 s.f2.f1, .int .i64 s.f2.f2, .int .i64 s.f2.f3, .int .i64 s.f2.f4, .int .i64 s.f2.f5]) := by rw [ha]; exact qW (e := (0, 12, .agg #[.int .i64 s.f0, .int .i64 s.f1, .int .i64 s.f2.f0, .int .i64 s.f2.f1, .int .i64 s.f2.f2, .int .i64 s.f2.f3, .int .i64 s.f2.f4, .int .i64 s.f2.f5])) 0 rfl rfl (hon 0 kr) rfl
   replace ha := aM ha
   have B := aM Q_B
   have CS := aM Q_CS
   refine Kd.qSA k31 (w0 := w) w.heap.size 31 (by rfl) (N := 13) rfl (xs := ([s] : List _)) (inner := [.int .i64 s.f0, .int .i64 s.f1, .int .i64 s.f2.f0, .int .i64 s.f2.f1, .int .i64 s.f2.f2, .int .i64 s.f2.f3, .int .i64 s.f2.f4, .int .i64 s.f2.f5]) (ok := fun _ => True) (okp := fun _ => False) ?hr1 ?hp1 (fun _ hk => hk.elim) trivial B.out B.out.size (by simp) ?_
   case hr1 => first | (go_simp; done) | (go_simp; rfl)
   case hp1 => exact Reps.c8 (show Kd.M k31 _ _ _ s [.int .i64 s.f0, .int .i64 s.f1, .int .i64 s.f2.f0, .int .i64 s.f2.f1, .int .i64 s.f2.f2, .int .i64 s.f2.f3, .int .i64 s.f2.f4, .int .i64 s.f2.f5] from qGD _ _ _ _) (Reps.none _ _)
   intro v_ w1_ hR_ hB_ hg_ hnew_
   refine hK.out _ _ ⟨v_, s14, s15, s16, gm, gp, m5_, m8_, m9_, m10_, m11_, (by rw [ha.out]; exact qS 1 hb_ rfl rfl rfl), hB_, qf CS.out hg_ (by simp), fun _ => hR_, fun h0_ => plLit0 (Q_F1 h0_) hg_, fun h0_ => plLit0 (Q_U1 h0_) hg_, fun h0_ => plLit0 (Q_G1 h0_) hg_, Q_NFG, Q_HGM, fun h0_ h1_ => (Q_MA h0_ h1_).qgA (hg_.block gm (Q_MA h0_ h1_).lt (by simp)), fun h0_ => (Q_MB h0_).qgA (hg_.block gm (Q_MB h0_).lt (by simp)), fun h0_ => aF (hoff 10 kr) h0_, fun h0_ => aF (hoff 10 kr) h0_, fun h0_ => aF (hoff 10 kr) h0_, Q_X5_, Q_X8_, fun h0_ => aF (hoff 9 kr) h0_, fun h0_ => aF (hoff 10 kr) h0_, fun h0_ => aF (hoff 11 kr) h0_⟩
  refine qO ?_ ?_
  ·rintro b a w' ⟨s13, s14, s15, s16, gm, gp, m5_, m8_, m9_, m10_, m11_, ha, Q_B, Q_CS, Q_D1, Q_F1, Q_U1, Q_G1, Q_NFG, Q_HGM, Q_MA, Q_MB, Q_BP, Q_HGP, Q_HNE, Q_X5_, Q_X8_, Q_X9_, Q_X10_, Q_X11_⟩ hb_ hon hoff
   refine ⟨_, rfl, fun K hK => ?_⟩
   replace ha := aM ha
   have B := aM Q_B
   have CS := aM Q_CS
   refine Kd.qSA (Kd.int .i64) (w0 := w) w.heap.size 3 (by rfl) (N := 14) rfl (xs := ([(-1 : Int)] : List _)) (inner := [.int .i64 (-1)]) (ok := fun _ => True) (okp := fun _ => False) ?hr2 ?hp2 (fun _ hk => hk.elim) trivial B.out B.out.size (by simp) ?_
   case hr2 => first | (go_simp; done) | (go_simp; rfl)
   case hp2 => exact Reps.one (show Kd.M (Kd.int .i64) _ _ _ (-1 : Int) [.int .i64 (-1)] from rfl) (Reps.none _ _)
   intro v_ w1_ hR_ hB_ hg_ hnew_
   refine hK.out _ _ ⟨s13, v_, s15, s16, gm, gp, m5_, m8_, m9_, m10_, m11_, (by rw [ha.out]; exact qS 2 hb_ rfl rfl rfl), hB_, qf CS.out hg_ (by simp), fun h0_ => plLit0 (Q_D1 h0_) hg_, fun _ => hR_, fun h0_ => plLit0 (Q_U1 h0_) hg_, fun h0_ => plLit0 (Q_G1 h0_) hg_, fun _ h1_ => qAC hnew_ (Kd.R_lt (Q_G1 h1_)), Q_HGM, fun h0_ h1_ => (Q_MA h0_ h1_).qgA (hg_.block gm (Q_MA h0_ h1_).lt (by simp)), fun h0_ => (Q_MB h0_).qgA (hg_.block gm (Q_MB h0_).lt (by simp)), fun h0_ => aF (hoff 10 kr) h0_, fun h0_ => aF (hoff 10 kr) h0_, fun h0_ => aF (hoff 10 kr) h0_, Q_X5_, Q_X8_, fun h0_ => aF (hoff 9 kr) h0_, fun h0_ => aF (hoff 10 kr) h0_, fun h0_ => aF (hoff 11 kr) h0_⟩
  refine qO ?_ ?_
  ·rintro b a w' ⟨s13, s14, s15, s16, gm, gp, m5_, m8_, m9_, m10_, m11_, ha, Q_B, Q_CS, Q_D1, Q_F1, Q_U1, Q_G1, Q_NFG, Q_HGM, Q_MA, Q_MB, Q_BP, Q_HGP, Q_HNE, Q_X5_, Q_X8_, Q_X9_, Q_X10_, Q_X11_⟩ hb_ hon hoff
   refine ⟨_, rfl, fun K hK => ?_⟩
   replace ha := aM ha
   have B := aM Q_B
   have CS := aM Q_CS
   refine Kd.qSA (Kd.int .u8) (w0 := w) w.heap.size 5 (by rfl) (N := 15) rfl (xs := ([(0 : Int)] : List _)) (inner := [.int .u8 0]) (ok := fun _ => True) (okp := fun _ => False) ?hr3 ?hp3 (fun _ hk => hk.elim) trivial B.out B.out.size (by simp) ?_
   case hr3 => first | (go_simp; done) | (go_simp; rfl)
   case hp3 => exact Reps.one (show Kd.M (Kd.int .u8) _ _ _ (0 : Int) [.int .u8 0] from rfl) (Reps.none _ _)
   intro v_ w1_ hR_ hB_ hg_ hnew_
   refine hK.out _ _ ⟨s13, s14, v_, s16, gm, gp, m5_, m8_, m9_, m10_, m11_, (by rw [ha.out]; exact qS 3 hb_ rfl rfl rfl), hB_, qf CS.out hg_ (by simp), fun h0_ => plLit0 (Q_D1 h0_) hg_, fun h0_ => plLit0 (Q_F1 h0_) hg_, fun _ => hR_, fun h0_ => plLit0 (Q_G1 h0_) hg_, Q_NFG, Q_HGM, fun h0_ h1_ => (Q_MA h0_ h1_).qgA (hg_.block gm (Q_MA h0_ h1_).lt (by simp)), fun h0_ => (Q_MB h0_).qgA (hg_.block gm (Q_MB h0_).lt (by simp)), fun h0_ => aF (hoff 10 kr) h0_, fun h0_ => aF (hoff 10 kr) h0_, fun h0_ => aF (hoff 10 kr) h0_, Q_X5_, Q_X8_, fun h0_ => aF (hoff 9 kr) h0_, fun h0_ => aF (hoff 10 kr) h0_, fun h0_ => aF (hoff 11 kr) h0_⟩
  refine qO ?_ ?_
  ·rintro b a w' ⟨s13, s14, s15, s16, gm, gp, m5_, m8_, m9_, m10_, m11_, ha, Q_B, Q_CS, Q_D1, Q_F1, Q_U1, Q_G1, Q_NFG, Q_HGM, Q_MA, Q_MB, Q_BP, Q_HGP, Q_HNE, Q_X5_, Q_X8_, Q_X9_, Q_X10_, Q_X11_⟩ hb_ hon hoff
   refine ⟨_, rfl, fun K hK => ?_⟩
   replace ha := aM ha
   have B := aM Q_B
   have CS := aM Q_CS
   refine Kd.qSA (Kd.int .i64) (w0 := w) w.heap.size 3 (by rfl) (N := 16) rfl (xs := ([(0 : Int)] : List _)) (inner := [.int .i64 0]) (ok := fun _ => True) (okp := fun _ => False) ?hr4 ?hp4 (fun _ hk => hk.elim) trivial B.out B.out.size (by simp) ?_
   case hr4 => first | (go_simp; done) | (go_simp; rfl)
   case hp4 => exact Reps.one (show Kd.M (Kd.int .i64) _ _ _ (0 : Int) [.int .i64 0] from rfl) (Reps.none _ _)
   intro v_ w1_ hR_ hB_ hg_ hnew_
   refine hK.out _ _ ⟨s13, s14, s15, v_, gm, gp, m5_, m8_, m9_, m10_, m11_, (by rw [ha.out]; exact qS 4 hb_ rfl rfl rfl), hB_, qf CS.out hg_ (by simp), fun h0_ => plLit0 (Q_D1 h0_) hg_, fun h0_ => plLit0 (Q_F1 h0_) hg_, fun h0_ => plLit0 (Q_U1 h0_) hg_, fun _ => hR_, fun h0_ _ => (qAC hnew_ (Kd.R_lt (Q_F1 h0_))).symm, Q_HGM, fun h0_ h1_ => (Q_MA h0_ h1_).qgA (hg_.block gm (Q_MA h0_ h1_).lt (by simp)), fun h0_ => (Q_MB h0_).qgA (hg_.block gm (Q_MB h0_).lt (by simp)), fun h0_ => aF (hoff 10 kr) h0_, fun h0_ => aF (hoff 10 kr) h0_, fun h0_ => aF (hoff 10 kr) h0_, Q_X5_, Q_X8_, fun h0_ => aF (hoff 9 kr) h0_, fun h0_ => aF (hoff 10 kr) h0_, fun h0_ => aF (hoff 11 kr) h0_⟩
  refine qO ?_ ?_
  ·rintro b a w' ⟨s13, s14, s15, s16, gm, gp, m5_, m8_, m9_, m10_, m11_, ha, Q_B, Q_CS, Q_D1, Q_F1, Q_U1, Q_G1, Q_NFG, Q_HGM, Q_MA, Q_MB, Q_BP, Q_HGP, Q_HNE, Q_X5_, Q_X8_, Q_X9_, Q_X10_, Q_X11_⟩ hb_ hon hoff
   refine ⟨_, rfl, fun K hK => ?_⟩
   replace ha := aM ha
   have B := aM Q_B
   have CS := aM Q_CS
   refine qNA (w1 := w'.alloc (.map #[] 0)) (v := .map (some w'.heap.size)) (by rfl) rfl ?hr5 ?_
   case hr5 => (have hmm_ := @run_makeMap Tryz.prog); first | (go_simp; done) | (go_simp; rfl)
   refine hK.out _ _ ⟨s13, s14, s15, s16, w'.heap.size, gp, (.map (some w'.heap.size)), m8_, m9_, m10_, m11_, (by rw [ha.out]; exact qS 5 hb_ rfl rfl rfl), qQA B.out _, qK CS.out _, fun h0_ => Kd.qR (Q_D1 h0_) _, fun h0_ => Kd.qR (Q_F1 h0_) _, fun h0_ => Kd.qR (Q_U1 h0_) _, fun h0_ => Kd.qR (Q_G1 h0_) _, Q_NFG, fun _ => B.out.size, fun _ _ => (show mapW.Is (w'.alloc (.map #[] 0)) w'.heap.size [] from MapKit.Is.made w'), fun h0_ => aF (hoff 7 kr) h0_, fun h0_ => aF (hoff 10 kr) h0_, fun h0_ => aF (hoff 10 kr) h0_, fun h0_ => aF (hoff 10 kr) h0_, fun _ => rfl, fun h0_ => aF (hoff 8 kr) h0_, fun h0_ => aF (hoff 9 kr) h0_, fun h0_ => aF (hoff 10 kr) h0_, fun h0_ => aF (hoff 11 kr) h0_⟩
  refine qO ?_ ?_
  ·rintro b a w' ⟨s13, s14, s15, s16, gm, gp, m5_, m8_, m9_, m10_, m11_, ha, Q_B, Q_CS, Q_D1, Q_F1, Q_U1, Q_G1, Q_NFG, Q_HGM, Q_MA, Q_MB, Q_BP, Q_HGP, Q_HNE, Q_X5_, Q_X8_, Q_X9_, Q_X10_, Q_X11_⟩ hb_ hon hoff
   refine ⟨_, rfl, fun K hK => ?_⟩
   have e2 : a.tmps[2]? = some (.pointer (some ⟨gs, 0, none⟩)) := by rw [ha]; exact (qz rfl).trans rfl
   replace ha := aM ha
   have B := aM Q_B
   have CS := aM Q_CS
   have hc0_ : w'.cell? ⟨gs, 0, none⟩ = some (.int .i64 s.f0) := (qD CS.out 0).trans rfl
   have hc1_ : w'.cell? ⟨gs, 1, none⟩ = some (.int .i64 s.f1) := (qD CS.out 1).trans rfl
   have hc2_ : w'.cell? ⟨gs, 2, none⟩ = some (.int .i64 s.f2.f0) := (qD CS.out 2).trans rfl
   have hc3_ : w'.cell? ⟨gs, 3, none⟩ = some (.int .i64 s.f2.f1) := (qD CS.out 3).trans rfl
   have hc4_ : w'.cell? ⟨gs, 4, none⟩ = some (.int .i64 s.f2.f2) := (qD CS.out 4).trans rfl
   have hc5_ : w'.cell? ⟨gs, 5, none⟩ = some (.int .i64 s.f2.f3) := (qD CS.out 5).trans rfl
   have hc6_ : w'.cell? ⟨gs, 6, none⟩ = some (.int .i64 s.f2.f4) := (qD CS.out 6).trans rfl
   have hc7_ : w'.cell? ⟨gs, 7, none⟩ = some (.int .i64 s.f2.f5) := (qD CS.out 7).trans rfl
   refine qNA (w1 := w') (v := .agg #[.int .i64 s.f0, .int .i64 s.f1, .int .i64 s.f2.f0, .int .i64 s.f2.f1, .int .i64 s.f2.f2, .int .i64 s.f2.f3, .int .i64 s.f2.f4, .int .i64 s.f2.f5]) (by rfl) rfl ?_ ?_
   ·go_simp
    (try simp only [i64_w])
    try rfl
   refine hK.out _ _ ⟨s13, s14, s15, s16, gm, gp, m5_, m8_, m9_, m10_, m11_, (by rw [ha.out]; exact qS 6 hb_ rfl rfl rfl), Q_B, Q_CS, Q_D1, Q_F1, Q_U1, Q_G1, Q_NFG, Q_HGM, Q_MA, fun h0_ => aF (hoff 7 kr) h0_, fun h0_ => aF (hoff 10 kr) h0_, fun h0_ => aF (hoff 10 kr) h0_, fun h0_ => aF (hoff 10 kr) h0_, Q_X5_, fun h0_ => aF (hoff 8 kr) h0_, fun h0_ => aF (hoff 9 kr) h0_, fun h0_ => aF (hoff 10 kr) h0_, fun h0_ => aF (hoff 11 kr) h0_⟩
  refine qO ?_ ?_
  ·rintro b a w' ⟨s13, s14, s15, s16, gm, gp, m5_, m8_, m9_, m10_, m11_, ha, Q_B, Q_CS, Q_D1, Q_F1, Q_U1, Q_G1, Q_NFG, Q_HGM, Q_MA, Q_MB, Q_BP, Q_HGP, Q_HNE, Q_X5_, Q_X8_, Q_X9_, Q_X10_, Q_X11_⟩ hb_ hon hoff
   refine ⟨_, rfl, fun K hK => ?_⟩
   have e17 : a.tmps[17]? = some (m5_) := by rw [ha]; exact qW (e := (5, 17, m5_)) 5 rfl rfl (hon 5 kr) rfl
   rw [Q_X5_ (hon 5 kr)] at e17
   have e18 : a.tmps[18]? = some (.agg #[.int .i64 s.f0, .int .i64 s.f1, .int .i64 s.f2.f0, .int .i64 s.f2.f1, .int .i64 s.f2.f2, .int .i64 s.f2.f3, .int .i64 s.f2.f4, .int .i64 s.f2.f5]) := by rw [ha]; exact qW (e := (6, 18, .agg #[.int .i64 s.f0, .int .i64 s.f1, .int .i64 s.f2.f0, .int .i64 s.f2.f1, .int .i64 s.f2.f2, .int .i64 s.f2.f3, .int .i64 s.f2.f4, .int .i64 s.f2.f5])) 6 rfl rfl (hon 6 kr) rfl
   replace ha := aM ha
   have B := aM Q_B
   have CS := aM Q_CS
   have HGM := aM (Q_HGM (hon 5 kr))
   have MA := aM (Q_MA (hon 5 kr) hb_)
   obtain ⟨w1_, hrun_, hM1_, hgr_⟩ := MA.out.run_put (by decide) HWS.out (v := (0 : Int)) (show (Lit.int .i64 0).wf = true by decide)
   have hrun2_ : (Instr.mapUpdate 54 (.map (some gm)) (.agg #[.int .i64 s.f0, .int .i64 s.f1, .int .i64 s.f2.f0, .int .i64 s.f2.f1, .int .i64 s.f2.f2, .int .i64 s.f2.f3, .int .i64 s.f2.f4, .int .i64 s.f2.f5]) (.int .i64 0)).run Tryz.prog w' = .ok () w1_ := hrun_
   refine skip_ (w1 := w1_) (by rfl) rfl ?hr7 ?_
   case hr7 =>
    have a1_ := qzA e17
    have a2_ := qzA e18
    unfold execOp
    simp [a1_, a2_, show a.eval (.const (.int .i64 0)) = .int .i64 0 from rfl, hrun2_, Result.andThen]
   refine hK.out _ _ ⟨s13, s14, s15, s16, gm, gp, m5_, m8_, m9_, m10_, m11_, (by rw [ha.out]; exact qSB (v := undef) rfl), B.out.grown hgr_ B.out.size (fun k_ e_ => by cases e_; exact HGM.out), qf CS.out hgr_ (fun e_ => MA.out.off CS.out (by injection e_)), fun h0_ => MA.out.row (Q_D1 h0_) hgr_, fun h0_ => MA.out.row (Q_F1 h0_) hgr_, fun h0_ => MA.out.row (Q_U1 h0_) hgr_, fun h0_ => MA.out.row (Q_G1 h0_) hgr_, Q_NFG, Q_HGM, fun _ h1_ => absurd ((qkA b 7).symm.trans h1_) (by decide), fun _ => hM1_, fun h0_ => aF (hoff 10 kr) h0_, fun h0_ => aF (hoff 10 kr) h0_, fun h0_ => aF (hoff 10 kr) h0_, Q_X5_, fun h0_ => aF (hoff 8 kr) h0_, fun h0_ => aF (hoff 9 kr) h0_, fun h0_ => aF (hoff 10 kr) h0_, fun h0_ => aF (hoff 11 kr) h0_⟩
  refine qO ?_ ?_
  ·rintro b a w' ⟨s13, s14, s15, s16, gm, gp, m5_, m8_, m9_, m10_, m11_, ha, Q_B, Q_CS, Q_D1, Q_F1, Q_U1, Q_G1, Q_NFG, Q_HGM, Q_MA, Q_MB, Q_BP, Q_HGP, Q_HNE, Q_X5_, Q_X8_, Q_X9_, Q_X10_, Q_X11_⟩ hb_ hon hoff
   refine ⟨_, rfl, fun K hK => ?_⟩
   have e17 : a.tmps[17]? = some (m5_) := by rw [ha]; exact qW (e := (5, 17, m5_)) 5 rfl rfl (hon 5 kr) rfl
   rw [Q_X5_ (hon 5 kr)] at e17
   replace ha := aM ha
   have B := aM Q_B
   have CS := aM Q_CS
   have HGM := aM (Q_HGM (hon 5 kr))
   have MB := aM (Q_MB (hon 7 kr))
   refine qNA (w1 := w') (v := .map (some gm)) (by rfl) rfl ?_ ?_
   ·go_simp
    (try simp only [i64_w])
    try rfl
   refine hK.out _ _ ⟨s13, s14, s15, s16, gm, gp, m5_, (.map (some gm)), m9_, m10_, m11_, (by rw [ha.out]; exact qS 7 hb_ rfl rfl rfl), Q_B, Q_CS, Q_D1, Q_F1, Q_U1, Q_G1, Q_NFG, Q_HGM, fun _ h1_ => aT (hon 7 kr) h1_, Q_MB, fun h0_ => aF (hoff 10 kr) h0_, fun h0_ => aF (hoff 10 kr) h0_, fun h0_ => aF (hoff 10 kr) h0_, Q_X5_, fun _ => rfl, fun h0_ => aF (hoff 9 kr) h0_, fun h0_ => aF (hoff 10 kr) h0_, fun h0_ => aF (hoff 11 kr) h0_⟩
  refine qO ?_ ?_
  ·rintro b a w' ⟨s13, s14, s15, s16, gm, gp, m5_, m8_, m9_, m10_, m11_, ha, Q_B, Q_CS, Q_D1, Q_F1, Q_U1, Q_G1, Q_NFG, Q_HGM, Q_MA, Q_MB, Q_BP, Q_HGP, Q_HNE, Q_X5_, Q_X8_, Q_X9_, Q_X10_, Q_X11_⟩ hb_ hon hoff
   refine ⟨_, rfl, fun K hK => ?_⟩
   have e13 : a.tmps[13]? = some (s13) := by rw [ha]; exact qW (e := (1, 13, s13)) 1 rfl rfl (hon 1 kr) rfl
   have e14 : a.tmps[14]? = some (s14) := by rw [ha]; exact qW (e := (2, 14, s14)) 2 rfl rfl (hon 2 kr) rfl
   have e15 : a.tmps[15]? = some (s15) := by rw [ha]; exact qW (e := (3, 15, s15)) 3 rfl rfl (hon 3 kr) rfl
   have e16 : a.tmps[16]? = some (s16) := by rw [ha]; exact qW (e := (4, 16, s16)) 4 rfl rfl (hon 4 kr) rfl
   have e19 : a.tmps[19]? = some (m8_) := by rw [ha]; exact qW (e := (8, 19, m8_)) 7 rfl rfl (hon 8 kr) rfl
   rw [Q_X8_ (hon 8 kr)] at e19
   replace ha := aM ha
   have B := aM Q_B
   have CS := aM Q_CS
   have D1 := aM (Q_D1 (hon 1 kr))
   have F1 := aM (Q_F1 (hon 2 kr))
   have U1 := aM (Q_U1 (hon 3 kr))
   have G1 := aM (Q_G1 (hon 4 kr))
   have NFG := aM (Q_NFG (hon 2 kr) (hon 4 kr))
   have HGM := aM (Q_HGM (hon 5 kr))
   have MB := aM (Q_MB (hon 7 kr))
   obtain ⟨A13_, c13_, rfl⟩ := Kd.qi D1.out
   obtain ⟨A14_, c14_, rfl⟩ := Kd.qi F1.out
   obtain ⟨A15_, c15_, rfl⟩ := Kd.qi U1.out
   obtain ⟨A16_, c16_, rfl⟩ := Kd.qi G1.out
   refine qNA (w1 := w') (v := .agg #[(.slice A13_ [s].length c13_), (.slice A14_ [(-1 : Int)].length c14_), (.slice A15_ [(0 : Int)].length c15_), (.slice A16_ [(0 : Int)].length c16_), .map (some gm)]) (by rfl) rfl ?_ ?_
   ·go_simp
    (try simp only [i64_w])
    try rfl
   refine hK.out _ _ ⟨(.slice A13_ [s].length c13_), (.slice A14_ [(-1 : Int)].length c14_), (.slice A15_ [(0 : Int)].length c15_), (.slice A16_ [(0 : Int)].length c16_), gm, gp, m5_, m8_, (.agg #[(.slice A13_ [s].length c13_), (.slice A14_ [(-1 : Int)].length c14_), (.slice A15_ [(0 : Int)].length c15_), (.slice A16_ [(0 : Int)].length c16_), .map (some gm)]), m10_, m11_, (by rw [ha.out]; exact qS 8 hb_ rfl rfl rfl), Q_B, Q_CS, Q_D1, Q_F1, Q_U1, Q_G1, Q_NFG, Q_HGM, fun _ h1_ => aT (hon 7 kr) h1_, Q_MB, fun h0_ => aF (hoff 10 kr) h0_, fun h0_ => aF (hoff 10 kr) h0_, fun h0_ => aF (hoff 10 kr) h0_, Q_X5_, Q_X8_, fun _ => rfl, fun h0_ => aF (hoff 10 kr) h0_, fun h0_ => aF (hoff 11 kr) h0_⟩
  refine qO ?_ ?_
  ·rintro b a w' ⟨s13, s14, s15, s16, gm, gp, m5_, m8_, m9_, m10_, m11_, ha, Q_B, Q_CS, Q_D1, Q_F1, Q_U1, Q_G1, Q_NFG, Q_HGM, Q_MA, Q_MB, Q_BP, Q_HGP, Q_HNE, Q_X5_, Q_X8_, Q_X9_, Q_X10_, Q_X11_⟩ hb_ hon hoff
   refine ⟨_, rfl, fun K hK => ?_⟩
   have e20 : a.tmps[20]? = some (m9_) := by rw [ha]; exact qW (e := (9, 20, m9_)) 8 rfl rfl (hon 9 kr) rfl
   rw [Q_X9_ (hon 9 kr)] at e20
   replace ha := aM ha
   have B := aM Q_B
   have CS := aM Q_CS
   have D1 := aM (Q_D1 (hon 1 kr))
   have F1 := aM (Q_F1 (hon 2 kr))
   have U1 := aM (Q_U1 (hon 3 kr))
   have G1 := aM (Q_G1 (hon 4 kr))
   have NFG := aM (Q_NFG (hon 2 kr) (hon 4 kr))
   have HGM := aM (Q_HGM (hon 5 kr))
   have MB := aM (Q_MB (hon 7 kr))
   refine qGC (by rfl) rfl (cs := #[s13, s14, s15, s16, .map (some gm)]) (t := 56) ?hr10 ?_
   case hr10 => first | (go_simp; done) | (go_simp; rfl)
   intro gp_ hgp_ w1_ hbox_ hbl_
   refine hK.out _ _ ⟨s13, s14, s15, s16, gm, gp_, m5_, m8_, m9_, (.pointer (some ⟨gp_, 0, none⟩)), m11_, (by rw [ha.out]; exact qS 9 hb_ rfl rfl rfl), ql B.out B.out.size hbl_, qWA CS.out hbl_, fun _ => Kd.qj D1.out hbl_, fun _ => Kd.qj F1.out hbl_, fun _ => Kd.qj U1.out hbl_, fun _ => Kd.qj G1.out hbl_, Q_NFG, Q_HGM, fun _ h1_ => aT (hon 7 kr) h1_, fun _ => MB.out.below hbl_, fun _ => hbox_, fun _ => (by rw [hgp_]; exact B.out.size), fun _ => ((MB.out.below hbl_).off hbox_).symm, Q_X5_, Q_X8_, Q_X9_, fun _ => rfl, fun h0_ => aF (hoff 11 kr) h0_⟩
  refine qO ?_ ?_
  ·rintro b a w' ⟨s13, s14, s15, s16, gm, gp, m5_, m8_, m9_, m10_, m11_, ha, Q_B, Q_CS, Q_D1, Q_F1, Q_U1, Q_G1, Q_NFG, Q_HGM, Q_MA, Q_MB, Q_BP, Q_HGP, Q_HNE, Q_X5_, Q_X8_, Q_X9_, Q_X10_, Q_X11_⟩ hb_ hon hoff
   refine ⟨_, rfl, fun K hK => ?_⟩
   have e21 : a.tmps[21]? = some (m10_) := by rw [ha]; exact qW (e := (10, 21, m10_)) 9 rfl rfl (hon 10 kr) rfl
   rw [Q_X10_ (hon 10 kr)] at e21
   replace ha := aM ha
   have B := aM Q_B
   have CS := aM Q_CS
   have D1 := aM (Q_D1 (hon 1 kr))
   have F1 := aM (Q_F1 (hon 2 kr))
   have U1 := aM (Q_U1 (hon 3 kr))
   have G1 := aM (Q_G1 (hon 4 kr))
   have NFG := aM (Q_NFG (hon 2 kr) (hon 4 kr))
   have HGM := aM (Q_HGM (hon 5 kr))
   have MB := aM (Q_MB (hon 7 kr))
   have BP := aM (Q_BP (hon 10 kr))
   have HGP := aM (Q_HGP (hon 10 kr))
   have HNE := aM (Q_HNE (hon 10 kr))
   refine qNA (w1 := w') (v := .pointer (some ⟨gp, 0, none⟩)) (by rfl) rfl ?_ ?_
   ·go_simp
    (try simp only [i64_w])
    try rfl
   refine hK.out _ _ ⟨s13, s14, s15, s16, gm, gp, m5_, m8_, m9_, m10_, (.pointer (some ⟨gp, 0, none⟩)), (by rw [ha.out]; exact qS 10 hb_ rfl rfl rfl), Q_B, Q_CS, Q_D1, Q_F1, Q_U1, Q_G1, Q_NFG, Q_HGM, fun _ h1_ => aT (hon 7 kr) h1_, Q_MB, Q_BP, Q_HGP, Q_HNE, Q_X5_, Q_X8_, Q_X9_, Q_X10_, fun _ => rfl⟩
  exact qhB
 ·rintro b a w' hall ⟨s13, s14, s15, s16, gm, gp, m5_, m8_, m9_, m10_, m11_, ha, Q_B, Q_CS, Q_D1, Q_F1, Q_U1, Q_G1, Q_NFG, Q_HGM, Q_MA, Q_MB, Q_BP, Q_HGP, Q_HNE, Q_X5_, Q_X8_, Q_X9_, Q_X10_, Q_X11_⟩
  clear B CS
  have hb0_ := hall 0 (by kernel_rfl)
  have hb1_ := hall 1 (by kernel_rfl)
  have hb2_ := hall 2 (by kernel_rfl)
  have hb3_ := hall 3 (by kernel_rfl)
  have hb4_ := hall 4 (by kernel_rfl)
  have hb5_ := hall 5 (by kernel_rfl)
  have hb6_ := hall 6 (by kernel_rfl)
  have hb7_ := hall 7 (by kernel_rfl)
  have hb8_ := hall 8 (by kernel_rfl)
  have hb9_ := hall 9 (by kernel_rfl)
  have hb10_ := hall 10 (by kernel_rfl)
  have hb11_ := hall 11 (by kernel_rfl)
  subst ha
  obtain rfl := Q_X5_ hb5_
  obtain rfl := Q_X8_ hb8_
  obtain rfl := Q_X9_ hb9_
  obtain rfl := Q_X10_ hb10_
  obtain rfl := Q_X11_ hb11_
  simp only [putSel, hb0_, hb1_, hb2_, hb3_, hb4_, hb5_, hb6_, hb7_, hb8_, hb9_, hb10_, hb11_, if_true, Act.put, List.setIfInBounds_toArray, List.set_cons_zero, List.set_cons_succ]
  have B := aM Q_B
  clear Q_B
  have CS := aM Q_CS
  clear Q_CS
  have D1 := aM (Q_D1 hb1_)
  clear Q_D1
  have F1 := aM (Q_F1 hb2_)
  clear Q_F1
  have U1 := aM (Q_U1 hb3_)
  clear Q_U1
  have G1 := aM (Q_G1 hb4_)
  clear Q_G1
  have NFG := aM (Q_NFG hb2_ hb4_)
  clear Q_NFG
  have HGM := aM (Q_HGM hb5_)
  clear Q_HGM Q_MA
  have MB := aM (Q_MB hb7_)
  clear Q_MB
  have BP := aM (Q_BP hb10_)
  clear Q_BP
  have HGP := aM (Q_HGP hb10_)
  clear Q_HGP
  have HNE := aM (Q_HNE hb10_)
  clear Q_HNE hall hb0_ hb1_ hb2_ hb3_ hb4_ hb5_ hb6_ hb7_ hb8_ hb9_ hb10_ hb11_
  obtain ⟨c0, d0, e0⟩ := Kd.qi D1.out
  obtain rfl := e0
  obtain ⟨c3, d3, e3⟩ := Kd.qi G1.out
  obtain rfl := e3
  clear CS
  go_wp2
  go_loopg [6] 49000000 (fun gg v6 wq => ∃ (L : List (XS × WB)) (i : Nat) (v0 v1 v2 v3 : Value), v6 = .int .i64 i ∧ 49000000 - i ≤ gg ∧ Aside0 (RlO a L i RR) ∧ Aside0 (Kd.R k31 31 wq w.heap.size (fun _ => True) v0 (stW L)) ∧ Aside0 (Kd.R (Kd.int .i64) 3 wq w.heap.size (fun _ => True) v1 (fromW L)) ∧ Aside0 (Kd.R (Kd.int .u8) 5 wq w.heap.size (fun _ => True) v2 (signW L)) ∧ Aside0 (Kd.R (Kd.int .i64) 3 wq w.heap.size (fun _ => True) v3 (farW L)) ∧ Aside0 (wq.heap[gp]? = some (.cells #[v0, v1, v2, v3, .map (some gm)] 56 (0, 0))) ∧ Aside0 (mapW.Is wq gm (metW L 0)) ∧ Aside0 (ApartV v1 v3) ∧ Aside0 (Below w.heap.size w wq))
  case atStart => exact ⟨[(s, (0, (-1, 0)))], 0, _, _, _, _, rfl, by omega, HP0, D1, F1, U1, G1, BP, MB, NFG, B⟩
  case round =>
   clear HP0 D1 F1 U1 G1 BP MB NFG B
   obtain ⟨L, i, v0, v1, v2, v3, rfl, hgk, HO, D0, F0, U0, G0, BP, M0, NFG, B⟩ := hrel
   rename World => wr
   have hlen := HO.out.ok.len HGD.out
   have hle := HO.out.le
   obtain ⟨Ad, cd, rfl⟩ := Kd.qi D0.out
   obtain ⟨n0, hn0⟩ : ∃ n0, (stW L).length = n0 := ⟨_, rfl⟩
   have hln : n0 = L.length := by rw [← hn0]; exact List.length_map _
   rw [hn0] at D0 BP
   have hc0 : wr.cell? ⟨gp, 0, none⟩ = some (.slice Ad n0 cd) := (qD BP.out 0).trans rfl
   by_cases hlt : i < L.length
   ·have hltz : (i : Int) < (n0 : Int) := by omega
    obtain ⟨⟨x, p⟩, hx⟩ : ∃ z, L[i]? = some z := ⟨_, List.getElem?_eq_getElem hlt⟩
    have HN := aM (HO.out.inner HGD.out hx)
    have HI9 := aM (show i < 49000000 by omega)
    clear hx hn0 hle HO hlen
    go_wp2
    clear hltz hc0 hln hlt
    go_loopg [31] 4 (fun gg v31 wq => ∃ (L : List (XS × WB)) (d : Nat) (v0 v1 v2 v3 : Value), v31 = .int .i64 d ∧ 4 - d ≤ gg ∧ Aside0 (d ≤ 4) ∧ Aside0 (RlN a L i d x p RR) ∧ Aside0 (Kd.R k31 31 wq w.heap.size (fun _ => True) v0 (stW L)) ∧ Aside0 (Kd.R (Kd.int .i64) 3 wq w.heap.size (fun _ => True) v1 (fromW L)) ∧ Aside0 (Kd.R (Kd.int .u8) 5 wq w.heap.size (fun _ => True) v2 (signW L)) ∧ Aside0 (Kd.R (Kd.int .i64) 3 wq w.heap.size (fun _ => True) v3 (farW L)) ∧ Aside0 (wq.heap[gp]? = some (.cells #[v0, v1, v2, v3, .map (some gm)] 56 (0, 0))) ∧ Aside0 (mapW.Is wq gm (metW L 0)) ∧ Aside0 (ApartV v1 v3) ∧ Aside0 (Below w.heap.size w wq))
    case atStart => exact ⟨L, 0, _, _, _, _, rfl, by omega, ⟨by omega⟩, HN, D0, F0, U0, G0, BP, M0, NFG, B⟩
    case round =>
     clear HN D0 F0 U0 G0 BP M0 NFG B
     obtain ⟨L2, d, v0, v1, v2, v3, rfl, hgj, HD4, HN, D0, F0, U0, G0, BP, M0, NFG, B⟩ := hrel
     rename World => wq
     by_cases hd : d < 4
     ·have hdz : (d : Int) < 4 := by omega
      have hd0 : (0 : Int) ≤ (d : Int) := by omega
      have HD := aM hd
      obtain ⟨sg, hsg⟩ : ∃ sg, dirC (d : Int) = sg := ⟨_, rfl⟩
      have hsd := rcSign d hd
      rw [hsg] at hsd
      have hix := rcIx ⟨#[110, 101, 115, 119]⟩ d sg hsd.1
      obtain ⟨own, hown⟩ : ∃ own, rollS x (d : Int) = own := ⟨_, rfl⟩
      obtain ⟨can, hcan⟩ : ∃ can, floorB a own.f0 own.f1 = can := ⟨_, rfl⟩
      have HSG := aM hsg
      have HOWN := aM (show rollS x (dOf sg) = own ∧ floorB a own.f0 own.f1 = can from ⟨by rw [hsd.2]; exact hown, hcan⟩)
      have hxs := HN.out.ok.ok (x, p) (List.mem_of_getElem? HN.out.at_)
      have HXS := aM hxs
      have HWO := aM (show wfS own by rw [← hown]; exact wfS_roll HGD.out hxs _)
      have HRO := aM (show rollO a x (d : Int) = if can = true then some own else none by unfold rollO; rw [hown, hcan])
      have hl2 := HN.out.ok.len HGD.out
      have hil := (List.getElem?_eq_some_iff.1 HN.out.at_).1
      have hpx := HN.out.px
      obtain ⟨ds, hds⟩ : ∃ ds, stW L2 = ds := ⟨_, rfl⟩
      obtain ⟨fs, hfs⟩ : ∃ fs, fromW L2 = fs := ⟨_, rfl⟩
      obtain ⟨us, hus⟩ : ∃ us, signW L2 = us := ⟨_, rfl⟩
      obtain ⟨qs, hqs⟩ : ∃ qs, farW L2 = qs := ⟨_, rfl⟩
      obtain ⟨met, hmet⟩ : ∃ met, metW L2 0 = met := ⟨_, rfl⟩
      obtain ⟨p1, hp1⟩ : ∃ p1, p.1 = p1 := ⟨_, rfl⟩
      obtain ⟨pl, hpl⟩ : ∃ pl, mapW.look met own = pl := ⟨_, rfl⟩
      obtain ⟨mt, hmt⟩ : ∃ mt, MapKit.met met own = mt := ⟨_, rfl⟩
      have hld : ds.length = L2.length := by rw [← hds]; exact List.length_map _
      have hlq : qs.length = L2.length := by rw [← hqs]; exact List.length_map _
      have HBD := aM (show ds.length ≤ 49000000 ∧ fs.length ≤ 49000000 ∧ us.length ≤ 49000000 ∧ qs.length ≤ 49000000 from ⟨by omega, by rw [← hfs, List.length_map]; exact hl2, by rw [← hus, List.length_map]; exact hl2, by omega⟩)
      have HML := aM (show met.length < maxLen by rw [← hmet, metW_len]; unfold maxLen; omega)
      have HLOOK := aM (show ∀ W, mapW.Is W gm met → (Instr.lookup 54 (.map (some gm)) (.agg #[.int .i64 own.f0, .int .i64 own.f1, .int .i64 own.f2.f0, .int .i64 own.f2.f1, .int .i64 own.f2.f2, .int .i64 own.f2.f3, .int .i64 own.f2.f4, .int .i64 own.f2.f5]) true).run Tryz.prog W = .ok (.tuple #[.int .i64 pl, .bool mt]) W from fun W hW => by rw [← hpl, ← hmt]; exact hW.run_look_ok HWO.out)
      have HMT := aM (show mt = decide (own ∈ ds) by rw [← hmt, ← hmet, ← hds]; exact metW_any L2 own 0)
      have HRD := aM (show quB ds (i : Int) = x by unfold quB; rw [Int.toNat_natCast, List.getD_eq_getElem?_getD, ← hds, List.getElem?_map, HN.out.at_]; rfl)
      have HRQ := aM (show rd qs (i : Int) = p1 by unfold rd; rw [Int.toNat_natCast, List.getD_eq_getElem?_getD, ← hqs, List.getElem?_map, HN.out.at_]; exact hp1)
      have HI9' := HI9.out
      have HW1 := aM (show IntKind.i64.wrap (p1 + 1) = p1 + 1 by rw [IntKind.wrap_i64]; omega)
      rw [hds] at D0
      rw [hfs] at F0
      rw [hus] at U0
      rw [hqs] at G0
      rw [hmet] at M0
      obtain ⟨n, hn⟩ : ∃ n, ds.length = n := ⟨_, rfl⟩
      have hqn : qs.length = n := by omega
      obtain ⟨Ad, cd, rfl⟩ := Kd.qi D0.out
      obtain ⟨A3, c3, rfl⟩ := Kd.qi G0.out
      rw [hn] at D0 BP
      rw [hqn] at G0 BP NFG
      obtain ⟨ad, had⟩ : ∃ ad, Ad = some ad := by obtain ⟨ad, e, _⟩ := (Kd.qE D0.out).2.2.2.2 (by omega); exact ⟨ad, e⟩
      subst had
      obtain ⟨a3, ha3⟩ : ∃ a3, A3 = some a3 := by obtain ⟨ad, e, _⟩ := (Kd.qE G0.out).2.2.2.2 (by omega); exact ⟨ad, e⟩
      subst ha3
      have hin : (i : Int) < (n : Int) := by omega
      have hi0 : (0 : Int) ≤ (i : Int) := by omega
      have HI0 := aM hi0
      have HIN := aM hin
      have HIND := aM (show (i : Int) < (ds.length : Int) by omega)
      have HINQ := aM (show (i : Int) < (qs.length : Int) by omega)
      have HWN := aM (show mapW.okV (n : Int) from wf_of_place (by omega))
      have HEQ := aM (show stW L2 = ds ∧ fromW L2 = fs ∧ signW L2 = us ∧ farW L2 = qs ∧ metW L2 0 = met ∧ p.1 = p1 ∧ n = L2.length from ⟨hds, hfs, hus, hqs, hmet, hp1, by omega⟩)
      clear hsg hsd hown hcan hxs hl2 hil hpx hds hfs hus hqs hmet hp1 hpl hmt hld hlq HI9' hn hqn hd
      go_wp2
      refine qAB (n := 17) (S := fun w' => True) (ds := []) #[false, false, false, false, false, false, false, false, false, false, false, false, false, false, false, false, false] (by kernel_rfl) rfl rfl trivial (fun hHeld => ?_); refine qMA rcTab8 rcBits8 (fun HT_ HW_ => ?_)
      refine pS (i := 0) (N := some 35) #[true, false, false, false, false, false, false, false, false, false, false, false, false, false, false, false, false] HT_ ?_
      refine pS (i := 1) (N := some 36) #[true, true, false, false, false, false, false, false, false, false, false, false, false, false, false, false, false] HT_ ?_
      refine pS (i := 2) (N := some 37) #[true, true, true, false, false, false, false, false, false, false, false, false, false, false, false, false, false] HT_ ?_
      refine pS (i := 3) (N := some 38) #[true, true, true, true, false, false, false, false, false, false, false, false, false, false, false, false, false] HT_ ?_
      refine pS (i := 5) (N := some 40) #[true, true, true, true, false, true, false, false, false, false, false, false, false, false, false, false, false] HT_ ?_
      refine pS (i := 8) (N := some 43) #[true, true, true, true, false, true, false, false, true, false, false, false, false, false, false, false, false] HT_ ?_
      refine pS (i := 9) (N := some 44) #[true, true, true, true, false, true, false, false, true, true, false, false, false, false, false, false, false] HT_ ?_
      refine qOD [4, 6, 7, 10, 11, 12, 13, 14, 15, 16] (fun a0_ b a w' => ∃ (g8 : Nat) (m14_ : Value), a = putSel a0_ b [(4, 39, .slice (some ad) n cd), (6, 41, .pointer (some (ad.add (i * 8)))), (7, 42, .agg #[.int .i64 x.f0, .int .i64 x.f1, .int .i64 x.f2.f0, .int .i64 x.f2.f1, .int .i64 x.f2.f2, .int .i64 x.f2.f3, .int .i64 x.f2.f4, .int .i64 x.f2.f5]), (10, 45, .tuple #[.agg #[.int .i64 own.f0, .int .i64 own.f1, .int .i64 own.f2.f0, .int .i64 own.f2.f1, .int .i64 own.f2.f2, .int .i64 own.f2.f3, .int .i64 own.f2.f4, .int .i64 own.f2.f5], .bool can]), (11, 34, .tuple #[.agg #[.int .i64 own.f0, .int .i64 own.f1, .int .i64 own.f2.f0, .int .i64 own.f2.f1, .int .i64 own.f2.f2, .int .i64 own.f2.f3, .int .i64 own.f2.f4, .int .i64 own.f2.f5], .bool can]), (12, 46, .agg #[.int .i64 own.f0, .int .i64 own.f1, .int .i64 own.f2.f0, .int .i64 own.f2.f1, .int .i64 own.f2.f2, .int .i64 own.f2.f3, .int .i64 own.f2.f4, .int .i64 own.f2.f5]), (13, 47, .bool can), (14, 8, m14_), (16, 9, .bool can)] ∧ (Below w.heap.size w w') ∧ (Kd.R k31 31 w' w.heap.size (fun _ => True) (.slice (some ad) n cd) ds) ∧ (Kd.R (Kd.int .i64) 3 w' w.heap.size (fun _ => True) v1 fs) ∧ (Kd.R (Kd.int .u8) 5 w' w.heap.size (fun _ => True) v2 us) ∧ (Kd.R (Kd.int .i64) 3 w' w.heap.size (fun _ => True) (.slice (some a3) n c3) qs) ∧ (mapW.Is w' gm met) ∧ (w'.heap[gp]? = some (.cells #[.slice (some ad) n cd, v1, v2, .slice (some a3) n c3, .map (some gm)] 56 (0, 0))) ∧ (b 14 = true → w.heap.size ≤ g8) ∧ (b 14 = true → ad.block ≠ g8) ∧ (b 14 = true → gp ≠ g8) ∧ (b 14 = true → gm ≠ g8) ∧ (b 14 = true → b 15 = false → w'.heap[g8]? = some (.cells #[.int .i64 0, .int .i64 0, .int .i64 0, .int .i64 0, .int .i64 0, .int .i64 0, .int .i64 0, .int .i64 0] 31 (0, 0))) ∧ (b 15 = true → w'.heap[g8]? = some (.cells #[.int .i64 own.f0, .int .i64 own.f1, .int .i64 own.f2.f0, .int .i64 own.f2.f1, .int .i64 own.f2.f2, .int .i64 own.f2.f3, .int .i64 own.f2.f4, .int .i64 own.f2.f5] 31 (0, 0))) ∧ (b 14 = true → (m14_ : Value) = .pointer (some ⟨g8, 0, none⟩))) HT_.out HW_.out (by kernel_rfl) (by kernel_rfl) ?_ ?_ ?_
      ·exact ⟨0, .bool false, by simp only [putSel, Bool.false_eq_true, if_false], qm B.out, Kd.qQ D0.out, Kd.qQ F0.out, Kd.qQ U0.out, Kd.qQ G0.out, M0.out.drew, qH BP.out, fun h_ => absurd h_ (by decide), fun h_ => absurd h_ (by decide), fun h_ => absurd h_ (by decide), fun h_ => absurd h_ (by decide), fun h_ => absurd h_ (by decide), fun h_ => absurd h_ (by decide), fun h_ => absurd h_ (by decide)⟩
      ·skip
       clear B BP D0 F0 G0 M0 U0
       refine qO ?_ ?_
       ·rintro b a w' ⟨g8, m14_, ha, Q_B, Q_D0, Q_F0, Q_U0, Q_G0, Q_M0, Q_BP, Q_HG8, Q_N8, Q_NP8, Q_NM8, Q_LO, Q_LS, Q_X14_⟩ hb_ hon hoff
        refine ⟨_, rfl, fun K hK => ?_⟩
        have e38 : a.tmps[38]? = some (.pointer (some ⟨gp, 0, none⟩)) := by rw [ha]; exact (qz rfl).trans rfl
        replace ha := aM ha
        have B := aM Q_B
        have D0 := aM Q_D0
        have F0 := aM Q_F0
        have U0 := aM Q_U0
        have G0 := aM Q_G0
        have M0 := aM Q_M0
        have BP := aM Q_BP
        have hc_ : w'.cell? ⟨gp, 0, none⟩ = some (.slice (some ad) n cd) := (qD BP.out 0).trans rfl
        refine qNA (w1 := w') (v := .slice (some ad) n cd) (by rfl) rfl ?_ ?_
        ·go_simp
         (try simp only [i64_w])
         try rfl
        refine hK.out _ _ ⟨g8, m14_, (by rw [ha.out]; exact qS 0 hb_ rfl rfl rfl), Q_B, Q_D0, Q_F0, Q_U0, Q_G0, Q_M0, Q_BP, Q_HG8, Q_N8, Q_NP8, Q_NM8, Q_LO, fun h0_ => aF (hoff 15 kr) h0_, Q_X14_⟩
       refine qO ?_ ?_
       ·rintro b a w' ⟨g8, m14_, ha, Q_B, Q_D0, Q_F0, Q_U0, Q_G0, Q_M0, Q_BP, Q_HG8, Q_N8, Q_NP8, Q_NM8, Q_LO, Q_LS, Q_X14_⟩ hb_ hon hoff
        refine ⟨_, rfl, fun K hK => ?_⟩
        have e39 : a.tmps[39]? = some (.slice (some ad) n cd) := by rw [ha]; exact qW (e := (4, 39, .slice (some ad) n cd)) 0 rfl rfl (hon 4 kr) rfl
        have e40 : a.tmps[40]? = some (.int .i64 (i : Int)) := by rw [ha]; exact (qz rfl).trans rfl
        replace ha := aM ha
        have B := aM Q_B
        have D0 := aM Q_D0
        have F0 := aM Q_F0
        have U0 := aM Q_U0
        have G0 := aM Q_G0
        have M0 := aM Q_M0
        have BP := aM Q_BP
        refine qNA (w1 := w') (v := .pointer (some (ad.add (i * 8)))) (by rfl) rfl ?_ ?_
        ·go_simp
         (try simp only [i64_w])
         try rfl
        refine hK.out _ _ ⟨g8, m14_, (by rw [ha.out]; exact qS 1 hb_ rfl rfl rfl), Q_B, Q_D0, Q_F0, Q_U0, Q_G0, Q_M0, Q_BP, Q_HG8, Q_N8, Q_NP8, Q_NM8, Q_LO, fun h0_ => aF (hoff 15 kr) h0_, Q_X14_⟩
       refine qO ?_ ?_
       ·rintro b a w' ⟨g8, m14_, ha, Q_B, Q_D0, Q_F0, Q_U0, Q_G0, Q_M0, Q_BP, Q_HG8, Q_N8, Q_NP8, Q_NM8, Q_LO, Q_LS, Q_X14_⟩ hb_ hon hoff
        refine ⟨_, rfl, fun K hK => ?_⟩
        have e41 : a.tmps[41]? = some (.pointer (some (ad.add (i * 8)))) := by rw [ha]; exact qW (e := (6, 41, .pointer (some (ad.add (i * 8))))) 1 rfl rfl (hon 6 kr) rfl
        replace ha := aM ha
        have B := aM Q_B
        have D0 := aM Q_D0
        have F0 := aM Q_F0
        have U0 := aM Q_U0
        have G0 := aM Q_G0
        have M0 := aM Q_M0
        have BP := aM Q_BP
        obtain ⟨ad_, e_, hx0_, hx1_, hx2_, hx3_, hx4_, hx5_, hx6_, hx7_⟩ := at_T31 (Kd.qE D0.out).2.2 (i : Int) HI0.out HIND.out
        obtain rfl : ad = ad_ := by injection e_
        rw [HRD.out, Int.toNat_natCast] at hx0_ hx1_ hx2_ hx3_ hx4_ hx5_ hx6_ hx7_
        refine qNA (w1 := w') (v := .agg #[.int .i64 x.f0, .int .i64 x.f1, .int .i64 x.f2.f0, .int .i64 x.f2.f1, .int .i64 x.f2.f2, .int .i64 x.f2.f3, .int .i64 x.f2.f4, .int .i64 x.f2.f5]) (by rfl) rfl ?_ ?_
        ·go_simp
         (try simp only [i64_w])
         try rfl
        refine hK.out _ _ ⟨g8, m14_, (by rw [ha.out]; exact qS 2 hb_ rfl rfl rfl), Q_B, Q_D0, Q_F0, Q_U0, Q_G0, Q_M0, Q_BP, Q_HG8, Q_N8, Q_NP8, Q_NM8, Q_LO, fun h0_ => aF (hoff 15 kr) h0_, Q_X14_⟩
       refine qO ?_ ?_
       ·rintro b a w' ⟨g8, m14_, ha, Q_B, Q_D0, Q_F0, Q_U0, Q_G0, Q_M0, Q_BP, Q_HG8, Q_N8, Q_NP8, Q_NM8, Q_LO, Q_LS, Q_X14_⟩ hb_ hon hoff
        refine ⟨_, rfl, fun K hK => ?_⟩
        have e35 : a.tmps[35]? = some (.func (.func fn) fc cc) := by rw [ha]; exact (qz rfl).trans rfl
        have e42 : a.tmps[42]? = some (.agg #[.int .i64 x.f0, .int .i64 x.f1, .int .i64 x.f2.f0, .int .i64 x.f2.f1, .int .i64 x.f2.f2, .int .i64 x.f2.f3, .int .i64 x.f2.f4, .int .i64 x.f2.f5]) := by rw [ha]; exact qW (e := (7, 42, .agg #[.int .i64 x.f0, .int .i64 x.f1, .int .i64 x.f2.f0, .int .i64 x.f2.f1, .int .i64 x.f2.f2, .int .i64 x.f2.f3, .int .i64 x.f2.f4, .int .i64 x.f2.f5])) 2 rfl rfl (hon 7 kr) rfl
        have e44 : a.tmps[44]? = some (.int .u8 sg) := by rw [ha]; exact (qz rfl).trans rfl
        replace ha := aM ha
        have B := aM Q_B
        have D0 := aM Q_D0
        have F0 := aM Q_F0
        have U0 := aM Q_U0
        have G0 := aM Q_G0
        have M0 := aM Q_M0
        have BP := aM Q_BP
        refine goesVG_ 35 fc cc #[.agg #[.int .i64 x.f0, .int .i64 x.f1, .int .i64 x.f2.f0, .int .i64 x.f2.f1, .int .i64 x.f2.f2, .int .i64 x.f2.f3, .int .i64 x.f2.f4, .int .i64 x.f2.f5], .int .u8 sg] (fc ++ #[.agg #[.int .i64 x.f0, .int .i64 x.f1, .int .i64 x.f2.f0, .int .i64 x.f2.f1, .int .i64 x.f2.f2, .int .i64 x.f2.f3, .int .i64 x.f2.f4, .int .i64 x.f2.f5], .int .u8 sg] ++ cc) HE.out (by rfl) rfl rfl (qzA e35) (by simp only [List.map_toArray, List.map_cons, List.map_nil, qzA e42, qzA e44]) rfl ?_
        have hmv_ := HMV.out w' x sg HXS.out B.out
        rw [HOWN.out.1, HOWN.out.2] at hmv_
        simp only [encS] at hmv_
        refine hmv_.mono ?_
        rintro e_ w1_ ⟨rfl, hb_1⟩
        refine ⟨_, rfl, ?_⟩
        refine hK.out _ _ ⟨g8, m14_, (by rw [ha.out]; exact qS 3 hb_ rfl rfl rfl), ql B.out B.out.size hb_1, Kd.qj D0.out hb_1, Kd.qj F0.out hb_1, Kd.qj U0.out hb_1, Kd.qj G0.out hb_1, M0.out.below hb_1, qWA BP.out hb_1, Q_HG8, Q_N8, Q_NP8, Q_NM8, fun h0_ h1_ => qWA (Q_LO h0_ h1_) hb_1, fun h0_ => aF (hoff 15 kr) h0_, Q_X14_⟩
       refine qO ?_ ?_
       ·rintro b a w' ⟨g8, m14_, ha, Q_B, Q_D0, Q_F0, Q_U0, Q_G0, Q_M0, Q_BP, Q_HG8, Q_N8, Q_NP8, Q_NM8, Q_LO, Q_LS, Q_X14_⟩ hb_ hon hoff
        refine ⟨_, rfl, fun K hK => ?_⟩
        have e45 : a.tmps[45]? = some (.tuple #[.agg #[.int .i64 own.f0, .int .i64 own.f1, .int .i64 own.f2.f0, .int .i64 own.f2.f1, .int .i64 own.f2.f2, .int .i64 own.f2.f3, .int .i64 own.f2.f4, .int .i64 own.f2.f5], .bool can]) := by rw [ha]; exact qW (e := (10, 45, .tuple #[.agg #[.int .i64 own.f0, .int .i64 own.f1, .int .i64 own.f2.f0, .int .i64 own.f2.f1, .int .i64 own.f2.f2, .int .i64 own.f2.f3, .int .i64 own.f2.f4, .int .i64 own.f2.f5], .bool can])) 3 rfl rfl (hon 10 kr) rfl
        replace ha := aM ha
        have B := aM Q_B
        have D0 := aM Q_D0
        have F0 := aM Q_F0
        have U0 := aM Q_U0
        have G0 := aM Q_G0
        have M0 := aM Q_M0
        have BP := aM Q_BP
        refine qNA (w1 := w') (v := .tuple #[.agg #[.int .i64 own.f0, .int .i64 own.f1, .int .i64 own.f2.f0, .int .i64 own.f2.f1, .int .i64 own.f2.f2, .int .i64 own.f2.f3, .int .i64 own.f2.f4, .int .i64 own.f2.f5], .bool can]) (by rfl) rfl ?_ ?_
        ·go_simp
         (try simp only [i64_w])
         try rfl
        refine hK.out _ _ ⟨g8, m14_, (by rw [ha.out]; exact qS 4 hb_ rfl rfl rfl), Q_B, Q_D0, Q_F0, Q_U0, Q_G0, Q_M0, Q_BP, Q_HG8, Q_N8, Q_NP8, Q_NM8, Q_LO, fun h0_ => aF (hoff 15 kr) h0_, Q_X14_⟩
       refine qO ?_ ?_
       ·rintro b a w' ⟨g8, m14_, ha, Q_B, Q_D0, Q_F0, Q_U0, Q_G0, Q_M0, Q_BP, Q_HG8, Q_N8, Q_NP8, Q_NM8, Q_LO, Q_LS, Q_X14_⟩ hb_ hon hoff
        refine ⟨_, rfl, fun K hK => ?_⟩
        have e34 : a.tmps[34]? = some (.tuple #[.agg #[.int .i64 own.f0, .int .i64 own.f1, .int .i64 own.f2.f0, .int .i64 own.f2.f1, .int .i64 own.f2.f2, .int .i64 own.f2.f3, .int .i64 own.f2.f4, .int .i64 own.f2.f5], .bool can]) := by rw [ha]; exact qW (e := (11, 34, .tuple #[.agg #[.int .i64 own.f0, .int .i64 own.f1, .int .i64 own.f2.f0, .int .i64 own.f2.f1, .int .i64 own.f2.f2, .int .i64 own.f2.f3, .int .i64 own.f2.f4, .int .i64 own.f2.f5], .bool can])) 4 rfl rfl (hon 11 kr) rfl
        replace ha := aM ha
        have B := aM Q_B
        have D0 := aM Q_D0
        have F0 := aM Q_F0
        have U0 := aM Q_U0
        have G0 := aM Q_G0
        have M0 := aM Q_M0
        have BP := aM Q_BP
        refine qNA (w1 := w') (v := .agg #[.int .i64 own.f0, .int .i64 own.f1, .int .i64 own.f2.f0, .int .i64 own.f2.f1, .int .i64 own.f2.f2, .int .i64 own.f2.f3, .int .i64 own.f2.f4, .int .i64 own.f2.f5]) (by rfl) rfl ?_ ?_
        ·go_simp
         (try simp only [i64_w])
         try rfl
        refine hK.out _ _ ⟨g8, m14_, (by rw [ha.out]; exact qS 5 hb_ rfl rfl rfl), Q_B, Q_D0, Q_F0, Q_U0, Q_G0, Q_M0, Q_BP, Q_HG8, Q_N8, Q_NP8, Q_NM8, Q_LO, fun h0_ => aF (hoff 15 kr) h0_, Q_X14_⟩
       refine qO ?_ ?_
       ·rintro b a w' ⟨g8, m14_, ha, Q_B, Q_D0, Q_F0, Q_U0, Q_G0, Q_M0, Q_BP, Q_HG8, Q_N8, Q_NP8, Q_NM8, Q_LO, Q_LS, Q_X14_⟩ hb_ hon hoff
        refine ⟨_, rfl, fun K hK => ?_⟩
        have e34 : a.tmps[34]? = some (.tuple #[.agg #[.int .i64 own.f0, .int .i64 own.f1, .int .i64 own.f2.f0, .int .i64 own.f2.f1, .int .i64 own.f2.f2, .int .i64 own.f2.f3, .int .i64 own.f2.f4, .int .i64 own.f2.f5], .bool can]) := by rw [ha]; exact qW (e := (11, 34, .tuple #[.agg #[.int .i64 own.f0, .int .i64 own.f1, .int .i64 own.f2.f0, .int .i64 own.f2.f1, .int .i64 own.f2.f2, .int .i64 own.f2.f3, .int .i64 own.f2.f4, .int .i64 own.f2.f5], .bool can])) 4 rfl rfl (hon 11 kr) rfl
        replace ha := aM ha
        have B := aM Q_B
        have D0 := aM Q_D0
        have F0 := aM Q_F0
        have U0 := aM Q_U0
        have G0 := aM Q_G0
        have M0 := aM Q_M0
        have BP := aM Q_BP
        refine qNA (w1 := w') (v := .bool can) (by rfl) rfl ?_ ?_
        ·go_simp
         (try simp only [i64_w])
         try rfl
        refine hK.out _ _ ⟨g8, m14_, (by rw [ha.out]; exact qS 6 hb_ rfl rfl rfl), Q_B, Q_D0, Q_F0, Q_U0, Q_G0, Q_M0, Q_BP, Q_HG8, Q_N8, Q_NP8, Q_NM8, Q_LO, Q_LS, Q_X14_⟩
       refine qO ?_ ?_
       ·rintro b a w' ⟨g8, m14_, ha, Q_B, Q_D0, Q_F0, Q_U0, Q_G0, Q_M0, Q_BP, Q_HG8, Q_N8, Q_NP8, Q_NM8, Q_LO, Q_LS, Q_X14_⟩ hb_ hon hoff
        refine ⟨_, rfl, fun K hK => ?_⟩
        replace ha := aM ha
        have B := aM Q_B
        have D0 := aM Q_D0
        have F0 := aM Q_F0
        have U0 := aM Q_U0
        have G0 := aM Q_G0
        have M0 := aM Q_M0
        have BP := aM Q_BP
        refine qGC (by rfl) rfl (cs := #[.int .i64 0, .int .i64 0, .int .i64 0, .int .i64 0, .int .i64 0, .int .i64 0, .int .i64 0, .int .i64 0]) (t := 31) ?hr14 ?_
        case hr14 => first | (go_simp; done) | (go_simp; rfl)
        intro g8_ hg8_ w1_ hbox_ hbl_
        refine hK.out _ _ ⟨g8_, (.pointer (some ⟨g8_, 0, none⟩)), (by rw [ha.out]; exact qS 7 hb_ rfl rfl rfl), ql B.out B.out.size hbl_, Kd.qj D0.out hbl_, Kd.qj F0.out hbl_, Kd.qj U0.out hbl_, Kd.qj G0.out hbl_, M0.out.below hbl_, qWA BP.out hbl_, fun _ => (by rw [hg8_]; exact B.out.size), fun _ => (by rw [hg8_]; exact Nat.ne_of_lt (Kd.R_lt D0.out _ rfl)), fun _ => (by rw [hg8_]; exact Nat.ne_of_lt (qeC BP.out)), fun _ => (by rw [hg8_]; exact Nat.ne_of_lt M0.out.lt), fun _ _ => hbox_, fun h0_ => aF (hoff 15 kr) h0_, fun _ => rfl⟩
       refine qO ?_ ?_
       ·rintro b a w' ⟨g8, m14_, ha, Q_B, Q_D0, Q_F0, Q_U0, Q_G0, Q_M0, Q_BP, Q_HG8, Q_N8, Q_NP8, Q_NM8, Q_LO, Q_LS, Q_X14_⟩ hb_ hon hoff
        refine ⟨_, rfl, fun K hK => ?_⟩
        have e8 : a.tmps[8]? = some (m14_) := by rw [ha]; exact qW (e := (14, 8, m14_)) 7 rfl rfl (hon 14 kr) rfl
        rw [Q_X14_ (hon 14 kr)] at e8
        have e46 : a.tmps[46]? = some (.agg #[.int .i64 own.f0, .int .i64 own.f1, .int .i64 own.f2.f0, .int .i64 own.f2.f1, .int .i64 own.f2.f2, .int .i64 own.f2.f3, .int .i64 own.f2.f4, .int .i64 own.f2.f5]) := by rw [ha]; exact qW (e := (12, 46, .agg #[.int .i64 own.f0, .int .i64 own.f1, .int .i64 own.f2.f0, .int .i64 own.f2.f1, .int .i64 own.f2.f2, .int .i64 own.f2.f3, .int .i64 own.f2.f4, .int .i64 own.f2.f5])) 5 rfl rfl (hon 12 kr) rfl
        replace ha := aM ha
        have B := aM Q_B
        have D0 := aM Q_D0
        have F0 := aM Q_F0
        have U0 := aM Q_U0
        have G0 := aM Q_G0
        have M0 := aM Q_M0
        have BP := aM Q_BP
        have HG8 := aM (Q_HG8 (hon 14 kr))
        have N8 := aM (Q_N8 (hon 14 kr))
        have NP8 := aM (Q_NP8 (hon 14 kr))
        have NM8 := aM (Q_NM8 (hon 14 kr))
        have LO := aM (Q_LO (hon 14 kr) hb_)
        obtain ⟨w1_, hw1_⟩ : ∃ w1_, ((((((((w'.setCell ⟨g8, 0, none⟩ (.int .i64 own.f0)).setCell ⟨g8, 1, none⟩ (.int .i64 own.f1)).setCell ⟨g8, 2, none⟩ (.int .i64 own.f2.f0)).setCell ⟨g8, 3, none⟩ (.int .i64 own.f2.f1)).setCell ⟨g8, 4, none⟩ (.int .i64 own.f2.f2)).setCell ⟨g8, 5, none⟩ (.int .i64 own.f2.f3)).setCell ⟨g8, 6, none⟩ (.int .i64 own.f2.f4)).setCell ⟨g8, 7, none⟩ (.int .i64 own.f2.f5)) = w1_ := ⟨_, rfl⟩
        have hfar_ := rcFar (own := own) w' g8
        have hnew_ := rcNew (own := own) LO.out
        have hset_ := rcSet (own := own) (w := w') HG8.out B.out
        rw [hw1_] at hfar_ hnew_ hset_
        refine skip_ (w1 := w1_) (by rfl) rfl ?hr15 ?_
        case hr15 => (rw [← hw1_]; exact rcStore (own := own) (.tmp 8) (.tmp 46) g8 rfl (qzA e8) (qzA e46) LO.out)
        refine hK.out _ _ ⟨g8, m14_, (by rw [ha.out]; exact qSB (v := undef) rfl), hset_, rcRow D0.out rfl (by intro e_; have e2_ : g8 = ad.block := (by simpa [Value.ownBlock] using e_); exact N8.out e2_.symm) hfar_, rcRow' F0.out LO.out (by decide) hfar_, rcRow' U0.out LO.out (by decide) hfar_, rcRow' G0.out LO.out (by decide) hfar_, M0.out.qgA (hfar_ gm NM8.out), (hfar_ gp NP8.out).trans BP.out, Q_HG8, Q_N8, Q_NP8, Q_NM8, fun _ h1_ => absurd ((qkA b 15).symm.trans h1_) (by decide), fun _ => hnew_, Q_X14_⟩
       refine qO ?_ ?_
       ·rintro b a w' ⟨g8, m14_, ha, Q_B, Q_D0, Q_F0, Q_U0, Q_G0, Q_M0, Q_BP, Q_HG8, Q_N8, Q_NP8, Q_NM8, Q_LO, Q_LS, Q_X14_⟩ hb_ hon hoff
        refine ⟨_, rfl, fun K hK => ?_⟩
        have e47 : a.tmps[47]? = some (.bool can) := by rw [ha]; exact qW (e := (13, 47, .bool can)) 6 rfl rfl (hon 13 kr) rfl
        replace ha := aM ha
        have B := aM Q_B
        have D0 := aM Q_D0
        have F0 := aM Q_F0
        have U0 := aM Q_U0
        have G0 := aM Q_G0
        have M0 := aM Q_M0
        have BP := aM Q_BP
        have HG8 := aM (Q_HG8 (hon 14 kr))
        have N8 := aM (Q_N8 (hon 14 kr))
        have NP8 := aM (Q_NP8 (hon 14 kr))
        have NM8 := aM (Q_NM8 (hon 14 kr))
        have LS := aM (Q_LS (hon 15 kr))
        refine qNA (w1 := w') (v := .bool can) (by rfl) rfl ?_ ?_
        ·go_simp
         (try simp only [i64_w])
         try rfl
        refine hK.out _ _ ⟨g8, m14_, (by rw [ha.out]; exact qS 8 hb_ rfl rfl rfl), Q_B, Q_D0, Q_F0, Q_U0, Q_G0, Q_M0, Q_BP, Q_HG8, Q_N8, Q_NP8, Q_NM8, fun _ h1_ => aT (hon 15 kr) h1_, Q_LS, Q_X14_⟩
       exact qhB
      ·rintro b a w' hall ⟨g8, m14_, ha, Q_B, Q_D0, Q_F0, Q_U0, Q_G0, Q_M0, Q_BP, Q_HG8, Q_N8, Q_NP8, Q_NM8, Q_LO, Q_LS, Q_X14_⟩
       clear B BP D0 F0 G0 M0 U0
       have hb4_ := hall 4 (by kernel_rfl)
       have hb6_ := hall 6 (by kernel_rfl)
       have hb7_ := hall 7 (by kernel_rfl)
       have hb10_ := hall 10 (by kernel_rfl)
       have hb11_ := hall 11 (by kernel_rfl)
       have hb12_ := hall 12 (by kernel_rfl)
       have hb13_ := hall 13 (by kernel_rfl)
       have hb14_ := hall 14 (by kernel_rfl)
       have hb15_ := hall 15 (by kernel_rfl)
       have hb16_ := hall 16 (by kernel_rfl)
       subst ha
       obtain rfl := Q_X14_ hb14_
       simp only [putSel, hb4_, hb6_, hb7_, hb10_, hb11_, hb12_, hb13_, hb14_, hb15_, hb16_, if_true, Act.put, List.setIfInBounds_toArray, List.set_cons_zero, List.set_cons_succ]
       have B := aM Q_B
       clear Q_B
       have D0 := aM Q_D0
       clear Q_D0
       have F0 := aM Q_F0
       clear Q_F0
       have U0 := aM Q_U0
       clear Q_U0
       have G0 := aM Q_G0
       clear Q_G0
       have M0 := aM Q_M0
       clear Q_M0
       have BP := aM Q_BP
       clear Q_BP
       have HG8 := aM (Q_HG8 hb14_)
       clear Q_HG8
       have N8 := aM (Q_N8 hb14_)
       clear Q_N8
       have NP8 := aM (Q_NP8 hb14_)
       clear Q_NP8
       have NM8 := aM (Q_NM8 hb14_)
       clear Q_NM8 Q_LO
       have LS := aM (Q_LS hb15_)
       clear Q_LS hall hb4_ hb6_ hb7_ hb10_ hb11_ hb12_ hb13_ hb14_ hb15_ hb16_
       go_wp2
       clear hix
       refine qAB (n := 11) (S := fun w' => True) (ds := []) #[false, false, false, false, false, false, false, false, false, false, false] (by kernel_rfl) rfl rfl trivial (fun hHeld => ?_); refine qMA rcTab9 rcBits9 (fun HT_ HW_ => ?_)
       refine pS (i := 0) (N := some 49) #[true, false, false, false, false, false, false, false, false, false, false] HT_ ?_
       refine pS (i := 1) (N := some 50) #[true, true, false, false, false, false, false, false, false, false, false] HT_ ?_
       refine pS (i := 2) (N := some 51) #[true, true, true, false, false, false, false, false, false, false, false] HT_ ?_
       refine qOD [3, 4, 5, 6, 7, 8, 9, 10] (fun a0_ b a w' => a = putSel a0_ b [(3, 52, .map (some gm)), (4, 53, .agg #[.int .i64 own.f0, .int .i64 own.f1, .int .i64 own.f2.f0, .int .i64 own.f2.f1, .int .i64 own.f2.f2, .int .i64 own.f2.f3, .int .i64 own.f2.f4, .int .i64 own.f2.f5]), (5, 54, .tuple #[.int .i64 pl, .bool mt]), (6, 48, .tuple #[.int .i64 pl, .bool mt]), (7, 55, .int .i64 pl), (8, 56, .bool mt), (9, 10, .int .i64 pl), (10, 11, .bool mt)] ∧ (Below w.heap.size w w') ∧ (Kd.R k31 31 w' w.heap.size (fun _ => True) (.slice (some ad) n cd) ds) ∧ (Kd.R (Kd.int .i64) 3 w' w.heap.size (fun _ => True) v1 fs) ∧ (Kd.R (Kd.int .u8) 5 w' w.heap.size (fun _ => True) v2 us) ∧ (Kd.R (Kd.int .i64) 3 w' w.heap.size (fun _ => True) (.slice (some a3) n c3) qs) ∧ (mapW.Is w' gm met) ∧ (w'.heap[gp]? = some (.cells #[.slice (some ad) n cd, v1, v2, .slice (some a3) n c3, .map (some gm)] 56 (0, 0))) ∧ (w'.heap[g8]? = some (.cells #[.int .i64 own.f0, .int .i64 own.f1, .int .i64 own.f2.f0, .int .i64 own.f2.f1, .int .i64 own.f2.f2, .int .i64 own.f2.f3, .int .i64 own.f2.f4, .int .i64 own.f2.f5] 31 (0, 0)))) HT_.out HW_.out (by kernel_rfl) (by kernel_rfl) ?_ ?_ ?_
       ·exact ⟨by simp only [putSel, Bool.false_eq_true, if_false], qm B.out, Kd.qQ D0.out, Kd.qQ F0.out, Kd.qQ U0.out, Kd.qQ G0.out, M0.out.drew, qH BP.out, qH LS.out⟩
       ·skip
        clear B BP D0 F0 G0 LS M0 U0
        refine qO ?_ ?_
        ·rintro b a w' ⟨ha, Q_B, Q_D0, Q_F0, Q_U0, Q_G0, Q_M0, Q_BP, Q_LS⟩ hb_ hon hoff
         refine ⟨_, rfl, fun K hK => ?_⟩
         have e51 : a.tmps[51]? = some (.pointer (some ⟨gp, 4, none⟩)) := by rw [ha]; exact (qz rfl).trans rfl
         replace ha := aM ha
         have B := aM Q_B
         have D0 := aM Q_D0
         have F0 := aM Q_F0
         have U0 := aM Q_U0
         have G0 := aM Q_G0
         have M0 := aM Q_M0
         have BP := aM Q_BP
         have LS := aM Q_LS
         have hc_ : w'.cell? ⟨gp, 4, none⟩ = some (.map (some gm)) := (qD BP.out 4).trans rfl
         refine qNA (w1 := w') (v := .map (some gm)) (by rfl) rfl ?_ ?_
         ·go_simp
          (try simp only [i64_w])
          try rfl
         refine hK.out _ _ ⟨(by rw [ha.out]; exact qS 0 hb_ rfl rfl rfl), Q_B, Q_D0, Q_F0, Q_U0, Q_G0, Q_M0, Q_BP, Q_LS⟩
        refine qO ?_ ?_
        ·rintro b a w' ⟨ha, Q_B, Q_D0, Q_F0, Q_U0, Q_G0, Q_M0, Q_BP, Q_LS⟩ hb_ hon hoff
         refine ⟨_, rfl, fun K hK => ?_⟩
         have e8 : a.tmps[8]? = some (.pointer (some ⟨g8, 0, none⟩)) := by rw [ha]; exact (qz rfl).trans rfl
         replace ha := aM ha
         have B := aM Q_B
         have D0 := aM Q_D0
         have F0 := aM Q_F0
         have U0 := aM Q_U0
         have G0 := aM Q_G0
         have M0 := aM Q_M0
         have BP := aM Q_BP
         have LS := aM Q_LS
         have hc0_ : w'.cell? ⟨g8, 0, none⟩ = some (.int .i64 own.f0) := (qD LS.out 0).trans rfl
         have hc1_ : w'.cell? ⟨g8, 1, none⟩ = some (.int .i64 own.f1) := (qD LS.out 1).trans rfl
         have hc2_ : w'.cell? ⟨g8, 2, none⟩ = some (.int .i64 own.f2.f0) := (qD LS.out 2).trans rfl
         have hc3_ : w'.cell? ⟨g8, 3, none⟩ = some (.int .i64 own.f2.f1) := (qD LS.out 3).trans rfl
         have hc4_ : w'.cell? ⟨g8, 4, none⟩ = some (.int .i64 own.f2.f2) := (qD LS.out 4).trans rfl
         have hc5_ : w'.cell? ⟨g8, 5, none⟩ = some (.int .i64 own.f2.f3) := (qD LS.out 5).trans rfl
         have hc6_ : w'.cell? ⟨g8, 6, none⟩ = some (.int .i64 own.f2.f4) := (qD LS.out 6).trans rfl
         have hc7_ : w'.cell? ⟨g8, 7, none⟩ = some (.int .i64 own.f2.f5) := (qD LS.out 7).trans rfl
         refine qNA (w1 := w') (v := .agg #[.int .i64 own.f0, .int .i64 own.f1, .int .i64 own.f2.f0, .int .i64 own.f2.f1, .int .i64 own.f2.f2, .int .i64 own.f2.f3, .int .i64 own.f2.f4, .int .i64 own.f2.f5]) (by rfl) rfl ?_ ?_
         ·go_simp
          (try simp only [i64_w])
          try rfl
         refine hK.out _ _ ⟨(by rw [ha.out]; exact qS 1 hb_ rfl rfl rfl), Q_B, Q_D0, Q_F0, Q_U0, Q_G0, Q_M0, Q_BP, Q_LS⟩
        refine qO ?_ ?_
        ·rintro b a w' ⟨ha, Q_B, Q_D0, Q_F0, Q_U0, Q_G0, Q_M0, Q_BP, Q_LS⟩ hb_ hon hoff
         refine ⟨_, rfl, fun K hK => ?_⟩
         have e52 : a.tmps[52]? = some (.map (some gm)) := by rw [ha]; exact qW (e := (3, 52, .map (some gm))) 0 rfl rfl (hon 3 kr) rfl
         have e53 : a.tmps[53]? = some (.agg #[.int .i64 own.f0, .int .i64 own.f1, .int .i64 own.f2.f0, .int .i64 own.f2.f1, .int .i64 own.f2.f2, .int .i64 own.f2.f3, .int .i64 own.f2.f4, .int .i64 own.f2.f5]) := by rw [ha]; exact qW (e := (4, 53, .agg #[.int .i64 own.f0, .int .i64 own.f1, .int .i64 own.f2.f0, .int .i64 own.f2.f1, .int .i64 own.f2.f2, .int .i64 own.f2.f3, .int .i64 own.f2.f4, .int .i64 own.f2.f5])) 1 rfl rfl (hon 4 kr) rfl
         replace ha := aM ha
         have B := aM Q_B
         have D0 := aM Q_D0
         have F0 := aM Q_F0
         have U0 := aM Q_U0
         have G0 := aM Q_G0
         have M0 := aM Q_M0
         have BP := aM Q_BP
         have LS := aM Q_LS
         have hl_ := HLOOK.out w' M0.out
         refine qNA (w1 := w') (v := .tuple #[.int .i64 pl, .bool mt]) (by rfl) rfl ?_ ?_
         ·go_simp
          (try simp only [i64_w])
          try rfl
         refine hK.out _ _ ⟨(by rw [ha.out]; exact qS 2 hb_ rfl rfl rfl), Q_B, Q_D0, Q_F0, Q_U0, Q_G0, Q_M0, Q_BP, Q_LS⟩
        refine qO ?_ ?_
        ·rintro b a w' ⟨ha, Q_B, Q_D0, Q_F0, Q_U0, Q_G0, Q_M0, Q_BP, Q_LS⟩ hb_ hon hoff
         refine ⟨_, rfl, fun K hK => ?_⟩
         have e54 : a.tmps[54]? = some (.tuple #[.int .i64 pl, .bool mt]) := by rw [ha]; exact qW (e := (5, 54, .tuple #[.int .i64 pl, .bool mt])) 2 rfl rfl (hon 5 kr) rfl
         replace ha := aM ha
         have B := aM Q_B
         have D0 := aM Q_D0
         have F0 := aM Q_F0
         have U0 := aM Q_U0
         have G0 := aM Q_G0
         have M0 := aM Q_M0
         have BP := aM Q_BP
         have LS := aM Q_LS
         refine qNA (w1 := w') (v := .tuple #[.int .i64 pl, .bool mt]) (by rfl) rfl ?_ ?_
         ·go_simp
          (try simp only [i64_w])
          try rfl
         refine hK.out _ _ ⟨(by rw [ha.out]; exact qS 3 hb_ rfl rfl rfl), Q_B, Q_D0, Q_F0, Q_U0, Q_G0, Q_M0, Q_BP, Q_LS⟩
        refine qO ?_ ?_
        ·rintro b a w' ⟨ha, Q_B, Q_D0, Q_F0, Q_U0, Q_G0, Q_M0, Q_BP, Q_LS⟩ hb_ hon hoff
         refine ⟨_, rfl, fun K hK => ?_⟩
         have e48 : a.tmps[48]? = some (.tuple #[.int .i64 pl, .bool mt]) := by rw [ha]; exact qW (e := (6, 48, .tuple #[.int .i64 pl, .bool mt])) 3 rfl rfl (hon 6 kr) rfl
         replace ha := aM ha
         have B := aM Q_B
         have D0 := aM Q_D0
         have F0 := aM Q_F0
         have U0 := aM Q_U0
         have G0 := aM Q_G0
         have M0 := aM Q_M0
         have BP := aM Q_BP
         have LS := aM Q_LS
         refine qNA (w1 := w') (v := .int .i64 pl) (by rfl) rfl ?_ ?_
         ·go_simp
          (try simp only [i64_w])
          try rfl
         refine hK.out _ _ ⟨(by rw [ha.out]; exact qS 4 hb_ rfl rfl rfl), Q_B, Q_D0, Q_F0, Q_U0, Q_G0, Q_M0, Q_BP, Q_LS⟩
        refine qO ?_ ?_
        ·rintro b a w' ⟨ha, Q_B, Q_D0, Q_F0, Q_U0, Q_G0, Q_M0, Q_BP, Q_LS⟩ hb_ hon hoff
         refine ⟨_, rfl, fun K hK => ?_⟩
         have e48 : a.tmps[48]? = some (.tuple #[.int .i64 pl, .bool mt]) := by rw [ha]; exact qW (e := (6, 48, .tuple #[.int .i64 pl, .bool mt])) 3 rfl rfl (hon 6 kr) rfl
         replace ha := aM ha
         have B := aM Q_B
         have D0 := aM Q_D0
         have F0 := aM Q_F0
         have U0 := aM Q_U0
         have G0 := aM Q_G0
         have M0 := aM Q_M0
         have BP := aM Q_BP
         have LS := aM Q_LS
         refine qNA (w1 := w') (v := .bool mt) (by rfl) rfl ?_ ?_
         ·go_simp
          (try simp only [i64_w])
          try rfl
         refine hK.out _ _ ⟨(by rw [ha.out]; exact qS 5 hb_ rfl rfl rfl), Q_B, Q_D0, Q_F0, Q_U0, Q_G0, Q_M0, Q_BP, Q_LS⟩
        refine qO ?_ ?_
        ·rintro b a w' ⟨ha, Q_B, Q_D0, Q_F0, Q_U0, Q_G0, Q_M0, Q_BP, Q_LS⟩ hb_ hon hoff
         refine ⟨_, rfl, fun K hK => ?_⟩
         have e55 : a.tmps[55]? = some (.int .i64 pl) := by rw [ha]; exact qW (e := (7, 55, .int .i64 pl)) 4 rfl rfl (hon 7 kr) rfl
         replace ha := aM ha
         have B := aM Q_B
         have D0 := aM Q_D0
         have F0 := aM Q_F0
         have U0 := aM Q_U0
         have G0 := aM Q_G0
         have M0 := aM Q_M0
         have BP := aM Q_BP
         have LS := aM Q_LS
         refine qNA (w1 := w') (v := .int .i64 pl) (by rfl) rfl ?_ ?_
         ·go_simp
          (try simp only [i64_w])
          try rfl
         refine hK.out _ _ ⟨(by rw [ha.out]; exact qS 6 hb_ rfl rfl rfl), Q_B, Q_D0, Q_F0, Q_U0, Q_G0, Q_M0, Q_BP, Q_LS⟩
        refine qO ?_ ?_
        ·rintro b a w' ⟨ha, Q_B, Q_D0, Q_F0, Q_U0, Q_G0, Q_M0, Q_BP, Q_LS⟩ hb_ hon hoff
         refine ⟨_, rfl, fun K hK => ?_⟩
         have e56 : a.tmps[56]? = some (.bool mt) := by rw [ha]; exact qW (e := (8, 56, .bool mt)) 5 rfl rfl (hon 8 kr) rfl
         replace ha := aM ha
         have B := aM Q_B
         have D0 := aM Q_D0
         have F0 := aM Q_F0
         have U0 := aM Q_U0
         have G0 := aM Q_G0
         have M0 := aM Q_M0
         have BP := aM Q_BP
         have LS := aM Q_LS
         refine qNA (w1 := w') (v := .bool mt) (by rfl) rfl ?_ ?_
         ·go_simp
          (try simp only [i64_w])
          try rfl
         refine hK.out _ _ ⟨(by rw [ha.out]; exact qS 7 hb_ rfl rfl rfl), Q_B, Q_D0, Q_F0, Q_U0, Q_G0, Q_M0, Q_BP, Q_LS⟩
        exact qhB
       ·rintro b a w' hall ⟨ha, Q_B, Q_D0, Q_F0, Q_U0, Q_G0, Q_M0, Q_BP, Q_LS⟩
        clear B BP D0 F0 G0 LS M0 U0
        have hb3_ := hall 3 (by kernel_rfl)
        have hb4_ := hall 4 (by kernel_rfl)
        have hb5_ := hall 5 (by kernel_rfl)
        have hb6_ := hall 6 (by kernel_rfl)
        have hb7_ := hall 7 (by kernel_rfl)
        have hb8_ := hall 8 (by kernel_rfl)
        have hb9_ := hall 9 (by kernel_rfl)
        have hb10_ := hall 10 (by kernel_rfl)
        subst ha
        simp only [putSel, hb3_, hb4_, hb5_, hb6_, hb7_, hb8_, hb9_, hb10_, if_true, Act.put, List.setIfInBounds_toArray, List.set_cons_zero, List.set_cons_succ]
        have B := aM Q_B
        clear Q_B
        have D0 := aM Q_D0
        clear Q_D0
        have F0 := aM Q_F0
        clear Q_F0
        have U0 := aM Q_U0
        clear Q_U0
        have G0 := aM Q_G0
        clear Q_G0
        have M0 := aM Q_M0
        clear Q_M0
        have BP := aM Q_BP
        clear Q_BP
        have LS := aM Q_LS
        clear Q_LS hall hb3_ hb4_ hb5_ hb6_ hb7_ hb8_ hb9_ hb10_
        cases can with
        | false =>
         have hr := HRO.out
         rw [if_neg (by decide)] at hr
         have HR := aM hr
         clear hr
         go_wp2
         go_roundg (4 - (d + 1))
         case measure => have := HD.out; omega
         case rel => exact ⟨L2, d + 1, _, _, _, _, by push_cast; rfl, by omega, ⟨by have := HD.out; omega⟩, ⟨HN.out.none HD.out HR.out⟩, by rw [HEQ.out.1]; exact D0, by rw [HEQ.out.2.1]; exact F0, by rw [HEQ.out.2.2.1]; exact U0, by rw [HEQ.out.2.2.2.1]; exact G0, BP, by rw [HEQ.out.2.2.2.2.1]; exact M0, NFG, B⟩
        | true =>
         have hr := HRO.out
         rw [if_pos rfl] at hr
         have HR := aM hr
         clear hr
         cases mt with
         | true =>
          have HM := aM (of_decide_eq_true HMT.out.symm)
          go_wp2
          go_roundg (4 - (d + 1))
          case measure => have := HD.out; omega
          case rel => exact ⟨L2, d + 1, _, _, _, _, by push_cast; rfl, by omega, ⟨by have := HD.out; omega⟩, ⟨HN.out.met HD.out HR.out (by rw [show L2.map Prod.fst = ds from HEQ.out.1]; exact HM.out)⟩, by rw [HEQ.out.1]; exact D0, by rw [HEQ.out.2.1]; exact F0, by rw [HEQ.out.2.2.1]; exact U0, by rw [HEQ.out.2.2.2.1]; exact G0, BP, by rw [HEQ.out.2.2.2.2.1]; exact M0, NFG, B⟩
         | false =>
          have HM := aM (of_decide_eq_false HMT.out.symm)
          go_wp2
          refine qAB (n := 11) (S := fun w' => True) (ds := []) #[false, false, false, false, false, false, false, false, false, false, false] (by kernel_rfl) rfl rfl trivial (fun hHeld => ?_); refine qMA rcTab11 rcBits11 (fun HT_ HW_ => ?_)
          refine pS (i := 0) (N := some 62) #[true, false, false, false, false, false, false, false, false, false, false] HT_ ?_
          refine pS (i := 1) (N := some 63) #[true, true, false, false, false, false, false, false, false, false, false] HT_ ?_
          refine pS (i := 2) (N := some 64) #[true, true, true, false, false, false, false, false, false, false, false] HT_ ?_
          refine pS (i := 5) (N := some 67) #[true, true, true, false, false, true, false, false, false, false, false] HT_ ?_
          refine pS (i := 6) (N := some 68) #[true, true, true, false, false, true, true, false, false, false, false] HT_ ?_
          refine pS (i := 7) (N := some 69) #[true, true, true, false, false, true, true, true, false, false, false] HT_ ?_
          refine qOD [3, 4, 8, 9, 10] (fun a0_ b a w' => a = putSel a0_ b [(3, 65, .map (some gm)), (4, 66, .agg #[.int .i64 own.f0, .int .i64 own.f1, .int .i64 own.f2.f0, .int .i64 own.f2.f1, .int .i64 own.f2.f2, .int .i64 own.f2.f3, .int .i64 own.f2.f4, .int .i64 own.f2.f5]), (8, 70, .slice (some ad) n cd), (9, 71, .int .i64 (n : Int))] ∧ (Below w.heap.size w w') ∧ (Kd.R k31 31 w' w.heap.size (fun _ => True) (.slice (some ad) n cd) ds) ∧ (Kd.R (Kd.int .i64) 3 w' w.heap.size (fun _ => True) v1 fs) ∧ (Kd.R (Kd.int .u8) 5 w' w.heap.size (fun _ => True) v2 us) ∧ (Kd.R (Kd.int .i64) 3 w' w.heap.size (fun _ => True) (.slice (some a3) n c3) qs) ∧ (b 10 = false → mapW.Is w' gm met) ∧ (b 10 = true → mapW.Is w' gm ((own, (n : Int)) :: met)) ∧ (w'.heap[gp]? = some (.cells #[.slice (some ad) n cd, v1, v2, .slice (some a3) n c3, .map (some gm)] 56 (0, 0))) ∧ (w'.heap[g8]? = some (.cells #[.int .i64 own.f0, .int .i64 own.f1, .int .i64 own.f2.f0, .int .i64 own.f2.f1, .int .i64 own.f2.f2, .int .i64 own.f2.f3, .int .i64 own.f2.f4, .int .i64 own.f2.f5] 31 (0, 0)))) HT_.out HW_.out (by kernel_rfl) (by kernel_rfl) ?_ ?_ ?_
          ·exact ⟨by simp only [putSel, Bool.false_eq_true, if_false], qm B.out, Kd.qQ D0.out, Kd.qQ F0.out, Kd.qQ U0.out, Kd.qQ G0.out, fun _ => M0.out.drew, fun h_ => absurd h_ (by decide), qH BP.out, qH LS.out⟩
          ·skip
           clear B BP D0 F0 G0 LS M0 U0
           refine qO ?_ ?_
           ·rintro b a w' ⟨ha, Q_B, Q_D0, Q_F0, Q_U0, Q_G0, Q_M0, Q_M1, Q_BP, Q_LS⟩ hb_ hon hoff
            refine ⟨_, rfl, fun K hK => ?_⟩
            have e64 : a.tmps[64]? = some (.pointer (some ⟨gp, 4, none⟩)) := by rw [ha]; exact (qz rfl).trans rfl
            replace ha := aM ha
            have B := aM Q_B
            have D0 := aM Q_D0
            have F0 := aM Q_F0
            have U0 := aM Q_U0
            have G0 := aM Q_G0
            have M0 := aM (Q_M0 (hoff 10 kr))
            have BP := aM Q_BP
            have LS := aM Q_LS
            have hc_ : w'.cell? ⟨gp, 4, none⟩ = some (.map (some gm)) := (qD BP.out 4).trans rfl
            refine qNA (w1 := w') (v := .map (some gm)) (by rfl) rfl ?_ ?_
            ·go_simp
             (try simp only [i64_w])
             try rfl
            refine hK.out _ _ ⟨(by rw [ha.out]; exact qS 0 hb_ rfl rfl rfl), Q_B, Q_D0, Q_F0, Q_U0, Q_G0, Q_M0, fun h0_ => aF (hoff 10 kr) h0_, Q_BP, Q_LS⟩
           refine qO ?_ ?_
           ·rintro b a w' ⟨ha, Q_B, Q_D0, Q_F0, Q_U0, Q_G0, Q_M0, Q_M1, Q_BP, Q_LS⟩ hb_ hon hoff
            refine ⟨_, rfl, fun K hK => ?_⟩
            have e8 : a.tmps[8]? = some (.pointer (some ⟨g8, 0, none⟩)) := by rw [ha]; exact (qz rfl).trans rfl
            replace ha := aM ha
            have B := aM Q_B
            have D0 := aM Q_D0
            have F0 := aM Q_F0
            have U0 := aM Q_U0
            have G0 := aM Q_G0
            have M0 := aM (Q_M0 (hoff 10 kr))
            have BP := aM Q_BP
            have LS := aM Q_LS
            have hc0_ : w'.cell? ⟨g8, 0, none⟩ = some (.int .i64 own.f0) := (qD LS.out 0).trans rfl
            have hc1_ : w'.cell? ⟨g8, 1, none⟩ = some (.int .i64 own.f1) := (qD LS.out 1).trans rfl
            have hc2_ : w'.cell? ⟨g8, 2, none⟩ = some (.int .i64 own.f2.f0) := (qD LS.out 2).trans rfl
            have hc3_ : w'.cell? ⟨g8, 3, none⟩ = some (.int .i64 own.f2.f1) := (qD LS.out 3).trans rfl
            have hc4_ : w'.cell? ⟨g8, 4, none⟩ = some (.int .i64 own.f2.f2) := (qD LS.out 4).trans rfl
            have hc5_ : w'.cell? ⟨g8, 5, none⟩ = some (.int .i64 own.f2.f3) := (qD LS.out 5).trans rfl
            have hc6_ : w'.cell? ⟨g8, 6, none⟩ = some (.int .i64 own.f2.f4) := (qD LS.out 6).trans rfl
            have hc7_ : w'.cell? ⟨g8, 7, none⟩ = some (.int .i64 own.f2.f5) := (qD LS.out 7).trans rfl
            refine qNA (w1 := w') (v := .agg #[.int .i64 own.f0, .int .i64 own.f1, .int .i64 own.f2.f0, .int .i64 own.f2.f1, .int .i64 own.f2.f2, .int .i64 own.f2.f3, .int .i64 own.f2.f4, .int .i64 own.f2.f5]) (by rfl) rfl ?_ ?_
            ·go_simp
             (try simp only [i64_w])
             try rfl
            refine hK.out _ _ ⟨(by rw [ha.out]; exact qS 1 hb_ rfl rfl rfl), Q_B, Q_D0, Q_F0, Q_U0, Q_G0, Q_M0, fun h0_ => aF (hoff 10 kr) h0_, Q_BP, Q_LS⟩
           refine qO ?_ ?_
           ·rintro b a w' ⟨ha, Q_B, Q_D0, Q_F0, Q_U0, Q_G0, Q_M0, Q_M1, Q_BP, Q_LS⟩ hb_ hon hoff
            refine ⟨_, rfl, fun K hK => ?_⟩
            have e69 : a.tmps[69]? = some (.pointer (some ⟨gp, 0, none⟩)) := by rw [ha]; exact (qz rfl).trans rfl
            replace ha := aM ha
            have B := aM Q_B
            have D0 := aM Q_D0
            have F0 := aM Q_F0
            have U0 := aM Q_U0
            have G0 := aM Q_G0
            have M0 := aM (Q_M0 (hoff 10 kr))
            have BP := aM Q_BP
            have LS := aM Q_LS
            have hc_ : w'.cell? ⟨gp, 0, none⟩ = some (.slice (some ad) n cd) := (qD BP.out 0).trans rfl
            refine qNA (w1 := w') (v := .slice (some ad) n cd) (by rfl) rfl ?_ ?_
            ·go_simp
             (try simp only [i64_w])
             try rfl
            refine hK.out _ _ ⟨(by rw [ha.out]; exact qS 2 hb_ rfl rfl rfl), Q_B, Q_D0, Q_F0, Q_U0, Q_G0, Q_M0, fun h0_ => aF (hoff 10 kr) h0_, Q_BP, Q_LS⟩
           refine qO ?_ ?_
           ·rintro b a w' ⟨ha, Q_B, Q_D0, Q_F0, Q_U0, Q_G0, Q_M0, Q_M1, Q_BP, Q_LS⟩ hb_ hon hoff
            refine ⟨_, rfl, fun K hK => ?_⟩
            have e70 : a.tmps[70]? = some (.slice (some ad) n cd) := by rw [ha]; exact qW (e := (8, 70, .slice (some ad) n cd)) 2 rfl rfl (hon 8 kr) rfl
            replace ha := aM ha
            have B := aM Q_B
            have D0 := aM Q_D0
            have F0 := aM Q_F0
            have U0 := aM Q_U0
            have G0 := aM Q_G0
            have M0 := aM (Q_M0 (hoff 10 kr))
            have BP := aM Q_BP
            have LS := aM Q_LS
            refine qNA (w1 := w') (v := .int .i64 (n : Int)) (by rfl) rfl ?_ ?_
            ·go_simp
             (try simp only [i64_w])
             try rfl
            refine hK.out _ _ ⟨(by rw [ha.out]; exact qS 3 hb_ rfl rfl rfl), Q_B, Q_D0, Q_F0, Q_U0, Q_G0, Q_M0, fun h0_ => aF (hoff 10 kr) h0_, Q_BP, Q_LS⟩
           refine qO ?_ ?_
           ·rintro b a w' ⟨ha, Q_B, Q_D0, Q_F0, Q_U0, Q_G0, Q_M0, Q_M1, Q_BP, Q_LS⟩ hb_ hon hoff
            refine ⟨_, rfl, fun K hK => ?_⟩
            have e65 : a.tmps[65]? = some (.map (some gm)) := by rw [ha]; exact qW (e := (3, 65, .map (some gm))) 0 rfl rfl (hon 3 kr) rfl
            have e66 : a.tmps[66]? = some (.agg #[.int .i64 own.f0, .int .i64 own.f1, .int .i64 own.f2.f0, .int .i64 own.f2.f1, .int .i64 own.f2.f2, .int .i64 own.f2.f3, .int .i64 own.f2.f4, .int .i64 own.f2.f5]) := by rw [ha]; exact qW (e := (4, 66, .agg #[.int .i64 own.f0, .int .i64 own.f1, .int .i64 own.f2.f0, .int .i64 own.f2.f1, .int .i64 own.f2.f2, .int .i64 own.f2.f3, .int .i64 own.f2.f4, .int .i64 own.f2.f5])) 1 rfl rfl (hon 4 kr) rfl
            have e71 : a.tmps[71]? = some (.int .i64 (n : Int)) := by rw [ha]; exact qW (e := (9, 71, .int .i64 (n : Int))) 3 rfl rfl (hon 9 kr) rfl
            replace ha := aM ha
            have B := aM Q_B
            have D0 := aM Q_D0
            have F0 := aM Q_F0
            have U0 := aM Q_U0
            have G0 := aM Q_G0
            have M0 := aM (Q_M0 hb_)
            have BP := aM Q_BP
            have LS := aM Q_LS
            obtain ⟨w1_, hrun_, hM1_, hgr_⟩ := M0.out.run_put HML.out HWO.out (v := (n : Int)) HWN.out
            have hrun2_ : (Instr.mapUpdate 54 (.map (some gm)) (.agg #[.int .i64 own.f0, .int .i64 own.f1, .int .i64 own.f2.f0, .int .i64 own.f2.f1, .int .i64 own.f2.f2, .int .i64 own.f2.f3, .int .i64 own.f2.f4, .int .i64 own.f2.f5]) (.int .i64 (n : Int))).run Tryz.prog w' = .ok () w1_ := hrun_
            refine skip_ (w1 := w1_) (by rfl) rfl ?hr10 ?_
            case hr10 =>
             have a1_ := qzA e65
             have a2_ := qzA e66
             have a3_ := qzA e71
             unfold execOp
             simp [a1_, a2_, a3_, hrun2_, Result.andThen]
            refine hK.out _ _ ⟨(by rw [ha.out]; exact qSB (v := undef) rfl), B.out.grown hgr_ B.out.size (fun k_ e_ => by cases e_; exact HGM.out), M0.out.row D0.out hgr_, M0.out.row F0.out hgr_, M0.out.row U0.out hgr_, M0.out.row G0.out hgr_, fun h0_ => absurd ((qkA b 10).symm.trans h0_) (by decide), fun _ => hM1_, qf BP.out hgr_ (fun e_ => HNE.out (by injection e_ with e_; exact e_.symm)), qf LS.out hgr_ (fun e_ => M0.out.off LS.out (by injection e_))⟩
           exact qhB
          ·rintro b a w' hall ⟨ha, Q_B, Q_D0, Q_F0, Q_U0, Q_G0, Q_M0, Q_M1, Q_BP, Q_LS⟩
           clear B BP D0 F0 G0 LS M0 U0
           have hb3_ := hall 3 (by kernel_rfl)
           have hb4_ := hall 4 (by kernel_rfl)
           have hb8_ := hall 8 (by kernel_rfl)
           have hb9_ := hall 9 (by kernel_rfl)
           have hb10_ := hall 10 (by kernel_rfl)
           subst ha
           simp only [putSel, hb3_, hb4_, hb8_, hb9_, hb10_, if_true, Act.put, List.setIfInBounds_toArray, List.set_cons_zero, List.set_cons_succ]
           have B := aM Q_B
           clear Q_B
           have D0 := aM Q_D0
           clear Q_D0
           have F0 := aM Q_F0
           clear Q_F0
           have U0 := aM Q_U0
           clear Q_U0
           have G0 := aM Q_G0
           clear Q_G0 Q_M0
           have M1 := aM (Q_M1 hb10_)
           clear Q_M1
           have BP := aM Q_BP
           clear Q_BP
           have LS := aM Q_LS
           clear Q_LS hall hb3_ hb4_ hb8_ hb9_ hb10_
           obtain ⟨met1, hmet1⟩ : ∃ met1, (own, (n : Int)) :: met = met1 := ⟨_, rfl⟩
           rw [hmet1] at M1
           have HM1 := aM hmet1
           clear hmet1
           have hix := rcIx ⟨#[110, 101, 115, 119]⟩ d sg (by rw [(rcSign d HD.out).1]; exact HSG.out)
           go_wp2
           have P0 := BP
           clear BP
           refine qAB (n := 52) (S := fun w' => True) (ds := []) #[false, false, false, false, false, false, false, false, false, false, false, false, false, false, false, false, false, false, false, false, false, false, false, false, false, false, false, false, false, false, false, false, false, false, false, false, false, false, false, false, false, false, false, false, false, false, false, false, false, false, false, false] (by kernel_rfl) rfl rfl trivial (fun hHeld => ?_); refine qMA rcTab12 rcBits12 (fun HT_ HW_ => ?_)
           refine pS (i := 0) (N := some 72) #[true, false, false, false, false, false, false, false, false, false, false, false, false, false, false, false, false, false, false, false, false, false, false, false, false, false, false, false, false, false, false, false, false, false, false, false, false, false, false, false, false, false, false, false, false, false, false, false, false, false, false, false] HT_ ?_
           refine pS (i := 1) (N := some 73) #[true, true, false, false, false, false, false, false, false, false, false, false, false, false, false, false, false, false, false, false, false, false, false, false, false, false, false, false, false, false, false, false, false, false, false, false, false, false, false, false, false, false, false, false, false, false, false, false, false, false, false, false] HT_ ?_
           refine pS (i := 2) (N := some 74) #[true, true, true, false, false, false, false, false, false, false, false, false, false, false, false, false, false, false, false, false, false, false, false, false, false, false, false, false, false, false, false, false, false, false, false, false, false, false, false, false, false, false, false, false, false, false, false, false, false, false, false, false] HT_ ?_
           refine pS (i := 3) (N := some 75) #[true, true, true, true, false, false, false, false, false, false, false, false, false, false, false, false, false, false, false, false, false, false, false, false, false, false, false, false, false, false, false, false, false, false, false, false, false, false, false, false, false, false, false, false, false, false, false, false, false, false, false, false] HT_ ?_
           refine pS (i := 4) (N := some 76) #[true, true, true, true, true, false, false, false, false, false, false, false, false, false, false, false, false, false, false, false, false, false, false, false, false, false, false, false, false, false, false, false, false, false, false, false, false, false, false, false, false, false, false, false, false, false, false, false, false, false, false, false] HT_ ?_
           refine pS (i := 5) (N := some 77) #[true, true, true, true, true, true, false, false, false, false, false, false, false, false, false, false, false, false, false, false, false, false, false, false, false, false, false, false, false, false, false, false, false, false, false, false, false, false, false, false, false, false, false, false, false, false, false, false, false, false, false, false] HT_ ?_
           refine pS (i := 6) (N := some 78) #[true, true, true, true, true, true, true, false, false, false, false, false, false, false, false, false, false, false, false, false, false, false, false, false, false, false, false, false, false, false, false, false, false, false, false, false, false, false, false, false, false, false, false, false, false, false, false, false, false, false, false, false] HT_ ?_
           refine pS (i := 11) (N := some 83) #[true, true, true, true, true, true, true, false, false, false, false, true, false, false, false, false, false, false, false, false, false, false, false, false, false, false, false, false, false, false, false, false, false, false, false, false, false, false, false, false, false, false, false, false, false, false, false, false, false, false, false, false] HT_ ?_
           refine pS (i := 12) (N := some 84) #[true, true, true, true, true, true, true, false, false, false, false, true, true, false, false, false, false, false, false, false, false, false, false, false, false, false, false, false, false, false, false, false, false, false, false, false, false, false, false, false, false, false, false, false, false, false, false, false, false, false, false, false] HT_ ?_
           refine pS (i := 13) (N := some 85) #[true, true, true, true, true, true, true, false, false, false, false, true, true, true, false, false, false, false, false, false, false, false, false, false, false, false, false, false, false, false, false, false, false, false, false, false, false, false, false, false, false, false, false, false, false, false, false, false, false, false, false, false] HT_ ?_
           refine pS (i := 15) (N := some 87) #[true, true, true, true, true, true, true, false, false, false, false, true, true, true, false, true, false, false, false, false, false, false, false, false, false, false, false, false, false, false, false, false, false, false, false, false, false, false, false, false, false, false, false, false, false, false, false, false, false, false, false, false] HT_ ?_
           refine pS (i := 18) (N := some 90) #[true, true, true, true, true, true, true, false, false, false, false, true, true, true, false, true, false, false, true, false, false, false, false, false, false, false, false, false, false, false, false, false, false, false, false, false, false, false, false, false, false, false, false, false, false, false, false, false, false, false, false, false] HT_ ?_
           refine pS (i := 19) (N := some 91) #[true, true, true, true, true, true, true, false, false, false, false, true, true, true, false, true, false, false, true, true, false, false, false, false, false, false, false, false, false, false, false, false, false, false, false, false, false, false, false, false, false, false, false, false, false, false, false, false, false, false, false, false] HT_ ?_
           refine pS (i := 20) (N := some 92) #[true, true, true, true, true, true, true, false, false, false, false, true, true, true, false, true, false, false, true, true, true, false, false, false, false, false, false, false, false, false, false, false, false, false, false, false, false, false, false, false, false, false, false, false, false, false, false, false, false, false, false, false] HT_ ?_
           refine pS (i := 22) (N := some 94) #[true, true, true, true, true, true, true, false, false, false, false, true, true, true, false, true, false, false, true, true, true, false, true, false, false, false, false, false, false, false, false, false, false, false, false, false, false, false, false, false, false, false, false, false, false, false, false, false, false, false, false, false] HT_ ?_
           refine pS (i := 23) (N := some 95) #[true, true, true, true, true, true, true, false, false, false, false, true, true, true, false, true, false, false, true, true, true, false, true, true, false, false, false, false, false, false, false, false, false, false, false, false, false, false, false, false, false, false, false, false, false, false, false, false, false, false, false, false] HT_ ?_
           refine pS (i := 26) (N := some 98) #[true, true, true, true, true, true, true, false, false, false, false, true, true, true, false, true, false, false, true, true, true, false, true, true, false, false, true, false, false, false, false, false, false, false, false, false, false, false, false, false, false, false, false, false, false, false, false, false, false, false, false, false] HT_ ?_
           refine pS (i := 27) (N := some 99) #[true, true, true, true, true, true, true, false, false, false, false, true, true, true, false, true, false, false, true, true, true, false, true, true, false, false, true, true, false, false, false, false, false, false, false, false, false, false, false, false, false, false, false, false, false, false, false, false, false, false, false, false] HT_ ?_
           refine pS (i := 28) (N := some 100) #[true, true, true, true, true, true, true, false, false, false, false, true, true, true, false, true, false, false, true, true, true, false, true, true, false, false, true, true, true, false, false, false, false, false, false, false, false, false, false, false, false, false, false, false, false, false, false, false, false, false, false, false] HT_ ?_
           refine pS (i := 30) (N := some 102) #[true, true, true, true, true, true, true, false, false, false, false, true, true, true, false, true, false, false, true, true, true, false, true, true, false, false, true, true, true, false, true, false, false, false, false, false, false, false, false, false, false, false, false, false, false, false, false, false, false, false, false, false] HT_ ?_
           refine pS (i := 31) (N := some 103) #[true, true, true, true, true, true, true, false, false, false, false, true, true, true, false, true, false, false, true, true, true, false, true, true, false, false, true, true, true, false, true, true, false, false, false, false, false, false, false, false, false, false, false, false, false, false, false, false, false, false, false, false] HT_ ?_
           refine pS (i := 32) (N := some 104) #[true, true, true, true, true, true, true, false, false, false, false, true, true, true, false, true, false, false, true, true, true, false, true, true, false, false, true, true, true, false, true, true, true, false, false, false, false, false, false, false, false, false, false, false, false, false, false, false, false, false, false, false] HT_ ?_
           refine pS (i := 34) (N := some 106) #[true, true, true, true, true, true, true, false, false, false, false, true, true, true, false, true, false, false, true, true, true, false, true, true, false, false, true, true, true, false, true, true, true, false, true, false, false, false, false, false, false, false, false, false, false, false, false, false, false, false, false, false] HT_ ?_
           refine qOD [7, 8, 9, 10, 14, 16, 17, 21, 24, 25, 29, 33, 35, 36, 37, 38, 39, 40, 41, 42, 43, 44, 45, 46, 47, 48, 49, 50, 51] (fun a0_ b a w' => ∃ (s81 : Value) (s82 : Value) (s88 : Value) (s89 : Value) (s96 : Value) (s97 : Value) (s110 : Value) (s111 : Value), a = putSel a0_ b [(7, 79, .slice (some ad) n cd), (8, 80, .agg #[.int .i64 own.f0, .int .i64 own.f1, .int .i64 own.f2.f0, .int .i64 own.f2.f1, .int .i64 own.f2.f2, .int .i64 own.f2.f3, .int .i64 own.f2.f4, .int .i64 own.f2.f5]), (9, 81, s81), (10, 82, s82), (14, 86, v1), (16, 88, s88), (17, 89, s89), (21, 93, v2), (24, 96, s96), (25, 97, s97), (29, 101, .slice (some a3) n c3), (33, 105, .slice (some a3) n c3), (35, 107, .pointer (some (a3.add i))), (36, 108, .int .i64 p1), (37, 109, .int .i64 (p1 + 1)), (38, 110, s110), (39, 111, s111), (40, 112, .pointer (some ⟨gp, 0, none⟩)), (41, 113, .pointer (some ⟨gp, 0, none⟩)), (43, 114, .pointer (some ⟨gp, 0, none⟩)), (44, 115, .pointer (some ⟨gp, 1, none⟩)), (46, 116, .pointer (some ⟨gp, 0, none⟩)), (47, 117, .pointer (some ⟨gp, 2, none⟩)), (49, 118, .pointer (some ⟨gp, 0, none⟩)), (50, 119, .pointer (some ⟨gp, 3, none⟩))] ∧ (Below w.heap.size w w') ∧ (b 42 = false → w'.heap[gp]? = some (.cells #[.slice (some ad) n cd, v1, v2, .slice (some a3) n c3, .map (some gm)] 56 (0, 0))) ∧ (b 42 = true → b 45 = false → w'.heap[gp]? = some (.cells #[s82, v1, v2, .slice (some a3) n c3, .map (some gm)] 56 (0, 0))) ∧ (b 45 = true → b 48 = false → w'.heap[gp]? = some (.cells #[s82, s89, v2, .slice (some a3) n c3, .map (some gm)] 56 (0, 0))) ∧ (b 48 = true → b 51 = false → w'.heap[gp]? = some (.cells #[s82, s89, s97, .slice (some a3) n c3, .map (some gm)] 56 (0, 0))) ∧ (b 51 = true → w'.heap[gp]? = some (.cells #[s82, s89, s97, s111, .map (some gm)] 56 (0, 0))) ∧ (mapW.Is w' gm met1) ∧ (b 10 = false → w'.heap[g8]? = some (.cells #[.int .i64 own.f0, .int .i64 own.f1, .int .i64 own.f2.f0, .int .i64 own.f2.f1, .int .i64 own.f2.f2, .int .i64 own.f2.f3, .int .i64 own.f2.f4, .int .i64 own.f2.f5] 31 (0, 0))) ∧ (b 10 = false → Kd.R k31 31 w' w.heap.size (fun _ => True) (.slice (some ad) n cd) ds) ∧ (b 9 = true → b 10 = false → Kd.R k31 31 w' w.heap.size (fun _ => True) s81 [own]) ∧ (b 10 = true → Kd.R k31 31 w' w.heap.size (fun _ => True) s82 (ds ++ [own])) ∧ (b 17 = false → Kd.R (Kd.int .i64) 3 w' w.heap.size (fun _ => True) v1 fs) ∧ (b 16 = true → b 17 = false → Kd.R (Kd.int .i64) 3 w' w.heap.size (fun _ => True) s88 [(i : Int)]) ∧ (b 17 = true → Kd.R (Kd.int .i64) 3 w' w.heap.size (fun _ => True) s89 (fs ++ [(i : Int)])) ∧ (b 25 = false → Kd.R (Kd.int .u8) 5 w' w.heap.size (fun _ => True) v2 us) ∧ (b 24 = true → b 25 = false → Kd.R (Kd.int .u8) 5 w' w.heap.size (fun _ => True) s96 [sg]) ∧ (b 25 = true → Kd.R (Kd.int .u8) 5 w' w.heap.size (fun _ => True) s97 (us ++ [sg])) ∧ (b 39 = false → Kd.R (Kd.int .i64) 3 w' w.heap.size (fun _ => True) (.slice (some a3) n c3) qs) ∧ (b 38 = true → b 39 = false → Kd.R (Kd.int .i64) 3 w' w.heap.size (fun _ => True) s110 [(p1 + 1)]) ∧ (b 39 = true → Kd.R (Kd.int .i64) 3 w' w.heap.size (fun _ => True) s111 (qs ++ [(p1 + 1)])) ∧ (b 17 = false → ApartV v1 (.slice (some a3) n c3)) ∧ (b 17 = true → b 39 = false → ApartV s89 (.slice (some a3) n c3)) ∧ (b 39 = true → ApartV s89 s111) ∧ (b 38 = true → b 17 = false → ApartV v1 s110) ∧ (b 17 = true → b 38 = true → b 39 = false → ApartV s89 s110)) HT_.out HW_.out (by kernel_rfl) (by kernel_rfl) ?_ ?_ ?_
           ·exact ⟨.bool false, .bool false, .bool false, .bool false, .bool false, .bool false, .bool false, .bool false, by simp only [putSel, Bool.false_eq_true, if_false], qm B.out, fun _ => qH P0.out, fun h_ => absurd h_ (by decide), fun h_ => absurd h_ (by decide), fun h_ => absurd h_ (by decide), fun h_ => absurd h_ (by decide), M1.out.drew, fun _ => qH LS.out, fun _ => Kd.qQ D0.out, fun h_ => absurd h_ (by decide), fun h_ => absurd h_ (by decide), fun _ => Kd.qQ F0.out, fun h_ => absurd h_ (by decide), fun h_ => absurd h_ (by decide), fun _ => Kd.qQ U0.out, fun h_ => absurd h_ (by decide), fun h_ => absurd h_ (by decide), fun _ => Kd.qQ G0.out, fun h_ => absurd h_ (by decide), fun h_ => absurd h_ (by decide), fun _ => NFG.out, fun h_ => absurd h_ (by decide), fun h_ => absurd h_ (by decide), fun h_ => absurd h_ (by decide), fun h_ => absurd h_ (by decide)⟩
           ·skip
            clear B D0 F0 G0 LS M1 NFG P0 U0
            refine qO ?_ ?_
            ·rintro b a w' ⟨s81, s82, s88, s89, s96, s97, s110, s111, ha, Q_B, Q_P0, Q_P1, Q_P2, Q_P3, Q_P4, Q_M1, Q_LS, Q_D0, Q_LD, Q_D1, Q_F0, Q_LF, Q_F1, Q_U0, Q_LU, Q_U1, Q_G0, Q_LG, Q_G1, Q_NFG, Q_NF1, Q_NF2, Q_NL0, Q_NL1⟩ hb_ hon hoff
             refine ⟨_, rfl, fun K hK => ?_⟩
             have e78 : a.tmps[78]? = some (.pointer (some ⟨gp, 0, none⟩)) := by rw [ha]; exact (qz rfl).trans rfl
             replace ha := aM ha
             have B := aM Q_B
             have P0 := aM (Q_P0 (hoff 42 kr))
             have M1 := aM Q_M1
             have LS := aM (Q_LS (hoff 10 kr))
             have D0 := aM (Q_D0 (hoff 10 kr))
             have F0 := aM (Q_F0 (hoff 17 kr))
             have U0 := aM (Q_U0 (hoff 25 kr))
             have G0 := aM (Q_G0 (hoff 39 kr))
             have NFG := aM (Q_NFG (hoff 17 kr))
             have hc_ : w'.cell? ⟨gp, 0, none⟩ = some (.slice (some ad) n cd) := (qD P0.out 0).trans rfl
             refine qNA (w1 := w') (v := .slice (some ad) n cd) (by rfl) rfl ?_ ?_
             ·go_simp
              (try simp only [i64_w])
              try rfl
             refine hK.out _ _ ⟨s81, s82, s88, s89, s96, s97, s110, s111, (by rw [ha.out]; exact qS 0 hb_ rfl rfl rfl), Q_B, Q_P0, fun h0_ _ => aF (hoff 42 kr) h0_, fun h0_ _ => aF (hoff 45 kr) h0_, fun h0_ _ => aF (hoff 48 kr) h0_, fun h0_ => aF (hoff 51 kr) h0_, Q_M1, Q_LS, Q_D0, Q_LD, fun h0_ => aF (hoff 10 kr) h0_, Q_F0, Q_LF, fun h0_ => aF (hoff 17 kr) h0_, Q_U0, Q_LU, fun h0_ => aF (hoff 25 kr) h0_, Q_G0, Q_LG, fun h0_ => aF (hoff 39 kr) h0_, Q_NFG, fun h0_ _ => aF (hoff 17 kr) h0_, fun h0_ => aF (hoff 39 kr) h0_, Q_NL0, fun h0_ _ _ => aF (hoff 17 kr) h0_⟩
            refine qO ?_ ?_
            ·rintro b a w' ⟨s81, s82, s88, s89, s96, s97, s110, s111, ha, Q_B, Q_P0, Q_P1, Q_P2, Q_P3, Q_P4, Q_M1, Q_LS, Q_D0, Q_LD, Q_D1, Q_F0, Q_LF, Q_F1, Q_U0, Q_LU, Q_U1, Q_G0, Q_LG, Q_G1, Q_NFG, Q_NF1, Q_NF2, Q_NL0, Q_NL1⟩ hb_ hon hoff
             refine ⟨_, rfl, fun K hK => ?_⟩
             have e8 : a.tmps[8]? = some (.pointer (some ⟨g8, 0, none⟩)) := by rw [ha]; exact (qz rfl).trans rfl
             replace ha := aM ha
             have B := aM Q_B
             have P0 := aM (Q_P0 (hoff 42 kr))
             have M1 := aM Q_M1
             have LS := aM (Q_LS (hoff 10 kr))
             have D0 := aM (Q_D0 (hoff 10 kr))
             have F0 := aM (Q_F0 (hoff 17 kr))
             have U0 := aM (Q_U0 (hoff 25 kr))
             have G0 := aM (Q_G0 (hoff 39 kr))
             have NFG := aM (Q_NFG (hoff 17 kr))
             have hc0_ : w'.cell? ⟨g8, 0, none⟩ = some (.int .i64 own.f0) := (qD LS.out 0).trans rfl
             have hc1_ : w'.cell? ⟨g8, 1, none⟩ = some (.int .i64 own.f1) := (qD LS.out 1).trans rfl
             have hc2_ : w'.cell? ⟨g8, 2, none⟩ = some (.int .i64 own.f2.f0) := (qD LS.out 2).trans rfl
             have hc3_ : w'.cell? ⟨g8, 3, none⟩ = some (.int .i64 own.f2.f1) := (qD LS.out 3).trans rfl
             have hc4_ : w'.cell? ⟨g8, 4, none⟩ = some (.int .i64 own.f2.f2) := (qD LS.out 4).trans rfl
             have hc5_ : w'.cell? ⟨g8, 5, none⟩ = some (.int .i64 own.f2.f3) := (qD LS.out 5).trans rfl
             have hc6_ : w'.cell? ⟨g8, 6, none⟩ = some (.int .i64 own.f2.f4) := (qD LS.out 6).trans rfl
             have hc7_ : w'.cell? ⟨g8, 7, none⟩ = some (.int .i64 own.f2.f5) := (qD LS.out 7).trans rfl
             refine qNA (w1 := w') (v := .agg #[.int .i64 own.f0, .int .i64 own.f1, .int .i64 own.f2.f0, .int .i64 own.f2.f1, .int .i64 own.f2.f2, .int .i64 own.f2.f3, .int .i64 own.f2.f4, .int .i64 own.f2.f5]) (by rfl) rfl ?_ ?_
             ·go_simp
              (try simp only [i64_w])
              try rfl
             refine hK.out _ _ ⟨s81, s82, s88, s89, s96, s97, s110, s111, (by rw [ha.out]; exact qS 1 hb_ rfl rfl rfl), Q_B, Q_P0, fun h0_ _ => aF (hoff 42 kr) h0_, fun h0_ _ => aF (hoff 45 kr) h0_, fun h0_ _ => aF (hoff 48 kr) h0_, fun h0_ => aF (hoff 51 kr) h0_, Q_M1, Q_LS, Q_D0, fun h0_ _ => aF (hoff 9 kr) h0_, fun h0_ => aF (hoff 10 kr) h0_, Q_F0, Q_LF, fun h0_ => aF (hoff 17 kr) h0_, Q_U0, Q_LU, fun h0_ => aF (hoff 25 kr) h0_, Q_G0, Q_LG, fun h0_ => aF (hoff 39 kr) h0_, Q_NFG, fun h0_ _ => aF (hoff 17 kr) h0_, fun h0_ => aF (hoff 39 kr) h0_, Q_NL0, fun h0_ _ _ => aF (hoff 17 kr) h0_⟩
            refine qO ?_ ?_
            ·rintro b a w' ⟨s81, s82, s88, s89, s96, s97, s110, s111, ha, Q_B, Q_P0, Q_P1, Q_P2, Q_P3, Q_P4, Q_M1, Q_LS, Q_D0, Q_LD, Q_D1, Q_F0, Q_LF, Q_F1, Q_U0, Q_LU, Q_U1, Q_G0, Q_LG, Q_G1, Q_NFG, Q_NF1, Q_NF2, Q_NL0, Q_NL1⟩ hb_ hon hoff
             refine ⟨_, rfl, fun K hK => ?_⟩
             have e80 : a.tmps[80]? = some (.agg #[.int .i64 own.f0, .int .i64 own.f1, .int .i64 own.f2.f0, .int .i64 own.f2.f1, .int .i64 own.f2.f2, .int .i64 own.f2.f3, .int .i64 own.f2.f4, .int .i64 own.f2.f5]) := by rw [ha]; exact qW (e := (8, 80, .agg #[.int .i64 own.f0, .int .i64 own.f1, .int .i64 own.f2.f0, .int .i64 own.f2.f1, .int .i64 own.f2.f2, .int .i64 own.f2.f3, .int .i64 own.f2.f4, .int .i64 own.f2.f5])) 1 rfl rfl (hon 8 kr) rfl
             replace ha := aM ha
             have B := aM Q_B
             have P0 := aM (Q_P0 (hoff 42 kr))
             have M1 := aM Q_M1
             have LS := aM (Q_LS (hoff 10 kr))
             have D0 := aM (Q_D0 (hoff 10 kr))
             have F0 := aM (Q_F0 (hoff 17 kr))
             have U0 := aM (Q_U0 (hoff 25 kr))
             have G0 := aM (Q_G0 (hoff 39 kr))
             have NFG := aM (Q_NFG (hoff 17 kr))
             refine Kd.qSA k31 (w0 := w) w.heap.size 31 (by rfl) (N := 81) rfl (xs := ([own] : List _)) (inner := [.int .i64 own.f0, .int .i64 own.f1, .int .i64 own.f2.f0, .int .i64 own.f2.f1, .int .i64 own.f2.f2, .int .i64 own.f2.f3, .int .i64 own.f2.f4, .int .i64 own.f2.f5]) (ok := fun _ => True) (okp := fun _ => False) ?hr9 ?hp9 (fun _ hk => hk.elim) trivial B.out B.out.size (by simp) ?_
             case hr9 => first | (go_simp; done) | (go_simp; rfl)
             case hp9 => exact Reps.c8 (show Kd.M k31 _ _ _ own [.int .i64 own.f0, .int .i64 own.f1, .int .i64 own.f2.f0, .int .i64 own.f2.f1, .int .i64 own.f2.f2, .int .i64 own.f2.f3, .int .i64 own.f2.f4, .int .i64 own.f2.f5] from qGD _ _ _ _) (Reps.none _ _)
             intro v_ w1_ hR_ hB_ hg_ hnew_
             refine hK.out _ _ ⟨v_, s82, s88, s89, s96, s97, s110, s111, (by rw [ha.out]; exact qS 2 hb_ rfl rfl rfl), hB_, fun _ => qf P0.out hg_ (by simp), fun h0_ _ => aF (hoff 42 kr) h0_, fun h0_ _ => aF (hoff 45 kr) h0_, fun h0_ _ => aF (hoff 48 kr) h0_, fun h0_ => aF (hoff 51 kr) h0_, M1.out.qgA (hg_.block gm M1.out.lt (by simp)), fun _ => qf LS.out hg_ (by simp), fun _ => plLit0 D0.out hg_, fun _ _ => hR_, fun h0_ => aF (hoff 10 kr) h0_, fun _ => plLit0 F0.out hg_, fun h0_ h1_ => plLit0 (Q_LF h0_ h1_) hg_, fun h0_ => aF (hoff 17 kr) h0_, fun _ => plLit0 U0.out hg_, fun h0_ h1_ => plLit0 (Q_LU h0_ h1_) hg_, fun h0_ => aF (hoff 25 kr) h0_, fun _ => plLit0 G0.out hg_, fun h0_ h1_ => plLit0 (Q_LG h0_ h1_) hg_, fun h0_ => aF (hoff 39 kr) h0_, Q_NFG, fun h0_ _ => aF (hoff 17 kr) h0_, fun h0_ => aF (hoff 39 kr) h0_, Q_NL0, fun h0_ _ _ => aF (hoff 17 kr) h0_⟩
            refine qO ?_ ?_
            ·rintro b a w' ⟨s81, s82, s88, s89, s96, s97, s110, s111, ha, Q_B, Q_P0, Q_P1, Q_P2, Q_P3, Q_P4, Q_M1, Q_LS, Q_D0, Q_LD, Q_D1, Q_F0, Q_LF, Q_F1, Q_U0, Q_LU, Q_U1, Q_G0, Q_LG, Q_G1, Q_NFG, Q_NF1, Q_NF2, Q_NL0, Q_NL1⟩ hb_ hon hoff
             refine ⟨_, rfl, fun K hK => ?_⟩
             have e79 : a.tmps[79]? = some (.slice (some ad) n cd) := by rw [ha]; exact qW (e := (7, 79, .slice (some ad) n cd)) 0 rfl rfl (hon 7 kr) rfl
             have e81 : a.tmps[81]? = some (s81) := by rw [ha]; exact qW (e := (9, 81, s81)) 2 rfl rfl (hon 9 kr) rfl
             replace ha := aM ha
             have B := aM Q_B
             have P0 := aM (Q_P0 (hoff 42 kr))
             have M1 := aM Q_M1
             have LS := aM (Q_LS hb_)
             have D0 := aM (Q_D0 hb_)
             have LD := aM (Q_LD (hon 9 kr) hb_)
             have F0 := aM (Q_F0 (hoff 17 kr))
             have U0 := aM (Q_U0 (hoff 25 kr))
             have G0 := aM (Q_G0 (hoff 39 kr))
             have NFG := aM (Q_NFG (hoff 17 kr))
             obtain ⟨A_, c_, hs_, hle_, HRd_⟩ := OwnRow.reads LD.out.2
             have hbd_ := HBD.out
             refine Kd.qCA k31 (w0 := w) w.heap.size (by rfl) (.tmp 79) (.tmp 81) 52 31 (.agg #[.int .i64 0, .int .i64 0, .int .i64 0, .int .i64 0, .int .i64 0, .int .i64 0, .int .i64 0, .int .i64 0]) 64 rfl Tryz.underlying52 rcInfoS rfl (by show 0 < 8; omega) (by omega) (.slice (some ad) n cd) ds [own] A_ _ c_ (fun _ => True) (fun _ => False) (qzA e79) ((qzA e81).trans hs_) D0.out HRd_ (fun x_ cs_ hk_ => by obtain rfl := k31_openM hk_; exact qGD _ _ _ x_) (fun _ hk => hk.elim) (fun _ _ => trivial) B.out B.out.size (by simp only [List.length_cons, List.length_nil]; omega) ?_
             intro v_ w1_ hR_ hB_ hg_ hat_
             refine hK.out _ _ ⟨s81, v_, s88, s89, s96, s97, s110, s111, (by rw [ha.out]; exact qS 3 hb_ rfl rfl rfl), hB_, fun _ => qf P0.out hg_ (Kd.R_ne D0.out P0.out (by decide)), fun h0_ _ => aF (hoff 42 kr) h0_, fun h0_ _ => aF (hoff 45 kr) h0_, fun h0_ _ => aF (hoff 48 kr) h0_, fun h0_ => aF (hoff 51 kr) h0_, M1.out.qgA (hg_.block gm M1.out.lt (M1.out.ne D0.out)), fun h0_ => absurd ((qkA b 10).symm.trans h0_) (by decide), fun h0_ => absurd ((qkA b 10).symm.trans h0_) (by decide), fun _ h1_ => absurd ((qkA b 10).symm.trans h1_) (by decide), fun _ => hR_, fun _ => Kd.qoA F0.out (Kd.qeA D0.out) (by decide) hg_, fun h0_ h1_ => Kd.qoA (Q_LF h0_ h1_) (Kd.qeA D0.out) (by decide) hg_, fun h0_ => aF (hoff 17 kr) h0_, fun _ => Kd.qoA U0.out (Kd.qeA D0.out) (by decide) hg_, fun h0_ h1_ => Kd.qoA (Q_LU h0_ h1_) (Kd.qeA D0.out) (by decide) hg_, fun h0_ => aF (hoff 25 kr) h0_, fun _ => Kd.qoA G0.out (Kd.qeA D0.out) (by decide) hg_, fun h0_ h1_ => Kd.qoA (Q_LG h0_ h1_) (Kd.qeA D0.out) (by decide) hg_, fun h0_ => aF (hoff 39 kr) h0_, Q_NFG, fun h0_ _ => aF (hoff 17 kr) h0_, fun h0_ => aF (hoff 39 kr) h0_, Q_NL0, fun h0_ _ _ => aF (hoff 17 kr) h0_⟩
            refine qO ?_ ?_
            ·rintro b a w' ⟨s81, s82, s88, s89, s96, s97, s110, s111, ha, Q_B, Q_P0, Q_P1, Q_P2, Q_P3, Q_P4, Q_M1, Q_LS, Q_D0, Q_LD, Q_D1, Q_F0, Q_LF, Q_F1, Q_U0, Q_LU, Q_U1, Q_G0, Q_LG, Q_G1, Q_NFG, Q_NF1, Q_NF2, Q_NL0, Q_NL1⟩ hb_ hon hoff
             refine ⟨_, rfl, fun K hK => ?_⟩
             have e85 : a.tmps[85]? = some (.pointer (some ⟨gp, 1, none⟩)) := by rw [ha]; exact (qz rfl).trans rfl
             replace ha := aM ha
             have B := aM Q_B
             have P0 := aM (Q_P0 (hoff 42 kr))
             have M1 := aM Q_M1
             have F0 := aM (Q_F0 (hoff 17 kr))
             have U0 := aM (Q_U0 (hoff 25 kr))
             have G0 := aM (Q_G0 (hoff 39 kr))
             have NFG := aM (Q_NFG (hoff 17 kr))
             have hc_ : w'.cell? ⟨gp, 1, none⟩ = some v1 := (qD P0.out 1).trans rfl
             refine qNA (w1 := w') (v := v1) (by rfl) rfl ?_ ?_
             ·go_simp
              (try simp only [i64_w])
              try rfl
             refine hK.out _ _ ⟨s81, s82, s88, s89, s96, s97, s110, s111, (by rw [ha.out]; exact qS 4 hb_ rfl rfl rfl), Q_B, Q_P0, fun h0_ _ => aF (hoff 42 kr) h0_, fun h0_ _ => aF (hoff 45 kr) h0_, fun h0_ _ => aF (hoff 48 kr) h0_, fun h0_ => aF (hoff 51 kr) h0_, Q_M1, Q_LS, Q_D0, Q_LD, Q_D1, Q_F0, Q_LF, fun h0_ => aF (hoff 17 kr) h0_, Q_U0, Q_LU, fun h0_ => aF (hoff 25 kr) h0_, Q_G0, Q_LG, fun h0_ => aF (hoff 39 kr) h0_, Q_NFG, fun h0_ _ => aF (hoff 17 kr) h0_, fun h0_ => aF (hoff 39 kr) h0_, Q_NL0, fun h0_ _ _ => aF (hoff 17 kr) h0_⟩
            refine qO ?_ ?_
            ·rintro b a w' ⟨s81, s82, s88, s89, s96, s97, s110, s111, ha, Q_B, Q_P0, Q_P1, Q_P2, Q_P3, Q_P4, Q_M1, Q_LS, Q_D0, Q_LD, Q_D1, Q_F0, Q_LF, Q_F1, Q_U0, Q_LU, Q_U1, Q_G0, Q_LG, Q_G1, Q_NFG, Q_NF1, Q_NF2, Q_NL0, Q_NL1⟩ hb_ hon hoff
             refine ⟨_, rfl, fun K hK => ?_⟩
             have e87 : a.tmps[87]? = some (.int .i64 (i : Int)) := by rw [ha]; exact (qz rfl).trans rfl
             replace ha := aM ha
             have B := aM Q_B
             have P0 := aM (Q_P0 (hoff 42 kr))
             have M1 := aM Q_M1
             have F0 := aM (Q_F0 (hoff 17 kr))
             have U0 := aM (Q_U0 (hoff 25 kr))
             have G0 := aM (Q_G0 (hoff 39 kr))
             have NFG := aM (Q_NFG (hoff 17 kr))
             refine Kd.qSA (Kd.int .i64) (w0 := w) w.heap.size 3 (by rfl) (N := 88) rfl (xs := ([(i : Int)] : List _)) (inner := [.int .i64 (i : Int)]) (ok := fun _ => True) (okp := fun _ => False) ?hr16 ?hp16 (fun _ hk => hk.elim) trivial B.out B.out.size (by simp) ?_
             case hr16 => first | (go_simp; done) | (go_simp; rfl)
             case hp16 => exact Reps.one (show Kd.M (Kd.int .i64) _ _ _ (i : Int) [.int .i64 (i : Int)] from rfl) (Reps.none _ _)
             intro v_ w1_ hR_ hB_ hg_ hnew_
             refine hK.out _ _ ⟨s81, s82, v_, s89, s96, s97, s110, s111, (by rw [ha.out]; exact qS 5 hb_ rfl rfl rfl), hB_, fun _ => qf P0.out hg_ (by simp), fun h0_ _ => aF (hoff 42 kr) h0_, fun h0_ _ => aF (hoff 45 kr) h0_, fun h0_ _ => aF (hoff 48 kr) h0_, fun h0_ => aF (hoff 51 kr) h0_, M1.out.qgA (hg_.block gm M1.out.lt (by simp)), fun h0_ => qf (Q_LS h0_) hg_ (by simp), fun h0_ => plLit0 (Q_D0 h0_) hg_, fun h0_ h1_ => plLit0 (Q_LD h0_ h1_) hg_, fun h0_ => plLit0 (Q_D1 h0_) hg_, fun _ => plLit0 F0.out hg_, fun _ _ => hR_, fun h0_ => aF (hoff 17 kr) h0_, fun _ => plLit0 U0.out hg_, fun h0_ h1_ => plLit0 (Q_LU h0_ h1_) hg_, fun h0_ => aF (hoff 25 kr) h0_, fun _ => plLit0 G0.out hg_, fun h0_ h1_ => plLit0 (Q_LG h0_ h1_) hg_, fun h0_ => aF (hoff 39 kr) h0_, Q_NFG, fun h0_ _ => aF (hoff 17 kr) h0_, fun h0_ => aF (hoff 39 kr) h0_, Q_NL0, fun h0_ _ _ => aF (hoff 17 kr) h0_⟩
            refine qO ?_ ?_
            ·rintro b a w' ⟨s81, s82, s88, s89, s96, s97, s110, s111, ha, Q_B, Q_P0, Q_P1, Q_P2, Q_P3, Q_P4, Q_M1, Q_LS, Q_D0, Q_LD, Q_D1, Q_F0, Q_LF, Q_F1, Q_U0, Q_LU, Q_U1, Q_G0, Q_LG, Q_G1, Q_NFG, Q_NF1, Q_NF2, Q_NL0, Q_NL1⟩ hb_ hon hoff
             refine ⟨_, rfl, fun K hK => ?_⟩
             have e86 : a.tmps[86]? = some (v1) := by rw [ha]; exact qW (e := (14, 86, v1)) 4 rfl rfl (hon 14 kr) rfl
             have e88 : a.tmps[88]? = some (s88) := by rw [ha]; exact qW (e := (16, 88, s88)) 5 rfl rfl (hon 16 kr) rfl
             replace ha := aM ha
             have B := aM Q_B
             have P0 := aM (Q_P0 (hoff 42 kr))
             have M1 := aM Q_M1
             have D1 := aM (Q_D1 (hon 10 kr))
             have F0 := aM (Q_F0 hb_)
             have LF := aM (Q_LF (hon 16 kr) hb_)
             have U0 := aM (Q_U0 (hoff 25 kr))
             have G0 := aM (Q_G0 (hoff 39 kr))
             have NFG := aM (Q_NFG hb_)
             obtain ⟨A_, c_, hs_, hle_, HRd_⟩ := OwnRow.reads LF.out.2
             have hbd_ := HBD.out
             refine Kd.qCA (Kd.int .i64) (w0 := w) w.heap.size (by rfl) (.tmp 86) (.tmp 88) 26 3 (.int .i64 0) 8 rfl Tryz.underlying26 rcInfoI rfl (by show 0 < 1; omega) (by omega) v1 fs [(i : Int)] A_ _ c_ (fun _ => True) (fun _ => False) (qzA e86) ((qzA e88).trans hs_) F0.out HRd_ (fun _ _ hk_ => hk_) (fun _ hk => hk.elim) (fun _ _ => trivial) B.out B.out.size (by simp only [List.length_cons, List.length_nil]; omega) ?_
             intro v_ w1_ hR_ hB_ hg_ hat_
             refine hK.out _ _ ⟨s81, s82, s88, v_, s96, s97, s110, s111, (by rw [ha.out]; exact qS 6 hb_ rfl rfl rfl), hB_, fun _ => qf P0.out hg_ (Kd.R_ne F0.out P0.out (by decide)), fun h0_ _ => aF (hoff 42 kr) h0_, fun h0_ _ => aF (hoff 45 kr) h0_, fun h0_ _ => aF (hoff 48 kr) h0_, fun h0_ => aF (hoff 51 kr) h0_, M1.out.qgA (hg_.block gm M1.out.lt (M1.out.ne F0.out)), fun h0_ => aT (hon 10 kr) h0_, fun h0_ => aT (hon 10 kr) h0_, fun _ h1_ => aT (hon 10 kr) h1_, fun _ => Kd.qoA D1.out (Kd.qeA F0.out) (by decide) hg_, fun h0_ => absurd ((qkA b 17).symm.trans h0_) (by decide), fun _ h1_ => absurd ((qkA b 17).symm.trans h1_) (by decide), fun _ => hR_, fun _ => Kd.qoA U0.out (Kd.qeA F0.out) (by decide) hg_, fun h0_ h1_ => Kd.qoA (Q_LU h0_ h1_) (Kd.qeA F0.out) (by decide) hg_, fun h0_ => aF (hoff 25 kr) h0_, fun _ => Kd.qLD G0.out rfl hg_ (fun k_ hk_ => NFG.out k_ hk_), fun h0_ h1_ => Kd.qLD (Q_LG h0_ h1_) rfl hg_ (Q_NL0 h0_ hb_), fun h0_ => aF (hoff 39 kr) h0_, fun h0_ => absurd ((qkA b 17).symm.trans h0_) (by decide), fun _ _ => qcC hat_ NFG.out (Kd.R_lt G0.out), fun h0_ => aF (hoff 39 kr) h0_, fun _ h1_ => absurd ((qkA b 17).symm.trans h1_) (by decide), fun _ h1_ h2_ => qcC hat_ (Q_NL0 h1_ hb_) (Kd.R_lt (Q_LG h1_ h2_))⟩
            refine qO ?_ ?_
            ·rintro b a w' ⟨s81, s82, s88, s89, s96, s97, s110, s111, ha, Q_B, Q_P0, Q_P1, Q_P2, Q_P3, Q_P4, Q_M1, Q_LS, Q_D0, Q_LD, Q_D1, Q_F0, Q_LF, Q_F1, Q_U0, Q_LU, Q_U1, Q_G0, Q_LG, Q_G1, Q_NFG, Q_NF1, Q_NF2, Q_NL0, Q_NL1⟩ hb_ hon hoff
             refine ⟨_, rfl, fun K hK => ?_⟩
             have e92 : a.tmps[92]? = some (.pointer (some ⟨gp, 2, none⟩)) := by rw [ha]; exact (qz rfl).trans rfl
             replace ha := aM ha
             have B := aM Q_B
             have P0 := aM (Q_P0 (hoff 42 kr))
             have M1 := aM Q_M1
             have U0 := aM (Q_U0 (hoff 25 kr))
             have G0 := aM (Q_G0 (hoff 39 kr))
             have hc_ : w'.cell? ⟨gp, 2, none⟩ = some v2 := (qD P0.out 2).trans rfl
             refine qNA (w1 := w') (v := v2) (by rfl) rfl ?_ ?_
             ·go_simp
              (try simp only [i64_w])
              try rfl
             refine hK.out _ _ ⟨s81, s82, s88, s89, s96, s97, s110, s111, (by rw [ha.out]; exact qS 7 hb_ rfl rfl rfl), Q_B, Q_P0, fun h0_ _ => aF (hoff 42 kr) h0_, fun h0_ _ => aF (hoff 45 kr) h0_, fun h0_ _ => aF (hoff 48 kr) h0_, fun h0_ => aF (hoff 51 kr) h0_, Q_M1, Q_LS, Q_D0, Q_LD, Q_D1, Q_F0, Q_LF, Q_F1, Q_U0, Q_LU, fun h0_ => aF (hoff 25 kr) h0_, Q_G0, Q_LG, fun h0_ => aF (hoff 39 kr) h0_, Q_NFG, Q_NF1, fun h0_ => aF (hoff 39 kr) h0_, Q_NL0, Q_NL1⟩
            refine qO ?_ ?_
            ·rintro b a w' ⟨s81, s82, s88, s89, s96, s97, s110, s111, ha, Q_B, Q_P0, Q_P1, Q_P2, Q_P3, Q_P4, Q_M1, Q_LS, Q_D0, Q_LD, Q_D1, Q_F0, Q_LF, Q_F1, Q_U0, Q_LU, Q_U1, Q_G0, Q_LG, Q_G1, Q_NFG, Q_NF1, Q_NF2, Q_NL0, Q_NL1⟩ hb_ hon hoff
             refine ⟨_, rfl, fun K hK => ?_⟩
             have e95 : a.tmps[95]? = some (.int .u8 sg) := by rw [ha]; exact (qz rfl).trans rfl
             replace ha := aM ha
             have B := aM Q_B
             have P0 := aM (Q_P0 (hoff 42 kr))
             have M1 := aM Q_M1
             have U0 := aM (Q_U0 (hoff 25 kr))
             have G0 := aM (Q_G0 (hoff 39 kr))
             refine Kd.qSA (Kd.int .u8) (w0 := w) w.heap.size 5 (by rfl) (N := 96) rfl (xs := ([sg] : List _)) (inner := [.int .u8 sg]) (ok := fun _ => True) (okp := fun _ => False) ?hr24 ?hp24 (fun _ hk => hk.elim) trivial B.out B.out.size (by simp) ?_
             case hr24 => first | (go_simp; done) | (go_simp; rfl)
             case hp24 => exact Reps.one (show Kd.M (Kd.int .u8) _ _ _ sg [.int .u8 sg] from rfl) (Reps.none _ _)
             intro v_ w1_ hR_ hB_ hg_ hnew_
             refine hK.out _ _ ⟨s81, s82, s88, s89, v_, s97, s110, s111, (by rw [ha.out]; exact qS 8 hb_ rfl rfl rfl), hB_, fun _ => qf P0.out hg_ (by simp), fun h0_ _ => aF (hoff 42 kr) h0_, fun h0_ _ => aF (hoff 45 kr) h0_, fun h0_ _ => aF (hoff 48 kr) h0_, fun h0_ => aF (hoff 51 kr) h0_, M1.out.qgA (hg_.block gm M1.out.lt (by simp)), fun h0_ => qf (Q_LS h0_) hg_ (by simp), fun h0_ => plLit0 (Q_D0 h0_) hg_, fun h0_ h1_ => plLit0 (Q_LD h0_ h1_) hg_, fun h0_ => plLit0 (Q_D1 h0_) hg_, fun h0_ => plLit0 (Q_F0 h0_) hg_, fun h0_ h1_ => plLit0 (Q_LF h0_ h1_) hg_, fun h0_ => plLit0 (Q_F1 h0_) hg_, fun _ => plLit0 U0.out hg_, fun _ _ => hR_, fun h0_ => aF (hoff 25 kr) h0_, fun _ => plLit0 G0.out hg_, fun h0_ h1_ => plLit0 (Q_LG h0_ h1_) hg_, fun h0_ => aF (hoff 39 kr) h0_, Q_NFG, Q_NF1, fun h0_ => aF (hoff 39 kr) h0_, Q_NL0, Q_NL1⟩
            refine qO ?_ ?_
            ·rintro b a w' ⟨s81, s82, s88, s89, s96, s97, s110, s111, ha, Q_B, Q_P0, Q_P1, Q_P2, Q_P3, Q_P4, Q_M1, Q_LS, Q_D0, Q_LD, Q_D1, Q_F0, Q_LF, Q_F1, Q_U0, Q_LU, Q_U1, Q_G0, Q_LG, Q_G1, Q_NFG, Q_NF1, Q_NF2, Q_NL0, Q_NL1⟩ hb_ hon hoff
             refine ⟨_, rfl, fun K hK => ?_⟩
             have e93 : a.tmps[93]? = some (v2) := by rw [ha]; exact qW (e := (21, 93, v2)) 7 rfl rfl (hon 21 kr) rfl
             have e96 : a.tmps[96]? = some (s96) := by rw [ha]; exact qW (e := (24, 96, s96)) 8 rfl rfl (hon 24 kr) rfl
             replace ha := aM ha
             have B := aM Q_B
             have P0 := aM (Q_P0 (hoff 42 kr))
             have M1 := aM Q_M1
             have D1 := aM (Q_D1 (hon 10 kr))
             have F1 := aM (Q_F1 (hon 17 kr))
             have U0 := aM (Q_U0 hb_)
             have LU := aM (Q_LU (hon 24 kr) hb_)
             have G0 := aM (Q_G0 (hoff 39 kr))
             have NF1 := aM (Q_NF1 (hon 17 kr) (hoff 39 kr))
             obtain ⟨A_, c_, hs_, hle_, HRd_⟩ := OwnRow.reads LU.out.2
             have hbd_ := HBD.out
             refine Kd.qCA (Kd.int .u8) (w0 := w) w.heap.size (by rfl) (.tmp 93) (.tmp 96) 53 5 (.int .u8 0) 1 rfl Tryz.underlying53 rcInfoU rfl (by show 0 < 1; omega) (by omega) v2 us [sg] A_ _ c_ (fun _ => True) (fun _ => False) (qzA e93) ((qzA e96).trans hs_) U0.out HRd_ (fun _ _ hk_ => hk_) (fun _ hk => hk.elim) (fun _ _ => trivial) B.out B.out.size (by simp only [List.length_cons, List.length_nil]; omega) ?_
             intro v_ w1_ hR_ hB_ hg_ hat_
             refine hK.out _ _ ⟨s81, s82, s88, s89, s96, v_, s110, s111, (by rw [ha.out]; exact qS 9 hb_ rfl rfl rfl), hB_, fun _ => qf P0.out hg_ (Kd.R_ne U0.out P0.out (by decide)), fun h0_ _ => aF (hoff 42 kr) h0_, fun h0_ _ => aF (hoff 45 kr) h0_, fun h0_ _ => aF (hoff 48 kr) h0_, fun h0_ => aF (hoff 51 kr) h0_, M1.out.qgA (hg_.block gm M1.out.lt (M1.out.ne U0.out)), fun h0_ => aT (hon 10 kr) h0_, fun h0_ => aT (hon 10 kr) h0_, fun _ h1_ => aT (hon 10 kr) h1_, fun _ => Kd.qoA D1.out (Kd.qeA U0.out) (by decide) hg_, fun h0_ => aT (hon 17 kr) h0_, fun _ h1_ => aT (hon 17 kr) h1_, fun _ => Kd.qoA F1.out (Kd.qeA U0.out) (by decide) hg_, fun h0_ => absurd ((qkA b 25).symm.trans h0_) (by decide), fun _ h1_ => absurd ((qkA b 25).symm.trans h1_) (by decide), fun _ => hR_, fun _ => Kd.qoA G0.out (Kd.qeA U0.out) (by decide) hg_, fun h0_ h1_ => Kd.qoA (Q_LG h0_ h1_) (Kd.qeA U0.out) (by decide) hg_, fun h0_ => aF (hoff 39 kr) h0_, fun h0_ => aT (hon 17 kr) h0_, Q_NF1, fun h0_ => aF (hoff 39 kr) h0_, fun _ h1_ => aT (hon 17 kr) h1_, Q_NL1⟩
            refine qO ?_ ?_
            ·rintro b a w' ⟨s81, s82, s88, s89, s96, s97, s110, s111, ha, Q_B, Q_P0, Q_P1, Q_P2, Q_P3, Q_P4, Q_M1, Q_LS, Q_D0, Q_LD, Q_D1, Q_F0, Q_LF, Q_F1, Q_U0, Q_LU, Q_U1, Q_G0, Q_LG, Q_G1, Q_NFG, Q_NF1, Q_NF2, Q_NL0, Q_NL1⟩ hb_ hon hoff
             refine ⟨_, rfl, fun K hK => ?_⟩
             have e100 : a.tmps[100]? = some (.pointer (some ⟨gp, 3, none⟩)) := by rw [ha]; exact (qz rfl).trans rfl
             replace ha := aM ha
             have B := aM Q_B
             have P0 := aM (Q_P0 (hoff 42 kr))
             have M1 := aM Q_M1
             have G0 := aM (Q_G0 (hoff 39 kr))
             have hc_ : w'.cell? ⟨gp, 3, none⟩ = some (.slice (some a3) n c3) := (qD P0.out 3).trans rfl
             refine qNA (w1 := w') (v := .slice (some a3) n c3) (by rfl) rfl ?_ ?_
             ·go_simp
              (try simp only [i64_w])
              try rfl
             refine hK.out _ _ ⟨s81, s82, s88, s89, s96, s97, s110, s111, (by rw [ha.out]; exact qS 10 hb_ rfl rfl rfl), Q_B, Q_P0, fun h0_ _ => aF (hoff 42 kr) h0_, fun h0_ _ => aF (hoff 45 kr) h0_, fun h0_ _ => aF (hoff 48 kr) h0_, fun h0_ => aF (hoff 51 kr) h0_, Q_M1, Q_LS, Q_D0, Q_LD, Q_D1, Q_F0, Q_LF, Q_F1, Q_U0, Q_LU, Q_U1, Q_G0, Q_LG, fun h0_ => aF (hoff 39 kr) h0_, Q_NFG, Q_NF1, fun h0_ => aF (hoff 39 kr) h0_, Q_NL0, Q_NL1⟩
            refine qO ?_ ?_
            ·rintro b a w' ⟨s81, s82, s88, s89, s96, s97, s110, s111, ha, Q_B, Q_P0, Q_P1, Q_P2, Q_P3, Q_P4, Q_M1, Q_LS, Q_D0, Q_LD, Q_D1, Q_F0, Q_LF, Q_F1, Q_U0, Q_LU, Q_U1, Q_G0, Q_LG, Q_G1, Q_NFG, Q_NF1, Q_NF2, Q_NL0, Q_NL1⟩ hb_ hon hoff
             refine ⟨_, rfl, fun K hK => ?_⟩
             have e104 : a.tmps[104]? = some (.pointer (some ⟨gp, 3, none⟩)) := by rw [ha]; exact (qz rfl).trans rfl
             replace ha := aM ha
             have B := aM Q_B
             have P0 := aM (Q_P0 (hoff 42 kr))
             have M1 := aM Q_M1
             have G0 := aM (Q_G0 (hoff 39 kr))
             have hc_ : w'.cell? ⟨gp, 3, none⟩ = some (.slice (some a3) n c3) := (qD P0.out 3).trans rfl
             refine qNA (w1 := w') (v := .slice (some a3) n c3) (by rfl) rfl ?_ ?_
             ·go_simp
              (try simp only [i64_w])
              try rfl
             refine hK.out _ _ ⟨s81, s82, s88, s89, s96, s97, s110, s111, (by rw [ha.out]; exact qS 11 hb_ rfl rfl rfl), Q_B, Q_P0, fun h0_ _ => aF (hoff 42 kr) h0_, fun h0_ _ => aF (hoff 45 kr) h0_, fun h0_ _ => aF (hoff 48 kr) h0_, fun h0_ => aF (hoff 51 kr) h0_, Q_M1, Q_LS, Q_D0, Q_LD, Q_D1, Q_F0, Q_LF, Q_F1, Q_U0, Q_LU, Q_U1, Q_G0, fun h0_ _ => aF (hoff 38 kr) h0_, fun h0_ => aF (hoff 39 kr) h0_, Q_NFG, Q_NF1, fun h0_ => aF (hoff 39 kr) h0_, fun h0_ _ => aF (hoff 38 kr) h0_, fun _ h1_ _ => aF (hoff 38 kr) h1_⟩
            refine qO ?_ ?_
            ·rintro b a w' ⟨s81, s82, s88, s89, s96, s97, s110, s111, ha, Q_B, Q_P0, Q_P1, Q_P2, Q_P3, Q_P4, Q_M1, Q_LS, Q_D0, Q_LD, Q_D1, Q_F0, Q_LF, Q_F1, Q_U0, Q_LU, Q_U1, Q_G0, Q_LG, Q_G1, Q_NFG, Q_NF1, Q_NF2, Q_NL0, Q_NL1⟩ hb_ hon hoff
             refine ⟨_, rfl, fun K hK => ?_⟩
             have e105 : a.tmps[105]? = some (.slice (some a3) n c3) := by rw [ha]; exact qW (e := (33, 105, .slice (some a3) n c3)) 11 rfl rfl (hon 33 kr) rfl
             have e106 : a.tmps[106]? = some (.int .i64 (i : Int)) := by rw [ha]; exact (qz rfl).trans rfl
             replace ha := aM ha
             have B := aM Q_B
             have P0 := aM (Q_P0 (hoff 42 kr))
             have M1 := aM Q_M1
             have G0 := aM (Q_G0 (hoff 39 kr))
             refine qNA (w1 := w') (v := .pointer (some (a3.add i))) (by rfl) rfl ?_ ?_
             ·go_simp
              (try simp only [i64_w])
              try rfl
             refine hK.out _ _ ⟨s81, s82, s88, s89, s96, s97, s110, s111, (by rw [ha.out]; exact qS 12 hb_ rfl rfl rfl), Q_B, Q_P0, fun h0_ _ => aF (hoff 42 kr) h0_, fun h0_ _ => aF (hoff 45 kr) h0_, fun h0_ _ => aF (hoff 48 kr) h0_, fun h0_ => aF (hoff 51 kr) h0_, Q_M1, Q_LS, Q_D0, Q_LD, Q_D1, Q_F0, Q_LF, Q_F1, Q_U0, Q_LU, Q_U1, Q_G0, fun h0_ _ => aF (hoff 38 kr) h0_, fun h0_ => aF (hoff 39 kr) h0_, Q_NFG, Q_NF1, fun h0_ => aF (hoff 39 kr) h0_, fun h0_ _ => aF (hoff 38 kr) h0_, fun _ h1_ _ => aF (hoff 38 kr) h1_⟩
            refine qO ?_ ?_
            ·rintro b a w' ⟨s81, s82, s88, s89, s96, s97, s110, s111, ha, Q_B, Q_P0, Q_P1, Q_P2, Q_P3, Q_P4, Q_M1, Q_LS, Q_D0, Q_LD, Q_D1, Q_F0, Q_LF, Q_F1, Q_U0, Q_LU, Q_U1, Q_G0, Q_LG, Q_G1, Q_NFG, Q_NF1, Q_NF2, Q_NL0, Q_NL1⟩ hb_ hon hoff
             refine ⟨_, rfl, fun K hK => ?_⟩
             have e107 : a.tmps[107]? = some (.pointer (some (a3.add i))) := by rw [ha]; exact qW (e := (35, 107, .pointer (some (a3.add i)))) 12 rfl rfl (hon 35 kr) rfl
             replace ha := aM ha
             have B := aM Q_B
             have P0 := aM (Q_P0 (hoff 42 kr))
             have M1 := aM Q_M1
             have G0 := aM (Q_G0 (hoff 39 kr))
             obtain ⟨ad_, e_, hcell_⟩ := Kd.qjA (Kd.qE G0.out).2.2 (i : Int) HI0.out HINQ.out
             obtain rfl : a3 = ad_ := by injection e_
             rw [HRQ.out, Int.toNat_natCast] at hcell_
             refine qNA (w1 := w') (v := .int .i64 p1) (by rfl) rfl ?_ ?_
             ·go_simp
              (try simp only [i64_w])
              try rfl
             refine hK.out _ _ ⟨s81, s82, s88, s89, s96, s97, s110, s111, (by rw [ha.out]; exact qS 13 hb_ rfl rfl rfl), Q_B, Q_P0, fun h0_ _ => aF (hoff 42 kr) h0_, fun h0_ _ => aF (hoff 45 kr) h0_, fun h0_ _ => aF (hoff 48 kr) h0_, fun h0_ => aF (hoff 51 kr) h0_, Q_M1, Q_LS, Q_D0, Q_LD, Q_D1, Q_F0, Q_LF, Q_F1, Q_U0, Q_LU, Q_U1, Q_G0, fun h0_ _ => aF (hoff 38 kr) h0_, fun h0_ => aF (hoff 39 kr) h0_, Q_NFG, Q_NF1, fun h0_ => aF (hoff 39 kr) h0_, fun h0_ _ => aF (hoff 38 kr) h0_, fun _ h1_ _ => aF (hoff 38 kr) h1_⟩
            refine qO ?_ ?_
            ·rintro b a w' ⟨s81, s82, s88, s89, s96, s97, s110, s111, ha, Q_B, Q_P0, Q_P1, Q_P2, Q_P3, Q_P4, Q_M1, Q_LS, Q_D0, Q_LD, Q_D1, Q_F0, Q_LF, Q_F1, Q_U0, Q_LU, Q_U1, Q_G0, Q_LG, Q_G1, Q_NFG, Q_NF1, Q_NF2, Q_NL0, Q_NL1⟩ hb_ hon hoff
             refine ⟨_, rfl, fun K hK => ?_⟩
             have e108 : a.tmps[108]? = some (.int .i64 p1) := by rw [ha]; exact qW (e := (36, 108, .int .i64 p1)) 13 rfl rfl (hon 36 kr) rfl
             replace ha := aM ha
             have B := aM Q_B
             have P0 := aM (Q_P0 (hoff 42 kr))
             have M1 := aM Q_M1
             have G0 := aM (Q_G0 (hoff 39 kr))
             have hw_ := HW1.out
             refine qNA (w1 := w') (v := .int .i64 (p1 + 1)) (by rfl) rfl ?_ ?_
             ·go_simp
              (try simp only [i64_w])
              try rfl
             refine hK.out _ _ ⟨s81, s82, s88, s89, s96, s97, s110, s111, (by rw [ha.out]; exact qS 14 hb_ rfl rfl rfl), Q_B, Q_P0, fun h0_ _ => aF (hoff 42 kr) h0_, fun h0_ _ => aF (hoff 45 kr) h0_, fun h0_ _ => aF (hoff 48 kr) h0_, fun h0_ => aF (hoff 51 kr) h0_, Q_M1, Q_LS, Q_D0, Q_LD, Q_D1, Q_F0, Q_LF, Q_F1, Q_U0, Q_LU, Q_U1, Q_G0, fun h0_ _ => aF (hoff 38 kr) h0_, fun h0_ => aF (hoff 39 kr) h0_, Q_NFG, Q_NF1, fun h0_ => aF (hoff 39 kr) h0_, fun h0_ _ => aF (hoff 38 kr) h0_, fun _ h1_ _ => aF (hoff 38 kr) h1_⟩
            refine qO ?_ ?_
            ·rintro b a w' ⟨s81, s82, s88, s89, s96, s97, s110, s111, ha, Q_B, Q_P0, Q_P1, Q_P2, Q_P3, Q_P4, Q_M1, Q_LS, Q_D0, Q_LD, Q_D1, Q_F0, Q_LF, Q_F1, Q_U0, Q_LU, Q_U1, Q_G0, Q_LG, Q_G1, Q_NFG, Q_NF1, Q_NF2, Q_NL0, Q_NL1⟩ hb_ hon hoff
             refine ⟨_, rfl, fun K hK => ?_⟩
             have e109 : a.tmps[109]? = some (.int .i64 (p1 + 1)) := by rw [ha]; exact qW (e := (37, 109, .int .i64 (p1 + 1))) 14 rfl rfl (hon 37 kr) rfl
             replace ha := aM ha
             have B := aM Q_B
             have P0 := aM (Q_P0 (hoff 42 kr))
             have M1 := aM Q_M1
             have G0 := aM (Q_G0 (hoff 39 kr))
             refine Kd.qSA (Kd.int .i64) (w0 := w) w.heap.size 3 (by rfl) (N := 110) rfl (xs := ([(p1 + 1)] : List _)) (inner := [.int .i64 (p1 + 1)]) (ok := fun _ => True) (okp := fun _ => False) ?hr38 ?hp38 (fun _ hk => hk.elim) trivial B.out B.out.size (by simp) ?_
             case hr38 => first | (go_simp; done) | (go_simp; rfl)
             case hp38 => exact Reps.one (show Kd.M (Kd.int .i64) _ _ _ (p1 + 1) [.int .i64 (p1 + 1)] from rfl) (Reps.none _ _)
             intro v_ w1_ hR_ hB_ hg_ hnew_
             refine hK.out _ _ ⟨s81, s82, s88, s89, s96, s97, v_, s111, (by rw [ha.out]; exact qS 15 hb_ rfl rfl rfl), hB_, fun _ => qf P0.out hg_ (by simp), fun h0_ _ => aF (hoff 42 kr) h0_, fun h0_ _ => aF (hoff 45 kr) h0_, fun h0_ _ => aF (hoff 48 kr) h0_, fun h0_ => aF (hoff 51 kr) h0_, M1.out.qgA (hg_.block gm M1.out.lt (by simp)), fun h0_ => qf (Q_LS h0_) hg_ (by simp), fun h0_ => plLit0 (Q_D0 h0_) hg_, fun h0_ h1_ => plLit0 (Q_LD h0_ h1_) hg_, fun h0_ => plLit0 (Q_D1 h0_) hg_, fun h0_ => plLit0 (Q_F0 h0_) hg_, fun h0_ h1_ => plLit0 (Q_LF h0_ h1_) hg_, fun h0_ => plLit0 (Q_F1 h0_) hg_, fun h0_ => plLit0 (Q_U0 h0_) hg_, fun h0_ h1_ => plLit0 (Q_LU h0_ h1_) hg_, fun h0_ => plLit0 (Q_U1 h0_) hg_, fun _ => plLit0 G0.out hg_, fun _ _ => hR_, fun h0_ => aF (hoff 39 kr) h0_, Q_NFG, Q_NF1, fun h0_ => aF (hoff 39 kr) h0_, fun _ h1_ => (qAC hnew_ (Kd.R_lt (Q_F0 h1_))).symm, fun h0_ _ _ => (qAC hnew_ (Kd.R_lt (Q_F1 h0_))).symm⟩
            refine qO ?_ ?_
            ·rintro b a w' ⟨s81, s82, s88, s89, s96, s97, s110, s111, ha, Q_B, Q_P0, Q_P1, Q_P2, Q_P3, Q_P4, Q_M1, Q_LS, Q_D0, Q_LD, Q_D1, Q_F0, Q_LF, Q_F1, Q_U0, Q_LU, Q_U1, Q_G0, Q_LG, Q_G1, Q_NFG, Q_NF1, Q_NF2, Q_NL0, Q_NL1⟩ hb_ hon hoff
             refine ⟨_, rfl, fun K hK => ?_⟩
             have e101 : a.tmps[101]? = some (.slice (some a3) n c3) := by rw [ha]; exact qW (e := (29, 101, .slice (some a3) n c3)) 10 rfl rfl (hon 29 kr) rfl
             have e110 : a.tmps[110]? = some (s110) := by rw [ha]; exact qW (e := (38, 110, s110)) 15 rfl rfl (hon 38 kr) rfl
             replace ha := aM ha
             have B := aM Q_B
             have P0 := aM (Q_P0 (hoff 42 kr))
             have M1 := aM Q_M1
             have D1 := aM (Q_D1 (hon 10 kr))
             have F1 := aM (Q_F1 (hon 17 kr))
             have U1 := aM (Q_U1 (hon 25 kr))
             have G0 := aM (Q_G0 hb_)
             have LG := aM (Q_LG (hon 38 kr) hb_)
             have NF1 := aM (Q_NF1 (hon 17 kr) hb_)
             have NL1 := aM (Q_NL1 (hon 17 kr) (hon 38 kr) hb_)
             obtain ⟨A_, c_, hs_, hle_, HRd_⟩ := OwnRow.reads LG.out.2
             have hbd_ := HBD.out
             refine Kd.qCA (Kd.int .i64) (w0 := w) w.heap.size (by rfl) (.tmp 101) (.tmp 110) 26 3 (.int .i64 0) 8 rfl Tryz.underlying26 rcInfoI rfl (by show 0 < 1; omega) (by omega) (.slice (some a3) n c3) qs [(p1 + 1)] A_ _ c_ (fun _ => True) (fun _ => False) (qzA e101) ((qzA e110).trans hs_) G0.out HRd_ (fun _ _ hk_ => hk_) (fun _ hk => hk.elim) (fun _ _ => trivial) B.out B.out.size (by simp only [List.length_cons, List.length_nil]; omega) ?_
             intro v_ w1_ hR_ hB_ hg_ hat_
             refine hK.out _ _ ⟨s81, s82, s88, s89, s96, s97, s110, v_, (by rw [ha.out]; exact qS 16 hb_ rfl rfl rfl), hB_, fun _ => qf P0.out hg_ (Kd.R_ne G0.out P0.out (by decide)), fun h0_ _ => aF (hoff 42 kr) h0_, fun h0_ _ => aF (hoff 45 kr) h0_, fun h0_ _ => aF (hoff 48 kr) h0_, fun h0_ => aF (hoff 51 kr) h0_, M1.out.qgA (hg_.block gm M1.out.lt (M1.out.ne G0.out)), fun h0_ => aT (hon 10 kr) h0_, fun h0_ => aT (hon 10 kr) h0_, fun _ h1_ => aT (hon 10 kr) h1_, fun _ => Kd.qoA D1.out (Kd.qeA G0.out) (by decide) hg_, fun h0_ => aT (hon 17 kr) h0_, fun _ h1_ => aT (hon 17 kr) h1_, fun _ => Kd.qLD F1.out rfl hg_ (fun k_ hk_ => (NF1.out).symm k_ hk_), fun h0_ => aT (hon 25 kr) h0_, fun _ h1_ => aT (hon 25 kr) h1_, fun _ => Kd.qoA U1.out (Kd.qeA G0.out) (by decide) hg_, fun h0_ => absurd ((qkA b 39).symm.trans h0_) (by decide), fun _ h1_ => absurd ((qkA b 39).symm.trans h1_) (by decide), fun _ => hR_, fun h0_ => aT (hon 17 kr) h0_, fun _ h1_ => absurd ((qkA b 39).symm.trans h1_) (by decide), fun _ => (qcC hat_ (NF1.out).symm (Kd.R_lt F1.out)).symm, fun _ h1_ => aT (hon 17 kr) h1_, fun _ _ h2_ => absurd ((qkA b 39).symm.trans h2_) (by decide)⟩
            refine qO ?_ ?_
            ·rintro b a w' ⟨s81, s82, s88, s89, s96, s97, s110, s111, ha, Q_B, Q_P0, Q_P1, Q_P2, Q_P3, Q_P4, Q_M1, Q_LS, Q_D0, Q_LD, Q_D1, Q_F0, Q_LF, Q_F1, Q_U0, Q_LU, Q_U1, Q_G0, Q_LG, Q_G1, Q_NFG, Q_NF1, Q_NF2, Q_NL0, Q_NL1⟩ hb_ hon hoff
             refine ⟨_, rfl, fun K hK => ?_⟩
             have e72 : a.tmps[72]? = some (.pointer (some ⟨gp, 0, none⟩)) := by rw [ha]; exact (qz rfl).trans rfl
             replace ha := aM ha
             have B := aM Q_B
             have P0 := aM (Q_P0 (hoff 42 kr))
             have M1 := aM Q_M1
             have D1 := aM (Q_D1 (hon 10 kr))
             have F1 := aM (Q_F1 (hon 17 kr))
             have U1 := aM (Q_U1 (hon 25 kr))
             have G1 := aM (Q_G1 (hon 39 kr))
             have NF2 := aM (Q_NF2 (hon 39 kr))
             refine qNA (w1 := w') (v := .pointer (some ⟨gp, 0, none⟩)) (by rfl) rfl ?_ ?_
             ·go_simp
              (try simp only [i64_w])
              try rfl
             refine hK.out _ _ ⟨s81, s82, s88, s89, s96, s97, s110, s111, (by rw [ha.out]; exact qS 17 hb_ rfl rfl rfl), Q_B, Q_P0, fun h0_ _ => aF (hoff 42 kr) h0_, fun h0_ _ => aF (hoff 45 kr) h0_, fun h0_ _ => aF (hoff 48 kr) h0_, fun h0_ => aF (hoff 51 kr) h0_, Q_M1, fun h0_ => aT (hon 10 kr) h0_, fun h0_ => aT (hon 10 kr) h0_, fun _ h1_ => aT (hon 10 kr) h1_, Q_D1, fun h0_ => aT (hon 17 kr) h0_, fun _ h1_ => aT (hon 17 kr) h1_, Q_F1, fun h0_ => aT (hon 25 kr) h0_, fun _ h1_ => aT (hon 25 kr) h1_, Q_U1, fun h0_ => aT (hon 39 kr) h0_, fun _ h1_ => aT (hon 39 kr) h1_, Q_G1, fun h0_ => aT (hon 17 kr) h0_, fun _ h1_ => aT (hon 39 kr) h1_, Q_NF2, fun _ h1_ => aT (hon 17 kr) h1_, fun _ _ h2_ => aT (hon 39 kr) h2_⟩
            refine qO ?_ ?_
            ·rintro b a w' ⟨s81, s82, s88, s89, s96, s97, s110, s111, ha, Q_B, Q_P0, Q_P1, Q_P2, Q_P3, Q_P4, Q_M1, Q_LS, Q_D0, Q_LD, Q_D1, Q_F0, Q_LF, Q_F1, Q_U0, Q_LU, Q_U1, Q_G0, Q_LG, Q_G1, Q_NFG, Q_NF1, Q_NF2, Q_NL0, Q_NL1⟩ hb_ hon hoff
             refine ⟨_, rfl, fun K hK => ?_⟩
             have e112 : a.tmps[112]? = some (.pointer (some ⟨gp, 0, none⟩)) := by rw [ha]; exact qW (e := (40, 112, .pointer (some ⟨gp, 0, none⟩))) 17 rfl rfl (hon 40 kr) rfl
             replace ha := aM ha
             have B := aM Q_B
             have P0 := aM (Q_P0 (hoff 42 kr))
             have M1 := aM Q_M1
             have D1 := aM (Q_D1 (hon 10 kr))
             have F1 := aM (Q_F1 (hon 17 kr))
             have U1 := aM (Q_U1 (hon 25 kr))
             have G1 := aM (Q_G1 (hon 39 kr))
             have NF2 := aM (Q_NF2 (hon 39 kr))
             refine qNA (w1 := w') (v := .pointer (some ⟨gp, 0, none⟩)) (by rfl) rfl ?_ ?_
             ·go_simp
              (try simp only [i64_w])
              try rfl
             refine hK.out _ _ ⟨s81, s82, s88, s89, s96, s97, s110, s111, (by rw [ha.out]; exact qS 18 hb_ rfl rfl rfl), Q_B, Q_P0, fun h0_ _ => aF (hoff 42 kr) h0_, fun h0_ _ => aF (hoff 45 kr) h0_, fun h0_ _ => aF (hoff 48 kr) h0_, fun h0_ => aF (hoff 51 kr) h0_, Q_M1, fun h0_ => aT (hon 10 kr) h0_, fun h0_ => aT (hon 10 kr) h0_, fun _ h1_ => aT (hon 10 kr) h1_, Q_D1, fun h0_ => aT (hon 17 kr) h0_, fun _ h1_ => aT (hon 17 kr) h1_, Q_F1, fun h0_ => aT (hon 25 kr) h0_, fun _ h1_ => aT (hon 25 kr) h1_, Q_U1, fun h0_ => aT (hon 39 kr) h0_, fun _ h1_ => aT (hon 39 kr) h1_, Q_G1, fun h0_ => aT (hon 17 kr) h0_, fun _ h1_ => aT (hon 39 kr) h1_, Q_NF2, fun _ h1_ => aT (hon 17 kr) h1_, fun _ _ h2_ => aT (hon 39 kr) h2_⟩
            refine qO ?_ ?_
            ·rintro b a w' ⟨s81, s82, s88, s89, s96, s97, s110, s111, ha, Q_B, Q_P0, Q_P1, Q_P2, Q_P3, Q_P4, Q_M1, Q_LS, Q_D0, Q_LD, Q_D1, Q_F0, Q_LF, Q_F1, Q_U0, Q_LU, Q_U1, Q_G0, Q_LG, Q_G1, Q_NFG, Q_NF1, Q_NF2, Q_NL0, Q_NL1⟩ hb_ hon hoff
             refine ⟨_, rfl, fun K hK => ?_⟩
             have e113 : a.tmps[113]? = some (.pointer (some ⟨gp, 0, none⟩)) := by rw [ha]; exact qW (e := (41, 113, .pointer (some ⟨gp, 0, none⟩))) 18 rfl rfl (hon 41 kr) rfl
             have e82 : a.tmps[82]? = some (s82) := by rw [ha]; exact qW (e := (10, 82, s82)) 3 rfl rfl (hon 10 kr) rfl
             replace ha := aM ha
             have B := aM Q_B
             have P0 := aM (Q_P0 hb_)
             have M1 := aM Q_M1
             have D1 := aM (Q_D1 (hon 10 kr))
             have F1 := aM (Q_F1 (hon 17 kr))
             have U1 := aM (Q_U1 (hon 25 kr))
             have G1 := aM (Q_G1 (hon 39 kr))
             have NF2 := aM (Q_NF2 (hon 39 kr))
             obtain ⟨A_, c_, hs_⟩ := Kd.qi D1.out
             have hc_ : w'.cell? ⟨gp, 0, none⟩ = some (.slice (some ad) n cd) := (qD P0.out 0).trans rfl
             have hf_ : w'.frozen? ⟨gp, 0, none⟩ = false := qJ P0.out 0
             refine skip_ (w1 := w'.setCell ⟨gp, 0, none⟩ s82) (by rfl) rfl ?hr42 ?_
             case hr42 =>
              rw [hs_] at e82
              rw [hs_]
              first | (go_simp; done) | (go_simp; rfl)
             refine hK.out _ _ ⟨s81, s82, s88, s89, s96, s97, s110, s111, (by rw [ha.out]; exact qSB (v := undef) rfl), qw B.out HGP.out, fun h0_ => absurd ((qkA b 42).symm.trans h0_) (by decide), fun _ _ => qr P0.out 0 _ rfl, fun h0_ _ => aF (hoff 45 kr) h0_, fun h0_ _ => aF (hoff 48 kr) h0_, fun h0_ => aF (hoff 51 kr) h0_, M1.out.setCell HNE.out _, fun h0_ => aT (hon 10 kr) h0_, fun h0_ => aT (hon 10 kr) h0_, fun _ h1_ => aT (hon 10 kr) h1_, fun _ => Kd.R_set D1.out P0.out (by decide) _ _, fun h0_ => aT (hon 17 kr) h0_, fun _ h1_ => aT (hon 17 kr) h1_, fun _ => Kd.R_set F1.out P0.out (by decide) _ _, fun h0_ => aT (hon 25 kr) h0_, fun _ h1_ => aT (hon 25 kr) h1_, fun _ => Kd.R_set U1.out P0.out (by decide) _ _, fun h0_ => aT (hon 39 kr) h0_, fun _ h1_ => aT (hon 39 kr) h1_, fun _ => Kd.R_set G1.out P0.out (by decide) _ _, fun h0_ => aT (hon 17 kr) h0_, fun _ h1_ => aT (hon 39 kr) h1_, Q_NF2, fun _ h1_ => aT (hon 17 kr) h1_, fun _ _ h2_ => aT (hon 39 kr) h2_⟩
            refine qO ?_ ?_
            ·rintro b a w' ⟨s81, s82, s88, s89, s96, s97, s110, s111, ha, Q_B, Q_P0, Q_P1, Q_P2, Q_P3, Q_P4, Q_M1, Q_LS, Q_D0, Q_LD, Q_D1, Q_F0, Q_LF, Q_F1, Q_U0, Q_LU, Q_U1, Q_G0, Q_LG, Q_G1, Q_NFG, Q_NF1, Q_NF2, Q_NL0, Q_NL1⟩ hb_ hon hoff
             refine ⟨_, rfl, fun K hK => ?_⟩
             have e73 : a.tmps[73]? = some (.pointer (some ⟨gp, 0, none⟩)) := by rw [ha]; exact (qz rfl).trans rfl
             replace ha := aM ha
             have B := aM Q_B
             have P1 := aM (Q_P1 (hon 42 kr) (hoff 45 kr))
             have M1 := aM Q_M1
             have D1 := aM (Q_D1 (hon 10 kr))
             have F1 := aM (Q_F1 (hon 17 kr))
             have U1 := aM (Q_U1 (hon 25 kr))
             have G1 := aM (Q_G1 (hon 39 kr))
             have NF2 := aM (Q_NF2 (hon 39 kr))
             refine qNA (w1 := w') (v := .pointer (some ⟨gp, 0, none⟩)) (by rfl) rfl ?_ ?_
             ·go_simp
              (try simp only [i64_w])
              try rfl
             refine hK.out _ _ ⟨s81, s82, s88, s89, s96, s97, s110, s111, (by rw [ha.out]; exact qS 19 hb_ rfl rfl rfl), Q_B, fun h0_ => aT (hon 42 kr) h0_, Q_P1, fun h0_ _ => aF (hoff 45 kr) h0_, fun h0_ _ => aF (hoff 48 kr) h0_, fun h0_ => aF (hoff 51 kr) h0_, Q_M1, fun h0_ => aT (hon 10 kr) h0_, fun h0_ => aT (hon 10 kr) h0_, fun _ h1_ => aT (hon 10 kr) h1_, Q_D1, fun h0_ => aT (hon 17 kr) h0_, fun _ h1_ => aT (hon 17 kr) h1_, Q_F1, fun h0_ => aT (hon 25 kr) h0_, fun _ h1_ => aT (hon 25 kr) h1_, Q_U1, fun h0_ => aT (hon 39 kr) h0_, fun _ h1_ => aT (hon 39 kr) h1_, Q_G1, fun h0_ => aT (hon 17 kr) h0_, fun _ h1_ => aT (hon 39 kr) h1_, Q_NF2, fun _ h1_ => aT (hon 17 kr) h1_, fun _ _ h2_ => aT (hon 39 kr) h2_⟩
            refine qO ?_ ?_
            ·rintro b a w' ⟨s81, s82, s88, s89, s96, s97, s110, s111, ha, Q_B, Q_P0, Q_P1, Q_P2, Q_P3, Q_P4, Q_M1, Q_LS, Q_D0, Q_LD, Q_D1, Q_F0, Q_LF, Q_F1, Q_U0, Q_LU, Q_U1, Q_G0, Q_LG, Q_G1, Q_NFG, Q_NF1, Q_NF2, Q_NL0, Q_NL1⟩ hb_ hon hoff
             refine ⟨_, rfl, fun K hK => ?_⟩
             have e114 : a.tmps[114]? = some (.pointer (some ⟨gp, 0, none⟩)) := by rw [ha]; exact qW (e := (43, 114, .pointer (some ⟨gp, 0, none⟩))) 19 rfl rfl (hon 43 kr) rfl
             replace ha := aM ha
             have B := aM Q_B
             have P1 := aM (Q_P1 (hon 42 kr) (hoff 45 kr))
             have M1 := aM Q_M1
             have D1 := aM (Q_D1 (hon 10 kr))
             have F1 := aM (Q_F1 (hon 17 kr))
             have U1 := aM (Q_U1 (hon 25 kr))
             have G1 := aM (Q_G1 (hon 39 kr))
             have NF2 := aM (Q_NF2 (hon 39 kr))
             refine qNA (w1 := w') (v := .pointer (some ⟨gp, 1, none⟩)) (by rfl) rfl ?_ ?_
             ·go_simp
              (try simp only [i64_w])
              try rfl
             refine hK.out _ _ ⟨s81, s82, s88, s89, s96, s97, s110, s111, (by rw [ha.out]; exact qS 20 hb_ rfl rfl rfl), Q_B, fun h0_ => aT (hon 42 kr) h0_, Q_P1, fun h0_ _ => aF (hoff 45 kr) h0_, fun h0_ _ => aF (hoff 48 kr) h0_, fun h0_ => aF (hoff 51 kr) h0_, Q_M1, fun h0_ => aT (hon 10 kr) h0_, fun h0_ => aT (hon 10 kr) h0_, fun _ h1_ => aT (hon 10 kr) h1_, Q_D1, fun h0_ => aT (hon 17 kr) h0_, fun _ h1_ => aT (hon 17 kr) h1_, Q_F1, fun h0_ => aT (hon 25 kr) h0_, fun _ h1_ => aT (hon 25 kr) h1_, Q_U1, fun h0_ => aT (hon 39 kr) h0_, fun _ h1_ => aT (hon 39 kr) h1_, Q_G1, fun h0_ => aT (hon 17 kr) h0_, fun _ h1_ => aT (hon 39 kr) h1_, Q_NF2, fun _ h1_ => aT (hon 17 kr) h1_, fun _ _ h2_ => aT (hon 39 kr) h2_⟩
            refine qO ?_ ?_
            ·rintro b a w' ⟨s81, s82, s88, s89, s96, s97, s110, s111, ha, Q_B, Q_P0, Q_P1, Q_P2, Q_P3, Q_P4, Q_M1, Q_LS, Q_D0, Q_LD, Q_D1, Q_F0, Q_LF, Q_F1, Q_U0, Q_LU, Q_U1, Q_G0, Q_LG, Q_G1, Q_NFG, Q_NF1, Q_NF2, Q_NL0, Q_NL1⟩ hb_ hon hoff
             refine ⟨_, rfl, fun K hK => ?_⟩
             have e115 : a.tmps[115]? = some (.pointer (some ⟨gp, 1, none⟩)) := by rw [ha]; exact qW (e := (44, 115, .pointer (some ⟨gp, 1, none⟩))) 20 rfl rfl (hon 44 kr) rfl
             have e89 : a.tmps[89]? = some (s89) := by rw [ha]; exact qW (e := (17, 89, s89)) 6 rfl rfl (hon 17 kr) rfl
             replace ha := aM ha
             have B := aM Q_B
             have P1 := aM (Q_P1 (hon 42 kr) hb_)
             have M1 := aM Q_M1
             have D1 := aM (Q_D1 (hon 10 kr))
             have F1 := aM (Q_F1 (hon 17 kr))
             have U1 := aM (Q_U1 (hon 25 kr))
             have G1 := aM (Q_G1 (hon 39 kr))
             have NF2 := aM (Q_NF2 (hon 39 kr))
             obtain ⟨A_, c_, hs_⟩ := Kd.qi F1.out
             have hc_ : w'.cell? ⟨gp, 1, none⟩ = some (v1) := (qD P1.out 1).trans rfl
             have hf_ : w'.frozen? ⟨gp, 1, none⟩ = false := qJ P1.out 1
             refine skip_ (w1 := w'.setCell ⟨gp, 1, none⟩ s89) (by rfl) rfl ?hr45 ?_
             case hr45 =>
              rw [hs_] at e89
              rw [hs_]
              first | (go_simp; done) | (go_simp; rfl)
             refine hK.out _ _ ⟨s81, s82, s88, s89, s96, s97, s110, s111, (by rw [ha.out]; exact qSB (v := undef) rfl), qw B.out HGP.out, fun h0_ => aT (hon 42 kr) h0_, fun _ h1_ => absurd ((qkA b 45).symm.trans h1_) (by decide), fun _ _ => qr P1.out 1 _ rfl, fun h0_ _ => aF (hoff 48 kr) h0_, fun h0_ => aF (hoff 51 kr) h0_, M1.out.setCell HNE.out _, fun h0_ => aT (hon 10 kr) h0_, fun h0_ => aT (hon 10 kr) h0_, fun _ h1_ => aT (hon 10 kr) h1_, fun _ => Kd.R_set D1.out P1.out (by decide) _ _, fun h0_ => aT (hon 17 kr) h0_, fun _ h1_ => aT (hon 17 kr) h1_, fun _ => Kd.R_set F1.out P1.out (by decide) _ _, fun h0_ => aT (hon 25 kr) h0_, fun _ h1_ => aT (hon 25 kr) h1_, fun _ => Kd.R_set U1.out P1.out (by decide) _ _, fun h0_ => aT (hon 39 kr) h0_, fun _ h1_ => aT (hon 39 kr) h1_, fun _ => Kd.R_set G1.out P1.out (by decide) _ _, fun h0_ => aT (hon 17 kr) h0_, fun _ h1_ => aT (hon 39 kr) h1_, Q_NF2, fun _ h1_ => aT (hon 17 kr) h1_, fun _ _ h2_ => aT (hon 39 kr) h2_⟩
            refine qO ?_ ?_
            ·rintro b a w' ⟨s81, s82, s88, s89, s96, s97, s110, s111, ha, Q_B, Q_P0, Q_P1, Q_P2, Q_P3, Q_P4, Q_M1, Q_LS, Q_D0, Q_LD, Q_D1, Q_F0, Q_LF, Q_F1, Q_U0, Q_LU, Q_U1, Q_G0, Q_LG, Q_G1, Q_NFG, Q_NF1, Q_NF2, Q_NL0, Q_NL1⟩ hb_ hon hoff
             refine ⟨_, rfl, fun K hK => ?_⟩
             have e74 : a.tmps[74]? = some (.pointer (some ⟨gp, 0, none⟩)) := by rw [ha]; exact (qz rfl).trans rfl
             replace ha := aM ha
             have B := aM Q_B
             have P2 := aM (Q_P2 (hon 45 kr) (hoff 48 kr))
             have M1 := aM Q_M1
             have D1 := aM (Q_D1 (hon 10 kr))
             have F1 := aM (Q_F1 (hon 17 kr))
             have U1 := aM (Q_U1 (hon 25 kr))
             have G1 := aM (Q_G1 (hon 39 kr))
             have NF2 := aM (Q_NF2 (hon 39 kr))
             refine qNA (w1 := w') (v := .pointer (some ⟨gp, 0, none⟩)) (by rfl) rfl ?_ ?_
             ·go_simp
              (try simp only [i64_w])
              try rfl
             refine hK.out _ _ ⟨s81, s82, s88, s89, s96, s97, s110, s111, (by rw [ha.out]; exact qS 21 hb_ rfl rfl rfl), Q_B, fun h0_ => aT (hon 42 kr) h0_, fun _ h1_ => aT (hon 45 kr) h1_, Q_P2, fun h0_ _ => aF (hoff 48 kr) h0_, fun h0_ => aF (hoff 51 kr) h0_, Q_M1, fun h0_ => aT (hon 10 kr) h0_, fun h0_ => aT (hon 10 kr) h0_, fun _ h1_ => aT (hon 10 kr) h1_, Q_D1, fun h0_ => aT (hon 17 kr) h0_, fun _ h1_ => aT (hon 17 kr) h1_, Q_F1, fun h0_ => aT (hon 25 kr) h0_, fun _ h1_ => aT (hon 25 kr) h1_, Q_U1, fun h0_ => aT (hon 39 kr) h0_, fun _ h1_ => aT (hon 39 kr) h1_, Q_G1, fun h0_ => aT (hon 17 kr) h0_, fun _ h1_ => aT (hon 39 kr) h1_, Q_NF2, fun _ h1_ => aT (hon 17 kr) h1_, fun _ _ h2_ => aT (hon 39 kr) h2_⟩
            refine qO ?_ ?_
            ·rintro b a w' ⟨s81, s82, s88, s89, s96, s97, s110, s111, ha, Q_B, Q_P0, Q_P1, Q_P2, Q_P3, Q_P4, Q_M1, Q_LS, Q_D0, Q_LD, Q_D1, Q_F0, Q_LF, Q_F1, Q_U0, Q_LU, Q_U1, Q_G0, Q_LG, Q_G1, Q_NFG, Q_NF1, Q_NF2, Q_NL0, Q_NL1⟩ hb_ hon hoff
             refine ⟨_, rfl, fun K hK => ?_⟩
             have e116 : a.tmps[116]? = some (.pointer (some ⟨gp, 0, none⟩)) := by rw [ha]; exact qW (e := (46, 116, .pointer (some ⟨gp, 0, none⟩))) 21 rfl rfl (hon 46 kr) rfl
             replace ha := aM ha
             have B := aM Q_B
             have P2 := aM (Q_P2 (hon 45 kr) (hoff 48 kr))
             have M1 := aM Q_M1
             have D1 := aM (Q_D1 (hon 10 kr))
             have F1 := aM (Q_F1 (hon 17 kr))
             have U1 := aM (Q_U1 (hon 25 kr))
             have G1 := aM (Q_G1 (hon 39 kr))
             have NF2 := aM (Q_NF2 (hon 39 kr))
             refine qNA (w1 := w') (v := .pointer (some ⟨gp, 2, none⟩)) (by rfl) rfl ?_ ?_
             ·go_simp
              (try simp only [i64_w])
              try rfl
             refine hK.out _ _ ⟨s81, s82, s88, s89, s96, s97, s110, s111, (by rw [ha.out]; exact qS 22 hb_ rfl rfl rfl), Q_B, fun h0_ => aT (hon 42 kr) h0_, fun _ h1_ => aT (hon 45 kr) h1_, Q_P2, fun h0_ _ => aF (hoff 48 kr) h0_, fun h0_ => aF (hoff 51 kr) h0_, Q_M1, fun h0_ => aT (hon 10 kr) h0_, fun h0_ => aT (hon 10 kr) h0_, fun _ h1_ => aT (hon 10 kr) h1_, Q_D1, fun h0_ => aT (hon 17 kr) h0_, fun _ h1_ => aT (hon 17 kr) h1_, Q_F1, fun h0_ => aT (hon 25 kr) h0_, fun _ h1_ => aT (hon 25 kr) h1_, Q_U1, fun h0_ => aT (hon 39 kr) h0_, fun _ h1_ => aT (hon 39 kr) h1_, Q_G1, fun h0_ => aT (hon 17 kr) h0_, fun _ h1_ => aT (hon 39 kr) h1_, Q_NF2, fun _ h1_ => aT (hon 17 kr) h1_, fun _ _ h2_ => aT (hon 39 kr) h2_⟩
            refine qO ?_ ?_
            ·rintro b a w' ⟨s81, s82, s88, s89, s96, s97, s110, s111, ha, Q_B, Q_P0, Q_P1, Q_P2, Q_P3, Q_P4, Q_M1, Q_LS, Q_D0, Q_LD, Q_D1, Q_F0, Q_LF, Q_F1, Q_U0, Q_LU, Q_U1, Q_G0, Q_LG, Q_G1, Q_NFG, Q_NF1, Q_NF2, Q_NL0, Q_NL1⟩ hb_ hon hoff
             refine ⟨_, rfl, fun K hK => ?_⟩
             have e117 : a.tmps[117]? = some (.pointer (some ⟨gp, 2, none⟩)) := by rw [ha]; exact qW (e := (47, 117, .pointer (some ⟨gp, 2, none⟩))) 22 rfl rfl (hon 47 kr) rfl
             have e97 : a.tmps[97]? = some (s97) := by rw [ha]; exact qW (e := (25, 97, s97)) 9 rfl rfl (hon 25 kr) rfl
             replace ha := aM ha
             have B := aM Q_B
             have P2 := aM (Q_P2 (hon 45 kr) hb_)
             have M1 := aM Q_M1
             have D1 := aM (Q_D1 (hon 10 kr))
             have F1 := aM (Q_F1 (hon 17 kr))
             have U1 := aM (Q_U1 (hon 25 kr))
             have G1 := aM (Q_G1 (hon 39 kr))
             have NF2 := aM (Q_NF2 (hon 39 kr))
             obtain ⟨A_, c_, hs_⟩ := Kd.qi U1.out
             have hc_ : w'.cell? ⟨gp, 2, none⟩ = some (v2) := (qD P2.out 2).trans rfl
             have hf_ : w'.frozen? ⟨gp, 2, none⟩ = false := qJ P2.out 2
             refine skip_ (w1 := w'.setCell ⟨gp, 2, none⟩ s97) (by rfl) rfl ?hr48 ?_
             case hr48 =>
              rw [hs_] at e97
              rw [hs_]
              first | (go_simp; done) | (go_simp; rfl)
             refine hK.out _ _ ⟨s81, s82, s88, s89, s96, s97, s110, s111, (by rw [ha.out]; exact qSB (v := undef) rfl), qw B.out HGP.out, fun h0_ => aT (hon 42 kr) h0_, fun _ h1_ => aT (hon 45 kr) h1_, fun _ h1_ => absurd ((qkA b 48).symm.trans h1_) (by decide), fun _ _ => qr P2.out 2 _ rfl, fun h0_ => aF (hoff 51 kr) h0_, M1.out.setCell HNE.out _, fun h0_ => aT (hon 10 kr) h0_, fun h0_ => aT (hon 10 kr) h0_, fun _ h1_ => aT (hon 10 kr) h1_, fun _ => Kd.R_set D1.out P2.out (by decide) _ _, fun h0_ => aT (hon 17 kr) h0_, fun _ h1_ => aT (hon 17 kr) h1_, fun _ => Kd.R_set F1.out P2.out (by decide) _ _, fun h0_ => aT (hon 25 kr) h0_, fun _ h1_ => aT (hon 25 kr) h1_, fun _ => Kd.R_set U1.out P2.out (by decide) _ _, fun h0_ => aT (hon 39 kr) h0_, fun _ h1_ => aT (hon 39 kr) h1_, fun _ => Kd.R_set G1.out P2.out (by decide) _ _, fun h0_ => aT (hon 17 kr) h0_, fun _ h1_ => aT (hon 39 kr) h1_, Q_NF2, fun _ h1_ => aT (hon 17 kr) h1_, fun _ _ h2_ => aT (hon 39 kr) h2_⟩
            refine qO ?_ ?_
            ·rintro b a w' ⟨s81, s82, s88, s89, s96, s97, s110, s111, ha, Q_B, Q_P0, Q_P1, Q_P2, Q_P3, Q_P4, Q_M1, Q_LS, Q_D0, Q_LD, Q_D1, Q_F0, Q_LF, Q_F1, Q_U0, Q_LU, Q_U1, Q_G0, Q_LG, Q_G1, Q_NFG, Q_NF1, Q_NF2, Q_NL0, Q_NL1⟩ hb_ hon hoff
             refine ⟨_, rfl, fun K hK => ?_⟩
             have e75 : a.tmps[75]? = some (.pointer (some ⟨gp, 0, none⟩)) := by rw [ha]; exact (qz rfl).trans rfl
             replace ha := aM ha
             have B := aM Q_B
             have P3 := aM (Q_P3 (hon 48 kr) (hoff 51 kr))
             have M1 := aM Q_M1
             have D1 := aM (Q_D1 (hon 10 kr))
             have F1 := aM (Q_F1 (hon 17 kr))
             have U1 := aM (Q_U1 (hon 25 kr))
             have G1 := aM (Q_G1 (hon 39 kr))
             have NF2 := aM (Q_NF2 (hon 39 kr))
             refine qNA (w1 := w') (v := .pointer (some ⟨gp, 0, none⟩)) (by rfl) rfl ?_ ?_
             ·go_simp
              (try simp only [i64_w])
              try rfl
             refine hK.out _ _ ⟨s81, s82, s88, s89, s96, s97, s110, s111, (by rw [ha.out]; exact qS 23 hb_ rfl rfl rfl), Q_B, fun h0_ => aT (hon 42 kr) h0_, fun _ h1_ => aT (hon 45 kr) h1_, fun _ h1_ => aT (hon 48 kr) h1_, Q_P3, fun h0_ => aF (hoff 51 kr) h0_, Q_M1, fun h0_ => aT (hon 10 kr) h0_, fun h0_ => aT (hon 10 kr) h0_, fun _ h1_ => aT (hon 10 kr) h1_, Q_D1, fun h0_ => aT (hon 17 kr) h0_, fun _ h1_ => aT (hon 17 kr) h1_, Q_F1, fun h0_ => aT (hon 25 kr) h0_, fun _ h1_ => aT (hon 25 kr) h1_, Q_U1, fun h0_ => aT (hon 39 kr) h0_, fun _ h1_ => aT (hon 39 kr) h1_, Q_G1, fun h0_ => aT (hon 17 kr) h0_, fun _ h1_ => aT (hon 39 kr) h1_, Q_NF2, fun _ h1_ => aT (hon 17 kr) h1_, fun _ _ h2_ => aT (hon 39 kr) h2_⟩
            refine qO ?_ ?_
            ·rintro b a w' ⟨s81, s82, s88, s89, s96, s97, s110, s111, ha, Q_B, Q_P0, Q_P1, Q_P2, Q_P3, Q_P4, Q_M1, Q_LS, Q_D0, Q_LD, Q_D1, Q_F0, Q_LF, Q_F1, Q_U0, Q_LU, Q_U1, Q_G0, Q_LG, Q_G1, Q_NFG, Q_NF1, Q_NF2, Q_NL0, Q_NL1⟩ hb_ hon hoff
             refine ⟨_, rfl, fun K hK => ?_⟩
             have e118 : a.tmps[118]? = some (.pointer (some ⟨gp, 0, none⟩)) := by rw [ha]; exact qW (e := (49, 118, .pointer (some ⟨gp, 0, none⟩))) 23 rfl rfl (hon 49 kr) rfl
             replace ha := aM ha
             have B := aM Q_B
             have P3 := aM (Q_P3 (hon 48 kr) (hoff 51 kr))
             have M1 := aM Q_M1
             have D1 := aM (Q_D1 (hon 10 kr))
             have F1 := aM (Q_F1 (hon 17 kr))
             have U1 := aM (Q_U1 (hon 25 kr))
             have G1 := aM (Q_G1 (hon 39 kr))
             have NF2 := aM (Q_NF2 (hon 39 kr))
             refine qNA (w1 := w') (v := .pointer (some ⟨gp, 3, none⟩)) (by rfl) rfl ?_ ?_
             ·go_simp
              (try simp only [i64_w])
              try rfl
             refine hK.out _ _ ⟨s81, s82, s88, s89, s96, s97, s110, s111, (by rw [ha.out]; exact qS 24 hb_ rfl rfl rfl), Q_B, fun h0_ => aT (hon 42 kr) h0_, fun _ h1_ => aT (hon 45 kr) h1_, fun _ h1_ => aT (hon 48 kr) h1_, Q_P3, fun h0_ => aF (hoff 51 kr) h0_, Q_M1, fun h0_ => aT (hon 10 kr) h0_, fun h0_ => aT (hon 10 kr) h0_, fun _ h1_ => aT (hon 10 kr) h1_, Q_D1, fun h0_ => aT (hon 17 kr) h0_, fun _ h1_ => aT (hon 17 kr) h1_, Q_F1, fun h0_ => aT (hon 25 kr) h0_, fun _ h1_ => aT (hon 25 kr) h1_, Q_U1, fun h0_ => aT (hon 39 kr) h0_, fun _ h1_ => aT (hon 39 kr) h1_, Q_G1, fun h0_ => aT (hon 17 kr) h0_, fun _ h1_ => aT (hon 39 kr) h1_, Q_NF2, fun _ h1_ => aT (hon 17 kr) h1_, fun _ _ h2_ => aT (hon 39 kr) h2_⟩
            refine qO ?_ ?_
            ·rintro b a w' ⟨s81, s82, s88, s89, s96, s97, s110, s111, ha, Q_B, Q_P0, Q_P1, Q_P2, Q_P3, Q_P4, Q_M1, Q_LS, Q_D0, Q_LD, Q_D1, Q_F0, Q_LF, Q_F1, Q_U0, Q_LU, Q_U1, Q_G0, Q_LG, Q_G1, Q_NFG, Q_NF1, Q_NF2, Q_NL0, Q_NL1⟩ hb_ hon hoff
             refine ⟨_, rfl, fun K hK => ?_⟩
             have e119 : a.tmps[119]? = some (.pointer (some ⟨gp, 3, none⟩)) := by rw [ha]; exact qW (e := (50, 119, .pointer (some ⟨gp, 3, none⟩))) 24 rfl rfl (hon 50 kr) rfl
             have e111 : a.tmps[111]? = some (s111) := by rw [ha]; exact qW (e := (39, 111, s111)) 16 rfl rfl (hon 39 kr) rfl
             replace ha := aM ha
             have B := aM Q_B
             have P3 := aM (Q_P3 (hon 48 kr) hb_)
             have M1 := aM Q_M1
             have D1 := aM (Q_D1 (hon 10 kr))
             have F1 := aM (Q_F1 (hon 17 kr))
             have U1 := aM (Q_U1 (hon 25 kr))
             have G1 := aM (Q_G1 (hon 39 kr))
             have NF2 := aM (Q_NF2 (hon 39 kr))
             obtain ⟨A_, c_, hs_⟩ := Kd.qi G1.out
             have hc_ : w'.cell? ⟨gp, 3, none⟩ = some (.slice (some a3) n c3) := (qD P3.out 3).trans rfl
             have hf_ : w'.frozen? ⟨gp, 3, none⟩ = false := qJ P3.out 3
             refine skip_ (w1 := w'.setCell ⟨gp, 3, none⟩ s111) (by rfl) rfl ?hr51 ?_
             case hr51 =>
              rw [hs_] at e111
              rw [hs_]
              first | (go_simp; done) | (go_simp; rfl)
             refine hK.out _ _ ⟨s81, s82, s88, s89, s96, s97, s110, s111, (by rw [ha.out]; exact qSB (v := undef) rfl), qw B.out HGP.out, fun h0_ => aT (hon 42 kr) h0_, fun _ h1_ => aT (hon 45 kr) h1_, fun _ h1_ => aT (hon 48 kr) h1_, fun _ h1_ => absurd ((qkA b 51).symm.trans h1_) (by decide), fun _ => qr P3.out 3 _ rfl, M1.out.setCell HNE.out _, fun h0_ => aT (hon 10 kr) h0_, fun h0_ => aT (hon 10 kr) h0_, fun _ h1_ => aT (hon 10 kr) h1_, fun _ => Kd.R_set D1.out P3.out (by decide) _ _, fun h0_ => aT (hon 17 kr) h0_, fun _ h1_ => aT (hon 17 kr) h1_, fun _ => Kd.R_set F1.out P3.out (by decide) _ _, fun h0_ => aT (hon 25 kr) h0_, fun _ h1_ => aT (hon 25 kr) h1_, fun _ => Kd.R_set U1.out P3.out (by decide) _ _, fun h0_ => aT (hon 39 kr) h0_, fun _ h1_ => aT (hon 39 kr) h1_, fun _ => Kd.R_set G1.out P3.out (by decide) _ _, fun h0_ => aT (hon 17 kr) h0_, fun _ h1_ => aT (hon 39 kr) h1_, Q_NF2, fun _ h1_ => aT (hon 17 kr) h1_, fun _ _ h2_ => aT (hon 39 kr) h2_⟩
            exact qhB
           ·rintro b a w' hall ⟨s81, s82, s88, s89, s96, s97, s110, s111, ha, Q_B, Q_P0, Q_P1, Q_P2, Q_P3, Q_P4, Q_M1, Q_LS, Q_D0, Q_LD, Q_D1, Q_F0, Q_LF, Q_F1, Q_U0, Q_LU, Q_U1, Q_G0, Q_LG, Q_G1, Q_NFG, Q_NF1, Q_NF2, Q_NL0, Q_NL1⟩
            clear B D0 F0 G0 LS M1 NFG P0 U0
            have hb7_ := hall 7 (by kernel_rfl)
            have hb8_ := hall 8 (by kernel_rfl)
            have hb9_ := hall 9 (by kernel_rfl)
            have hb10_ := hall 10 (by kernel_rfl)
            have hb14_ := hall 14 (by kernel_rfl)
            have hb16_ := hall 16 (by kernel_rfl)
            have hb17_ := hall 17 (by kernel_rfl)
            have hb21_ := hall 21 (by kernel_rfl)
            have hb24_ := hall 24 (by kernel_rfl)
            have hb25_ := hall 25 (by kernel_rfl)
            have hb29_ := hall 29 (by kernel_rfl)
            have hb33_ := hall 33 (by kernel_rfl)
            have hb35_ := hall 35 (by kernel_rfl)
            have hb36_ := hall 36 (by kernel_rfl)
            have hb37_ := hall 37 (by kernel_rfl)
            have hb38_ := hall 38 (by kernel_rfl)
            have hb39_ := hall 39 (by kernel_rfl)
            have hb40_ := hall 40 (by kernel_rfl)
            have hb41_ := hall 41 (by kernel_rfl)
            have hb42_ := hall 42 (by kernel_rfl)
            have hb43_ := hall 43 (by kernel_rfl)
            have hb44_ := hall 44 (by kernel_rfl)
            have hb45_ := hall 45 (by kernel_rfl)
            have hb46_ := hall 46 (by kernel_rfl)
            have hb47_ := hall 47 (by kernel_rfl)
            have hb48_ := hall 48 (by kernel_rfl)
            have hb49_ := hall 49 (by kernel_rfl)
            have hb50_ := hall 50 (by kernel_rfl)
            have hb51_ := hall 51 (by kernel_rfl)
            subst ha
            simp only [putSel, hb7_, hb8_, hb9_, hb10_, hb14_, hb16_, hb17_, hb21_, hb24_, hb25_, hb29_, hb33_, hb35_, hb36_, hb37_, hb38_, hb39_, hb40_, hb41_, hb42_, hb43_, hb44_, hb45_, hb46_, hb47_, hb48_, hb49_, hb50_, hb51_, if_true, Act.put, List.setIfInBounds_toArray, List.set_cons_zero, List.set_cons_succ]
            have B := aM Q_B
            clear Q_B Q_P0 Q_P1 Q_P2 Q_P3
            have P4 := aM (Q_P4 hb51_)
            clear Q_P4
            have M1 := aM Q_M1
            clear Q_M1 Q_LS Q_D0 Q_LD
            have D1 := aM (Q_D1 hb10_)
            clear Q_D1 Q_F0 Q_LF
            have F1 := aM (Q_F1 hb17_)
            clear Q_F1 Q_U0 Q_LU
            have U1 := aM (Q_U1 hb25_)
            clear Q_U1 Q_G0 Q_LG
            have G1 := aM (Q_G1 hb39_)
            clear Q_G1 Q_NFG Q_NF1
            have NF2 := aM (Q_NF2 hb39_)
            clear Q_NF2 Q_NL0 Q_NL1 hall hb7_ hb8_ hb9_ hb10_ hb14_ hb16_ hb17_ hb21_ hb24_ hb25_ hb29_ hb33_ hb35_ hb36_ hb37_ hb38_ hb39_ hb40_ hb41_ hb42_ hb43_ hb44_ hb45_ hb46_ hb47_ hb48_ hb49_ hb50_ hb51_
            go_wp2
            go_roundg (4 - (d + 1))
            case measure => have := HD.out; omega
            case rel =>
             refine ⟨L2 ++ [(own, (p1 + 1, ((i : Int), (d : Int))))], d + 1, _, _, _, _, by push_cast; rfl, by omega, ⟨by have := HD.out; omega⟩, ⟨?_⟩, ⟨?_⟩, ⟨?_⟩, ⟨?_⟩, ⟨?_⟩, P4, ⟨?_⟩, NF2, B⟩
             ·have h := HN.out.new HD.out HR.out (by rw [show L2.map Prod.fst = ds from HEQ.out.1]; exact HM.out)
              rw [HEQ.out.2.2.2.2.2.1] at h
              exact h
             ·rw [show stW (L2 ++ [(own, (p1 + 1, ((i : Int), (d : Int))))]) = ds ++ [own] from by rw [← HEQ.out.1]; exact List.map_append]; exact D1.out
             ·rw [show fromW (L2 ++ [(own, (p1 + 1, ((i : Int), (d : Int))))]) = fs ++ [(i : Int)] from by rw [← HEQ.out.2.1]; exact List.map_append]; exact F1.out
             ·have hs_ : sgW (p1 + 1, ((i : Int), (d : Int))) = sg := by
               unfold sgW
               rw [if_neg (show ¬ (i : Int) < 0 from by have := HI0.out; omega)]
               exact HSG.out
              rw [show signW (L2 ++ [(own, (p1 + 1, ((i : Int), (d : Int))))]) = us ++ [sg] from by rw [← HEQ.out.2.2.1, ← hs_]; exact List.map_append]; exact U1.out
             ·rw [show farW (L2 ++ [(own, (p1 + 1, ((i : Int), (d : Int))))]) = qs ++ [p1 + 1] from by rw [← HEQ.out.2.2.2.1]; exact List.map_append]; exact G1.out
             ·have h := M1.out
              rw [← HM1.out, HEQ.out.2.2.2.2.2.2, ← HEQ.out.2.2.2.2.1] at h
              rw [metW_append, Nat.zero_add]
              exact h
     ·have hdz : ¬ (d : Int) < 4 := by omega
      have hd4 : d = 4 := by have := HD4.out; omega
      subst hd4
      have HI := HI9.out
      go_wp2
      go_roundg (49000000 - (i + 1))
      case measure => omega
      case rel => exact ⟨L2, i + 1, _, _, _, _, by first | (push_cast; rfl) | (show Value.int .i64 (wrap64 ((i : Int) + 1)) = _; rw [show wrap64 ((i : Int) + 1) = ((i + 1 : Nat) : Int) by unfold wrap64; omega]), by omega, ⟨HN.out.outer⟩, D0, F0, U0, G0, BP, M0, NFG, B⟩
   ·have hltz : ¬ (i : Int) < (n0 : Int) := by omega
    obtain rfl := HO.out.done hlt
    obtain ⟨A1, c1, rfl⟩ := Kd.qi F0.out
    obtain ⟨A2, c2, rfl⟩ := Kd.qi U0.out
    obtain ⟨A3, c3, rfl⟩ := Kd.qi G0.out
    have HV := aM (And.intro hn0 hln)
    clear hn0 hln hlen hle hlt
    go_wp2
    go_ret
    refine ⟨_, rfl, ⟨gp, gm, Ad, A1, A2, A3, cd, c1, c2, c3, rfl, ?_, ?_, ?_, ?_, ?_, M0.out⟩, B.out⟩
    ·have h := BP.out
     rw [HV.out.2, List.length_map, List.length_map, List.length_map] at h
     exact h
    ·have h := (Kd.qE D0.out).2.2
     rw [HV.out.1, HV.out.2] at h
     exact h
    ·have h := (Kd.qE F0.out).2.2
     rw [List.length_map] at h
     exact h
    ·have h := (Kd.qE U0.out).2.2
     rw [List.length_map] at h
     exact h
    ·have h := (Kd.qE G0.out).2.2
     rw [List.length_map] at h
     exact h
end Go.Proofs.YtdhbimankkpllaaGreatDoor
namespace Go.Proofs.YtdhbimankkpllaaGreatDoor.P
open Go.RowKit Go.Proofs.YtdhbimankkpllaaGreatDoorW.PrintWords Go.Proofs.YtdhbimankkpllaaGreatDoorW.PrintLast Go.Proofs.YtdhbimankkpllaaGreatDoorW.PrintMore
attribute [local go_sem] qq qo qBA qAA qe qd qp qn
set_option linter.unusedVariables false
set_option linter.unusedSimpArgs false
def qTB.f (k : Nat) (a0 : ByteArray) (a1_0 : Int) (a1_1 : Int) (a1_2 : Int) (a1_3 : Int) (a1_4 : Int) (a1_5 : Int) (a1_6 : Int) (a1_7 : Int) : Option (List ByteArray × Bool) := (qsA.f k a0).bind fun bt377 => (if bt377.2 = true then ((qaA.f k bt377.1 a1_0 a1_1 a1_2 a1_3 a1_4 a1_5 a1_6 a1_7).bind fun t381 => (some (bt377.1, t381))) else (some (bt377.1, false)))
set_option maxHeartbeats 8000000 in
set_option maxRecDepth 100000 in
theorem qTB.calls (k : Nat) (a0 : ByteArray) (a1_0 : Int) (a1_1 : Int) (a1_2 : Int) (a1_3 : Int) (a1_4 : Int) (a1_5 : Int) (a1_6 : Int) (a1_7 : Int) (r1 : List ByteArray) (r2 : Bool) (w : World) (hL : Laid w) (h : qTB.f k a0 a1_0 a1_1 a1_2 a1_3 a1_4 a1_5 a1_6 a1_7 = some (r1, r2)) :
  Calls Tryz.prog 43 #[.string a0, .agg #[.int .i64 a1_0, .int .i64 a1_1, .int .i64 a1_2, .int .i64 a1_3, .int .i64 a1_4, .int .i64 a1_5, .int .i64 a1_6, .int .i64 a1_7]] w fun e w' => ∃ v0_ : Value, e = .returned (.tuple #[v0_, .bool r2]) ∧ Kd.R Kd.string 9 w' w.heap.size (fun _ => True) v0_ r1 ∧ Below w.heap.size w w' := by
 have hu31 := Tryz.underlying31
 have HLD := aM hL
 clear hL
 have HB := aM (Below.refl w.heap.size w)
 have H : ((qsA.f k a0).bind fun bt377 => (if bt377.2 = true then ((qaA.f k bt377.1 a1_0 a1_1 a1_2 a1_3 a1_4 a1_5 a1_6 a1_7).bind fun t381 => (some (bt377.1, t381))) else (some (bt377.1, false)))) = some (r1, r2) := h
 clear h
 replace H := bO H
 obtain ⟨⟨t377, t378⟩, A3, H⟩ := H
 dsimp only at H A3
 by_cases c4 : t378 = true
 ·subst c4
  replace H := iT H
  replace H := bO H
  obtain ⟨t381, A5, H⟩ := H
  simp only [Option.some.injEq, Prod.mk.injEq] at H
  obtain ⟨rfl, rfl⟩ := H
  go_enter Tryz.func43, Tryz.ntmps43
  go_wp2_with (first | ((with_reducible refine qN (N := 3) rfl ?_); refine bE (N := 3) (cs := #[.int .i64 a1_0, .int .i64 a1_1, .int .i64 a1_2, .int .i64 a1_3, .int .i64 a1_4, .int .i64 a1_5, .int .i64 a1_6, .int .i64 a1_7]) (t := 31) ?_; intro gb376 hg w6 hbox hb; have BK376 := aM (hbox); have GW376 := aM ((gg hg)); have GE376 := aM ((gg hg)); replace HB := aM (qB bl hb); clear hb hbox hg) | ((with_reducible refine qF (f := 31) rfl ?_); refine qh (some 10) rfl rfl Tryz.func31 (by kernel_rfl) rfl #[.string a0] rfl gA ?_; (with_reducible refine (qsA.calls k a0 t377 true _ ?side1 A3.out).mono ?_); (case side1 => first | (with_reducible exact HLD.out) | exact Laid.below HLD.out bl); rintro e w7 ⟨v379, rfl, ho0, hb⟩; refine ⟨_, rfl, ?_⟩; have HO380 := aM (Kd.qHA ho0 (qT bl)); replace BK376 := aM (bb BK376 hb); replace HB := aM (qB bl hb); (try clear hb); (try clear hb2); (try clear hk); (try clear hi); (try clear ho0); (refine cb8 BK376 ?_; intro _ _ _ _ _ _ _ _); (refine cz8 BK376 ?_; intro _ _ _ _ _ _ _ _); obtain ⟨Ao9, co9, eo9⟩ := Kd.qi HO380.out; subst eo9) | (go_at_call 56; (with_reducible refine (qaA.calls k _ _ t377 a1_0 a1_1 a1_2 a1_3 a1_4 a1_5 a1_6 a1_7 t381 _ ?side1 ?side2 A5.out).mono ?_); (case side1 => repeat (first | exact (Kd.qE HO380.out).2.2 | (with_reducible refine Kd.qc ?_ _) | (with_reducible refine Kd.qb ?_ _) | (with_reducible refine Kd.qu ?_))); (case side2 => exact (Kd.qE HO380.out).2.1); rintro e w10 ⟨rfl, hb⟩; replace HO380 := aM (Kd.qj (rR HO380) hb); replace BK376 := aM (bb BK376 hb); replace HB := aM (qB bl hb); (try clear hb); (try clear hb2); (try clear hk); (try clear hi)))
  go_ret2
  exact ⟨_, sR, by (with_reducible repeat (first | apply Kd.qR | apply Kd.qU | apply Kd.qQ)); exact HO380.out, bl⟩
 ·replace c4 := Bool.eq_false_iff.mpr c4
  subst c4
  replace H := iF H
  simp only [Option.some.injEq, Prod.mk.injEq] at H
  obtain ⟨rfl, rfl⟩ := H
  go_enter Tryz.func43, Tryz.ntmps43
  go_wp2_with (first | ((with_reducible refine qN (N := 3) rfl ?_); refine bE (N := 3) (cs := #[.int .i64 a1_0, .int .i64 a1_1, .int .i64 a1_2, .int .i64 a1_3, .int .i64 a1_4, .int .i64 a1_5, .int .i64 a1_6, .int .i64 a1_7]) (t := 31) ?_; intro gb376 hg w11 hbox hb; have BK376 := aM (hbox); have GW376 := aM ((gg hg)); have GE376 := aM ((gg hg)); replace HB := aM (qB bl hb); clear hb hbox hg) | ((with_reducible refine qF (f := 31) rfl ?_); refine qh (some 10) rfl rfl Tryz.func31 (by kernel_rfl) rfl #[.string a0] rfl gA ?_; (with_reducible refine (qsA.calls k a0 t377 false _ ?side1 A3.out).mono ?_); (case side1 => first | (with_reducible exact HLD.out) | exact Laid.below HLD.out bl); rintro e w12 ⟨v379, rfl, ho0, hb⟩; refine ⟨_, rfl, ?_⟩; have HO380 := aM (Kd.qHA ho0 (qT bl)); replace BK376 := aM (bb BK376 hb); replace HB := aM (qB bl hb); (try clear hb); (try clear hb2); (try clear hk); (try clear hi); (try clear ho0)))
  go_ret2
  exact ⟨_, sR, by (with_reducible repeat (first | apply Kd.qR | apply Kd.qU | apply Kd.qQ)); exact HO380.out, bl⟩
end Go.Proofs.YtdhbimankkpllaaGreatDoor.P
namespace Go.Proofs.YtdhbimankkpllaaGreatDoor
open Go.RowKit Go.Proofs.YtdhbimankkpllaaGreatDoor.P Go.Proofs.YtdhbimankkpllaaGreatDoorW.PrintWords Go.Proofs.YtdhbimankkpllaaGreatDoorW.PrintLast Go.Proofs.YtdhbimankkpllaaGreatDoorW.PrintMore
set_option linter.unusedVariables false
set_option linter.unusedSimpArgs false
theorem onBoard_ev (a : ByteArray) (ha : a.size ≤ 1048576) (s : XS) : ∃ rows : List ByteArray, Ev (fun k => qTB.f k a s.f0 s.f1 s.f2.f0 s.f2.f1 s.f2.f2 s.f2.f3 s.f2.f4 s.f2.f5) (rows, askS a s) ∧ (askS a s = true → rows = rowsT a) := by
 obtain ⟨rows, h, hr⟩ := board_ev a ha
 refine ⟨rows, ?_, fun q => hr (by unfold askS at q; rw [Bool.and_eq_true] at q; exact q.1)⟩
 unfold qTB.f askS
 cases hb : boardB a with
 | false =>
  rw [hb] at h
  exact Ev.bind h (Ev.neg (by simp) (Ev.now _))
 | true =>
  rw [hb] at h
  obtain rfl := hr hb
  refine Ev.bind h (Ev.pos rfl (Ev.bind (isState_ev (qwC hb) s) ?_))
  rw [Bool.true_and]
  exact Ev.now _
theorem movesRoll {a : ByteArray} (g : Gnd a) (A : Option Addr) (c : Nat) (w : World) (hC : Kd.C Kd.string w A (rowsT a).length (rowsT a)) (hc : (rowsT a).length ≤ c) : MovesW a 45 #[.slice A (rowsT a).length c] #[] w := by
 intro W x d hx hb
 refine (qOB.calls A c (rowsT a) x.f0 x.f1 x.f2.f0 x.f2.f1 x.f2.f2 x.f2.f3 x.f2.f4 x.f2.f5 d _ _ _ _ _ _ _ _ _ W (Kd.qPA hC hb) hc (implRoll_eq g x d)).mono ?_
 rintro e w' ⟨rfl, hb'⟩
 exact ⟨rfl, hb'⟩
set_option maxHeartbeats 4000000 in
set_option maxRecDepth 100000 in
theorem qqB (a : ByteArray) (ha : a.size ≤ 1048576) (s : XS) (w : World) (hL : Laid w) :
  Calls Tryz.prog 30 #[.string a, .agg #[.int .i64 s.f0, .int .i64 s.f1, .int .i64 s.f2.f0, .int .i64 s.f2.f1, .int .i64 s.f2.f2, .int .i64 s.f2.f3, .int .i64 s.f2.f4, .int .i64 s.f2.f5]] w fun e w' =>
   ∃ v : Value, e = .returned (.tuple #[v, .bool (askS a s)]) ∧ (askS a s = true → ReachAt w' v (reachW a s)) ∧ Below w.heap.size w w' := by
 have hu_ := Tryz.underlying31
 obtain ⟨rows, ⟨kt, hkt⟩, hrows⟩ := onBoard_ev a ha s
 have HT := aM (hkt kt (Nat.le_refl _))
 have HL := aM hL
 have B := aM (Below.refl w.heap.size w)
 have hmf : ∀ (fn : Fn) (first cap : Array Value) (w : World), (Instr.makeFunc fn first cap).run Tryz.prog w = .ok (.func fn first cap) w := fun _ _ _ _ => rfl
 clear hkt hL
 cases hA : askS a s with
 | false =>
  rw [hA] at HT
  clear hrows hA
  go_enter Tryz.func30, Tryz.ntmps30
  go_wp2_with (first
   | ((with_reducible refine qN (N := 3) rfl ?_); go_loud (refine bE (N := 3) (cs := #[.int .i64 s.f0, .int .i64 s.f1, .int .i64 s.f2.f0, .int .i64 s.f2.f1, .int .i64 s.f2.f2, .int .i64 s.f2.f3, .int .i64 s.f2.f4, .int .i64 s.f2.f5]) (t := 31) ?_; intro gs hgs w1 hbox hb; replace B := aM (ql B.out B.out.size hb); have hz0 : w1.cell? ⟨gs, 0, none⟩ = some (.int .i64 s.f0) := (qD hbox 0).trans rfl; have hz1 : w1.cell? ⟨gs, 1, none⟩ = some (.int .i64 s.f1) := (qD hbox 1).trans rfl; have hz2 : w1.cell? ⟨gs, 2, none⟩ = some (.int .i64 s.f2.f0) := (qD hbox 2).trans rfl; have hz3 : w1.cell? ⟨gs, 3, none⟩ = some (.int .i64 s.f2.f1) := (qD hbox 3).trans rfl; have hz4 : w1.cell? ⟨gs, 4, none⟩ = some (.int .i64 s.f2.f2) := (qD hbox 4).trans rfl; have hz5 : w1.cell? ⟨gs, 5, none⟩ = some (.int .i64 s.f2.f3) := (qD hbox 5).trans rfl; have hz6 : w1.cell? ⟨gs, 6, none⟩ = some (.int .i64 s.f2.f4) := (qD hbox 6).trans rfl; have hz7 : w1.cell? ⟨gs, 7, none⟩ = some (.int .i64 s.f2.f5) := (qD hbox 7).trans rfl; clear hbox hb hgs))
   | (go_at_call 43; go_loud (refine (qTB.calls kt a s.f0 s.f1 s.f2.f0 s.f2.f1 s.f2.f2 s.f2.f3 s.f2.f4 s.f2.f5 rows false _ (Laid.below HL.out B.out) HT.out).mono ?_; rintro e w2 ⟨v0_, rfl, hR, hb⟩; replace B := aM (ql B.out B.out.size hb); clear hR hb hz0 hz1 hz2 hz3 hz4 hz5 hz6 hz7)))
  go_ret2
  refine ⟨_, rfl, ?_, B.out⟩
  intro h
  cases h
 | true =>
  rw [hA] at HT
  obtain rfl := hrows hA
  unfold askS at hA
  rw [Bool.and_eq_true] at hA
  have HGD := aM (qwC hA.1)
  have HST := aM hA.2
  clear hrows hA
  go_enter Tryz.func30, Tryz.ntmps30
  go_wp2_with (first
   | ((with_reducible refine qN (N := 3) rfl ?_); go_loud (refine bE (N := 3) (cs := #[.int .i64 s.f0, .int .i64 s.f1, .int .i64 s.f2.f0, .int .i64 s.f2.f1, .int .i64 s.f2.f2, .int .i64 s.f2.f3, .int .i64 s.f2.f4, .int .i64 s.f2.f5]) (t := 31) ?_; intro gs hgs w1 hbox hb; replace B := aM (ql B.out B.out.size hb); have BS := aM hbox; have hz0 : w1.cell? ⟨gs, 0, none⟩ = some (.int .i64 s.f0) := (qD hbox 0).trans rfl; have hz1 : w1.cell? ⟨gs, 1, none⟩ = some (.int .i64 s.f1) := (qD hbox 1).trans rfl; have hz2 : w1.cell? ⟨gs, 2, none⟩ = some (.int .i64 s.f2.f0) := (qD hbox 2).trans rfl; have hz3 : w1.cell? ⟨gs, 3, none⟩ = some (.int .i64 s.f2.f1) := (qD hbox 3).trans rfl; have hz4 : w1.cell? ⟨gs, 4, none⟩ = some (.int .i64 s.f2.f2) := (qD hbox 4).trans rfl; have hz5 : w1.cell? ⟨gs, 5, none⟩ = some (.int .i64 s.f2.f3) := (qD hbox 5).trans rfl; have hz6 : w1.cell? ⟨gs, 6, none⟩ = some (.int .i64 s.f2.f4) := (qD hbox 6).trans rfl; have hz7 : w1.cell? ⟨gs, 7, none⟩ = some (.int .i64 s.f2.f5) := (qD hbox 7).trans rfl; clear hbox hb hgs))
   | (go_at_call 43; go_loud (refine (qTB.calls kt a s.f0 s.f1 s.f2.f0 s.f2.f1 s.f2.f2 s.f2.f3 s.f2.f4 s.f2.f5 (rowsT a) true _ (Laid.below HL.out B.out) HT.out).mono ?_; rintro e w2 ⟨v0_, rfl, hR, hb⟩; obtain ⟨Ag, cg, rfl, hcg, hCg⟩ := Kd.qdC hR; have HMV := aM (movesRoll HGD.out Ag cg w2 hCg hcg); have n0_ := aM (ql B.out B.out.size hb); have hbox := qWA BS.out hb; clear B BS; have B := n0_; clear n0_ hR hb hz0 hz1 hz2 hz3 hz4 hz5 hz6 hz7 hcg hCg; have hz0 : w2.cell? ⟨gs, 0, none⟩ = some (.int .i64 s.f0) := (qD hbox 0).trans rfl; have hz1 : w2.cell? ⟨gs, 1, none⟩ = some (.int .i64 s.f1) := (qD hbox 1).trans rfl; have hz2 : w2.cell? ⟨gs, 2, none⟩ = some (.int .i64 s.f2.f0) := (qD hbox 2).trans rfl; have hz3 : w2.cell? ⟨gs, 3, none⟩ = some (.int .i64 s.f2.f1) := (qD hbox 3).trans rfl; have hz4 : w2.cell? ⟨gs, 4, none⟩ = some (.int .i64 s.f2.f2) := (qD hbox 4).trans rfl; have hz5 : w2.cell? ⟨gs, 5, none⟩ = some (.int .i64 s.f2.f3) := (qD hbox 5).trans rfl; have hz6 : w2.cell? ⟨gs, 6, none⟩ = some (.int .i64 s.f2.f4) := (qD hbox 6).trans rfl; have hz7 : w2.cell? ⟨gs, 7, none⟩ = some (.int .i64 s.f2.f5) := (qD hbox 7).trans rfl; clear hbox))
   | (go_at_call 44; go_loud (refine (reached_calls HGD.out s HST.out 45 #[.slice Ag (rowsT a).length cg] #[] (fun args w => qID Tryz.func45 (by kernel_rfl) rfl args w) _ HMV.out).mono ?_; rintro e w3 ⟨v, rfl, hv, hb⟩; have HV := aM hv; replace B := aM (ql B.out B.out.size hb); clear hv hb hz0 hz1 hz2 hz3 hz4 hz5 hz6 hz7 HMV)))
  go_ret2
  refine ⟨_, rfl, ?_, B.out⟩
  intro _
  exact HV.out
end Go.Proofs.YtdhbimankkpllaaGreatDoor
