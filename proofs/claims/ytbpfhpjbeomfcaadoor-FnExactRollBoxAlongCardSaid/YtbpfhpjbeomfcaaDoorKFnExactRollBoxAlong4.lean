/- The program's RollBoxAlong returns what the reference's returns, for all texts, boxes and words (the law lets longer texts by). No further condition. -/
import Derived.Test.YtbpfhpjbeomfcaaDoorKFnExactRollBoxAlong3
import Derived.Lib.Strings

namespace Go.Proofs.YtbpfhpjbeomfcaaDoor
open Go.RowKit Go.Proofs.YtbpfhpjbeomfcaaDoor.P Go.Proofs.YtbpfhpjbeomfcaaDoorW.PrintWords Go.Proofs.YtbpfhpjbeomfcaaDoorW.PrintLast
set_option linter.unusedVariables false
set_option linter.unusedSimpArgs false
theorem qDB (n a b : Int) : qn.f n a b = some (decide (a ≤ n) && decide (n ≤ b)) := by
 unfold qn.f
 by_cases h : n ≥ a
 ·rw [if_pos h, decide_eq_true (show a ≤ n from h), Bool.true_and]
 ·rw [if_neg h, decide_eq_false (show ¬ a ≤ n from h), Bool.false_and]
def rowsL (a : ByteArray) : List (List UInt8) := (sp 47 a.data.toList).1 :: (sp 47 a.data.toList).2
theorem flat_get (w : Nat) : ∀ (L : List (List UInt8)) (i j : Nat), (∀ r ∈ L, r.length = w) → i < L.length → j < w → L.flatten[i * w + j]? = (L[i]?.bind fun r => r[j]?)
 | [], i, j, _, hi, _ => by simp at hi
 | r :: L, 0, j, h, _, hj => by
  have := h r List.mem_cons_self
  simp only [List.flatten_cons, Nat.zero_mul, Nat.zero_add, List.getElem?_cons_zero, Option.bind_some]
  rw [List.getElem?_append_left (by omega)]
 | r :: L, i + 1, j, h, hi, hj => by
  have h1 := h r List.mem_cons_self
  have ih := flat_get w L i j (fun q hq => h q (List.mem_cons_of_mem _ hq)) (by simpa using hi) hj
  simp only [List.flatten_cons, List.getElem?_cons_succ]
  have e : (i + 1) * w + j = r.length + (i * w + j) := by rw [Nat.add_mul, h1]; omega
  rw [e, List.getElem?_append_right (by omega), Nat.add_sub_cancel_left]
  exact ih
structure Gnd (a : ByteArray) : Prop where
 w1 : 1 ≤ wideT a
 w7 : wideT a ≤ 7
 h1 : 1 ≤ highT a
 h7 : highT a ≤ 7
 rows : ∀ r ∈ rowsL a, r.length = wideT a
theorem qjB {a : ByteArray} (h : groundB a = true) : Gnd a := by
 unfold groundB szR at h
 simp only [Bool.and_eq_true, decide_eq_true_eq] at h
 obtain ⟨⟨hr, ⟨⟨⟨g1, g2⟩, g3⟩, g4⟩, g5⟩, _⟩ := h
 obtain ⟨_, h2⟩ := (qzA a).1 hr
 exact ⟨g3, g4, g1, g2, fun r hr => by
  rcases List.mem_cons.1 hr with rfl | hr
  ·rfl
  ·exact h2 r hr⟩
theorem qCB (a : ByteArray) : (rowsL a).length = highT a := rfl
theorem rowsT_get (a : ByteArray) (i : Nat) (h : i < (rowsT a).length) (h' : i < (rowsL a).length) : ((rowsT a)[i]).data.toList = (rowsL a)[i] := by
 have := qvA a
 have e : ((rowsT a).map (·.data.toList))[i]'(by simpa using h) = (rowsL a)[i] := by
  simp only [this]; rfl
 rwa [List.getElem_map] at e
theorem flatT_eq (a : ByteArray) : flatT a.data.toList = (rowsL a).flatten := rfl
def hasB (a : ByteArray) (x y : Int) : Bool := decide (0 ≤ y) && decide (y ≤ (highT a : Int) - 1) && (decide (0 ≤ x) && decide (x ≤ (wideT a : Int) - 1))
def cellU (a : ByteArray) (x y : Int) : UInt8 := ((rowsL a).getD y.toNat []).getD x.toNat 0
def cellN (a : ByteArray) (x y : Int) : Int := ((cellU a x y).toNat : Int)
theorem qYB (a : ByteArray) (x y : Int) : hasB a x y = true ↔ (0 ≤ y ∧ y < (highT a : Int)) ∧ (0 ≤ x ∧ x < (wideT a : Int)) := by
 unfold hasB
 simp only [Bool.and_eq_true, decide_eq_true_eq]
 omega
theorem gr_size {a : ByteArray} (g : Gnd a) (i : Nat) (h : i < (rowsT a).length) : ((rowsT a)[i]).size = wideT a := by
 have h' : i < (rowsL a).length := by rw [qCB, ← qtA]; exact h
 rw [← qrA, rowsT_get a i h h']
 exact g.rows _ (List.getElem_mem h')
theorem qlB {a : ByteArray} (g : Gnd a) (x y : Int) : qr.f (rowsT a) x y = some (hasB a x y) := by
 have hl := qtA a
 have h0 : 0 < (rowsT a).length := by rw [hl]; exact g.h1
 have e0 : rdOf ByteArray.empty (rowsT a) 0 = (rowsT a)[0] := qiB (rowsT a) 0 h0
 have e1 := gr_size g 0 h0
 have g1 := g.h7
 have g2 := g.w7
 unfold qr.f
 rw [qMB, hl, e0, e1]
 have w1 : wrap64 ((highT a : Int) - 1) = (highT a : Int) - 1 := by unfold wrap64; omega
 have w2 : wrap64 ((wideT a : Int) - 1) = (wideT a : Int) - 1 := by unfold wrap64; omega
 rw [w1, w2]
 simp only [Option.bind_some]
 have g0 := g.h1
 unfold hasB
 by_cases h : (decide (0 ≤ y) && decide (y ≤ (highT a : Int) - 1)) = true
 ·rw [if_pos h, if_pos (by omega), qMB, h, Bool.true_and]; rfl
 ·rw [if_neg h, Bool.eq_false_iff.2 h, Bool.false_and]
theorem at_eq {a : ByteArray} (g : Gnd a) (x y : Int) (h : hasB a x y = true) : qJA.f (rowsT a) x y = some (cellN a x y) := by
 obtain ⟨⟨h1, h2⟩, h3, h4⟩ := (qYB a x y).1 h
 obtain ⟨i, rfl⟩ := Int.eq_ofNat_of_zero_le h1
 obtain ⟨j, rfl⟩ := Int.eq_ofNat_of_zero_le h3
 have hl := qtA a
 have hi : i < (rowsT a).length := by omega
 have hi' : i < (rowsL a).length := by rw [qCB]; omega
 have hs := gr_size g i hi
 have hr := rowsT_get a i hi hi'
 have hw := g.rows _ (List.getElem_mem hi')
 unfold qJA.f
 rw [qlB g, h, qiB (rowsT a) i hi]
 simp only [Option.bind_some, if_true]
 rw [if_pos (by omega), if_pos (by omega), if_pos (by omega), if_pos (by rw [hs]; omega)]
 have hj : j < ((rowsT a)[i]).data.toList.length := by rw [qrA, hs]; omega
 rw [gr_bt _ j hj]
 congr 1
 unfold cellN cellU
 have e : (rowsL a).getD i [] = (rowsL a)[i] := by rw [List.getD_eq_getElem?_getD, List.getElem?_eq_getElem hi']; rfl
 have e2 : ((rowsT a)[i]).data.toList[j] = ((rowsL a)[i])[j]'(by rw [← hr]; exact hj) := by simp only [hr]
 rw [e2, Int.toNat_natCast, Int.toNat_natCast, e, List.getD_eq_getElem?_getD, List.getElem?_eq_getElem (by rw [← hr]; exact hj)]
 rfl
theorem boCell_eq {a : ByteArray} (g : Gnd a) (cs : List Int) (x y : Int) : qYA.f (wideT a : Int) (highT a : Int) cs x y = some (hasB a x y) := by
 have g1 := g.h7
 have g2 := g.w7
 unfold qYA.f
 have w1 : wrap64 ((highT a : Int) - 1) = (highT a : Int) - 1 := by unfold wrap64; omega
 have w2 : wrap64 ((wideT a : Int) - 1) = (wideT a : Int) - 1 := by unfold wrap64; omega
 rw [w1, w2, qDB, qDB]
 simp only [Option.bind_some]
 unfold hasB
 by_cases h : (decide (0 ≤ x) && decide (x ≤ (wideT a : Int) - 1)) = true
 ·rw [if_pos h, h, Bool.and_true]
 ·rw [if_neg h, Bool.eq_false_iff.2 h, Bool.and_false]
theorem spec_at {a : ByteArray} (g : Gnd a) (x y : Int) (h : hasB a x y = true) :
  0 ≤ wrap64 (wrap64 (y * (wideT a : Int)) + x) ∧ wrap64 (wrap64 (y * (wideT a : Int)) + x) < ((numsOf (flatT a.data.toList)).length : Int) ∧ rd (numsOf (flatT a.data.toList)) (wrap64 (wrap64 (y * (wideT a : Int)) + x)) = cellN a x y := by
 obtain ⟨⟨h1, h2⟩, h3, h4⟩ := (qYB a x y).1 h
 obtain ⟨i, rfl⟩ := Int.eq_ofNat_of_zero_le h1
 obtain ⟨j, rfl⟩ := Int.eq_ofNat_of_zero_le h3
 have g1 := g.h7
 have g2 := g.w7
 have hi' : i < (rowsL a).length := by rw [qCB]; omega
 have hf := flat_get (wideT a) (rowsL a) i j g.rows hi' (by omega)
 have hw := g.rows _ (List.getElem_mem hi')
 have hj : j < ((rowsL a)[i]).length := by omega
 rw [List.getElem?_eq_getElem hi', Option.bind_some, List.getElem?_eq_getElem hj] at hf
 have hm : i * wideT a ≤ 7 * 7 := Nat.mul_le_mul (by omega) g2
 have ec : ((i : Int) * (wideT a : Int)) = ((i * wideT a : Nat) : Int) := by push_cast; rfl
 rw [ec]
 have e : wrap64 (wrap64 ((i * wideT a : Nat) : Int) + (j : Int)) = ((i * wideT a + j : Nat) : Int) := by
  generalize i * wideT a = m at *
  unfold wrap64; omega
 rw [e, flatT_eq]
 obtain ⟨hlt, hv⟩ := List.getElem?_eq_some_iff.1 hf
 refine ⟨by omega, ?_, ?_⟩
 ·unfold numsOf
  rw [List.length_map]; omega
 ·unfold rd numsOf cellN cellU
  rw [Int.toNat_natCast, List.getD_eq_getElem?_getD, List.getElem?_map, hf, Int.toNat_natCast, Int.toNat_natCast, List.getD_eq_getElem?_getD (l := rowsL a), List.getElem?_eq_getElem hi']
  simp only [Option.map_some, Option.getD_some]
  rw [List.getD_eq_getElem?_getD, List.getElem?_eq_getElem hj]
  rfl
def okC (a : ByteArray) (x y : Int) : Bool := hasB a x y && !(cellN a x y == 35)
theorem isBox1_eq {a : ByteArray} (g : Gnd a) (x y : Int) : qLB.f (rowsT a) x y = some (!okC a x y) := by
 unfold qLB.f okC
 rw [qlB g, Option.bind_some]
 cases h : hasB a x y with
 | true => rw [if_pos rfl, at_eq g x y h]; simp
 | false => rw [if_neg (by decide)]; rfl
def cellsB (x y p : Int) : List (Int × Int) := if p = 1 then [(x, y), (wrap64 (x + 1), y)] else if p = 2 then [(x, y), (x, wrap64 (y + 1))] else [(x, y)]
def boxB (a : ByteArray) (x y p : Int) : Bool := (decide (0 ≤ p) && decide (p ≤ 2)) && !(decide (p = 0) && cellN a x y == 45) && (cellsB x y p).all fun c => okC a c.1 c.2
theorem boxB_has {a : ByteArray} {x y p : Int} (h : boxB a x y p = true) : hasB a x y = true := by
 unfold boxB at h
 simp only [Bool.and_eq_true] at h
 have h2 := h.2
 unfold cellsB at h2
 have : okC a x y = true := by
  split at h2
  ·simp only [List.all_cons, Bool.and_eq_true] at h2; exact h2.1
  ·split at h2
   ·simp only [List.all_cons, Bool.and_eq_true] at h2; exact h2.1
   ·simp only [List.all_cons, Bool.and_eq_true] at h2; exact h2.1
 unfold okC at this
 simp only [Bool.and_eq_true] at this
 exact this.1
theorem qmB {a : ByteArray} (g : Gnd a) (l : List S96) : qgA.f l (rowsT a) = some (!(l.all fun c => okC a c.f0 c.f1)) := by
 unfold qgA.f
 rw [if_pos (by rw [List.all_eq_true]; intro c _; rw [isBox1_eq g]; rfl)]
 congr 1
 induction l with
 | nil => rfl
 | cons c l ih =>
  rw [List.any_cons, List.all_cons, ih, isBox1_eq g]
  simp
theorem qQB {a : ByteArray} (g : Gnd a) (b : Bool) (x y p : Int) : Ev (fun k => qW.j0 k b (rowsT a) x y p) (!b && (cellsB x y p).all fun c => okC a c.1 c.2) := by
 refine Ev.step (f := fun k => _) (fun k => by rw [qW.j0]) ?_
 cases b with
 | true => exact Ev.pos rfl (Ev.now _)
 | false =>
  refine Ev.neg (by decide) ?_
  unfold qbA.f cellsB
  by_cases h1 : p = 1
  ·rw [if_pos h1, if_pos h1]
   refine Ev.bindc rfl (Ev.bindc (qmB g _) (Ev.some_ ?_))
   simp
  ·rw [if_neg h1, if_neg h1]
   by_cases h2 : p = 2
   ·rw [if_pos h2, if_pos h2]
    refine Ev.bindc rfl (Ev.bindc (qmB g _) (Ev.some_ ?_))
    simp
   ·rw [if_neg h2, if_neg h2]
    refine Ev.bindc rfl (Ev.bindc (qmB g _) (Ev.some_ ?_))
    simp
theorem isBox_ev {a : ByteArray} (g : Gnd a) (x y p : Int) : Ev (fun k => qW.f k (rowsT a) x y p) (boxB a x y p) := by
 unfold qW.f
 refine Ev.bindc (qMB _ _ _) ?_
 cases hp : (decide (0 ≤ p) && decide (p ≤ 2)) with
 | false =>
  refine Ev.neg (by decide) ?_
  have e : boxB a x y p = false := by unfold boxB; rw [hp]; rfl
  rw [e]
  exact qQB g true x y p
 | true =>
  refine Ev.pos rfl (Ev.bindc (qlB g x y) ?_)
  cases hh : hasB a x y with
  | false =>
   refine Ev.neg (by decide) ?_
   have e : boxB a x y p = false := by
    cases hb : boxB a x y p with
    | false => rfl
    | true => rw [boxB_has hb] at hh; cases hh
   rw [e]
   exact qQB g true x y p
  | true =>
   refine Ev.pos rfl ?_
   by_cases h0 : p = 0
   ·refine Ev.pos h0 (Ev.bindc (at_eq g x y hh) ?_)
    have := qQB g (cellN a x y == 45) x y p
    have e : boxB a x y p = (!(cellN a x y == 45) && (cellsB x y p).all fun c => okC a c.1 c.2) := by
     unfold boxB; rw [hp, Bool.true_and, decide_eq_true h0, Bool.true_and]
    rw [e]
    exact this
   ·refine Ev.neg h0 ?_
    have := qQB g false x y p
    have e : boxB a x y p = (!false && (cellsB x y p).all fun c => okC a c.1 c.2) := by
     unfold boxB; rw [hp, Bool.true_and, decide_eq_false h0, Bool.false_and]
    rw [e]
    exact this
theorem qNB {a : ByteArray} (g : Gnd a) (q : Nat) (cl : List Int) (hq : q + 1 < cl.length) (hc : cl.length ≤ 4) (x y p : Int) (R : Bool)
  (hR : Ev (fun k => qe.l0 k ((q + 2 : Nat) : Int) cl (wideT a : Int) (highT a : Int) (numsOf (flatT a.data.toList)) x y p) R) :
  Ev (fun k => qe.l0 k (q : Int) cl (wideT a : Int) (highT a : Int) (numsOf (flatT a.data.toList)) x y p) (okC a cl[q] cl[q + 1] && R) := by
 have w1 : wrap64 ((q : Int) + 1) = ((q + 1 : Nat) : Int) := by unfold wrap64; omega
 have w2 : wrap64 ((q : Int) + 2) = ((q + 2 : Nat) : Int) := by unfold wrap64; omega
 have r0 : rd cl (q : Int) = cl[q] := by unfold rd; rw [Int.toNat_natCast, List.getD_eq_getElem?_getD, List.getElem?_eq_getElem (by omega)]; rfl
 have r1 : rd cl ((q + 1 : Nat) : Int) = cl[q + 1] := by unfold rd; rw [Int.toNat_natCast, List.getD_eq_getElem?_getD, List.getElem?_eq_getElem (by omega)]; rfl
 refine Ev.step (f := fun k => _) (fun k => by rw [qe.l0]) ?_
 rw [w1, w2, r0, r1]
 generalize cl[q] = u
 generalize cl[q + 1] = v
 refine Ev.pos (by omega) (Ev.pos (by omega) (Ev.pos (by omega) (Ev.pos (by omega) (Ev.bindc (boCell_eq g _ u v) ?_))))
 unfold okC
 cases hh : hasB a u v with
 | false => exact Ev.neg (by decide) (Ev.now _)
 | true =>
  obtain ⟨s1, s2, s3⟩ := spec_at g u v hh
  refine Ev.pos rfl (Ev.pos s1 (Ev.pos s2 ?_))
  rw [s3]
  by_cases h35 : cellN a u v = 35
  ·refine Ev.pos h35 (Ev.some_ ?_)
   rw [h35]; rfl
  ·refine Ev.neg h35 ?_
   have : (cellN a u v == 35) = false := by simpa using h35
   rw [this]
   exact hR
theorem qdB {a : ByteArray} (g : Gnd a) (cl : List Int) (x y p : Int) (hh : hasB a x y = true) :
  Ev (fun k => qe.l0 k (cl.length : Int) cl (wideT a : Int) (highT a : Int) (numsOf (flatT a.data.toList)) x y p) (!(decide (p = 0) && cellN a x y == 45)) := by
 refine Ev.step (f := fun k => _) (fun k => by rw [qe.l0]) ?_
 refine Ev.neg (by omega) ?_
 obtain ⟨s1, s2, s3⟩ := spec_at g x y hh
 by_cases h0 : p = 0
 ·refine Ev.pos h0 (Ev.pos s1 (Ev.pos s2 (Ev.some_ ?_)))
  rw [s3, decide_eq_true h0, Bool.true_and]; rfl
 ·refine Ev.neg h0 (Ev.some_ ?_)
  rw [decide_eq_false h0]; rfl
theorem bx_fail {a : ByteArray} (g : Gnd a) (t : List Int) (ht : t.length ≤ 2) (x y x' y' p : Int) (hh : hasB a x y = false) :
  Ev (fun k => qe.l0 k 0 (x :: y :: t) (wideT a : Int) (highT a : Int) (numsOf (flatT a.data.toList)) x' y' p) false := by
 have w1 : wrap64 (0 + 1) = 1 := by unfold wrap64; omega
 have r0 : rd (x :: y :: t) 0 = x := rfl
 have r1 : rd (x :: y :: t) 1 = y := rfl
 have hl : ((x :: y :: t).length : Int) = (t.length : Int) + 2 := by simp; omega
 refine Ev.step (f := fun k => _) (fun k => by rw [qe.l0]) ?_
 rw [w1, r0, r1, hl]
 refine Ev.pos (by omega) (Ev.pos (by omega) (Ev.pos (by omega) (Ev.pos (by omega) (Ev.bindc (boCell_eq g _ x y) ?_))))
 rw [hh]
 exact Ev.neg (by decide) (Ev.now _)
def tailI (x y p : Int) : List Int := if p = 1 then [wrap64 (x + 1), y] else if p = 2 then [x, wrap64 (y + 1)] else []
theorem bxCells_eq (x y p : Int) : qTA.f x y p = some (x :: y :: tailI x y p) := by
 unfold qTA.f tailI
 by_cases h1 : p = 1
 ·simp [h1]
 ·by_cases h2 : p = 2
  ·simp [h2]
  ·simp [h1, h2]
theorem bxPose_eq (x y p : Int) : qdA.f x y p = some ((decide (0 ≤ x) && decide (x ≤ 6)) && ((decide (0 ≤ y) && decide (y ≤ 6)) && (decide (0 ≤ p) && decide (p ≤ 2)))) := by
 unfold qdA.f
 rw [qDB, qDB, qDB]
 simp only [Option.bind_some]
 cases (decide (0 ≤ x) && decide (x ≤ 6)) <;> cases (decide (0 ≤ y) && decide (y ≤ 6)) <;> rfl
theorem bxGood_ev {a : ByteArray} (g : Gnd a) (x y p : Int) : Ev (fun k => qe.f k (wideT a : Int) (highT a : Int) (numsOf (flatT a.data.toList)) x y p) (boxB a x y p) := by
 have g1 := g.h7
 have g2 := g.w7
 have hno : hasB a x y = false → boxB a x y p = false := fun hh => by
  cases hb : boxB a x y p with
  | false => rfl
  | true => rw [boxB_has hb] at hh; cases hh
 unfold qe.f
 refine Ev.bindc (bxPose_eq x y p) ?_
 cases hp : (decide (0 ≤ p) && decide (p ≤ 2)) with
 | false =>
  rw [Bool.and_false, Bool.and_false]
  refine Ev.neg (by decide) (Ev.some_ ?_)
  unfold boxB; rw [hp]; rfl
 | true =>
  rw [Bool.and_true]
  by_cases hxy : ((decide (0 ≤ x) && decide (x ≤ 6)) && (decide (0 ≤ y) && decide (y ≤ 6))) = true
  ·rw [hxy]
   refine Ev.pos rfl (Ev.bindc (bxCells_eq x y p) ?_)
   have e : boxB a x y p = ((cellsB x y p).all (fun c => okC a c.1 c.2) && !(decide (p = 0) && cellN a x y == 45)) := by
    unfold boxB; rw [hp, Bool.true_and, Bool.and_comm]
   cases hh : hasB a x y with
   | false =>
    rw [hno hh]
    refine bx_fail g _ ?_ x y x y p hh
    unfold tailI
    split
    ·simp
    ·split <;> simp
   | true =>
    rw [e]
    unfold tailI cellsB
    by_cases h1 : p = 1
    ·simp only [if_pos h1]
     have := qNB g 0 [x, y, wrap64 (x + 1), y] (by simp) (by simp) x y p _ (qNB g 2 [x, y, wrap64 (x + 1), y] (by simp) (by simp) x y p _ (qdB g [x, y, wrap64 (x + 1), y] x y p hh))
     simpa [Bool.and_assoc] using this
    ·by_cases h2 : p = 2
     ·simp only [if_neg h1, if_pos h2]
      have := qNB g 0 [x, y, x, wrap64 (y + 1)] (by simp) (by simp) x y p _ (qNB g 2 [x, y, x, wrap64 (y + 1)] (by simp) (by simp) x y p _ (qdB g [x, y, x, wrap64 (y + 1)] x y p hh))
      simpa [Bool.and_assoc] using this
     ·simp only [if_neg h1, if_neg h2]
      have := qNB g 0 [x, y] (by simp) (by simp) x y p _ (qdB g [x, y] x y p hh)
      simpa [Bool.and_assoc] using this
  ·rw [Bool.eq_false_iff.2 hxy]
   refine Ev.neg (by decide) (Ev.some_ ?_)
   refine (hno ?_).symm
   cases hh : hasB a x y with
   | false => rfl
   | true =>
    exfalso
    apply hxy
    obtain ⟨⟨h1, h2⟩, h3, h4⟩ := (qYB a x y).1 hh
    simp only [Bool.and_eq_true, decide_eq_true_eq]
    omega
end Go.Proofs.YtbpfhpjbeomfcaaDoor
namespace Go.Proofs.YtbpfhpjbeomfcaaDoor
open Go.RowKit Go.Proofs.YtbpfhpjbeomfcaaDoor.P Go.Proofs.YtbpfhpjbeomfcaaDoorW.PrintWords Go.Proofs.YtbpfhpjbeomfcaaDoorW.PrintLast
set_option linter.unusedVariables false
set_option linter.unusedSimpArgs false
def askB (a : ByteArray) (x y p : Int) : Bool := groundB a && boxB a x y p
theorem askB_ground {a : ByteArray} {x y p : Int} (h : askB a x y p = true) : groundB a = true := by
 unfold askB at h
 rw [Bool.and_eq_true] at h
 exact h.1
theorem onGround_ev (a : ByteArray) (x y p : Int) (ha : a.size ≤ 1048576) : ∃ rows : List ByteArray, Ev (fun k => qZA.f k a x y p) (rows, askB a x y p) ∧ (askB a x y p = true → rows = rowsT a) := by
 obtain ⟨rows, h1, hr⟩ := ground_ev a ha
 unfold qZA.f askB
 cases hg : groundB a with
 | false =>
  rw [hg] at h1
  exact ⟨rows, Ev.bind h1 (Ev.neg (by simp) (Ev.now _)), fun h => by cases h⟩
 | true =>
  have g := qjB hg
  have e := hr hg
  subst e
  rw [hg] at h1
  exact ⟨rowsT a, Ev.bind h1 (Ev.pos rfl (Ev.bind (isBox_ev g x y p) (Ev.now _))), fun _ => rfl⟩
theorem bxAsked_ev (a : ByteArray) (x y p : Int) : ∃ (w h : Int) (cs : List Int), Ev (fun k => qt.f k a x y p) (w, h, cs, askB a x y p) ∧ (askB a x y p = true → w = (wideT a : Int) ∧ h = (highT a : Int) ∧ cs = numsOf (flatT a.data.toList)) := by
 have h2 := bxRead_ev a
 unfold qt.f askB
 cases hg : groundB a with
 | false =>
  rw [hg, if_neg (by decide)] at h2
  exact ⟨_, _, _, Ev.bind h2 (Ev.neg (by simp [badG]) (Ev.now _)), fun h => by cases h⟩
 | true =>
  have g := qjB hg
  rw [hg, if_pos rfl] at h2
  exact ⟨_, _, _, Ev.bind h2 (Ev.pos rfl (Ev.bind (bxGood_ev g x y p) (Ev.now _))), fun _ => ⟨rfl, rfl, rfl⟩⟩
end Go.Proofs.YtbpfhpjbeomfcaaDoor
namespace Go.Proofs.YtbpfhpjbeomfcaaDoor
open Go.RowKit Go.Proofs.YtbpfhpjbeomfcaaDoor.P Go.Proofs.YtbpfhpjbeomfcaaDoorW.PrintWords Go.Proofs.YtbpfhpjbeomfcaaDoorW.PrintLast
set_option linter.unusedVariables false
set_option linter.unusedSimpArgs false
def dirI (l : List UInt8) : Int := if l = [110] then 0 else if l = [101] then 1 else if l = [115] then 2 else if l = [119] then 3 else -1
theorem spec_diDir_ev (a : ByteArray) : Ev (fun k => qz.f k a) (dirI a.data.toList) := by
 refine Ev.at_ 5 fun k => ?_
 have e0 : ((⟨#[110, 101, 115, 119]⟩ : ByteArray).extract 0 1).toList = [110] := by decide +kernel
 have e1 : ((⟨#[110, 101, 115, 119]⟩ : ByteArray).extract 1 2).toList = [101] := by decide +kernel
 have e2 : ((⟨#[110, 101, 115, 119]⟩ : ByteArray).extract 2 3).toList = [115] := by decide +kernel
 have e3 : ((⟨#[110, 101, 115, 119]⟩ : ByteArray).extract 3 4).toList = [119] := by decide +kernel
 have hz : ((⟨#[110, 101, 115, 119]⟩ : ByteArray).size : Int) = 4 := rfl
 simp [qz.f, qz.l0, qkA.f, dirI, wrap64, Go.Lib.toList_data a, e0, e1, e2, e3, hz]
 repeat (split; rfl)
 rfl
theorem dlen (s : ByteArray) : s.data.toList.length = s.size := by rw [Array.length_toList]; rfl
theorem bt_get (s : ByteArray) (i : Nat) (h : i < s.data.toList.length) : bt s (i : Int) = ((s.data.toList[i]).toNat : Int) := by
 have h' : i < s.size := by rw [← dlen]; exact h
 unfold bt
 rw [dif_pos (by simpa using h')]
 simp only [Int.toNat_natCast, Array.getElem_toList]
 rfl
theorem ext1 (s : ByteArray) (i : Nat) (h : i < s.data.toList.length) : (s.extract i (i + 1)).data.toList = [s.data.toList[i]] := by
 rw [Go.Lib.extract_data, show i + 1 - i = 1 by omega, List.drop_eq_getElem_cons h]
 rfl
theorem spec_diDir_at (s : ByteArray) (i : Nat) (h : i < s.data.toList.length) : Ev (fun k => qz.f k (s.extract i (i + 1))) (dirI [s.data.toList[i]]) := by
 have := spec_diDir_ev (s.extract i (i + 1))
 rwa [ext1 s i h] at this
theorem dirI_one (c : UInt8) : (dirI [c] < 0) = (¬ (c = 110 ∨ c = 101 ∨ c = 115 ∨ c = 119)) := by
 unfold dirI
 by_cases h1 : c = 110
 ·simp [h1]
 by_cases h2 : c = 101
 ·simp [h2]
 by_cases h3 : c = 115
 ·simp [h3]
 by_cases h4 : c = 119
 ·simp [h4]
 simp [h1, h2, h3, h4]
end Go.Proofs.YtbpfhpjbeomfcaaDoor
namespace Go.Proofs.YtbpfhpjbeomfcaaDoor
open Go.RowKit Go.Proofs.YtbpfhpjbeomfcaaDoor.P Go.Proofs.YtbpfhpjbeomfcaaDoorW.PrintWords Go.Proofs.YtbpfhpjbeomfcaaDoorW.PrintLast
set_option linter.unusedVariables false
set_option linter.unusedSimpArgs false
def dirN (d : Nat) : Int := if d = 0 then 110 else if d = 1 then 101 else if d = 2 then 115 else 119
def nextB (x y : Int) (d : Nat) : Int × Int := if d = 0 then (x, wrap64 (y - 1)) else if d = 1 then (wrap64 (x + 1), y) else if d = 2 then (x, wrap64 (y + 1)) else (wrap64 (x - 1), y)
def tipB (x y p : Int) (d : Nat) : Int × Int × Int :=
 if p = 0 then (if d = 0 then (x, wrap64 (y - 2), 2) else if d = 1 then (wrap64 (x + 1), y, 1) else if d = 2 then (x, wrap64 (y + 1), 2) else (wrap64 (x - 2), y, 1))
 else if p = 1 then (if d = 1 then (wrap64 (x + 2), y, 0) else if d = 3 then (wrap64 (x - 1), y, 0) else ((nextB x y d).1, (nextB x y d).2, 1))
 else if p = 2 then (if d = 0 then (x, wrap64 (y - 1), 0) else if d = 2 then (x, wrap64 (y + 2), 0) else ((nextB x y d).1, (nextB x y d).2, 2))
 else ((nextB x y d).1, (nextB x y d).2, p)
theorem four {d : Nat} (h : d < 4) : d = 0 ∨ d = 1 ∨ d = 2 ∨ d = 3 := by omega
theorem specNext (x y : Int) (d : Nat) (h : d < 4) : qVA.f x y (d : Int) = some (nextB x y d) := by
 rcases four h with rfl | rfl | rfl | rfl <;> simp [qVA.f, nextB]
theorem implNext (x y : Int) (d : Nat) (h : d < 4) : qoA.f x y (dirN d) = some (nextB x y d) := by
 rcases four h with rfl | rfl | rfl | rfl <;> simp [qoA.f, nextB, dirN]
theorem specTip_ev (x y p : Int) (d : Nat) (h : d < 4) : Ev (fun k => qQ.f k x y p (d : Int)) (tipB x y p d) := by
 refine Ev.at_ 8 fun k => ?_
 have hn := specNext x y d h
 by_cases p0 : p = 0
 ·subst p0
  rcases four h with rfl | rfl | rfl | rfl <;> simp [qQ.f, qQ.j0, qQ.j1, qQ.j2, tipB]
 by_cases p1 : p = 1
 ·subst p1
  rcases four h with rfl | rfl | rfl | rfl <;> simp at hn <;> simp [qQ.f, qQ.j0, qQ.j1, qQ.j2, qQ.j3, qQ.j4, qQ.j5, tipB, hn]
 by_cases p2 : p = 2
 ·subst p2
  rcases four h with rfl | rfl | rfl | rfl <;> simp at hn <;> simp [qQ.f, qQ.j0, qQ.j1, qQ.j2, qQ.j3, qQ.j4, qQ.j5, tipB, hn]
 ·simp [qQ.f, qQ.j0, qQ.j1, qQ.j2, qQ.j3, qQ.j4, qQ.j5, tipB, hn, p0, p1, p2]
theorem implTip_ev (x y p : Int) (d : Nat) (h : d < 4) : Ev (fun k => qU.f k x y p (dirN d)) (tipB x y p d) := by
 refine Ev.at_ 5 fun k => ?_
 have hn := implNext x y d h
 by_cases p0 : p = 0
 ·subst p0
  rcases four h with rfl | rfl | rfl | rfl <;> simp [qU.f, qU.j0, qU.j1, qU.j2, tipB, dirN]
 by_cases p1 : p = 1
 ·subst p1
  rcases four h with rfl | rfl | rfl | rfl <;> simp [dirN] at hn <;> simp [qU.f, qU.j0, qU.j1, qU.j2, tipB, dirN, hn, nextB]
 by_cases p2 : p = 2
 ·subst p2
  rcases four h with rfl | rfl | rfl | rfl <;> simp [dirN] at hn <;> simp [qU.f, qU.j0, qU.j1, qU.j2, tipB, dirN, hn, nextB]
 ·rcases four h with rfl | rfl | rfl | rfl <;> simp [dirN] at hn <;> simp [qU.f, qU.j0, qU.j1, qU.j2, tipB, dirN, hn, p0, p1, p2]
def canB (a : ByteArray) (t : Int × Int × Int) : Bool := boxB a t.1 t.2.1 t.2.2
theorem rollBox_ev {a : ByteArray} (g : Gnd a) (x y p : Int) (d : Nat) (h : d < 4) : Ev (fun k => qEA.f k (rowsT a) x y p (dirN d)) ((tipB x y p d).1, (tipB x y p d).2.1, (tipB x y p d).2.2, canB a (tipB x y p d)) := by
 unfold qEA.f
 exact Ev.bind (implTip_ev x y p d h) (Ev.bind (isBox_ev g _ _ _) (Ev.now _))
theorem bxRoll_ev {a : ByteArray} (g : Gnd a) (x y p : Int) (d : Nat) (h : d < 4) : Ev (fun k => qPA.f k (wideT a : Int) (highT a : Int) (numsOf (flatT a.data.toList)) x y p (d : Int)) (if canB a (tipB x y p d) = true then ((tipB x y p d).1, (tipB x y p d).2.1, (tipB x y p d).2.2, true) else (0, 0, 0, false)) := by
 unfold qPA.f
 refine Ev.bind (specTip_ev x y p d h) (Ev.bind (bxGood_ev g _ _ _) ?_)
 show Ev (fun k => if canB a (tipB x y p d) = true then _ else _) _
 cases hc : canB a (tipB x y p d) with
 | true => exact Ev.pos rfl (by rw [if_pos rfl]; exact Ev.now _)
 | false => exact Ev.neg (by decide) (by rw [if_neg (by decide)]; exact Ev.now _)
end Go.Proofs.YtbpfhpjbeomfcaaDoor
namespace Go.Proofs.YtbpfhpjbeomfcaaDoor
open Go.RowKit Go.Proofs.YtbpfhpjbeomfcaaDoor.P Go.Proofs.YtbpfhpjbeomfcaaDoorW.PrintWords Go.Proofs.YtbpfhpjbeomfcaaDoorW.PrintLast
set_option linter.unusedVariables false
set_option linter.unusedSimpArgs false
def isDirU (c : UInt8) : Bool := c == 110 || c == 101 || c == 115 || c == 119
def wordB (a : ByteArray) : Bool := decide (a.size ≤ 60) && a.data.toList.all isDirU
def dirU (c : UInt8) : Nat := if c = 110 then 0 else if c = 101 then 1 else if c = 115 then 2 else 3
theorem dirU_lt (c : UInt8) : dirU c < 4 := by
 unfold dirU
 split
 ·omega
 ·split
  ·omega
  ·split <;> omega
theorem qOB (c : UInt8) : isDirU c = true ↔ c = 110 ∨ c = 101 ∨ c = 115 ∨ c = 119 := by
 unfold isDirU
 simp only [Bool.or_eq_true, beq_iff_eq, or_assoc]
theorem dirI_U {c : UInt8} (h : isDirU c = true) : dirI [c] = (dirU c : Int) := by
 rcases (qOB c).1 h with rfl | rfl | rfl | rfl <;> decide
theorem dirI_not {c : UInt8} (h : isDirU c = false) : dirI [c] < 0 := by
 rw [dirI_one, ← qOB, h]
 decide
theorem qUB {α : Type} {L : List α} {i : Nat} {c : α} {cs : List α} (h : L.drop i = c :: cs) : ∃ hi : i < L.length, L[i] = c ∧ L.drop (i + 1) = cs := by
 have hi : i < L.length := by
  rcases Nat.lt_or_ge i L.length with h1 | h1
  ·exact h1
  ·rw [List.drop_eq_nil_of_le h1] at h; cases h
 rw [List.drop_eq_getElem_cons hi] at h
 injection h with h1 h2
 exact ⟨hi, h1, h2⟩
theorem qaB {α : Type} {L : List α} {i : Nat} (h : L.drop i = []) : L.length ≤ i := by
 rcases Nat.lt_or_ge i L.length with h1 | h1
 ·rw [List.drop_eq_getElem_cons h1] at h; cases h
 ·exact h1
theorem specDir_ev (a : ByteArray) (i : Nat) {c : UInt8} (hi : i < a.data.toList.length) (e : a.data.toList[i] = c) : Ev (fun k => qz.f k (a.extract i (i + 1))) (dirI [c]) := by
 have := spec_diDir_at a i hi
 rwa [e] at this
theorem specWord_loop (a : ByteArray) (ha : a.size ≤ 60) : ∀ (cs : List UInt8) (i : Nat), a.data.toList.drop i = cs → i ≤ a.size → Ev (fun k => qy.l0 k a (i : Int)) (cs.all isDirU)
 | [], i, hd, hi => by
  have := qaB hd
  rw [dlen] at this
  refine Ev.step (f := fun k => _) (fun k => by rw [qy.l0]) ?_
  exact Ev.neg (by omega) (Ev.now _)
 | c :: cs, i, hd, hi => by
  obtain ⟨hl, hc, hd'⟩ := qUB hd
  have ih := specWord_loop a ha cs (i + 1) hd'
  have hs := specDir_ev a i hl hc
  rw [dlen] at hl
  have w : wrap64 ((i : Int) + 1) = ((i + 1 : Nat) : Int) := by unfold wrap64; omega
  have ih := ih (by omega)
  clear hd hd' hc
  refine Ev.step (f := fun k => _) (fun k => by rw [qy.l0]) ?_
  rw [w]
  refine Ev.pos (by omega) (Ev.pos (by omega) (Ev.pos (by omega) (Ev.pos (by omega) ?_)))
  rw [Int.toNat_natCast, Int.toNat_natCast]
  refine Ev.bind hs ?_
  rw [List.all_cons]
  cases h : isDirU c with
  | true =>
   rw [dirI_U h]
   exact Ev.neg (by omega) ih
  | false => exact Ev.pos (dirI_not h) (Ev.now _)
theorem specWord_ev (a : ByteArray) : Ev (fun k => qy.f k a) (wordB a) := by
 unfold qy.f wordB
 by_cases h : a.size ≤ 60
 ·refine Ev.neg (by omega) ?_
  rw [decide_eq_true h, Bool.true_and]
  exact specWord_loop a h _ 0 rfl (by omega)
 ·refine Ev.pos (by omega) ?_
  rw [decide_eq_false h, Bool.false_and]
  exact Ev.now _
theorem contains_dirs (c : UInt8) : ([110, 101, 115, 119] : List UInt8).contains c = isDirU c := by
 unfold isDirU
 simp only [List.contains_cons, List.contains_nil, Bool.or_false]
 cases (c == 110) <;> cases (c == 101) <;> cases (c == 115) <;> rfl
theorem isRolls_eq (a : ByteArray) : qUA.f a = some (wordB a) := by
 unfold qUA.f wordB
 by_cases h : a.size ≤ 60
 ·rw [if_pos (by omega), decide_eq_true h, Bool.true_and]
  have e : qIA.f a (⟨#[110, 101, 115, 119]⟩ : ByteArray) = some ⟨(Lib.trimS a.data.toList [110, 101, 115, 119]).toArray⟩ := by
   unfold qIA.f
   rw [if_pos ⟨by omega, by decide, by decide⟩]
  rw [e, Option.bind_some]
  congr 1
  have e2 : (⟨(Lib.trimS a.data.toList [110, 101, 115, 119]).toArray⟩ : ByteArray).toList = Lib.trimS a.data.toList [110, 101, 115, 119] := by rw [Go.Lib.toList_data]
  rw [e2]
  have h3 := qRB a.data.toList [110, 101, 115, 119]
  rw [show (fun x => ([110, 101, 115, 119] : List UInt8).contains x) = isDirU from funext contains_dirs] at h3
  cases hb : a.data.toList.all isDirU with
  | true => rw [h3.2 hb]; rfl
  | false =>
   cases hq : Lib.trimS a.data.toList [110, 101, 115, 119] with
   | nil => rw [h3.1 hq] at hb; cases hb
   | cons x l => rfl
 ·rw [if_neg (by omega), decide_eq_false h, Bool.false_and]
theorem wordB_size {a : ByteArray} (h : wordB a = true) : a.size ≤ 60 := by
 unfold wordB at h
 rw [Bool.and_eq_true] at h
 simpa using h.1
theorem wordB_all {a : ByteArray} (h : wordB a = true) : a.data.toList.all isDirU = true := by
 unfold wordB at h
 rw [Bool.and_eq_true] at h
 exact h.2
end Go.Proofs.YtbpfhpjbeomfcaaDoor
namespace Go.Proofs.YtbpfhpjbeomfcaaDoor
open Go.RowKit Go.Proofs.YtbpfhpjbeomfcaaDoor.P Go.Proofs.YtbpfhpjbeomfcaaDoorW.PrintWords Go.Proofs.YtbpfhpjbeomfcaaDoorW.PrintLast
set_option linter.unusedVariables false
set_option linter.unusedSimpArgs false
abbrev BX := S27
def toBX (t : Int × Int × Int) : BX := ⟨t.1, t.2.1, t.2.2⟩
def goB (a : ByteArray) : Int × Int × Int → List UInt8 → Option (List BX)
 | _, [] => some []
 | t, c :: cs => if canB a (tipB t.1 t.2.1 t.2.2 (dirU c)) = true then (goB a (tipB t.1 t.2.1 t.2.2 (dirU c)) cs).map (toBX (tipB t.1 t.2.1 t.2.2 (dirU c)) :: ·) else none
def goR (l : List BX) (o : Option (List BX)) : List BX × Bool := match o with | some m => (l ++ m, true) | none => ([], false)
theorem goR_cons (l : List BX) (b : BX) (o : Option (List BX)) : goR (l ++ [b]) o = goR l (o.map (b :: ·)) := by
 cases o with
 | none => rfl
 | some m => simp [goR]
theorem dirN_U {c : UInt8} (h : isDirU c = true) : dirN (dirU c) = (c.toNat : Int) := by
 rcases (qOB c).1 h with rfl | rfl | rfl | rfl <;> decide
theorem bt_is (s : ByteArray) (i : Nat) {c : UInt8} (hi : i < s.data.toList.length) (e : s.data.toList[i] = c) : bt s (i : Int) = (c.toNat : Int) := by
 rw [bt_get s i hi, e]
theorem specAlong_loop {a : ByteArray} (g : Gnd a) (a2 : ByteArray) (ha : a2.size ≤ 60) : ∀ (cs : List UInt8) (i : Nat) (l : List BX) (t : Int × Int × Int), a2.data.toList.drop i = cs → cs.all isDirU = true → i ≤ a2.size → l.length = i + 1 →
  Ev (fun k => qb.l0 k a2 l (i : Int) t.1 t.2.1 t.2.2 (wideT a : Int) (highT a : Int) (numsOf (flatT a.data.toList))) (goR l (goB a t cs))
 | [], i, l, t, hd, _, hi, hl => by
  have := qaB hd
  rw [dlen] at this
  refine Ev.step (f := fun k => _) (fun k => by rw [qb.l0]) ?_
  refine Ev.neg (by omega) (Ev.some_ ?_)
  simp [goR, goB]
 | c :: cs, i, l, t, hd, hw, hi, hl => by
  obtain ⟨hlt, hc, hd'⟩ := qUB hd
  rw [List.all_cons, Bool.and_eq_true] at hw
  have hs := specDir_ev a2 i hlt hc
  rw [dirI_U hw.1] at hs
  have hr := bxRoll_ev g t.1 t.2.1 t.2.2 (dirU c) (dirU_lt c)
  have ih := fun l' t' h1 => specAlong_loop g a2 ha cs (i + 1) l' t' hd' hw.2 h1
  rw [dlen] at hlt
  have w : wrap64 ((i : Int) + 1) = ((i + 1 : Nat) : Int) := by unfold wrap64; omega
  clear hd hd' hc hw
  refine Ev.step (f := fun k => _) (fun k => by rw [qb.l0]) ?_
  rw [w]
  refine Ev.pos (by omega) (Ev.pos (by omega) (Ev.pos (by omega) (Ev.pos (by omega) ?_)))
  rw [Int.toNat_natCast, Int.toNat_natCast]
  refine Ev.bind hs (Ev.bind hr ?_)
  rw [goB]
  cases hcan : canB a (tipB t.1 t.2.1 t.2.2 (dirU c)) with
  | true =>
   rw [if_pos rfl, if_pos rfl]
   refine Ev.pos rfl (Ev.pos (by omega) ?_)
   have := ih (l ++ [toBX (tipB t.1 t.2.1 t.2.2 (dirU c))]) (tipB t.1 t.2.1 t.2.2 (dirU c)) (by omega) (by simp [hl])
   rw [goR_cons] at this
   exact this
  | false =>
   rw [if_neg (by decide), if_neg (by decide)]
   exact Ev.neg (by decide) (Ev.now _)
theorem rdBX (l : List BX) (t : BX) (i : Nat) (h : l[i]? = some t) : qg l (i : Int) = t := by
 unfold qg
 rw [Int.toNat_natCast, List.getD_eq_getElem?_getD, h]; rfl
theorem implAlong_loop {a : ByteArray} (g : Gnd a) (a2 : ByteArray) (ha : a2.size ≤ 60) : ∀ (cs : List UInt8) (i : Nat) (l : List BX) (t : Int × Int × Int), a2.data.toList.drop i = cs → cs.all isDirU = true → i ≤ a2.size → l.length = i + 1 → l[i]? = some (toBX t) →
  Ev (fun k => qP.l0 k a2 (rowsT a) l (a2.size : Int) (i : Int)) (goR l (goB a t cs))
 | [], i, l, t, hd, _, hi, hl, _ => by
  have := qaB hd
  rw [dlen] at this
  refine Ev.step (f := fun k => _) (fun k => by rw [qP.l0]) ?_
  refine Ev.neg (by omega) (Ev.some_ ?_)
  simp [goR, goB]
 | c :: cs, i, l, t, hd, hw, hi, hl, ht => by
  obtain ⟨hlt, hc, hd'⟩ := qUB hd
  rw [List.all_cons, Bool.and_eq_true] at hw
  have hb := bt_is a2 i hlt hc
  rw [← dirN_U hw.1] at hb
  have hr := rollBox_ev g t.1 t.2.1 t.2.2 (dirU c) (dirU_lt c)
  have ih := fun l' t' h1 => implAlong_loop g a2 ha cs (i + 1) l' t' hd' hw.2 h1
  rw [dlen] at hlt
  have w : wrap64 ((i : Int) + 1) = ((i + 1 : Nat) : Int) := by unfold wrap64; omega
  have e := rdBX l _ i ht
  clear hd hd' hc hw ht
  have HB := Lib.hid hb
  clear hb
  refine Ev.step (f := fun k => _) (fun k => by rw [qP.l0]) ?_
  rw [w, e, HB.out]
  refine Ev.pos (by omega) (Ev.pos (by omega) (Ev.pos (by omega) (Ev.pos (by omega) (Ev.bind hr ?_))))
  rw [goB]
  cases hcan : canB a (tipB t.1 t.2.1 t.2.2 (dirU c)) with
  | true =>
   rw [if_pos rfl]
   refine Ev.pos rfl (Ev.pos (by omega) ?_)
   have := ih (l ++ [toBX (tipB t.1 t.2.1 t.2.2 (dirU c))]) (tipB t.1 t.2.1 t.2.2 (dirU c)) (by omega) (by simp [hl]) (by rw [← hl]; simp)
   rw [goR_cons] at this
   exact this
  | false =>
   rw [if_neg (by decide)]
   exact Ev.neg (by simp) (Ev.now _)
def alongB (a : ByteArray) (x y p : Int) (a2 : ByteArray) : List BX × Bool := if (askB a x y p && wordB a2) = true then goR [⟨x, y, p⟩] (goB a (x, y, p) a2.data.toList) else ([], false)
theorem specAlong_ev (a : ByteArray) (x y p : Int) (a2 : ByteArray) : Ev (fun k => qb.f k a x y p a2) (alongB a x y p a2) := by
 obtain ⟨w, h, cs, h2, hs⟩ := bxAsked_ev a x y p
 unfold qb.f
 refine Ev.bind h2 ?_
 unfold alongB
 cases hb : askB a x y p with
 | false =>
  refine Ev.neg (by simp) (Ev.step (f := fun k => _) (fun k => by rw [qb.j0]) ?_)
  exact Ev.pos rfl (Ev.now _)
 | true =>
  obtain ⟨rfl, rfl, rfl⟩ := hs hb
  refine Ev.pos rfl (Ev.bind (specWord_ev a2) (Ev.step (f := fun k => _) (fun k => by rw [qb.j0]) ?_))
  cases hw : wordB a2 with
  | false => exact Ev.pos rfl (Ev.now _)
  | true =>
   refine Ev.neg (by decide) ?_
   exact specAlong_loop (qjB (askB_ground hb)) a2 (wordB_size hw) _ 0 _ (x, y, p) rfl (wordB_all hw) (by omega) rfl
theorem implAlong_ev (a : ByteArray) (x y p : Int) (a2 : ByteArray) (ha : a.size ≤ 1048576) : Ev (fun k => qP.f k a x y p a2) (alongB a x y p a2) := by
 obtain ⟨rows, h1, hr⟩ := onGround_ev a x y p ha
 unfold qP.f
 refine Ev.bind h1 ?_
 unfold alongB
 cases hb : askB a x y p with
 | false =>
  refine Ev.neg (by simp) (Ev.step (f := fun k => _) (fun k => by rw [qP.j0]) ?_)
  exact Ev.pos rfl (Ev.now _)
 | true =>
  have e := hr hb
  subst e
  refine Ev.pos rfl (Ev.bindc (isRolls_eq a2) (Ev.step (f := fun k => _) (fun k => by rw [qP.j0]) ?_))
  cases hw : wordB a2 with
  | false => exact Ev.pos rfl (Ev.now _)
  | true =>
   refine Ev.neg (by decide) ?_
   exact implAlong_loop (qjB (askB_ground hb)) a2 (wordB_size hw) _ 0 _ (x, y, p) rfl (wordB_all hw) (by omega) rfl rfl
theorem goB_len {a : ByteArray} : ∀ (cs : List UInt8) (t : Int × Int × Int) {m : List BX}, goB a t cs = some m → m.length = cs.length
 | [], _, m, h => by cases h; rfl
 | c :: cs, t, m, h => by
  rw [goB] at h
  split at h
  ·obtain ⟨m', h', rfl⟩ := Option.map_eq_some_iff.1 h
   simp [goB_len cs _ h']
  ·cases h
theorem alongB_len {a : ByteArray} {x y p : Int} {a2 : ByteArray} (h : (alongB a x y p a2).2 = true) : (alongB a x y p a2).1.length = a2.size + 1 := by
 unfold alongB at h ⊢
 split at h
 ·rename_i hc
  rw [if_pos hc]
  cases hg : goB a (x, y, p) a2.data.toList with
  | none => rw [hg] at h; cases h
  | some m =>
   have := goB_len _ _ hg
   rw [dlen] at this
   simp [goR, this]
 ·cases h
end Go.Proofs.YtbpfhpjbeomfcaaDoor
namespace Go.Proofs.YtbpfhpjbeomfcaaDoor.Pure
open Go.RowKit Go.Proofs.YtbpfhpjbeomfcaaDoor.P Go.Proofs.YtbpfhpjbeomfcaaDoorW.PrintWords Go.Proofs.YtbpfhpjbeomfcaaDoorW.PrintLast
set_option linter.unusedVariables false
set_option linter.unusedSimpArgs false
theorem eqBox_refl (a b c : Int) : qSA.f a b c a b c = some true := by simp [qSA.f]
theorem both (a : ByteArray) (x y p : Int) (a2 : ByteArray) (ha : a.size ≤ 1048576) : ∃ r : Int × Int × Int × Bool, Ev (fun k => qCA.f k a x y p a2) r ∧ Ev (fun k => qp.f k a x y p a2) r := by
 have h1 := implAlong_ev a x y p a2 ha
 have h2 := specAlong_ev a x y p a2
 have hl := alongB_len (a := a) (x := x) (y := y) (p := p) (a2 := a2)
 unfold qCA.f qp.f
 generalize alongB a x y p a2 = r at *
 obtain ⟨l, b⟩ := r
 cases b with
 | false => exact ⟨(0, 0, 0, false), Ev.bind h2 (Ev.neg (by simp) (Ev.now _)), Ev.bind h1 (Ev.neg (by simp) (Ev.now _))⟩
 | true =>
  have hl := hl rfl
  simp only at hl
  exact ⟨_, Ev.bind h2 (Ev.pos rfl (Ev.pos (by omega) (Ev.pos (by simp only; omega) (Ev.now _)))), Ev.bind h1 (Ev.pos rfl (Ev.pos (by omega) (Ev.pos (by simp only; omega) (Ev.now _))))⟩
theorem FnExactRollBoxAlong : qAA.Pure := by
 intro a x y p a2 _ _ _ _ _
 refine Ev.rounds (r := true) ?_
 unfold qAA.f
 by_cases ha : a.size ≤ 1048576
 ·by_cases ha2 : a2.size ≤ 1048576
  ·obtain ⟨r, h1, h2⟩ := both a x y p a2 ha
   refine Ev.neg (by omega) (Ev.neg (by omega) (Ev.bindc (show qKA.f x y p = some (x, y, p) from rfl) ?_))
   refine Ev.bind h1 (Ev.bindc (show qKA.f x y p = some (x, y, p) from rfl) (Ev.bind h2 (Ev.bindc (eqBox_refl _ _ _) (Ev.pos rfl (Ev.neg (by simp) (Ev.now _))))))
  ·exact Ev.neg (by omega) (Ev.pos (by omega) (Ev.now _))
 ·exact Ev.pos (by omega) (Ev.now _)
end Go.Proofs.YtbpfhpjbeomfcaaDoor.Pure
