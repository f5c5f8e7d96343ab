/- The program's WordToBox returns what the reference's returns, for all texts and boxes (the law lets longer texts by). No further condition. -/
import Derived.Test.YtbpfhpjbeomfcaaDoorKFnExactWordToBox4

namespace Go.Proofs.YtbpfhpjbeomfcaaDoor
open Go.RowKit Go.Proofs.YtbpfhpjbeomfcaaDoor.P Go.Proofs.YtbpfhpjbeomfcaaDoorW.PrintWords Go.Proofs.YtbpfhpjbeomfcaaDoorW.PrintLast
set_option linter.unusedVariables false
set_option linter.unusedSimpArgs false
theorem qMB (n a b : Int) : qt.f n a b = some (decide (a ≤ n) && decide (n ≤ b)) := by
 unfold qt.f
 by_cases h : n ≥ a
 ·rw [if_pos h, decide_eq_true (show a ≤ n from h), Bool.true_and]
 ·rw [if_neg h, decide_eq_false (show ¬ a ≤ n from h), Bool.false_and]
def rowsL (a : ByteArray) : List (List UInt8) := (sp 47 a.data.toList).1 :: (sp 47 a.data.toList).2
theorem flat_get (w : Nat) : ∀ (L : List (List UInt8)) (i j : Nat), (∀ r ∈ L, r.length = w) → i < L.length → j < w → L.flatten[i * w + j]? = (L[i]?.bind fun r => r[j]?)
 | [], i, j, _, hi, _ => by simp at hi
 | r :: L, 0, j, h, _, hj => by
  have := h r List.mem_cons_self
  simp only [List.flatten_cons, Nat.zero_mul, Nat.zero_add, List.getElem?_cons_zero, Option.bind_some]
  rw [List.getElem?_append_left (by omega)]
 | r :: L, i + 1, j, h, hi, hj => by
  have h1 := h r List.mem_cons_self
  have ih := flat_get w L i j (fun q hq => h q (List.mem_cons_of_mem _ hq)) (by simpa using hi) hj
  simp only [List.flatten_cons, List.getElem?_cons_succ]
  have e : (i + 1) * w + j = r.length + (i * w + j) := by rw [Nat.add_mul, h1]; omega
  rw [e, List.getElem?_append_right (by omega), Nat.add_sub_cancel_left]
  exact ih
structure Gnd (a : ByteArray) : Prop where
 w1 : 1 ≤ wideT a
 w7 : wideT a ≤ 7
 h1 : 1 ≤ highT a
 h7 : highT a ≤ 7
 rows : ∀ r ∈ rowsL a, r.length = wideT a
theorem quB {a : ByteArray} (h : groundB a = true) : Gnd a := by
 unfold groundB szR at h
 simp only [Bool.and_eq_true, decide_eq_true_eq] at h
 obtain ⟨⟨hr, ⟨⟨⟨g1, g2⟩, g3⟩, g4⟩, g5⟩, _⟩ := h
 obtain ⟨_, h2⟩ := (qFB a).1 hr
 exact ⟨g3, g4, g1, g2, fun r hr => by
  rcases List.mem_cons.1 hr with rfl | hr
  ·rfl
  ·exact h2 r hr⟩
theorem qKB (a : ByteArray) : (rowsL a).length = highT a := rfl
theorem rowsT_get (a : ByteArray) (i : Nat) (h : i < (rowsT a).length) (h' : i < (rowsL a).length) : ((rowsT a)[i]).data.toList = (rowsL a)[i] := by
 have := qAB a
 have e : ((rowsT a).map (·.data.toList))[i]'(by simpa using h) = (rowsL a)[i] := by
  simp only [this]; rfl
 rwa [List.getElem_map] at e
theorem flatT_eq (a : ByteArray) : flatT a.data.toList = (rowsL a).flatten := rfl
def hasB (a : ByteArray) (x y : Int) : Bool := decide (0 ≤ y) && decide (y ≤ (highT a : Int) - 1) && (decide (0 ≤ x) && decide (x ≤ (wideT a : Int) - 1))
def cellU (a : ByteArray) (x y : Int) : UInt8 := ((rowsL a).getD y.toNat []).getD x.toNat 0
def cellN (a : ByteArray) (x y : Int) : Int := ((cellU a x y).toNat : Int)
theorem qjB (a : ByteArray) (x y : Int) : hasB a x y = true ↔ (0 ≤ y ∧ y < (highT a : Int)) ∧ (0 ≤ x ∧ x < (wideT a : Int)) := by
 unfold hasB
 simp only [Bool.and_eq_true, decide_eq_true_eq]
 omega
theorem gr_size {a : ByteArray} (g : Gnd a) (i : Nat) (h : i < (rowsT a).length) : ((rowsT a)[i]).size = wideT a := by
 have h' : i < (rowsL a).length := by rw [qKB, ← qzA]; exact h
 rw [← qxA, rowsT_get a i h h']
 exact g.rows _ (List.getElem_mem h')
theorem qJC {a : ByteArray} (g : Gnd a) (x y : Int) : qv.f (rowsT a) x y = some (hasB a x y) := by
 have hl := qzA a
 have h0 : 0 < (rowsT a).length := by rw [hl]; exact g.h1
 have e0 : rdOf ByteArray.empty (rowsT a) 0 = (rowsT a)[0] := qGC (rowsT a) 0 h0
 have e1 := gr_size g 0 h0
 have g1 := g.h7
 have g2 := g.w7
 unfold qv.f
 rw [qZB, hl, e0, e1]
 have w1 : wrap64 ((highT a : Int) - 1) = (highT a : Int) - 1 := by unfold wrap64; omega
 have w2 : wrap64 ((wideT a : Int) - 1) = (wideT a : Int) - 1 := by unfold wrap64; omega
 rw [w1, w2]
 simp only [Option.bind_some]
 have g0 := g.h1
 unfold hasB
 by_cases h : (decide (0 ≤ y) && decide (y ≤ (highT a : Int) - 1)) = true
 ·rw [if_pos h, if_pos (by omega), qZB, h, Bool.true_and]; rfl
 ·rw [if_neg h, Bool.eq_false_iff.2 h, Bool.false_and]
theorem at_eq {a : ByteArray} (g : Gnd a) (x y : Int) (h : hasB a x y = true) : qPA.f (rowsT a) x y = some (cellN a x y) := by
 obtain ⟨⟨h1, h2⟩, h3, h4⟩ := (qjB a x y).1 h
 obtain ⟨i, rfl⟩ := Int.eq_ofNat_of_zero_le h1
 obtain ⟨j, rfl⟩ := Int.eq_ofNat_of_zero_le h3
 have hl := qzA a
 have hi : i < (rowsT a).length := by omega
 have hi' : i < (rowsL a).length := by rw [qKB]; omega
 have hs := gr_size g i hi
 have hr := rowsT_get a i hi hi'
 have hw := g.rows _ (List.getElem_mem hi')
 unfold qPA.f
 rw [qJC g, h, qGC (rowsT a) i hi]
 simp only [Option.bind_some, if_true]
 rw [if_pos (by omega), if_pos (by omega), if_pos (by omega), if_pos (by rw [hs]; omega)]
 have hj : j < ((rowsT a)[i]).data.toList.length := by rw [qxA, hs]; omega
 rw [gr_bt _ j hj]
 congr 1
 unfold cellN cellU
 have e : (rowsL a).getD i [] = (rowsL a)[i] := by rw [List.getD_eq_getElem?_getD, List.getElem?_eq_getElem hi']; rfl
 have e2 : ((rowsT a)[i]).data.toList[j] = ((rowsL a)[i])[j]'(by rw [← hr]; exact hj) := by simp only [hr]
 rw [e2, Int.toNat_natCast, Int.toNat_natCast, e, List.getD_eq_getElem?_getD, List.getElem?_eq_getElem (by rw [← hr]; exact hj)]
 rfl
theorem boCell_eq {a : ByteArray} (g : Gnd a) (cs : List Int) (x y : Int) : qfA.f (wideT a : Int) (highT a : Int) cs x y = some (hasB a x y) := by
 have g1 := g.h7
 have g2 := g.w7
 unfold qfA.f
 have w1 : wrap64 ((highT a : Int) - 1) = (highT a : Int) - 1 := by unfold wrap64; omega
 have w2 : wrap64 ((wideT a : Int) - 1) = (wideT a : Int) - 1 := by unfold wrap64; omega
 rw [w1, w2, qMB, qMB]
 simp only [Option.bind_some]
 unfold hasB
 by_cases h : (decide (0 ≤ x) && decide (x ≤ (wideT a : Int) - 1)) = true
 ·rw [if_pos h, h, Bool.and_true]
 ·rw [if_neg h, Bool.eq_false_iff.2 h, Bool.and_false]
theorem spec_at {a : ByteArray} (g : Gnd a) (x y : Int) (h : hasB a x y = true) :
  0 ≤ wrap64 (wrap64 (y * (wideT a : Int)) + x) ∧ wrap64 (wrap64 (y * (wideT a : Int)) + x) < ((numsOf (flatT a.data.toList)).length : Int) ∧ rd (numsOf (flatT a.data.toList)) (wrap64 (wrap64 (y * (wideT a : Int)) + x)) = cellN a x y := by
 obtain ⟨⟨h1, h2⟩, h3, h4⟩ := (qjB a x y).1 h
 obtain ⟨i, rfl⟩ := Int.eq_ofNat_of_zero_le h1
 obtain ⟨j, rfl⟩ := Int.eq_ofNat_of_zero_le h3
 have g1 := g.h7
 have g2 := g.w7
 have hi' : i < (rowsL a).length := by rw [qKB]; omega
 have hf := flat_get (wideT a) (rowsL a) i j g.rows hi' (by omega)
 have hw := g.rows _ (List.getElem_mem hi')
 have hj : j < ((rowsL a)[i]).length := by omega
 rw [List.getElem?_eq_getElem hi', Option.bind_some, List.getElem?_eq_getElem hj] at hf
 have hm : i * wideT a ≤ 7 * 7 := Nat.mul_le_mul (by omega) g2
 have ec : ((i : Int) * (wideT a : Int)) = ((i * wideT a : Nat) : Int) := by push_cast; rfl
 rw [ec]
 have e : wrap64 (wrap64 ((i * wideT a : Nat) : Int) + (j : Int)) = ((i * wideT a + j : Nat) : Int) := by
  generalize i * wideT a = m at *
  unfold wrap64; omega
 rw [e, flatT_eq]
 obtain ⟨hlt, hv⟩ := List.getElem?_eq_some_iff.1 hf
 refine ⟨by omega, ?_, ?_⟩
 ·unfold numsOf
  rw [List.length_map]; omega
 ·unfold rd numsOf cellN cellU
  rw [Int.toNat_natCast, List.getD_eq_getElem?_getD, List.getElem?_map, hf, Int.toNat_natCast, Int.toNat_natCast, List.getD_eq_getElem?_getD (l := rowsL a), List.getElem?_eq_getElem hi']
  simp only [Option.map_some, Option.getD_some]
  rw [List.getD_eq_getElem?_getD, List.getElem?_eq_getElem hj]
  rfl
def okC (a : ByteArray) (x y : Int) : Bool := hasB a x y && !(cellN a x y == 35)
theorem isBox1_eq {a : ByteArray} (g : Gnd a) (x y : Int) : qXB.f (rowsT a) x y = some (!okC a x y) := by
 unfold qXB.f okC
 rw [qJC g, Option.bind_some]
 cases h : hasB a x y with
 | true => rw [if_pos rfl, at_eq g x y h]; simp
 | false => rw [if_neg (by decide)]; rfl
def cellsB (x y p : Int) : List (Int × Int) := if p = 1 then [(x, y), (wrap64 (x + 1), y)] else if p = 2 then [(x, y), (x, wrap64 (y + 1))] else [(x, y)]
def boxB (a : ByteArray) (x y p : Int) : Bool := (decide (0 ≤ p) && decide (p ≤ 2)) && !(decide (p = 0) && cellN a x y == 45) && (cellsB x y p).all fun c => okC a c.1 c.2
theorem qxB {a : ByteArray} {x y p : Int} (h : boxB a x y p = true) : hasB a x y = true := by
 unfold boxB at h
 simp only [Bool.and_eq_true] at h
 have h2 := h.2
 unfold cellsB at h2
 have : okC a x y = true := by
  split at h2
  ·simp only [List.all_cons, Bool.and_eq_true] at h2; exact h2.1
  ·split at h2
   ·simp only [List.all_cons, Bool.and_eq_true] at h2; exact h2.1
   ·simp only [List.all_cons, Bool.and_eq_true] at h2; exact h2.1
 unfold okC at this
 simp only [Bool.and_eq_true] at this
 exact this.1
theorem qLC {a : ByteArray} (g : Gnd a) (l : List S96) : qlA.f l (rowsT a) = some (!(l.all fun c => okC a c.f0 c.f1)) := by
 unfold qlA.f
 rw [if_pos (by rw [List.all_eq_true]; intro c _; rw [isBox1_eq g]; rfl)]
 congr 1
 induction l with
 | nil => rfl
 | cons c l ih =>
  rw [List.any_cons, List.all_cons, ih, isBox1_eq g]
  simp
theorem qiB {a : ByteArray} (g : Gnd a) (b : Bool) (x y p : Int) : Ev (fun k => qZ.j0 k b (rowsT a) x y p) (!b && (cellsB x y p).all fun c => okC a c.1 c.2) := by
 refine Ev.step (f := fun k => _) (fun k => by rw [qZ.j0]) ?_
 cases b with
 | true => exact Ev.pos rfl (Ev.now _)
 | false =>
  refine Ev.neg (by decide) ?_
  unfold qhA.f cellsB
  by_cases h1 : p = 1
  ·rw [if_pos h1, if_pos h1]
   refine Ev.bindc rfl (Ev.bindc (qLC g _) (Ev.some_ ?_))
   simp
  ·rw [if_neg h1, if_neg h1]
   by_cases h2 : p = 2
   ·rw [if_pos h2, if_pos h2]
    refine Ev.bindc rfl (Ev.bindc (qLC g _) (Ev.some_ ?_))
    simp
   ·rw [if_neg h2, if_neg h2]
    refine Ev.bindc rfl (Ev.bindc (qLC g _) (Ev.some_ ?_))
    simp
theorem isBox_ev {a : ByteArray} (g : Gnd a) (x y p : Int) : Ev (fun k => qZ.f k (rowsT a) x y p) (boxB a x y p) := by
 unfold qZ.f
 refine Ev.bindc (qZB _ _ _) ?_
 cases hp : (decide (0 ≤ p) && decide (p ≤ 2)) with
 | false =>
  refine Ev.neg (by decide) ?_
  have e : boxB a x y p = false := by unfold boxB; rw [hp]; rfl
  rw [e]
  exact qiB g true x y p
 | true =>
  refine Ev.pos rfl (Ev.bindc (qJC g x y) ?_)
  cases hh : hasB a x y with
  | false =>
   refine Ev.neg (by decide) ?_
   have e : boxB a x y p = false := by
    cases hb : boxB a x y p with
    | false => rfl
    | true => rw [qxB hb] at hh; cases hh
   rw [e]
   exact qiB g true x y p
  | true =>
   refine Ev.pos rfl ?_
   by_cases h0 : p = 0
   ·refine Ev.pos h0 (Ev.bindc (at_eq g x y hh) ?_)
    have := qiB g (cellN a x y == 45) x y p
    have e : boxB a x y p = (!(cellN a x y == 45) && (cellsB x y p).all fun c => okC a c.1 c.2) := by
     unfold boxB; rw [hp, Bool.true_and, decide_eq_true h0, Bool.true_and]
    rw [e]
    exact this
   ·refine Ev.neg h0 ?_
    have := qiB g false x y p
    have e : boxB a x y p = (!false && (cellsB x y p).all fun c => okC a c.1 c.2) := by
     unfold boxB; rw [hp, Bool.true_and, decide_eq_false h0, Bool.false_and]
    rw [e]
    exact this
theorem qaB {a : ByteArray} (g : Gnd a) (q : Nat) (cl : List Int) (hq : q + 1 < cl.length) (hc : cl.length ≤ 4) (x y p : Int) (R : Bool)
  (hR : Ev (fun k => qd.l0 k ((q + 2 : Nat) : Int) cl (wideT a : Int) (highT a : Int) (numsOf (flatT a.data.toList)) x y p) R) :
  Ev (fun k => qd.l0 k (q : Int) cl (wideT a : Int) (highT a : Int) (numsOf (flatT a.data.toList)) x y p) (okC a cl[q] cl[q + 1] && R) := by
 have w1 : wrap64 ((q : Int) + 1) = ((q + 1 : Nat) : Int) := by unfold wrap64; omega
 have w2 : wrap64 ((q : Int) + 2) = ((q + 2 : Nat) : Int) := by unfold wrap64; omega
 have r0 : rd cl (q : Int) = cl[q] := by unfold rd; rw [Int.toNat_natCast, List.getD_eq_getElem?_getD, List.getElem?_eq_getElem (by omega)]; rfl
 have r1 : rd cl ((q + 1 : Nat) : Int) = cl[q + 1] := by unfold rd; rw [Int.toNat_natCast, List.getD_eq_getElem?_getD, List.getElem?_eq_getElem (by omega)]; rfl
 refine Ev.step (f := fun k => _) (fun k => by rw [qd.l0]) ?_
 rw [w1, w2, r0, r1]
 generalize cl[q] = u
 generalize cl[q + 1] = v
 refine Ev.pos (by omega) (Ev.pos (by omega) (Ev.pos (by omega) (Ev.pos (by omega) (Ev.bindc (boCell_eq g _ u v) ?_))))
 unfold okC
 cases hh : hasB a u v with
 | false => exact Ev.neg (by decide) (Ev.now _)
 | true =>
  obtain ⟨s1, s2, s3⟩ := spec_at g u v hh
  refine Ev.pos rfl (Ev.pos s1 (Ev.pos s2 ?_))
  rw [s3]
  by_cases h35 : cellN a u v = 35
  ·refine Ev.pos h35 (Ev.some_ ?_)
   rw [h35]; rfl
  ·refine Ev.neg h35 ?_
   have : (cellN a u v == 35) = false := by simpa using h35
   rw [this]
   exact hR
theorem qBC {a : ByteArray} (g : Gnd a) (cl : List Int) (x y p : Int) (hh : hasB a x y = true) :
  Ev (fun k => qd.l0 k (cl.length : Int) cl (wideT a : Int) (highT a : Int) (numsOf (flatT a.data.toList)) x y p) (!(decide (p = 0) && cellN a x y == 45)) := by
 refine Ev.step (f := fun k => _) (fun k => by rw [qd.l0]) ?_
 refine Ev.neg (by omega) ?_
 obtain ⟨s1, s2, s3⟩ := spec_at g x y hh
 by_cases h0 : p = 0
 ·refine Ev.pos h0 (Ev.pos s1 (Ev.pos s2 (Ev.some_ ?_)))
  rw [s3, decide_eq_true h0, Bool.true_and]; rfl
 ·refine Ev.neg h0 (Ev.some_ ?_)
  rw [decide_eq_false h0]; rfl
theorem bx_fail {a : ByteArray} (g : Gnd a) (t : List Int) (ht : t.length ≤ 2) (x y x' y' p : Int) (hh : hasB a x y = false) :
  Ev (fun k => qd.l0 k 0 (x :: y :: t) (wideT a : Int) (highT a : Int) (numsOf (flatT a.data.toList)) x' y' p) false := by
 have w1 : wrap64 (0 + 1) = 1 := by unfold wrap64; omega
 have r0 : rd (x :: y :: t) 0 = x := rfl
 have r1 : rd (x :: y :: t) 1 = y := rfl
 have hl : ((x :: y :: t).length : Int) = (t.length : Int) + 2 := by simp; omega
 refine Ev.step (f := fun k => _) (fun k => by rw [qd.l0]) ?_
 rw [w1, r0, r1, hl]
 refine Ev.pos (by omega) (Ev.pos (by omega) (Ev.pos (by omega) (Ev.pos (by omega) (Ev.bindc (boCell_eq g _ x y) ?_))))
 rw [hh]
 exact Ev.neg (by decide) (Ev.now _)
def tailI (x y p : Int) : List Int := if p = 1 then [wrap64 (x + 1), y] else if p = 2 then [x, wrap64 (y + 1)] else []
theorem bxCells_eq (x y p : Int) : qXA.f x y p = some (x :: y :: tailI x y p) := by
 unfold qXA.f tailI
 by_cases h1 : p = 1
 ·simp [h1]
 ·by_cases h2 : p = 2
  ·simp [h2]
  ·simp [h1, h2]
theorem bxPose_eq (x y p : Int) : qjA.f x y p = some ((decide (0 ≤ x) && decide (x ≤ 6)) && ((decide (0 ≤ y) && decide (y ≤ 6)) && (decide (0 ≤ p) && decide (p ≤ 2)))) := by
 unfold qjA.f
 rw [qMB, qMB, qMB]
 simp only [Option.bind_some]
 cases (decide (0 ≤ x) && decide (x ≤ 6)) <;> cases (decide (0 ≤ y) && decide (y ≤ 6)) <;> rfl
theorem qsB {a : ByteArray} (g : Gnd a) (x y p : Int) : Ev (fun k => qd.f k (wideT a : Int) (highT a : Int) (numsOf (flatT a.data.toList)) x y p) (boxB a x y p) := by
 have g1 := g.h7
 have g2 := g.w7
 have hno : hasB a x y = false → boxB a x y p = false := fun hh => by
  cases hb : boxB a x y p with
  | false => rfl
  | true => rw [qxB hb] at hh; cases hh
 unfold qd.f
 refine Ev.bindc (bxPose_eq x y p) ?_
 cases hp : (decide (0 ≤ p) && decide (p ≤ 2)) with
 | false =>
  rw [Bool.and_false, Bool.and_false]
  refine Ev.neg (by decide) (Ev.some_ ?_)
  unfold boxB; rw [hp]; rfl
 | true =>
  rw [Bool.and_true]
  by_cases hxy : ((decide (0 ≤ x) && decide (x ≤ 6)) && (decide (0 ≤ y) && decide (y ≤ 6))) = true
  ·rw [hxy]
   refine Ev.pos rfl (Ev.bindc (bxCells_eq x y p) ?_)
   have e : boxB a x y p = ((cellsB x y p).all (fun c => okC a c.1 c.2) && !(decide (p = 0) && cellN a x y == 45)) := by
    unfold boxB; rw [hp, Bool.true_and, Bool.and_comm]
   cases hh : hasB a x y with
   | false =>
    rw [hno hh]
    refine bx_fail g _ ?_ x y x y p hh
    unfold tailI
    split
    ·simp
    ·split <;> simp
   | true =>
    rw [e]
    unfold tailI cellsB
    by_cases h1 : p = 1
    ·simp only [if_pos h1]
     have := qaB g 0 [x, y, wrap64 (x + 1), y] (by simp) (by simp) x y p _ (qaB g 2 [x, y, wrap64 (x + 1), y] (by simp) (by simp) x y p _ (qBC g [x, y, wrap64 (x + 1), y] x y p hh))
     simpa [Bool.and_assoc] using this
    ·by_cases h2 : p = 2
     ·simp only [if_neg h1, if_pos h2]
      have := qaB g 0 [x, y, x, wrap64 (y + 1)] (by simp) (by simp) x y p _ (qaB g 2 [x, y, x, wrap64 (y + 1)] (by simp) (by simp) x y p _ (qBC g [x, y, x, wrap64 (y + 1)] x y p hh))
      simpa [Bool.and_assoc] using this
     ·simp only [if_neg h1, if_neg h2]
      have := qaB g 0 [x, y] (by simp) (by simp) x y p _ (qBC g [x, y] x y p hh)
      simpa [Bool.and_assoc] using this
  ·rw [Bool.eq_false_iff.2 hxy]
   refine Ev.neg (by decide) (Ev.some_ ?_)
   refine (hno ?_).symm
   cases hh : hasB a x y with
   | false => rfl
   | true =>
    exfalso
    apply hxy
    obtain ⟨⟨h1, h2⟩, h3, h4⟩ := (qjB a x y).1 hh
    simp only [Bool.and_eq_true, decide_eq_true_eq]
    omega
def askB (a : ByteArray) (x y p : Int) : Bool := groundB a && boxB a x y p
theorem qyA {a : ByteArray} {x y p : Int} (h : askB a x y p = true) : groundB a = true := by
 unfold askB at h
 rw [Bool.and_eq_true] at h
 exact h.1
theorem onGround_ev (a : ByteArray) (x y p : Int) (ha : a.size ≤ 1048576) : ∃ rows : List ByteArray, Ev (fun k => qKA.f k a x y p) (rows, askB a x y p) ∧ (askB a x y p = true → rows = rowsT a) := by
 obtain ⟨rows, h1, hr⟩ := ground_ev a ha
 unfold qKA.f askB
 cases hg : groundB a with
 | false =>
  rw [hg] at h1
  exact ⟨rows, Ev.bind h1 (Ev.neg (by simp) (Ev.now _)), fun h => by cases h⟩
 | true =>
  have g := quB hg
  have e := hr hg
  subst e
  rw [hg] at h1
  exact ⟨rowsT a, Ev.bind h1 (Ev.pos rfl (Ev.bind (isBox_ev g x y p) (Ev.now _))), fun _ => rfl⟩
theorem bxAsked_ev (a : ByteArray) (x y p : Int) : ∃ (w h : Int) (cs : List Int), Ev (fun k => qu.f k a x y p) (w, h, cs, askB a x y p) ∧ (askB a x y p = true → w = (wideT a : Int) ∧ h = (highT a : Int) ∧ cs = numsOf (flatT a.data.toList)) := by
 have h2 := bxRead_ev a
 unfold qu.f askB
 cases hg : groundB a with
 | false =>
  rw [hg, if_neg (by decide)] at h2
  exact ⟨_, _, _, Ev.bind h2 (Ev.neg (by simp [badG]) (Ev.now _)), fun h => by cases h⟩
 | true =>
  have g := quB hg
  rw [hg, if_pos rfl] at h2
  exact ⟨_, _, _, Ev.bind h2 (Ev.pos rfl (Ev.bind (qsB g x y p) (Ev.now _))), fun _ => ⟨rfl, rfl, rfl⟩⟩
def dirN (d : Nat) : Int := if d = 0 then 110 else if d = 1 then 101 else if d = 2 then 115 else 119
def nextB (x y : Int) (d : Nat) : Int × Int := if d = 0 then (x, wrap64 (y - 1)) else if d = 1 then (wrap64 (x + 1), y) else if d = 2 then (x, wrap64 (y + 1)) else (wrap64 (x - 1), y)
def tipB (x y p : Int) (d : Nat) : Int × Int × Int :=
 if p = 0 then (if d = 0 then (x, wrap64 (y - 2), 2) else if d = 1 then (wrap64 (x + 1), y, 1) else if d = 2 then (x, wrap64 (y + 1), 2) else (wrap64 (x - 2), y, 1))
 else if p = 1 then (if d = 1 then (wrap64 (x + 2), y, 0) else if d = 3 then (wrap64 (x - 1), y, 0) else ((nextB x y d).1, (nextB x y d).2, 1))
 else if p = 2 then (if d = 0 then (x, wrap64 (y - 1), 0) else if d = 2 then (x, wrap64 (y + 2), 0) else ((nextB x y d).1, (nextB x y d).2, 2))
 else ((nextB x y d).1, (nextB x y d).2, p)
theorem four {d : Nat} (h : d < 4) : d = 0 ∨ d = 1 ∨ d = 2 ∨ d = 3 := by omega
theorem specNext (x y : Int) (d : Nat) (h : d < 4) : qZA.f x y (d : Int) = some (nextB x y d) := by
 rcases four h with rfl | rfl | rfl | rfl <;> simp [qZA.f, nextB]
theorem implNext (x y : Int) (d : Nat) (h : d < 4) : qtA.f x y (dirN d) = some (nextB x y d) := by
 rcases four h with rfl | rfl | rfl | rfl <;> simp [qtA.f, nextB, dirN]
theorem specTip_ev (x y p : Int) (d : Nat) (h : d < 4) : Ev (fun k => qT.f k x y p (d : Int)) (tipB x y p d) := by
 refine Ev.at_ 8 fun k => ?_
 have hn := specNext x y d h
 by_cases p0 : p = 0
 ·subst p0
  rcases four h with rfl | rfl | rfl | rfl <;> simp [qT.f, qT.j0, qT.j1, qT.j2, tipB]
 by_cases p1 : p = 1
 ·subst p1
  rcases four h with rfl | rfl | rfl | rfl <;> simp at hn <;> simp [qT.f, qT.j0, qT.j1, qT.j2, qT.j3, qT.j4, qT.j5, tipB, hn]
 by_cases p2 : p = 2
 ·subst p2
  rcases four h with rfl | rfl | rfl | rfl <;> simp at hn <;> simp [qT.f, qT.j0, qT.j1, qT.j2, qT.j3, qT.j4, qT.j5, tipB, hn]
 ·simp [qT.f, qT.j0, qT.j1, qT.j2, qT.j3, qT.j4, qT.j5, tipB, hn, p0, p1, p2]
theorem implTip_ev (x y p : Int) (d : Nat) (h : d < 4) : Ev (fun k => qV.f k x y p (dirN d)) (tipB x y p d) := by
 refine Ev.at_ 5 fun k => ?_
 have hn := implNext x y d h
 by_cases p0 : p = 0
 ·subst p0
  rcases four h with rfl | rfl | rfl | rfl <;> simp [qV.f, qV.j0, qV.j1, qV.j2, tipB, dirN]
 by_cases p1 : p = 1
 ·subst p1
  rcases four h with rfl | rfl | rfl | rfl <;> simp [dirN] at hn <;> simp [qV.f, qV.j0, qV.j1, qV.j2, tipB, dirN, hn, nextB]
 by_cases p2 : p = 2
 ·subst p2
  rcases four h with rfl | rfl | rfl | rfl <;> simp [dirN] at hn <;> simp [qV.f, qV.j0, qV.j1, qV.j2, tipB, dirN, hn, nextB]
 ·rcases four h with rfl | rfl | rfl | rfl <;> simp [dirN] at hn <;> simp [qV.f, qV.j0, qV.j1, qV.j2, tipB, dirN, hn, p0, p1, p2]
def canB (a : ByteArray) (t : Int × Int × Int) : Bool := boxB a t.1 t.2.1 t.2.2
theorem rollBox_ev {a : ByteArray} (g : Gnd a) (x y p : Int) (d : Nat) (h : d < 4) : Ev (fun k => qBA.f k (rowsT a) x y p (dirN d)) ((tipB x y p d).1, (tipB x y p d).2.1, (tipB x y p d).2.2, canB a (tipB x y p d)) := by
 unfold qBA.f
 exact Ev.bind (implTip_ev x y p d h) (Ev.bind (isBox_ev g _ _ _) (Ev.now _))
theorem bxRoll_ev {a : ByteArray} (g : Gnd a) (x y p : Int) (d : Nat) (h : d < 4) : Ev (fun k => qeA.f k (wideT a : Int) (highT a : Int) (numsOf (flatT a.data.toList)) x y p (d : Int)) (if canB a (tipB x y p d) = true then ((tipB x y p d).1, (tipB x y p d).2.1, (tipB x y p d).2.2, true) else (0, 0, 0, false)) := by
 unfold qeA.f
 refine Ev.bind (specTip_ev x y p d h) (Ev.bind (qsB g _ _ _) ?_)
 show Ev (fun k => if canB a (tipB x y p d) = true then _ else _) _
 cases hc : canB a (tipB x y p d) with
 | true => exact Ev.pos rfl (by rw [if_pos rfl]; exact Ev.now _)
 | false => exact Ev.neg (by decide) (by rw [if_neg (by decide)]; exact Ev.now _)
def dirsB : ByteArray := ⟨#[110, 101, 115, 119]⟩
theorem bt_dirs (d : Nat) (h : d < 4) : bt (⟨#[110, 101, 115, 119]⟩ : ByteArray) (d : Int) = dirN d := by
 rcases four h with rfl | rfl | rfl | rfl <;> decide +kernel
def dir1 (d : Nat) : ByteArray := dirsB.extract d (d + 1)
theorem qrB (d : Nat) (h : d < 4) : (dir1 d).size = 1 := by
 rcases four h with rfl | rfl | rfl | rfl <;> decide +kernel
end Go.Proofs.YtbpfhpjbeomfcaaDoor
set_option linter.unusedSectionVars false
namespace Go.Proofs.YtbpfhpjbeomfcaaDoor.Bfs
section
variable {α β : Type} [DecidableEq α]
def put (L : List (α × β)) (y : Option α) (p : β) : List (α × β) := match y with
 | none => L
 | some y => if y ∈ L.map Prod.fst then L else L ++ [(y, p)]
def puts (L : List (α × β)) : List (Option α × β) → List (α × β)
 | [] => L
 | (y, p) :: r => puts (put L y p) r
variable (next : Nat → α → β → List (Option α × β))
def round (i : Nat) (L : List (α × β)) : List (α × β) := match L[i]? with
 | none => L
 | some x => puts L (next i x.1 x.2)
def run : Nat → Nat → List (α × β) → List (α × β)
 | 0, _, L => L
 | n + 1, i, L => if i < L.length then run n (i + 1) (round next i L) else L
theorem put_met {L : List (α × β)} {y : α} (h : y ∈ L.map Prod.fst) (p : β) : put L (some y) p = L := if_pos h
theorem put_new {L : List (α × β)} {y : α} (h : ¬ y ∈ L.map Prod.fst) (p : β) : put L (some y) p = L ++ [(y, p)] := if_neg h
theorem put_prefix (L : List (α × β)) (y : Option α) (p : β) : L <+: put L y p := by
 unfold put
 split
 ·exact List.prefix_refl _
 ·split
  ·exact List.prefix_refl _
  ·exact List.prefix_append _ _
theorem puts_prefix (l : List (Option α × β)) : ∀ L : List (α × β), L <+: puts L l := by
 induction l with
 | nil => intro L; exact List.prefix_refl _
 | cons x l ih => intro L; exact (put_prefix L x.1 x.2).trans (ih _)
theorem round_prefix (i : Nat) (L : List (α × β)) : L <+: round next i L := by
 unfold round
 split
 ·exact List.prefix_refl _
 ·exact puts_prefix _ _
theorem put_nodup {L : List (α × β)} (h : (L.map Prod.fst).Nodup) (y : Option α) (p : β) : ((put L y p).map Prod.fst).Nodup := by
 unfold put
 split
 ·exact h
 ·rename_i y
  split
  ·exact h
  ·rename_i hy
   rw [List.map_append, List.nodup_append]
   refine ⟨h, by simp, ?_⟩
   intro a ha b hb e
   simp at hb
   subst hb
   subst e
   exact hy ha
theorem puts_nodup (l : List (Option α × β)) : ∀ {L : List (α × β)}, (L.map Prod.fst).Nodup → ((puts L l).map Prod.fst).Nodup := by
 induction l with
 | nil => intro L h; exact h
 | cons x l ih => intro L h; exact ih (put_nodup h _ _)
theorem round_nodup {L : List (α × β)} (h : (L.map Prod.fst).Nodup) (i : Nat) : ((round next i L).map Prod.fst).Nodup := by
 unfold round
 split
 ·exact h
 ·exact puts_nodup _ h
theorem run_nodup : ∀ (n i : Nat) {L : List (α × β)}, (L.map Prod.fst).Nodup → ((run next n i L).map Prod.fst).Nodup
 | 0, _, L, h => h
 | n + 1, i, L, h => by
  unfold run
  split
  ·exact run_nodup n (i + 1) (round_nodup next h i)
  ·exact h
theorem put_all {Q : α × β → Prop} {L : List (α × β)} (h : ∀ x ∈ L, Q x) (y : Option α) (p : β) (hy : ∀ z, y = some z → Q (z, p)) : ∀ x ∈ put L y p, Q x := by
 unfold put
 split
 ·exact h
 ·rename_i z
  split
  ·exact h
  ·intro x hx
   rcases List.mem_append.1 hx with hx | hx
   ·exact h x hx
   ·simp at hx; subst hx; exact hy z rfl
theorem qhB {Q : α × β → Prop} : ∀ (l : List (Option α × β)) {L : List (α × β)}, (∀ x ∈ L, Q x) → (∀ s ∈ l, ∀ z, s.1 = some z → Q (z, s.2)) → ∀ x ∈ puts L l, Q x
 | [], L, h, _ => h
 | s :: l, L, h, hs => qhB l (put_all h s.1 s.2 (hs s (by simp))) (fun t ht => hs t (by simp [ht]))
theorem round_all {Q : α × β → Prop} (hn : ∀ i x p, Q (x, p) → ∀ s ∈ next i x p, ∀ z, s.1 = some z → Q (z, s.2)) (i : Nat) {L : List (α × β)} (h : ∀ x ∈ L, Q x) : ∀ x ∈ round next i L, Q x := by
 unfold round
 split
 ·exact h
 ·rename_i x hx
  exact qhB _ h (hn i x.1 x.2 (h x (List.mem_of_getElem? hx)))
theorem run_all {Q : α × β → Prop} (hn : ∀ i x p, Q (x, p) → ∀ s ∈ next i x p, ∀ z, s.1 = some z → Q (z, s.2)) : ∀ (n i : Nat) {L : List (α × β)}, (∀ x ∈ L, Q x) → ∀ x ∈ run next n i L, Q x
 | 0, _, L, h => h
 | n + 1, i, L, h => by
  unfold run
  split
  ·exact run_all hn n (i + 1) (round_all next hn i h)
  ·exact h
theorem nodup_len {U : List α} : ∀ {l : List α}, l.Nodup → (∀ x ∈ l, x ∈ U) → l.length ≤ U.length := by
 intro l
 induction l generalizing U with
 | nil => intro _ _; simp
 | cons a l ih =>
  intro hn hu
  obtain ⟨h1, h2⟩ := List.nodup_cons.1 hn
  have ha : a ∈ U := hu a (by simp)
  have := ih (U := U.erase a) h2 (fun x hx => by
   have hne : x ≠ a := fun e => h1 (e ▸ hx)
   exact (List.mem_erase_of_ne hne).2 (hu x (by simp [hx])))
  rw [List.length_erase_of_mem ha] at this
  have : 0 < U.length := List.length_pos_of_mem ha
  simp only [List.length_cons]
  omega
end
section
variable {α β : Type} [DecidableEq α] (next : Nat → α → β → List (Option α × β)) (far : β → Nat)
structure Layers (i : Nat) (L : List (α × β)) : Prop where
 rise : L.Pairwise (fun x y => far x.2 ≤ far y.2)
 near : ∀ x, L[i]? = some x → ∀ y ∈ L, far y.2 ≤ far x.2 + 1
theorem put_layers {i : Nat} {L : List (α × β)} (h : Layers far i L) {x : α × β} (hx : L[i]? = some x) (y : Option α) (p : β) (hp : y.isSome → far p = far x.2 + 1) : Layers far i (put L y p) ∧ (put L y p)[i]? = some x := by
 unfold put
 split
 ·exact ⟨h, hx⟩
 ·rename_i z
  split
  ·exact ⟨h, hx⟩
  ·have hi := (List.getElem?_eq_some_iff.1 hx).1
   have e := hp rfl
   have hg : (L ++ [(z, p)])[i]? = some x := by rw [List.getElem?_append_left hi]; exact hx
   refine ⟨⟨?_, ?_⟩, hg⟩
   ·rw [List.pairwise_append]
    refine ⟨h.rise, by simp, ?_⟩
    intro a ha b hb
    simp at hb
    subst hb
    have := h.near x hx a ha
    simp only
    omega
   ·intro x' hx' y hy
    rw [hg] at hx'
    cases hx'
    rcases List.mem_append.1 hy with hy | hy
    ·exact h.near x hx y hy
    ·simp at hy; subst hy; simp only; omega
theorem puts_layers {i : Nat} : ∀ (l : List (Option α × β)) {L : List (α × β)}, Layers far i L → ∀ {x : α × β}, L[i]? = some x → (∀ s ∈ l, s.1.isSome → far s.2 = far x.2 + 1) → Layers far i (puts L l)
 | [], L, h, _, _, _ => h
 | s :: l, L, h, x, hx, hs => by
  obtain ⟨h1, h2⟩ := put_layers far h hx s.1 s.2 (hs s (by simp))
  exact puts_layers l h1 h2 (fun t ht => hs t (by simp [ht]))
theorem layers_next {i : Nat} {L : List (α × β)} (h : Layers far i L) : Layers far (i + 1) L := by
 refine ⟨h.rise, fun x hx y hy => ?_⟩
 obtain ⟨hi, e⟩ := List.getElem?_eq_some_iff.1 hx
 have h0 : L[i]? = some (L[i]'(by omega)) := List.getElem?_eq_getElem _
 have h1 := h.near _ h0 y hy
 have h2 := (List.pairwise_iff_getElem.1 h.rise) i (i + 1) (by omega) hi (by omega)
 rw [e] at h2
 omega
theorem round_layers (hn : ∀ i x p, ∀ s ∈ next i x p, s.1.isSome → far s.2 = far p + 1) {i : Nat} {L : List (α × β)} (h : Layers far i L) : Layers far (i + 1) (round next i L) := by
 apply layers_next
 unfold round
 split
 ·exact h
 ·rename_i x hx
  exact puts_layers far _ h hx (hn i x.1 x.2)
theorem run_layers (hn : ∀ i x p, ∀ s ∈ next i x p, s.1.isSome → far s.2 = far p + 1) : ∀ (n i : Nat) {L : List (α × β)}, Layers far i L → (run next n i L).Pairwise (fun x y => far x.2 ≤ far y.2)
 | 0, _, L, h => h.rise
 | n + 1, i, L, h => by
  unfold run
  split
  ·exact run_layers hn n (i + 1) (round_layers next far hn h)
  ·exact h.rise
theorem layers_start (x : α) (p : β) : Layers far 0 [(x, p)] := ⟨by simp, fun y hy z hz => by simp at hy hz; subst hy; subst hz; omega⟩
end
end Go.Proofs.YtbpfhpjbeomfcaaDoor.Bfs
namespace Go.Proofs.YtbpfhpjbeomfcaaDoor.Sorts
section
variable {α : Type}
variable {lt : α → α → Bool}
theorem one {l l' : List α} (h : l.Pairwise (fun a b => lt b a = false)) (h' : l'.Pairwise (fun a b => lt b a = false)) (hp : l.Perm l') (ha : ∀ a ∈ l, ∀ b ∈ l, lt a b = false → lt b a = false → a = b) : l = l' :=
 List.Perm.eq_of_pairwise (le := fun a b => lt b a = false) (fun a b h1 h2 h3 h4 => ha a h1 b (hp.mem_iff.2 h2) h4 h3) h h' hp
end
theorem qdB {α : Type} {L : List α} {i : Nat} {c : α} {cs : List α} (h : L.drop i = c :: cs) : ∃ hi : i < L.length, L[i] = c ∧ L.drop (i + 1) = cs := by
 have hi : i < L.length := by
  rcases Nat.lt_or_ge i L.length with h1 | h1
  ·exact h1
  ·rw [List.drop_eq_nil_of_le h1] at h; cases h
 rw [List.drop_eq_getElem_cons hi] at h
 injection h with h1 h2
 exact ⟨hi, h1, h2⟩
theorem qqB {α : Type} {L : List α} {i : Nat} (h : L.drop i = []) : L.length ≤ i := by
 rcases Nat.lt_or_ge i L.length with h1 | h1
 ·rw [List.drop_eq_getElem_cons h1] at h; cases h
 ·exact h1
end Go.Proofs.YtbpfhpjbeomfcaaDoor.Sorts
namespace Go.Proofs.YtbpfhpjbeomfcaaDoor
open Go.RowKit Go.Proofs.YtbpfhpjbeomfcaaDoor.P Go.Proofs.YtbpfhpjbeomfcaaDoorW.PrintWords Go.Proofs.YtbpfhpjbeomfcaaDoorW.PrintLast
set_option linter.unusedVariables false
set_option linter.unusedSimpArgs false
abbrev BX' := S27
theorem qKC {a b : BX'} (h0 : a.f0 = b.f0) (h1 : a.f1 = b.f1) (h2 : a.f2 = b.f2) : a = b := by
 cases a; cases b; simp only at h0 h1 h2; subst h0; subst h1; subst h2; rfl
instance bxDec : DecidableEq BX' := fun a b =>
 if h : a.f0 = b.f0 ∧ a.f1 = b.f1 ∧ a.f2 = b.f2 then isTrue (qKC h.1 h.2.1 h.2.2) else isFalse (fun e => h (by subst e; exact ⟨rfl, rfl, rfl⟩))
def mkX (t : Int × Int × Int) : BX' := ⟨t.1, t.2.1, t.2.2⟩
abbrev tipX (b : BX') (d : Nat) : Int × Int × Int := tipB b.f0 b.f1 b.f2 d
def goodX (a : ByteArray) (b : BX') : Bool := boxB a b.f0 b.f1 b.f2
def stepsB (a : ByteArray) (b : BX') (w : ByteArray) : Nat → Nat → List (Option BX' × ByteArray)
 | 0, _ => []
 | n + 1, d => (if canB a (tipX b d) = true then some (mkX (tipX b d)) else none, w ++ dir1 d) :: stepsB a b w n (d + 1)
def nextX (a : ByteArray) (_ : Nat) (b : BX') (w : ByteArray) : List (Option BX' × ByteArray) := stepsB a b w 4 0
def places : List BX' := (List.range 7).flatMap fun (x : Nat) => (List.range 7).flatMap fun (y : Nat) => (List.range 3).map fun (p : Nat) => (⟨(x : Int), (y : Int), (p : Int)⟩ : BX')
theorem places_len : places.length = 147 := by decide +kernel
theorem mem_places {b : BX'} (h0 : 0 ≤ b.f0 ∧ b.f0 < 7) (h1 : 0 ≤ b.f1 ∧ b.f1 < 7) (h2 : 0 ≤ b.f2 ∧ b.f2 < 3) : b ∈ places := by
 obtain ⟨x, y, p⟩ := b
 simp only at h0 h1 h2
 obtain ⟨x, rfl⟩ := Int.eq_ofNat_of_zero_le h0.1
 obtain ⟨y, rfl⟩ := Int.eq_ofNat_of_zero_le h1.1
 obtain ⟨p, rfl⟩ := Int.eq_ofNat_of_zero_le h2.1
 unfold places
 rw [List.mem_flatMap]
 refine ⟨x, List.mem_range.2 (by omega), ?_⟩
 rw [List.mem_flatMap]
 refine ⟨y, List.mem_range.2 (by omega), ?_⟩
 rw [List.mem_map]
 exact ⟨p, List.mem_range.2 (by omega), rfl⟩
theorem good_place {a : ByteArray} (g : Gnd a) {b : BX'} (h : goodX a b = true) : b ∈ places := by
 have g1 := g.w7
 have g2 := g.h7
 obtain ⟨⟨h1, h2⟩, h3, h4⟩ := (qjB a _ _).1 (qxB h)
 have h5 : 0 ≤ b.f2 ∧ b.f2 ≤ 2 := by
  unfold goodX boxB at h
  simp only [Bool.and_eq_true, decide_eq_true_eq] at h
  exact h.1.1
 exact mem_places (by omega) (by omega) (by omega)
theorem qlB (a : ByteArray) (b : BX') (w : ByteArray) : ∀ (n d : Nat), d + n = 4 → ∀ s ∈ stepsB a b w n d, s.2.size = w.size + 1
 | 0, _, _, s, hs => by cases hs
 | n + 1, d, hd, s, hs => by
  rcases List.mem_cons.1 hs with rfl | hs
  ·show (w ++ dir1 d).size = _
   rw [ByteArray.size_append, qrB d (by omega)]
  ·exact qlB a b w n (d + 1) (by omega) s hs
theorem qcB (a : ByteArray) (b : BX') (w : ByteArray) : ∀ (n d : Nat), ∀ s ∈ stepsB a b w n d, ∀ z, s.1 = some z → goodX a z = true
 | 0, _, s, hs, z, hz => by cases hs
 | n + 1, d, s, hs, z, hz => by
  rcases List.mem_cons.1 hs with rfl | hs
  ·simp only at hz
   split at hz
   ·rename_i hc
    cases hz
    exact hc
   ·cases hz
  ·exact qcB a b w n (d + 1) s hs z hz
structure Found (a : ByteArray) (L : List (BX' × ByteArray)) : Prop where
 nodup : (L.map Prod.fst).Nodup
 good : ∀ x ∈ L, goodX a x.1 = true
theorem Found.len {a : ByteArray} (g : Gnd a) {L : List (BX' × ByteArray)} (h : Found a L) : L.length ≤ 147 := by
 have := Bfs.nodup_len (U := places) h.nodup (fun x hx => by
  obtain ⟨y, hy, rfl⟩ := List.mem_map.1 hx
  exact good_place g (h.good y hy))
 rw [places_len, List.length_map] at this
 exact this
theorem Found.put {a : ByteArray} {L : List (BX' × ByteArray)} (h : Found a L) (y : Option BX') (p : ByteArray) (hy : ∀ z, y = some z → goodX a z = true) : Found a (Bfs.put L y p) :=
 ⟨Bfs.put_nodup h.nodup y p, Bfs.put_all (Q := fun x => goodX a x.1 = true) h.good y p hy⟩
theorem Found.puts {a : ByteArray} {L : List (BX' × ByteArray)} (h : Found a L) (l : List (Option BX' × ByteArray)) (hl : ∀ s ∈ l, ∀ z, s.1 = some z → goodX a z = true) : Found a (Bfs.puts L l) :=
 ⟨Bfs.puts_nodup l h.nodup, Bfs.qhB (Q := fun x => goodX a x.1 = true) l h.good hl⟩
theorem Found.round {a : ByteArray} {L : List (BX' × ByteArray)} (h : Found a L) (i : Nat) : Found a (Bfs.round (nextX a) i L) :=
 ⟨Bfs.round_nodup _ h.nodup i, Bfs.round_all (nextX a) (Q := fun x => goodX a x.1 = true) (fun i x p _ s hs z hz => qcB a x p 4 0 s hs z hz) i h.good⟩
theorem Found.run {a : ByteArray} {L : List (BX' × ByteArray)} (h : Found a L) (n i : Nat) : Found a (Bfs.run (nextX a) n i L) :=
 ⟨Bfs.run_nodup _ n i h.nodup, Bfs.run_all (nextX a) (Q := fun x => goodX a x.1 = true) (fun i x p _ s hs z hz => qcB a x p 4 0 s hs z hz) n i h.good⟩
theorem rdX (l : List BX') (t : BX') (i : Nat) (h : l[i]? = some t) : qQ l (i : Int) = t := by
 unfold qQ
 rw [Int.toNat_natCast, List.getD_eq_getElem?_getD, h]; rfl
theorem rdW (l : List ByteArray) (t : ByteArray) (i : Nat) (h : l[i]? = some t) : rdOf ByteArray.empty l (i : Int) = t := by
 unfold rdOf
 rw [Int.toNat_natCast, List.getD_eq_getElem?_getD, h]; rfl
abbrev bxs (L : List (BX' × ByteArray)) : List BX' := L.map Prod.fst
abbrev wds (L : List (BX' × ByteArray)) : List ByteArray := L.map Prod.snd
theorem put_get {L : List (BX' × ByteArray)} {i : Nat} {x : BX' × ByteArray} (h : L[i]? = some x) (y : Option BX') (p : ByteArray) : (Bfs.put L y p)[i]? = some x := by
 obtain ⟨t, ht⟩ := Bfs.put_prefix L y p
 rw [← ht, List.getElem?_append_left (List.getElem?_eq_some_iff.1 h).1]
 exact h
theorem spec_found (csN : List Int) (W H at_ d : Int) (B : List BX') (hB : B.length ≤ 147) (ws : List ByteArray) (z : BX') (R : List BX' × List ByteArray × Bool) :
  ∀ (l : List BX') (j : Nat) (f : Bool), B.drop j = l → j ≤ B.length →
   (∀ f', (f' = (f || decide (z ∈ l))) → Ev (fun k => qX.l2 k at_ d f' B (B.length : Int) (B.length : Int) W H csN B ws z.f0 z.f1 z.f2) R) →
   Ev (fun k => qX.l2 k at_ d f B (B.length : Int) (j : Int) W H csN B ws z.f0 z.f1 z.f2) R
 | [], j, f, hd, hj, h => by
  have := Sorts.qqB hd
  obtain rfl : j = B.length := by omega
  exact h f (by simp)
 | b :: l, j, f, hd, hj, h => by
  obtain ⟨hlt, hc, hd'⟩ := Sorts.qdB hd
  have e := rdX B b j (by rw [← hc]; exact List.getElem?_eq_getElem hlt)
  have ih := fun f' hf => spec_found csN W H at_ d B hB ws z R l (j + 1) f' hd' (by omega) hf
  have w : wrap64 ((j : Int) + 1) = ((j + 1 : Nat) : Int) := by unfold wrap64; omega
  clear hd hd' hc
  refine Ev.step (f := fun k => _) (fun k => by rw [qX.l2]) ?_
  rw [w, e]
  refine Ev.pos (by omega) (Ev.pos (by omega) (Ev.pos (by omega) ?_))
  cases f with
  | true =>
   refine Ev.pos rfl (ih true fun f' hf => h f' ?_)
   rw [hf]; rfl
  | false =>
   refine Ev.neg (by decide) ?_
   have hq : (b.f0 == z.f0 && (b.f1 == z.f1 && b.f2 == z.f2)) = decide (z = b) := by
    by_cases hzb : z = b
    ·subst hzb; simp
    ·rw [decide_eq_false hzb]
     cases hx : (b.f0 == z.f0 && (b.f1 == z.f1 && b.f2 == z.f2)) with
     | false => rfl
     | true =>
      simp only [Bool.and_eq_true, beq_iff_eq] at hx
      exact absurd (qKC hx.1.symm hx.2.1.symm hx.2.2.symm) hzb
   rw [hq]
   refine ih _ fun f' hf => h f' ?_
   rw [hf, Bool.false_or]
   by_cases hzb : z = b
   ·subst hzb; simp
   ·simp [hzb]
theorem qUB {a : ByteArray} (g : Gnd a) (at_ : Nat) (R : List BX' × List ByteArray × Bool) : ∀ (n d : Nat) (L : List (BX' × ByteArray)) (b : BX') (w : ByteArray), d + n = 4 → L[at_]? = some (b, w) → Found a L → w.size ≤ 147 →
  (Ev (fun k => qX.l0 k ((at_ + 1 : Nat) : Int) (wideT a : Int) (highT a : Int) (numsOf (flatT a.data.toList)) (bxs (Bfs.puts L (stepsB a b w n d))) (wds (Bfs.puts L (stepsB a b w n d)))) R) →
  Ev (fun k => qX.l1 k (at_ : Int) (d : Int) (wideT a : Int) (highT a : Int) (numsOf (flatT a.data.toList)) (bxs L) (wds L)) R
 | 0, d, L, b, w, hd, hat, hF, hw, h => by
  have hl := hF.len g
  have hlt := (List.getElem?_eq_some_iff.1 hat).1
  have w1 : wrap64 ((at_ : Int) + 1) = ((at_ + 1 : Nat) : Int) := by unfold wrap64; omega
  refine Ev.step (f := fun k => _) (fun k => by rw [qX.l1]) ?_
  rw [w1]
  refine Ev.neg (by omega) (Ev.neg (by rw [List.length_map]; omega) h)
 | n + 1, d, L, b, w, hd, hat, hF, hw, h => by
  have hl := hF.len g
  have hlt := (List.getElem?_eq_some_iff.1 hat).1
  have w1 : wrap64 ((d : Int) + 1) = ((d + 1 : Nat) : Int) := by unfold wrap64; omega
  have eb := rdX (bxs L) b at_ (by rw [List.getElem?_map, hat]; rfl)
  have ew := rdW (wds L) w at_ (by rw [List.getElem?_map, hat]; rfl)
  have hr := bxRoll_ev g b.f0 b.f1 b.f2 d (by omega)
  have h1 := qrB d (by omega)
  refine Ev.step (f := fun k => _) (fun k => by rw [qX.l1]) ?_
  rw [w1, eb]
  refine Ev.pos (by omega) (Ev.pos (by omega) (Ev.pos (by rw [List.length_map]; omega) (Ev.bind hr ?_)))
  rw [stepsB] at h
  have hp := fun y hy => hF.put (a := a) y (w ++ dir1 d) hy
  cases hc : canB a (tipX b d) with
  | false =>
   rw [if_neg (by decide)]
   rw [hc, if_neg (by decide)] at h
   refine Ev.neg (by decide) ?_
   exact qUB g at_ R n (d + 1) L b w (by omega) hat hF hw h
  | true =>
   rw [if_pos rfl]
   rw [hc, if_pos rfl] at h
   refine Ev.pos rfl ?_
   show Ev (fun k => qX.l2 k (at_ : Int) (d : Int) false (bxs L) ((bxs L).length : Int) ((0 : Nat) : Int) (wideT a : Int) (highT a : Int) (numsOf (flatT a.data.toList)) (bxs L) (wds L) (mkX (tipX b d)).f0 (mkX (tipX b d)).f1 (mkX (tipX b d)).f2) R
   refine spec_found _ _ _ _ _ (bxs L) (by rw [List.length_map]; exact hl) (wds L) (mkX (tipX b d)) R (bxs L) 0 false rfl (by omega) fun f' hf => ?_
   rw [Bool.false_or] at hf
   refine Ev.step (f := fun k => _) (fun k => by rw [qX.l2]) ?_
   rw [w1, ew]
   refine Ev.neg (by omega) ?_
   by_cases hm : mkX (tipX b d) ∈ bxs L
   ·rw [decide_eq_true hm] at hf
    subst hf
    have e : Bfs.put L (some (mkX (tipX b d))) (w ++ dir1 d) = L := Bfs.put_met hm _
    rw [Bfs.puts, e] at h
    exact Ev.pos rfl (qUB g at_ R n (d + 1) L b w (by omega) hat hF hw h)
   ·rw [decide_eq_false hm] at hf
    subst hf
    have e : Bfs.put L (some (mkX (tipX b d))) (w ++ dir1 d) = L ++ [(mkX (tipX b d), w ++ dir1 d)] := Bfs.put_new hm _
    have hF2 := hp (some (mkX (tipX b d))) (fun z hz => by cases hz; exact hc)
    have hg2 := put_get hat (some (mkX (tipX b d))) (w ++ dir1 d)
    rw [Bfs.puts, e] at h
    rw [e] at hF2 hg2
    refine Ev.neg (by decide) (Ev.pos (by rw [List.length_map]; omega) (Ev.pos (by omega) (Ev.pos (by rw [List.length_map]; omega) (Ev.bindc (show qoA.f = some dirsB from rfl) (Ev.pos (by omega) (Ev.pos (by omega) (Ev.pos (by rw [show dirsB.size = 4 from rfl]; omega) ?_)))))))
    rw [Int.toNat_natCast, Int.toNat_natCast]
    refine Ev.pos (by show w.size + (dir1 d).size ≤ _; omega) (Ev.pos (by rw [List.length_map]; omega) ?_)
    have := qUB g at_ R n (d + 1) (L ++ [(mkX (tipX b d), w ++ dir1 d)]) b w (by omega) hg2 hF2 hw h
    rw [show bxs (L ++ [(mkX (tipX b d), w ++ dir1 d)]) = bxs L ++ [mkX (tipX b d)] by simp [bxs], show wds (L ++ [(mkX (tipX b d), w ++ dir1 d)]) = wds L ++ [w ++ dir1 d] by simp [wds]] at this
    exact this
def Short (L : List (BX' × ByteArray)) (n : Nat) : Prop := ∀ x ∈ L, x.2.size ≤ n
theorem Short.round {a : ByteArray} {L : List (BX' × ByteArray)} {i : Nat} (h : Short L i) : Short (Bfs.round (nextX a) i L) (i + 1) := by
 unfold Bfs.round
 split
 ·exact fun x hx => Nat.le_succ_of_le (h x hx)
 ·rename_i x hx
  have hxs := h x (List.mem_of_getElem? hx)
  refine Bfs.qhB (Q := fun y => y.2.size ≤ i + 1) _ (fun y hy => Nat.le_succ_of_le (h y hy)) ?_
  intro s hs z hz
  have := qlB a x.1 x.2 4 0 rfl s hs
  show s.2.size ≤ _
  omega
theorem qfB {a : ByteArray} {L : List (BX' × ByteArray)} {i : Nat} {b : BX'} {w : ByteArray} (h : L[i]? = some (b, w)) : Bfs.round (nextX a) i L = Bfs.puts L (stepsB a b w 4 0) := by
 unfold Bfs.round; rw [h]; rfl
theorem spec_run {a : ByteArray} (g : Gnd a) : ∀ (n i : Nat) (L : List (BX' × ByteArray)), Found a L → Short L i → i ≤ L.length → 147 ≤ i + n →
  Ev (fun k => qX.l0 k (i : Int) (wideT a : Int) (highT a : Int) (numsOf (flatT a.data.toList)) (bxs L) (wds L)) (bxs (Bfs.run (nextX a) n i L), wds (Bfs.run (nextX a) n i L), true)
 | 0, i, L, hF, hS, hi, hn => by
  have hl := hF.len g
  refine Ev.step (f := fun k => _) (fun k => by rw [qX.l0]) ?_
  exact Ev.neg (by rw [List.length_map]; omega) (Ev.now _)
 | n + 1, i, L, hF, hS, hi, hn => by
  have hl := hF.len g
  refine Ev.step (f := fun k => _) (fun k => by rw [qX.l0]) ?_
  rw [Bfs.run]
  by_cases hlt : i < L.length
  ·rw [if_pos hlt]
   refine Ev.pos (by rw [List.length_map]; omega) ?_
   have hat : L[i]? = some (L[i].1, L[i].2) := List.getElem?_eq_getElem hlt
   have ih := spec_run g n (i + 1) (Bfs.round (nextX a) i L) (hF.round i) hS.round (by have := (Bfs.round_prefix (nextX a) i L).length_le; omega) (by omega)
   rw [qfB hat] at ih
   rw [qfB hat]
   exact qUB g i _ 4 0 L _ _ rfl hat hF (by have := hS _ (List.getElem_mem hlt); omega) ih
  ·rw [if_neg hlt]
   exact Ev.neg (by rw [List.length_map]; omega) (Ev.now _)
def reachX (a : ByteArray) (x y p : Int) : List (BX' × ByteArray) := Bfs.run (nextX a) 147 0 [(⟨x, y, p⟩, ⟨#[]⟩)]
theorem qSB {a : ByteArray} {x y p : Int} (h : boxB a x y p = true) : Found a [(⟨x, y, p⟩, ⟨#[]⟩)] := ⟨by simp, fun z hz => by rw [List.mem_singleton] at hz; subst hz; exact h⟩
theorem short_start (b : BX') : Short [(b, (⟨#[]⟩ : ByteArray))] 0 := fun z hz => by rw [List.mem_singleton] at hz; subst hz; exact Nat.le_refl _
theorem qDC {a : ByteArray} {x y p : Int} (h : askB a x y p = true) : boxB a x y p = true := by
 unfold askB at h
 rw [Bool.and_eq_true] at h
 exact h.2
theorem bxReached_ev (a : ByteArray) (x y p : Int) : ∃ (w h : Int) (cs : List Int), Ev (fun k => qYA.f k a x y p) (if askB a x y p = true then (w, h, cs, bxs (reachX a x y p), wds (reachX a x y p), true) else (w, h, cs, [], [], false)) ∧ (askB a x y p = true → w = (wideT a : Int) ∧ h = (highT a : Int) ∧ cs = numsOf (flatT a.data.toList)) := by
 obtain ⟨w, h, cs, h2, hs⟩ := bxAsked_ev a x y p
 refine ⟨w, h, cs, ?_, hs⟩
 unfold qYA.f
 refine Ev.bind h2 ?_
 cases hb : askB a x y p with
 | false =>
  rw [if_neg (by decide)]
  exact Ev.neg (by simp) (Ev.now _)
 | true =>
  obtain ⟨rfl, rfl, rfl⟩ := hs hb
  rw [if_pos rfl]
  refine Ev.pos rfl ?_
  have := spec_run (quB (qyA hb)) 147 0 [(⟨x, y, p⟩, ⟨#[]⟩)] (qSB (qDC hb)) (short_start _) (by simp) (by omega)
  unfold qX.f
  exact Ev.bind this (Ev.now _)
theorem impl_index (z : BX') (B : List BX') (hB : B.length ≤ 147) : ∀ (l : List BX') (j : Nat), B.drop j = l → j ≤ B.length → ∃ r : Int, Ev (fun k => qb.l0 k B (B.length : Int) (j : Int) z.f0 z.f1 z.f2) r ∧ (decide (r ≥ 0) = decide (z ∈ l))
 | [], j, hd, hj => by
  have := Sorts.qqB hd
  refine ⟨-1, Ev.step (f := fun k => _) (fun k => by rw [qb.l0]) ?_, by simp⟩
  exact Ev.neg (by omega) (Ev.now _)
 | b :: l, j, hd, hj => by
  obtain ⟨hlt, hc, hd'⟩ := Sorts.qdB hd
  have e := rdX B b j (by rw [← hc]; exact List.getElem?_eq_getElem hlt)
  obtain ⟨r, h1, h2⟩ := impl_index z B hB l (j + 1) hd' (by omega)
  have w : wrap64 ((j : Int) + 1) = ((j + 1 : Nat) : Int) := by unfold wrap64; omega
  clear hd hd' hc
  by_cases hzb : z = b
  ·subst hzb
   refine ⟨(j : Int), Ev.step (f := fun k => _) (fun k => by rw [qb.l0]) ?_, ?_⟩
   ·rw [w, e]
    exact Ev.pos (by omega) (Ev.pos (by omega) (Ev.pos (by omega) (Ev.pos (by simp) (Ev.now _))))
   ·rw [decide_eq_true (by omega), decide_eq_true (by simp)]
  ·refine ⟨r, Ev.step (f := fun k => _) (fun k => by rw [qb.l0]) ?_, ?_⟩
   ·rw [w, e]
    refine Ev.pos (by omega) (Ev.pos (by omega) (Ev.pos (by omega) (Ev.neg ?_ h1)))
    intro hx
    simp only [Bool.and_eq_true, beq_iff_eq] at hx
    exact hzb (qKC hx.1 hx.2.1 hx.2.2)
   ·rw [h2]
    simp [hzb]
theorem impl_contains (z : BX') (B : List BX') (hB : B.length ≤ 147) : Ev (fun k => qk.f k B z.f0 z.f1 z.f2) (decide (z ∈ B)) := by
 obtain ⟨r, h1, h2⟩ := impl_index z B hB B 0 rfl (by omega)
 unfold qk.f qb.f
 exact Ev.bind h1 (Ev.some_ h2)
theorem qYB {a : ByteArray} (g : Gnd a) (at_ : Nat) (R : List BX' × List ByteArray × Bool) : ∀ (n d : Nat) (L : List (BX' × ByteArray)) (b : BX') (w : ByteArray), d + n = 4 → L[at_]? = some (b, w) → Found a L → w.size ≤ 147 →
  (Ev (fun k => qO.l0 k (bxs (Bfs.puts L (stepsB a b w n d))) (wds (Bfs.puts L (stepsB a b w n d))) ((at_ + 1 : Nat) : Int) (rowsT a)) R) →
  Ev (fun k => qO.l1 k (bxs L) (wds L) (at_ : Int) (rowsT a) (d : Int)) R
 | 0, d, L, b, w, hd, hat, hF, hw, h => by
  have hl := hF.len g
  have hlt := (List.getElem?_eq_some_iff.1 hat).1
  have w1 : wrap64 ((at_ : Int) + 1) = ((at_ + 1 : Nat) : Int) := by unfold wrap64; omega
  refine Ev.step (f := fun k => _) (fun k => by rw [qO.l1]) ?_
  rw [w1]
  exact Ev.neg (by omega) h
 | n + 1, d, L, b, w, hd, hat, hF, hw, h => by
  have hl := hF.len g
  have hlt := (List.getElem?_eq_some_iff.1 hat).1
  have w1 : wrap64 ((d : Int) + 1) = ((d + 1 : Nat) : Int) := by unfold wrap64; omega
  have eb := rdX (bxs L) b at_ (by rw [List.getElem?_map, hat]; rfl)
  have ew := rdW (wds L) w at_ (by rw [List.getElem?_map, hat]; rfl)
  have hr := rollBox_ev g b.f0 b.f1 b.f2 d (by omega)
  have h1 := qrB d (by omega)
  refine Ev.step (f := fun k => _) (fun k => by rw [qO.l1]) ?_
  rw [w1, eb, bt_dirs d (by omega), ew]
  refine Ev.pos (by omega) (Ev.pos (by omega) (Ev.pos (by rw [List.length_map]; omega) (Ev.pos (by omega) (Ev.bind hr ?_))))
  rw [stepsB] at h
  have hp := fun y hy => hF.put (a := a) y (w ++ dir1 d) hy
  cases hc : canB a (tipX b d) with
  | false =>
   rw [hc, if_neg (by decide)] at h
   refine Ev.neg (by simp) ?_
   exact qYB g at_ R n (d + 1) L b w (by omega) hat hF hw h
  | true =>
   rw [hc, if_pos rfl] at h
   refine Ev.pos rfl ?_
   refine Ev.bind (impl_contains (mkX (tipX b d)) (bxs L) (by rw [List.length_map]; exact hl)) ?_
   by_cases hm : mkX (tipX b d) ∈ bxs L
   ·rw [decide_eq_true hm]
    have e : Bfs.put L (some (mkX (tipX b d))) (w ++ dir1 d) = L := Bfs.put_met hm _
    rw [Bfs.puts, e] at h
    exact Ev.pos rfl (qYB g at_ R n (d + 1) L b w (by omega) hat hF hw h)
   ·rw [decide_eq_false hm]
    have e : Bfs.put L (some (mkX (tipX b d))) (w ++ dir1 d) = L ++ [(mkX (tipX b d), w ++ dir1 d)] := Bfs.put_new hm _
    have hF2 := hp (some (mkX (tipX b d))) (fun z hz => by cases hz; exact hc)
    have hg2 := put_get hat (some (mkX (tipX b d))) (w ++ dir1 d)
    rw [Bfs.puts, e] at h
    rw [e] at hF2 hg2
    refine Ev.neg (by decide) (Ev.bindc rfl (Ev.pos (by rw [List.length_map, List.length_singleton]; omega) (Ev.pos (by rw [List.length_map]; omega) (Ev.pos (by omega) (Ev.pos (by omega) ?_)))))
    rw [Int.toNat_natCast, Int.toNat_natCast]
    refine Ev.pos (by show w.size + (dir1 d).size ≤ _; omega) (Ev.bindc rfl (Ev.pos (by rw [List.length_map, List.length_singleton]; omega) ?_))
    have := qYB g at_ R n (d + 1) (L ++ [(mkX (tipX b d), w ++ dir1 d)]) b w (by omega) hg2 hF2 hw h
    rw [show bxs (L ++ [(mkX (tipX b d), w ++ dir1 d)]) = bxs L ++ [mkX (tipX b d)] by simp [bxs], show wds (L ++ [(mkX (tipX b d), w ++ dir1 d)]) = wds L ++ [w ++ dir1 d] by simp [wds]] at this
    exact this
theorem impl_run {a : ByteArray} (g : Gnd a) : ∀ (n i : Nat) (L : List (BX' × ByteArray)), Found a L → Short L i → i ≤ L.length → 147 ≤ i + n →
  Ev (fun k => qO.l0 k (bxs L) (wds L) (i : Int) (rowsT a)) (bxs (Bfs.run (nextX a) n i L), wds (Bfs.run (nextX a) n i L), true)
 | 0, i, L, hF, hS, hi, hn => by
  have hl := hF.len g
  refine Ev.step (f := fun k => _) (fun k => by rw [qO.l0]) ?_
  refine Ev.neg (by rw [List.length_map]; omega) (Ev.some_ ?_)
  rw [decide_eq_true (by rw [List.length_map]; omega)]; rfl
 | n + 1, i, L, hF, hS, hi, hn => by
  have hl := hF.len g
  refine Ev.step (f := fun k => _) (fun k => by rw [qO.l0]) ?_
  rw [Bfs.run]
  by_cases hlt : i < L.length
  ·rw [if_pos hlt]
   refine Ev.pos (by rw [List.length_map]; omega) ?_
   have hat : L[i]? = some (L[i].1, L[i].2) := List.getElem?_eq_getElem hlt
   have ih := impl_run g n (i + 1) (Bfs.round (nextX a) i L) (hF.round i) hS.round (by have := (Bfs.round_prefix (nextX a) i L).length_le; omega) (by omega)
   rw [qfB hat] at ih
   rw [qfB hat]
   exact qYB g i _ 4 0 L _ _ rfl hat hF (by have := hS _ (List.getElem_mem hlt); omega) ih
  ·rw [if_neg hlt]
   refine Ev.neg (by rw [List.length_map]; omega) (Ev.some_ ?_)
   rw [decide_eq_true (by rw [List.length_map]; omega)]
theorem boxWords_ev (a : ByteArray) (x y p : Int) (ha : a.size ≤ 1048576) : Ev (fun k => qO.f k a x y p) (if askB a x y p = true then (bxs (reachX a x y p), wds (reachX a x y p), true) else ([], [], false)) := by
 obtain ⟨rows, h1, hr⟩ := onGround_ev a x y p ha
 unfold qO.f
 refine Ev.bind h1 ?_
 cases hb : askB a x y p with
 | false =>
  rw [if_neg (by decide)]
  exact Ev.neg (by simp) (Ev.now _)
 | true =>
  have e := hr hb
  subst e
  rw [if_pos rfl]
  refine Ev.pos rfl ?_
  exact impl_run (quB (qyA hb)) 147 0 [(⟨x, y, p⟩, ⟨#[]⟩)] (qSB (qDC hb)) (short_start _) (by simp) (by omega)
theorem reachX_found {a : ByteArray} {x y p : Int} (h : askB a x y p = true) : Found a (reachX a x y p) := (qSB (qDC h)).run _ _
theorem reachX_len {a : ByteArray} {x y p : Int} (h : askB a x y p = true) : (reachX a x y p).length ≤ 147 := (reachX_found h).len (quB (qyA h))
theorem rise_X {a : ByteArray} (x y p : Int) : (reachX a x y p).Pairwise (fun u v => u.2.size ≤ v.2.size) := by
 unfold reachX
 exact Bfs.run_layers (nextX a) (fun w : ByteArray => w.size) (fun i x p s hs _ => qlB a x p 4 0 rfl s hs) 147 0 (Bfs.layers_start _ _ _)
def noW : ByteArray × Bool := (⟨#[]⟩, false)
def capW (w : ByteArray) : ByteArray × Bool := if (w.size : Int) > 60 then noW else (w, true)
def findI (p : BX' → Bool) : List (BX' × ByteArray) → ByteArray × Bool
 | [] => noW
 | z :: l => if p z.1 = true then capW z.2 else findI p l
def findS (p : BX' → Bool) : List (BX' × ByteArray) → ByteArray × Bool
 | [] => noW
 | z :: l => if p z.1 = true then (if (z.2.size : Int) ≤ 60 then (z.2, true) else findS p l) else findS p l
theorem find_none (p : BX' → Bool) : ∀ l : List (BX' × ByteArray), (∀ z ∈ l, (z.2.size : Int) > 60) → findS p l = noW
 | [], _ => rfl
 | z :: l, h => by
  have h1 := h z List.mem_cons_self
  rw [findS, if_neg (by omega : ¬ (z.2.size : Int) ≤ 60), find_none p l (fun u hu => h u (List.mem_cons_of_mem _ hu))]
  split <;> rfl
theorem qpB (p : BX' → Bool) : ∀ l : List (BX' × ByteArray), l.Pairwise (fun u v => u.2.size ≤ v.2.size) → findS p l = findI p l
 | [], _ => rfl
 | z :: l, h => by
  obtain ⟨h1, h2⟩ := List.pairwise_cons.1 h
  rw [findS, findI, qpB p l h2]
  split
  ·unfold capW
   by_cases hz : (z.2.size : Int) ≤ 60
   ·rw [if_pos hz, if_neg (by omega)]
   ·rw [if_neg hz, if_pos (by omega), ← qpB p l h2]
    exact find_none p l (fun u hu => by have := h1 u hu; omega)
  ·rfl
theorem idxP_cons {α : Type} (p : α → Bool) (x : α) (l : List α) : idxP p (x :: l) = if p x = true then 0 else if idxP p l < 0 then -1 else idxP p l + 1 := by
 unfold idxP
 rw [List.findIdx?_cons]
 by_cases h : p x = true
 ·rw [if_pos h, if_pos h]; rfl
 ·rw [if_neg h, if_neg h]
  cases l.findIdx? p with
  | none => rfl
  | some i =>
   simp only [Option.map_some]
   rw [if_neg (by omega)]
   push_cast
   rfl
theorem idx_find (p : BX' → Bool) : ∀ L : List (BX' × ByteArray), (idxP p (bxs L) = -1 ∧ findI p L = noW) ∨ ∃ (i : Nat) (z : BX' × ByteArray), idxP p (bxs L) = (i : Int) ∧ L[i]? = some z ∧ findI p L = capW z.2
 | [] => .inl ⟨rfl, rfl⟩
 | z :: l => by
  have e : idxP p (bxs (z :: l)) = if p z.1 = true then 0 else if idxP p (bxs l) < 0 then -1 else idxP p (bxs l) + 1 := idxP_cons p z.1 (bxs l)
  rw [e, findI]
  by_cases h : p z.1 = true
  ·rw [if_pos h, if_pos h]
   exact .inr ⟨0, z, rfl, rfl, rfl⟩
  ·rw [if_neg h, if_neg h]
   rcases idx_find p l with ⟨h1, h2⟩ | ⟨i, u, h1, h2, h3⟩
   ·rw [h1, h2]
    exact .inl ⟨rfl, rfl⟩
   ·rw [h1, h3, if_neg (by omega)]
    exact .inr ⟨i + 1, u, by push_cast; rfl, h2, rfl⟩
theorem wordTo_ev (p : BX' → Bool) (a : ByteArray) (x y z : Int) (ha : a.size ≤ 1048576) : Ev (fun k => qyB.f p k a x y z) (if askB a x y z = true then findI p (reachX a x y z) else noW) := by
 have h1 := boxWords_ev a x y z ha
 unfold qyB.f
 cases hb : askB a x y z with
 | false =>
  rw [hb, if_neg (by decide)] at h1
  rw [if_neg (by decide)]
  exact Ev.bind h1 (Ev.neg (by simp) (Ev.now _))
 | true =>
  rw [hb, if_pos rfl] at h1
  rw [if_pos rfl]
  refine Ev.bind h1 (Ev.pos rfl ?_)
  simp only []
  rcases idx_find p (reachX a x y z) with ⟨h2, h3⟩ | ⟨i, u, h2, h3, h4⟩
  ·rw [h2, h3]
   exact Ev.pos (by omega) (Ev.now _)
  ·have hlt : i < (reachX a x y z).length := (List.getElem?_eq_some_iff.1 h3).1
   have ew := rdW (wds (reachX a x y z)) u.2 i (by rw [List.getElem?_map, h3]; rfl)
   rw [h2, h4]
   simp only [ew]
   unfold capW
   refine Ev.neg (by omega) (Ev.pos (by rw [List.length_map]; omega) ?_)
   by_cases hz : (u.2.size : Int) > 60
   ·rw [if_pos hz, if_pos hz]
    exact Ev.now _
   ·rw [if_neg hz, if_neg hz]
    exact Ev.now _
end Go.Proofs.YtbpfhpjbeomfcaaDoor
namespace Go.Proofs.YtbpfhpjbeomfcaaDoor.Pure
open Go.RowKit Go.Proofs.YtbpfhpjbeomfcaaDoor.P Go.Proofs.YtbpfhpjbeomfcaaDoorW.PrintWords Go.Proofs.YtbpfhpjbeomfcaaDoorW.PrintLast
set_option linter.unusedVariables false
set_option linter.unusedSimpArgs false
theorem sp_find (b : BX') (L : List (BX' × ByteArray)) (hn : L.length ≤ 147) : ∀ (l : List (BX' × ByteArray)) (j : Nat), L.drop j = l → j ≤ L.length →
  Ev (fun k => qe.l0 k (bxs L) ((bxs L).length : Int) (j : Int) b.f0 b.f1 b.f2 (bxs L) (wds L)) (findS (isB1 b) l)
 | [], j, hd, hj => by
  have := Sorts.qqB hd
  refine Ev.step (f := fun k => _) (fun k => by rw [qe.l0]) ?_
  exact Ev.neg (by rw [List.length_map]; omega) (Ev.now _)
 | x :: l, j, hd, hj => by
  obtain ⟨hlt, hc, hd'⟩ := Sorts.qdB hd
  have hget : L[j]? = some x := by rw [← hc]; exact List.getElem?_eq_getElem hlt
  have eb := rdX (bxs L) x.1 j (by rw [List.getElem?_map, hget]; rfl)
  have ew := rdW (wds L) x.2 j (by rw [List.getElem?_map, hget]; rfl)
  have ih := sp_find b L hn l (j + 1) hd' (by omega)
  clear hd hd' hc hget
  have w : wrap64 ((j : Int) + 1) = ((j + 1 : Nat) : Int) := by unfold wrap64; omega
  refine Ev.step (f := fun k => _) (fun k => by rw [qe.l0]) ?_
  rw [w, eb, ew, findS]
  refine Ev.pos (by rw [List.length_map]; omega) (Ev.pos (by omega) (Ev.pos (by rw [List.length_map]; omega) ?_))
  have ep : (x.1.f0 == b.f0 && (x.1.f1 == b.f1 && x.1.f2 == b.f2)) = isB1 b x.1 := rfl
  rw [ep]
  by_cases hp : isB1 b x.1 = true
  ·rw [if_pos hp]
   refine Ev.pos hp (Ev.pos (by rw [List.length_map]; omega) ?_)
   by_cases hz : (x.2.size : Int) ≤ 60
   ·rw [if_pos hz]
    exact Ev.pos hz (Ev.now _)
   ·rw [if_neg hz]
    exact Ev.neg hz ih
  ·rw [if_neg hp]
   exact Ev.neg hp ih
theorem both (a : ByteArray) (x y p u v q : Int) (ha : a.size ≤ 1048576) : ∃ r : ByteArray × Bool, Ev (fun k => qe.f k a x y p u v q) r ∧ Ev (fun k => qDA.f k a x y p u v q) r := by
 obtain ⟨w, h, cs, h2, h2'⟩ := bxReached_ev a x y p
 obtain ⟨rows, h3, _⟩ := onGround_ev a u v q ha
 have h4 := wordTo_ev (isB1 ⟨u, v, q⟩) a x y p ha
 unfold qe.f qDA.f
 refine ⟨if askB a u v q = true then (if askB a x y p = true then findI (isB1 ⟨u, v, q⟩) (reachX a x y p) else noW) else noW, ?_, ?_⟩
 ·cases hb : askB a x y p with
  | false =>
   rw [hb, if_neg (by decide)] at h2
   simp only [Bool.false_eq_true, if_false, ite_self]
   refine Ev.bind h2 (Ev.neg (by simp) ?_)
   refine Ev.step (f := fun k => _) (fun k => by rw [qe.j0]) ?_
   exact Ev.pos rfl (Ev.now _)
  | true =>
   obtain ⟨rfl, rfl, rfl⟩ := h2' hb
   have g := quB (qyA hb)
   rw [hb, if_pos rfl] at h2
   rw [if_pos rfl]
   refine Ev.bind h2 (Ev.pos rfl (Ev.bind (qsB g u v q) ?_))
   have e : askB a u v q = boxB a u v q := by unfold askB; rw [qyA hb]; rfl
   refine Ev.step (f := fun k => _) (fun k => by rw [qe.j0]) ?_
   rw [e]
   cases hg : boxB a u v q with
   | false =>
    rw [if_neg (by decide)]
    exact Ev.pos rfl (Ev.now _)
   | true =>
    rw [if_pos rfl, ← qpB _ _ (rise_X x y p)]
    exact Ev.neg (by simp) (sp_find ⟨u, v, q⟩ (reachX a x y p) (reachX_len hb) _ 0 rfl (by omega))
 ·cases hb : askB a u v q with
  | false =>
   rw [hb] at h3
   rw [if_neg (by decide)]
   exact Ev.bind h3 (Ev.neg (by simp) (Ev.now _))
  | true =>
   rw [hb] at h3
   rw [if_pos rfl]
   refine Ev.bind h3 (Ev.pos rfl (Ev.bind (show Ev (fun k => qJB.f k a x y p u v q) _ from h4) ?_))
   exact Ev.now _
theorem FnExactWordToBox : qS.Pure := by
 intro a x y p u v q _ _ _ _ _ _ _
 refine Ev.rounds (r := true) ?_
 unfold qS.f
 by_cases ha : a.size ≤ 1048576
 ·obtain ⟨r, h1, h2⟩ := both a x y p u v q ha
  refine Ev.neg (by omega) (Ev.bindc (show qo.f x y p = some (x, y, p) from rfl) (Ev.bindc (show qo.f u v q = some (u, v, q) from rfl) ?_))
  refine Ev.bind h1 (Ev.bindc (show qo.f x y p = some (x, y, p) from rfl) (Ev.bindc (show qo.f u v q = some (u, v, q) from rfl) ?_))
  exact Ev.bind h2 (Ev.pos rfl (Ev.neg (by simp) (Ev.now _)))
 ·exact Ev.pos (by omega) (Ev.now _)
end Go.Proofs.YtbpfhpjbeomfcaaDoor.Pure
