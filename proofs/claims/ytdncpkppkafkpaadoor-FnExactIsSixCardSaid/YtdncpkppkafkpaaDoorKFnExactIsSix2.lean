/- The program's IsSix returns what the reference's returns, for all texts (the law lets longer texts by). No further condition. -/
import Derived.Test.YtdncpkppkafkpaaDoorKFnExactIsSix1

namespace Go.Proofs.YtdncpkppkafkpaaDoor.P
open Go.RowKit Go.Proofs.YtdncpkppkafkpaaDoorW.PrintWords Go.Proofs.YtdncpkppkafkpaaDoorW.PrintLast Go.Proofs.YtdncpkppkafkpaaDoorW.PrintMore
attribute [local go_sem] qq qo qAA qz qg qf qp qn
set_option linter.unusedVariables false
set_option linter.unusedSimpArgs false
mutual
def qB.l0 : Nat → List (S61) → List Int → List Int → Int → Int → Option (List Int × List Int)
 | 0, _, _, _, _, _ => none
 | k + 1, x0, x15, x18, x20, x21 => if x21 < x20 then (if 0 ≤ x21 then (if x21 < (x18.length : Int) then (qB.l0 k x0 x15 (x18.set (x21 : Int).toNat (-1)) x20 (wrap64 (x21 + 1))) else (none)) else (none)) else (if 0 ≤ (x0.length : Int) then (if ((x0.length : Int) : Int).toNat ≤ 5864062014805 then ((some (List.replicate ((x0.length : Int) : Int).toNat z31 : List (S31))).bind fun y174 => ((qkA.f).bind fun bt180 => (if 0 < (y174.length : Int) then (if 0 < (x15.length : Int) then (if 0 < (x18.length : Int) then (qB.l1 k x0 (([0] : List Int)) 0 (x15.set (0 : Int).toNat 5) (x18.set (0 : Int).toNat 0) (y174.set (0 : Int).toNat (⟨bt180.1, bt180.2.1, bt180.2.2.1, bt180.2.2.2.1, bt180.2.2.2.2.1, bt180.2.2.2.2.2⟩ : S31))) else (none)) else (none)) else (none)))) else (none)) else (none))
def qB.l1 : Nat → List (S61) → List Int → Int → List Int → List Int → List (S31) → Option (List Int × List Int)
 | 0, _, _, _, _, _, _ => none
 | k + 1, x0, x8, x9, x15, x18, x30 => if x9 < (x8.length : Int) then (if 0 ≤ x9 then (qB.l2 k x0 x8 x9 (rd x8 x9) x15 x18 x30 0) else (none)) else (some (x15, x18))
def qB.l2 : Nat → List (S61) → List Int → Int → Int → List Int → List Int → List (S31) → Int → Option (List Int × List Int)
 | 0, _, _, _, _, _, _, _, _ => none
 | k + 1, x0, x8, x9, x10, x15, x18, x30, x49 => if x49 < 4 then (if 0 ≤ x10 then (if x10 < (x0.length : Int) then (if 0 ≤ x49 then ((qVA.f ((ql x0 x10).f0) ((ql x0 x10).f1) (bt (⟨#[110, 101, 115, 119]⟩ : ByteArray) x49)).bind fun bt192 => ((qt.f k x0 bt192.1 bt192.2).bind fun t194 => (if t194 < 0 then (qB.l2 k x0 x8 x9 x10 x15 x18 x30 (wrap64 (x49 + 1))) else (if 0 ≤ t194 then (if t194 < (x18.length : Int) then (if (rd x18 t194) ≥ 0 then (qB.l2 k x0 x8 x9 x10 x15 x18 x30 (wrap64 (x49 + 1))) else (if x10 < (x30.length : Int) then ((qu.f ((qb x30 x10).f0) ((qb x30 x10).f1) ((qb x30 x10).f2) ((qb x30 x10).f3) ((qb x30 x10).f4) ((qb x30 x10).f5) (bt (⟨#[110, 101, 115, 119]⟩ : ByteArray) x49)).bind fun bt197 => (if x10 < (x18.length : Int) then (if t194 < (x30.length : Int) then (if t194 < (x15.length : Int) then (if x8.length < 17592186044416 then (qB.l2 k x0 (x8 ++ [t194]) x9 x10 (x15.set (t194 : Int).toNat bt197.2.2.2.2.2) (x18.set (t194 : Int).toNat (wrap64 ((rd x18 x10) + 1))) (x30.set (t194 : Int).toNat (⟨bt197.1, bt197.2.1, bt197.2.2.1, bt197.2.2.2.1, bt197.2.2.2.2.1, bt197.2.2.2.2.2⟩ : S31)) (wrap64 (x49 + 1))) else (none)) else (none)) else (none)) else (none))) else (none))) else (none)) else (none))))) else (none)) else (none)) else (none)) else (qB.l1 k x0 x8 (wrap64 (x9 + 1)) x15 x18 x30)
end
def qB.f (k : Nat) (l0 : List (S61)) : Option (List Int × List Int) := if 0 ≤ (l0.length : Int) then (if ((l0.length : Int) : Int).toNat ≤ 35184372088832 then ((some (List.replicate ((l0.length : Int) : Int).toNat 0 : List Int)).bind fun y170 => (qB.l0 k l0 (List.replicate ((l0.length : Int) : Int).toNat 0) y170 (y170.length : Int) 0)) else (none)) else (none)
def qB.T1 : Bool × List (List Nat × List Nat) := (true, [([], []), ([0], [0]), ([1, 1], [1]), ([], []), ([3], [3]), ([4, 4], [4]), ([2, 0, 1, 2], [2]), ([5, 6, 0, 1, 2, 3, 4, 5, 6], [5])])
def qB.B1 : List Nat := [0, 1, 3, 0, 8, 24, 7, 127]
theorem qB.tab1 : rtab .any (opsOf Tryd.f38 1) = qB.T1 := by kernel_rfl
theorem qB.bits1 : waitsOk qB.T1.2 qB.B1 = true := by kernel_rfl
def qB.T16 : Bool × List (List Nat × List Nat) := (true, [([], []), ([], []), ([], []), ([1, 2], [1, 2]), ([3], [3]), ([4], [4]), ([], []), ([], []), ([6, 7], [6, 7]), ([8], [8]), ([9], [9]), ([], []), ([11], [11]), ([5, 10, 12], [5, 10, 12]), ([13], [13]), ([13], [13]), ([0, 14, 15, 13], [0, 14, 15]), ([16, 16, 0, 1, 2, 3, 4, 5, 6, 7, 8, 9, 10, 11, 12, 13, 14, 15, 16], [16])])
def qB.B16 : List Nat := [0, 0, 0, 6, 14, 30, 0, 0, 192, 448, 960, 0, 2048, 8190, 16382, 16382, 65535, 131071]
theorem qB.tab16 : rtab .any (opsOf Tryd.f38 16) = qB.T16 := by kernel_rfl
theorem qB.bits16 : waitsOk qB.T16.2 qB.B16 = true := by kernel_rfl
def qB.T18 : Bool × List (List Nat × List Nat) := (true, [([], []), ([], []), ([], []), ([], []), ([], []), ([], []), ([4, 5], [4, 5]), ([6], [6]), ([], []), ([8], [8]), ([7, 9], [7, 9]), ([], []), ([], []), ([11, 12], [11, 12]), ([13], [13]), ([14], [14]), ([0, 1, 0, 1, 4, 5, 6, 7, 8, 9, 10, 14], [0, 1]), ([16, 10, 10, 0, 1, 4, 5, 6, 7, 8, 9, 10, 14], [10, 16]), ([2, 3, 0, 1, 2, 3, 4, 5, 6, 7, 8, 9, 10, 11, 12, 13, 14, 15, 16, 17], [2, 3]), ([18, 15, 17, 0, 1, 2, 3, 4, 5, 6, 7, 8, 9, 10, 11, 12, 13, 14, 15, 16, 17], [15, 18])])
def qB.B18 : List Nat := [0, 0, 0, 0, 0, 0, 48, 112, 0, 256, 1008, 0, 0, 6144, 14336, 30720, 32755, 98291, 262143, 524287]
theorem qB.tab18 : rtab .any (opsOf Tryd.f38 18) = qB.T18 := by kernel_rfl
theorem qB.bits18 : waitsOk qB.T18.2 qB.B18 = true := by kernel_rfl
set_option maxHeartbeats 8000000 in
set_option maxRecDepth 100000 in
theorem qB.calls (k : Nat) (A0 : Option Addr) (c0 : Nat) (l0 : List (S61)) (r1 : List Int) (r2 : List Int) (w : World) (hr0 : Kd.C k61 w A0 l0.length l0) (hc0 : l0.length ≤ c0) (h : qB.f k l0 = some (r1, r2)) :
  Calls Tryd.prog 38 #[.slice A0 l0.length c0] w fun e w' => ∃ v0_ v1_ : Value, e = .returned (.tuple #[v0_, v1_]) ∧ Kd.R (Kd.int .i64) 3 w' w.heap.size (fun k_ => some k_ ≠ (v1_ : Value).ownBlock) v0_ r1 ∧ Kd.R (Kd.int .i64) 3 w' w.heap.size (fun k_ => some k_ ≠ (v0_ : Value).ownBlock) v1_ r2 ∧ Below w.heap.size w w' := by
 have hu31 := Tryd.underlying31
 have HR0 := Aside0.mk hr0
 have HC0 := Aside0.mk hc0
 clear hr0 hc0
 have HB := Aside0.mk (Below.refl w.heap.size w)
 have H : (if 0 ≤ (l0.length : Int) then (if ((l0.length : Int) : Int).toNat ≤ 35184372088832 then ((some (List.replicate ((l0.length : Int) : Int).toNat 0 : List Int)).bind fun y170 => (qB.l0 k l0 (List.replicate ((l0.length : Int) : Int).toNat 0) y170 (y170.length : Int) 0)) else (none)) else (none)) = some (r1, r2) := h
 clear h
 by_cases c2 : 0 ≤ (l0.length : Int)
 ·rw [if_pos c2] at H
  have c2b0 := eq_true c2
  have c2b1 : decide (0 ≤ (l0.length : Int)) = true := decide_eq_true c2
  clear c2
  by_cases c3 : ((l0.length : Int) : Int).toNat ≤ 35184372088832
  ·rw [if_pos c3] at H
   have c3b0 := eq_true c3
   have c3b1 : decide (((l0.length : Int) : Int).toNat ≤ 35184372088832) = true := decide_eq_true c3
   clear c3
   obtain ⟨y167, hy167⟩ : ∃ y_ : List Int, y_ = (List.replicate ((l0.length : Int) : Int).toNat 0) := ⟨_, rfl⟩
   replace H : ((some (List.replicate ((l0.length : Int) : Int).toNat 0 : List Int)).bind fun y170 => (qB.l0 k l0 y167 y170 (y170.length : Int) 0)) = some (r1, r2) := by first | (rw [hy167]; with_reducible exact H) | (have H2_ := (Option.bind_some _ _).symm.trans H; rw [hy167]; with_reducible exact H2_) | (have H2_ := (Option.bind_some _ _).symm.trans H; with_reducible exact H2_) | with_reducible exact H | (rw [hy167]; exact H) | exact H
   have Ny167 := Aside0.mk hy167
   clear hy167
   obtain ⟨y170, hy170⟩ : ∃ y_ : List Int, y_ = (List.replicate ((l0.length : Int) : Int).toNat 0) := ⟨_, rfl⟩
   replace H : (qB.l0 k l0 y167 y170 (y170.length : Int) 0) = some (r1, r2) := by first | (rw [hy170]; with_reducible exact H) | (have H2_ := (Option.bind_some _ _).symm.trans H; rw [hy170]; with_reducible exact H2_) | (have H2_ := (Option.bind_some _ _).symm.trans H; with_reducible exact H2_) | with_reducible exact H | (rw [hy170]; exact H) | exact H
   have Ny170 := Aside0.mk hy170
   clear hy170
   have H' := Aside0.mk H
   clear H
   go_enter Tryd.func38, Tryd.ntmps38
   try go_wp2
   have n0_ := Aside0.mk (qi HB.out)
   clear HB
   have HB := n0_
   clear n0_
   refine qvA (n := 8) (S := fun w' => True) (ds := []) #[false, false, false, false, false, false, false, false] (by kernel_rfl) rfl rfl trivial (fun hHeld => ?_); refine qFA qB.tab1 qB.bits1 (fun HT_ HW_ => ?_)
   generalize w.drew = w4 at HB hHeld ⊢
   refine pS (i := 0) (N := some 13) #[true, false, false, false, false, false, false, false] HT_ ?_
   refine pS (i := 1) (N := some 14) #[true, true, false, false, false, false, false, false] HT_ ?_
   refine pS (i := 3) (N := some 16) #[true, true, false, true, false, false, false, false] HT_ ?_
   refine pS (i := 4) (N := some 17) #[true, true, false, true, true, false, false, false] HT_ ?_
   refine join_ (σ := Value × Value) 1 #[true, true, true, true, true, true, true, false] (fun s_ => [(15, s_.1), (18, s_.2), (4, s_.1)]) (fun s_ w' => (Kd.R (Kd.int .i64) 3 w' w.heap.size (fun k_ => some k_ ≠ (s_.2 : Value).ownBlock) s_.1 y167) ∧ (Kd.R (Kd.int .i64) 3 w' w.heap.size (fun k_ => some k_ ≠ (s_.1 : Value).ownBlock) s_.2 y170) ∧ (Below w.heap.size w w')) ?_ ?_
   rotate_left
   ·intro hCont
    refine two_ (i := 2) (j := 5) (Ni := some 15) (Nj := some 18) #[true, true, true, true, true, false, false, false] #[true, true, false, true, true, true, false, false] rfl rfl rfl rfl (two_of HT_.out (by kernel_rfl)) (by decide) (by decide) (fun K hK => ?_) (fun K hK => ?_)
    ·skip
     refine Kd.qGB (Kd.int .i64) _ 3 (by rfl) (N := 15) rfl 25 _ _ rfl (l0.length : Int) rfl rfl Tryd.underlying25 (.int .i64 0) 8 info3 rfl (by decide) (by omega) 0 (ok := fun _ => True) (okp := fun _ => True) rfl (fun _ hk => hk) trivial (of_decide_eq_true (by first | (with_reducible assumption) | assumption)) (Nat.le_trans (Nat.mul_le_mul_right _ (of_decide_eq_true (by first | (with_reducible assumption) | assumption) : (l0.length : Int).toNat ≤ 35184372088832)) (by omega)) (Below.refl _ _) (Nat.le_refl _) ?_
     intro v168 w5 ho6 hb hg_ hnew_
     clear hg_ hnew_
     (first | rw [← Ny167.out] at ho6 | (simp only [Int.reduceToNat] at ho6; rw [← Ny167.out] at ho6))
     have n0_ := Aside0.mk (Kd.qHA ho6 (qe bl))
     have n1_ := Aside0.mk (qL bl hb)
     clear HB
     have HO169 := n0_
     have HB := n1_
     clear n0_ n1_
     clear hb ho6
     refine hK.out _ _ trivial (fun hHeld => ?_)
     clear hK K
     refine norm_ (a' := ?_) ?_ ?_
     rotate_left
     ·show Act.put _ (some 15) _ = _
      simp only [Act.put, List.setIfInBounds_toArray, List.set_cons_zero, List.set_cons_succ, i64_w, i32_w]
      rfl
     refine pS (i := 6) (N := some 4) #[true, true, true, true, true, false, true, false] HT_ ?_
     refine one_ (i := 5) (N := some 18) #[true, true, true, true, true, true, true, false] rfl rfl (qdA HT_.out (by kernel_rfl)) (by decide) (fun K hK => ?_)
     refine Kd.qGB (Kd.int .i64) _ 3 (by rfl) (N := 18) rfl 25 _ _ rfl (l0.length : Int) rfl rfl Tryd.underlying25 (.int .i64 0) 8 info3 rfl (by decide) (by omega) 0 (ok := fun _ => True) (okp := fun _ => True) rfl (fun _ hk => hk) trivial (of_decide_eq_true (by first | (with_reducible assumption) | assumption)) (Nat.le_trans (Nat.mul_le_mul_right _ (of_decide_eq_true (by first | (with_reducible assumption) | assumption) : (l0.length : Int).toNat ≤ 35184372088832)) (by omega)) (Below.refl _ _) (Nat.le_refl _) ?_
     intro v171 w7 ho8 hb hg_ hnew_
     clear hg_ hnew_
     (first | rw [← Ny170.out] at ho8 | (simp only [Int.reduceToNat] at ho8; rw [← Ny170.out] at ho8))
     have n0_ := Aside0.mk (Kd.qiA (by (with_reducible repeat (first | apply Kd.qF | apply Kd.qG | apply Kd.qI)); exact HO169.out) (Kd.qbB ho8) hb)
     have n1_ := Aside0.mk (Kd.qHA (Kd.qaB ho8 (Kd.R_lt (by (with_reducible repeat (first | apply Kd.qF | apply Kd.qG | apply Kd.qI)); exact HO169.out))) (qe bl))
     have n2_ := Aside0.mk (qL bl hb)
     clear HO169
     clear HB
     have HO169 := n0_
     have HO172 := n1_
     have HB := n2_
     clear n0_ n1_ n2_
     clear hb ho8
     refine hK.out _ _ trivial (fun hHeld => ?_)
     clear hK K
     refine norm_ (a' := ?_) ?_ ?_
     rotate_left
     ·show Act.put _ (some 18) _ = _
      simp only [Act.put, List.setIfInBounds_toArray, List.set_cons_zero, List.set_cons_succ, i64_w, i32_w]
      rfl
     exact norm_ (by simp only [putAll, Act.put, List.setIfInBounds_toArray, List.set_cons_zero, List.set_cons_succ]) (hCont (v168, v171) _ ⟨(by (with_reducible repeat (first | apply Kd.qF | apply Kd.qG | apply Kd.qI)); exact Kd.qj HO169.out (fun _ hk => hk.2)), (by (with_reducible repeat (first | apply Kd.qF | apply Kd.qG | apply Kd.qI)); exact Kd.qj HO172.out (fun _ hk => hk.2)), bl⟩)
    ·skip
     refine Kd.qGB (Kd.int .i64) _ 3 (by rfl) (N := 18) rfl 25 _ _ rfl (l0.length : Int) rfl rfl Tryd.underlying25 (.int .i64 0) 8 info3 rfl (by decide) (by omega) 0 (ok := fun _ => True) (okp := fun _ => True) rfl (fun _ hk => hk) trivial (of_decide_eq_true (by first | (with_reducible assumption) | assumption)) (Nat.le_trans (Nat.mul_le_mul_right _ (of_decide_eq_true (by first | (with_reducible assumption) | assumption) : (l0.length : Int).toNat ≤ 35184372088832)) (by omega)) (Below.refl _ _) (Nat.le_refl _) ?_
     intro v171 w5 ho6 hb hg_ hnew_
     clear hg_ hnew_
     (first | rw [← Ny170.out] at ho6 | (simp only [Int.reduceToNat] at ho6; rw [← Ny170.out] at ho6))
     have n0_ := Aside0.mk (Kd.qHA ho6 (qe bl))
     have n1_ := Aside0.mk (qL bl hb)
     clear HB
     have HO172 := n0_
     have HB := n1_
     clear n0_ n1_
     clear hb ho6
     refine hK.out _ _ trivial (fun hHeld => ?_)
     clear hK K
     refine norm_ (a' := ?_) ?_ ?_
     rotate_left
     ·show Act.put _ (some 18) _ = _
      simp only [Act.put, List.setIfInBounds_toArray, List.set_cons_zero, List.set_cons_succ, i64_w, i32_w]
      rfl
     refine one_ (i := 2) (N := some 15) #[true, true, true, true, true, true, false, false] rfl rfl (qdA HT_.out (by kernel_rfl)) (by decide) (fun K hK => ?_)
     refine Kd.qGB (Kd.int .i64) _ 3 (by rfl) (N := 15) rfl 25 _ _ rfl (l0.length : Int) rfl rfl Tryd.underlying25 (.int .i64 0) 8 info3 rfl (by decide) (by omega) 0 (ok := fun _ => True) (okp := fun _ => True) rfl (fun _ hk => hk) trivial (of_decide_eq_true (by first | (with_reducible assumption) | assumption)) (Nat.le_trans (Nat.mul_le_mul_right _ (of_decide_eq_true (by first | (with_reducible assumption) | assumption) : (l0.length : Int).toNat ≤ 35184372088832)) (by omega)) (Below.refl _ _) (Nat.le_refl _) ?_
     intro v168 w7 ho8 hb hg_ hnew_
     clear hg_ hnew_
     (first | rw [← Ny167.out] at ho8 | (simp only [Int.reduceToNat] at ho8; rw [← Ny167.out] at ho8))
     have n0_ := Aside0.mk (Kd.qiA (by (with_reducible repeat (first | apply Kd.qF | apply Kd.qG | apply Kd.qI)); exact HO172.out) (Kd.qbB ho8) hb)
     have n1_ := Aside0.mk (Kd.qHA (Kd.qaB ho8 (Kd.R_lt (by (with_reducible repeat (first | apply Kd.qF | apply Kd.qG | apply Kd.qI)); exact HO172.out))) (qe bl))
     have n2_ := Aside0.mk (qL bl hb)
     clear HO172
     clear HB
     have HO172 := n0_
     have HO169 := n1_
     have HB := n2_
     clear n0_ n1_ n2_
     clear hb ho8
     refine hK.out _ _ trivial (fun hHeld => ?_)
     clear hK K
     refine norm_ (a' := ?_) ?_ ?_
     rotate_left
     ·show Act.put _ (some 15) _ = _
      simp only [Act.put, List.setIfInBounds_toArray, List.set_cons_zero, List.set_cons_succ, i64_w, i32_w]
      rfl
     refine pS (i := 6) (N := some 4) #[true, true, true, true, true, true, true, false] HT_ ?_
     exact norm_ (by simp only [putAll, Act.put, List.setIfInBounds_toArray, List.set_cons_zero, List.set_cons_succ]) (hCont (v168, v171) _ ⟨(by (with_reducible repeat (first | apply Kd.qF | apply Kd.qG | apply Kd.qI)); exact Kd.qj HO169.out (fun _ hk => hk.2)), (by (with_reducible repeat (first | apply Kd.qF | apply Kd.qG | apply Kd.qI)); exact Kd.qj HO172.out (fun _ hk => hk.2)), bl⟩)
   rintro ⟨v168, v171⟩ w9 ⟨h0_, h1_, h2_⟩
   have n0_ : Aside0 (Kd.R (Kd.int .i64) 3 w9 w.heap.size (fun k_ => some k_ ≠ (v171 : Value).ownBlock) v168 y167) := ⟨h0_⟩
   have n1_ : Aside0 (Kd.R (Kd.int .i64) 3 w9 w.heap.size (fun k_ => some k_ ≠ (v168 : Value).ownBlock) v171 y170) := ⟨h1_⟩
   have n2_ : Aside0 (Below w.heap.size w w9) := ⟨h2_⟩
   clear HB
   clear h0_ h1_ h2_
   have HO169 := n0_
   have HO172 := n1_
   have HB := n2_
   clear n0_ n1_ n2_
   have hHeld := trivial
   refine norm_ (a' := ?_) ?_ ?_
   rotate_left
   ·simp only [putAll, Act.put, List.setIfInBounds_toArray, List.set_cons_zero, List.set_cons_succ]
    rfl
   refine pS (i := 7) (N := some 5) #[true, true, true, true, true, true, true, true] HT_ ?_
   refine done_ (qFB HT_.out (by kernel_rfl)) ?_
   obtain ⟨Ao10, co10, eo10⟩ := Kd.qy HO172.out
   subst eo10
   try go_wp2
   go_loopg [21] k (fun kq v21 w' => ∃ (x18_1 : List Int) (x21_1 : Int), v21 = .int .i64 x21_1 ∧ Aside0 (qB.l0 kq l0 y167 x18_1 (y170.length : Int) x21_1 = some (r1, r2)) ∧ Aside0 (kq ≤ k) ∧ Aside0 (Kd.R (Kd.int .i64) 3 w' w.heap.size (fun k_ => some k_ ≠ ((.slice Ao10 y170.length co10) : Value).ownBlock) v168 y167) ∧ Aside0 (Kd.R (Kd.int .i64) 3 w' w.heap.size (fun k_ => some k_ ≠ (v168 : Value).ownBlock) (.slice Ao10 y170.length co10) x18_1) ∧ Aside0 (Below w.heap.size w w'))
   case atStart => exact ⟨(y170), (0), (by first | rfl | (simp; done) | (simp [*]; done)), H', ⟨Nat.le_refl _⟩, ⟨by (with_reducible repeat (first | apply Kd.qF | apply Kd.qG | apply Kd.qI)); exact HO169.out⟩, ⟨by (with_reducible repeat (first | apply Kd.qF | apply Kd.qG | apply Kd.qI)); exact HO172.out⟩, ⟨bl⟩⟩
   case round =>
    clear H'
    try clear c2
    try clear c2b0
    try clear c2b1
    try clear p2
    try clear c3
    try clear c3b0
    try clear c3b1
    obtain ⟨x18_1, x21_1, rfl, HA, HK1, HO_15, HO_18, HB⟩ := hrel
    have hl18_1 := (Kd.qQ HO_18.out).1
    rw [hl18_1] at HO_18
    (try simp only [hl18_1])
    (try simp only [hl18_1] at HO_15)
    cases gk with
    | zero => exact absurd HA.out (by simp [qB.l0])
    | succ k1 =>
     have H := HA.out
     clear HA
     simp only [qB.l0] at H
     by_cases c11 : x21_1 < (y170.length : Int)
     ·rw [if_pos c11] at H
      have c11b0 : decide (x21_1 < (y170.length : Int)) = true := decide_eq_true c11
      (try (have c11b0_hl18_1 := c11b0; simp only [hl18_1] at c11b0_hl18_1))
      clear c11
      by_cases c12 : 0 ≤ x21_1
      ·rw [if_pos c12] at H
       have c12b0 : decide (0 ≤ x21_1) = true := decide_eq_true c12
       clear c12
       by_cases c13 : x21_1 < (x18_1.length : Int)
       ·rw [if_pos c13] at H
        have c13b0 : decide (x21_1 < (x18_1.length : Int)) = true := decide_eq_true c13
        (try (have c13b0_hl18_1 := c13b0; simp only [hl18_1] at c13b0_hl18_1))
        clear c13
        obtain ⟨y173, hy173⟩ : ∃ y_ : List Int, y_ = (x18_1.set (x21_1 : Int).toNat (-1)) := ⟨_, rfl⟩
        replace H : (qB.l0 k1 l0 y167 y173 (y170.length : Int) (wrap64 (x21_1 + 1))) = some (r1, r2) := by first | (rw [hy173]; with_reducible exact H) | (have H2_ := (Option.bind_some _ _).symm.trans H; rw [hy173]; with_reducible exact H2_) | (have H2_ := (Option.bind_some _ _).symm.trans H; with_reducible exact H2_) | with_reducible exact H | (rw [hy173]; exact H) | exact H
        have Ny173 := Aside0.mk hy173
        clear hy173
        have H' := Aside0.mk H
        clear H
        have p14 : 0 ≤ (x21_1 : Int) := of_decide_eq_true (by first | (with_reducible assumption) | assumption)
        have q14 : (x21_1 : Int) < ((x18_1.length : Int) : Int) := of_decide_eq_true (by first | (with_reducible assumption) | assumption)
        obtain ⟨go14, co14, eo14, gb14, gl14, cl14, HG14⟩ := Kd.qtB HO_18.out (by omega)
        (first | cases eo14 | (injection eo14 with ea_ en_ ec_; (first | subst ea_ | (injection ea_ with ea_; subst ea_)); subst ec_; clear en_))
        have GB14 := Aside0.mk gb14
        have GG14 := Aside0.mk HG14
        clear gb14 gl14 HG14
        obtain ⟨hx14_0, hf14_0⟩ := Kd.qbA 0 HO_18.out (x21_1 : Int) p14 q14
        replace p14 := eq_true p14
        replace q14 := eq_true q14
        have HP15 := Kd.qrB HO_18.out (x21_1 : Int) (-1)
        go_wp2_with (first | ((with_reducible refine qTA (t := 3) (p := 26) rfl ?_); refine qLA (t := 3) (p := 26) (v := ?vo_w16) (w1 := (wr.setCell ⟨go14, (x21_1 : Int).toNat, none⟩ (.int .i64 (-1)))) ?hg ?ho ?hn ?hr ?_; (case ho => rfl); (case hg => rfl); (case hn => rfl); (case hr => first | (go_simp; done) | (go_simp; rfl)); intro w16 hw; have hg : wr.grownBy w16 (some go14) := (by rw [hw]; exact HP15.2); have hp_ : Kd.R (Kd.int .i64) 3 w16 w.heap.size (fun k_ => some k_ ≠ (v168 : Value).ownBlock) (.slice (some ⟨go14, 0, none⟩) x18_1.length co10) y173 := (by rw [hw, Ny173.out]; exact HP15.1); clear HP15; have n0_ := Aside0.mk (Kd.qfA (v := (.slice (some ⟨go14, 0, none⟩) x18_1.length co10)) (v1 := (.slice (some ⟨go14, 0, none⟩) x18_1.length co10)) (ok := (fun _ => True)) (by (with_reducible repeat (first | apply Kd.qF | apply Kd.qG | apply Kd.qI)); exact Kd.qj HO_15.out (fun _ hk => ⟨trivial, hk⟩)) hg (.inl rfl)); have n1_ := Aside0.mk (hp_); have n2_ := Aside0.mk ((by rw [hw]; exact qk (HB.out) GB14.out : Below w.heap.size w w16)); clear HO_15; clear HO_18; clear HB; have HO_15 := n0_; have HO_18 := n1_; have HB := n2_; clear n0_ n1_ n2_; clear hg hw hp_))
        (try simp only [← hl18_1])
        go_roundg k1
        case measure => have := HK1.out; omega
        case rel => exact ⟨(y173), (wrap64 (x21_1 + 1)), (by first | rfl | (simp; done) | (simp [*]; done)), H', ⟨by have := HK1.out; omega⟩, ⟨by (try simp only [hl18_1]); (with_reducible repeat (first | apply Kd.qF | apply Kd.qG | apply Kd.qI)); exact Kd.qj HO_15.out (fun _ hk => hk.2)⟩, ⟨by (try simp only [hl18_1]); (with_reducible repeat (first | apply Kd.qF | apply Kd.qG | apply Kd.qI)); exact HO_18.out⟩, ⟨bl⟩⟩
       ·rw [if_neg c13] at H
        exact absurd H (by simp)
      ·rw [if_neg c12] at H
       exact absurd H (by simp)
     ·rw [if_neg c11] at H
      have c11b0 : decide (x21_1 < (y170.length : Int)) = false := decide_eq_false c11
      (try (have c11b0_hl18_1 := c11b0; simp only [hl18_1] at c11b0_hl18_1))
      clear c11
      by_cases c17 : 0 ≤ (l0.length : Int)
      ·rw [if_pos c17] at H
       have c17b0 := eq_true c17
       have c17b1 : decide (0 ≤ (l0.length : Int)) = true := decide_eq_true c17
       (try (have c17b1_hl18_1 := c17b1; simp only [hl18_1] at c17b1_hl18_1))
       clear c17
       by_cases c18 : ((l0.length : Int) : Int).toNat ≤ 5864062014805
       ·rw [if_pos c18] at H
        have c18b0 := eq_true c18
        have c18b1 : decide (((l0.length : Int) : Int).toNat ≤ 5864062014805) = true := decide_eq_true c18
        clear c18
        obtain ⟨y174, hy174⟩ : ∃ y_ : List (S31), y_ = (List.replicate ((l0.length : Int) : Int).toNat z31) := ⟨_, rfl⟩
        replace H : ((qkA.f).bind fun bt180 => (if 0 < (y174.length : Int) then (if 0 < (y167.length : Int) then (if 0 < (x18_1.length : Int) then (qB.l1 k1 l0 (([0] : List Int)) 0 (y167.set (0 : Int).toNat 5) (x18_1.set (0 : Int).toNat 0) (y174.set (0 : Int).toNat (⟨bt180.1, bt180.2.1, bt180.2.2.1, bt180.2.2.2.1, bt180.2.2.2.2.1, bt180.2.2.2.2.2⟩ : S31))) else (none)) else (none)) else (none))) = some (r1, r2) := by first | (rw [hy174]; with_reducible exact H) | (have H2_ := (Option.bind_some _ _).symm.trans H; rw [hy174]; with_reducible exact H2_) | (have H2_ := (Option.bind_some _ _).symm.trans H; with_reducible exact H2_) | with_reducible exact H | (rw [hy174]; exact H) | exact H
        have Ny174 := Aside0.mk hy174
        clear hy174
        obtain ⟨y177, hy177⟩ : ∃ y_ : List Int, y_ = (([0] : List Int)) := ⟨_, rfl⟩
        replace H : ((qkA.f).bind fun bt180 => (if 0 < (y174.length : Int) then (if 0 < (y167.length : Int) then (if 0 < (x18_1.length : Int) then (qB.l1 k1 l0 y177 0 (y167.set (0 : Int).toNat 5) (x18_1.set (0 : Int).toNat 0) (y174.set (0 : Int).toNat (⟨bt180.1, bt180.2.1, bt180.2.2.1, bt180.2.2.2.1, bt180.2.2.2.2.1, bt180.2.2.2.2.2⟩ : S31))) else (none)) else (none)) else (none))) = some (r1, r2) := by first | (rw [hy177]; with_reducible exact H) | (have H2_ := (Option.bind_some _ _).symm.trans H; rw [hy177]; with_reducible exact H2_) | (have H2_ := (Option.bind_some _ _).symm.trans H; with_reducible exact H2_) | with_reducible exact H | (rw [hy177]; exact H) | exact H
        have Ny177 := Aside0.mk hy177
        clear hy177
        replace H := Option.bind_eq_some_iff.mp H
        obtain ⟨⟨t180, t181, t182, t183, t184, t185⟩, A190, H⟩ := H
        replace H : (if 0 < (y174.length : Int) then (if 0 < (y167.length : Int) then (if 0 < (x18_1.length : Int) then (qB.l1 k1 l0 y177 0 (y167.set (0 : Int).toNat 5) (x18_1.set (0 : Int).toNat 0) (y174.set (0 : Int).toNat (⟨t180, t181, t182, t183, t184, t185⟩ : S31))) else (none)) else (none)) else (none)) = some (r1, r2) := H
        have A19 := Aside0.mk A190
        clear A190
        by_cases c20 : 0 < (y174.length : Int)
        ·rw [if_pos c20] at H
         have c20b0 : decide (0 < (y174.length : Int)) = true := decide_eq_true c20
         (try (have c20b0_hl18_1 := c20b0; simp only [hl18_1] at c20b0_hl18_1))
         have c20b1 : decide (0 < y174.length) = true := decide_eq_true (by omega)
         clear c20
         obtain ⟨y186, hy186⟩ : ∃ y_ : List (S31), y_ = (y174.set (0 : Int).toNat (⟨t180, t181, t182, t183, t184, t185⟩ : S31)) := ⟨_, rfl⟩
         replace H : (if 0 < (y167.length : Int) then (if 0 < (x18_1.length : Int) then (qB.l1 k1 l0 y177 0 (y167.set (0 : Int).toNat 5) (x18_1.set (0 : Int).toNat 0) y186) else (none)) else (none)) = some (r1, r2) := by first | (rw [hy186]; with_reducible exact H) | (have H2_ := (Option.bind_some _ _).symm.trans H; rw [hy186]; with_reducible exact H2_) | (have H2_ := (Option.bind_some _ _).symm.trans H; with_reducible exact H2_) | with_reducible exact H | (rw [hy186]; exact H) | exact H
         have Ny186 := Aside0.mk hy186
         clear hy186
         by_cases c22 : 0 < (y167.length : Int)
         ·rw [if_pos c22] at H
          have c22b0 : decide (0 < (y167.length : Int)) = true := decide_eq_true c22
          (try (have c22b0_hl18_1 := c22b0; simp only [hl18_1] at c22b0_hl18_1))
          have c22b1 : decide (0 < y167.length) = true := decide_eq_true (by omega)
          clear c22
          obtain ⟨y187, hy187⟩ : ∃ y_ : List Int, y_ = (y167.set (0 : Int).toNat 5) := ⟨_, rfl⟩
          replace H : (if 0 < (x18_1.length : Int) then (qB.l1 k1 l0 y177 0 y187 (x18_1.set (0 : Int).toNat 0) y186) else (none)) = some (r1, r2) := by first | (rw [hy187]; with_reducible exact H) | (have H2_ := (Option.bind_some _ _).symm.trans H; rw [hy187]; with_reducible exact H2_) | (have H2_ := (Option.bind_some _ _).symm.trans H; with_reducible exact H2_) | with_reducible exact H | (rw [hy187]; exact H) | exact H
          have Ny187 := Aside0.mk hy187
          clear hy187
          by_cases c24 : 0 < (x18_1.length : Int)
          ·rw [if_pos c24] at H
           have c24b0 : decide (0 < (x18_1.length : Int)) = true := decide_eq_true c24
           (try (have c24b0_hl18_1 := c24b0; simp only [hl18_1] at c24b0_hl18_1))
           have c24b1 : decide (0 < x18_1.length) = true := decide_eq_true (by omega)
           clear c24
           obtain ⟨y188, hy188⟩ : ∃ y_ : List Int, y_ = (x18_1.set (0 : Int).toNat 0) := ⟨_, rfl⟩
           replace H : (qB.l1 k1 l0 y177 0 y187 y188 y186) = some (r1, r2) := by first | (rw [hy188]; with_reducible exact H) | (have H2_ := (Option.bind_some _ _).symm.trans H; rw [hy188]; with_reducible exact H2_) | (have H2_ := (Option.bind_some _ _).symm.trans H; with_reducible exact H2_) | with_reducible exact H | (rw [hy188]; exact H) | exact H
           have Ny188 := Aside0.mk hy188
           clear hy188
           have H' := Aside0.mk H
           clear H
           go_wp2_with (first | ((with_reducible refine qW (N := 30) rfl ?_); refine Kd.R_make k31 _ 31 rfl (N := 30) rfl 69 _ _ rfl (l0.length : Int) rfl rfl Tryd.underlying69 (.agg #[(.int .i64 0), (.int .i64 0), (.int .i64 0), (.int .i64 0), (.int .i64 0), (.int .i64 0)]) 48 info31 rfl (by decide) (by omega) z31 (ok := fun _ => True) (okp := fun _ => True) (qCC _ _ _ z31 ) (fun _ hk => hk) trivial (of_decide_eq_true (by first | (with_reducible assumption) | assumption)) (Nat.le_trans (Nat.mul_le_mul_right _ (of_decide_eq_true (by first | (with_reducible assumption) | assumption) : (l0.length : Int).toNat ≤ 5864062014805)) (by omega)) (Below.refl _ _) (Nat.le_refl _) ?_; intro v175 w26 ho27 hb hg_ hnew_; clear hg_ hnew_; (first | rw [← Ny174.out] at ho27 | (simp only [Int.reduceToNat] at ho27; rw [← Ny174.out] at ho27)); have n0_ := Aside0.mk (Kd.qa (by (with_reducible repeat (first | apply Kd.qF | apply Kd.qG | apply Kd.qI)); exact HO_15.out) hb); have n1_ := Aside0.mk (Kd.qa (by (with_reducible repeat (first | apply Kd.qF | apply Kd.qG | apply Kd.qI)); exact HO_18.out) hb); have n2_ := Aside0.mk (Kd.qHA ho27 (qe bl)); have n3_ := Aside0.mk (qL bl hb); clear HO_15; clear HO_18; clear HB; have HO_15 := n0_; have HO_18 := n1_; have HO176 := n2_; have HB := n3_; clear n0_ n1_ n2_ n3_; clear hb ho27) | ((with_reducible refine qW (N := 31) rfl ?_); refine Kd.R_lit (Kd.int .i64) _ 3 ?hg (N := 31) ?hd (xs := ([0] : List Int)) (inner := [.int .i64 0]) (ok := fun _ => True) (okp := fun _ => True) ?hr ?hp (fun _ hk => hk) trivial (Below.refl _ _) (Nat.le_refl _) (by simp) ?_; (case hd => rfl); (case hg => rfl); (case hr => first | (go_simp; done) | (go_simp; rfl)); (case hp => exact (Reps.one (show Kd.M (Kd.int .i64) _ _ _ 0 [.int .i64 0] from rfl) (Reps.none _ _))); intro v178 w28 ho29 hb hg_ hnew_; clear hg_ hnew_; (first | rw [← Ny177.out] at ho29 | (simp only [Int.reduceToNat] at ho29; rw [← Ny177.out] at ho29)); have n0_ := Aside0.mk (Kd.qiA (by (with_reducible repeat (first | apply Kd.qF | apply Kd.qG | apply Kd.qI)); exact HO_15.out) (Kd.qbB ho29) hb); have n1_ := Aside0.mk (Kd.qiA (by (with_reducible repeat (first | apply Kd.qF | apply Kd.qG | apply Kd.qI)); exact HO_18.out) (Kd.qbB ho29) hb); have n2_ := Aside0.mk (Kd.qa (by (with_reducible repeat (first | apply Kd.qF | apply Kd.qG | apply Kd.qI)); exact HO176.out) hb); have n3_ := Aside0.mk (Kd.qHA (Kd.qaB (Kd.qaB ho29 (Kd.R_lt (by (with_reducible repeat (first | apply Kd.qF | apply Kd.qG | apply Kd.qI)); exact HO_15.out))) (Kd.R_lt (by (with_reducible repeat (first | apply Kd.qF | apply Kd.qG | apply Kd.qI)); exact HO_18.out))) (qe bl)); have n4_ := Aside0.mk (qL bl hb); clear HO_15; clear HO_18; clear HO176; clear HB; have HO_15 := n0_; have HO_18 := n1_; have HO176 := n2_; have HO179 := n3_; have HB := n4_; clear n0_ n1_ n2_ n3_ n4_; clear hb ho29) | ((with_reducible refine qd (f := 52) rfl ?_); refine qSA (some 35) rfl rfl Tryd.func52 (by kernel_rfl) rfl #[] rfl (by (try simp only [List.map_toArray, List.map_cons, List.map_nil]); first | done | rfl | (simp only [List.length_drop, List.length_take]; rfl)) ?_; (with_reducible refine (qkA.calls  t180 t181 t182 t183 t184 t185 _ A19.out).mono ?_); rintro e w30 ⟨rfl, hb⟩; refine ⟨_, rfl, ?_⟩; have n0_ := Aside0.mk (Kd.qa (by (with_reducible repeat (first | apply Kd.qF | apply Kd.qG | apply Kd.qI)); exact HO_15.out) hb); have n1_ := Aside0.mk (Kd.qa (by (with_reducible repeat (first | apply Kd.qF | apply Kd.qG | apply Kd.qI)); exact HO_18.out) hb); have n2_ := Aside0.mk (Kd.qa (by (with_reducible repeat (first | apply Kd.qF | apply Kd.qG | apply Kd.qI)); exact HO176.out) hb); have n3_ := Aside0.mk (Kd.qa (by (with_reducible repeat (first | apply Kd.qF | apply Kd.qG | apply Kd.qI)); exact HO179.out) hb); have n4_ := Aside0.mk (qL bl hb); clear HO_15; clear HO_18; clear HO176; clear HO179; clear HB; have HO_15 := n0_; have HO_18 := n1_; have HO176 := n2_; have HO179 := n3_; have HB := n4_; clear n0_ n1_ n2_ n3_ n4_; (try clear hb); (try clear hb2); (try clear hk); (try clear hi); have p21 : 0 ≤ (0 : Int) := (by omega); have q21 : (0 : Int) < ((y174.length : Int) : Int) := of_decide_eq_true (by first | (with_reducible assumption) | assumption); have qi21 : (0 < y174.length) = True := eq_true (by omega); obtain ⟨go21, co21, eo21, gb21, gl21, cl21, HG21⟩ := Kd.qtB HO176.out (by omega); (first | cases eo21 | (injection eo21 with ea_ en_ ec_; (first | subst ea_ | (injection ea_ with ea_; subst ea_)); subst ec_; clear en_)); have GB21 := Aside0.mk gb21; have GG21 := Aside0.mk HG21; clear gb21 gl21 HG21; obtain ⟨ce21, hcl21, hM21, hcc21, hfr21⟩ := Kd.qAC HO176.out z31 (0 : Int) p21 q21; obtain rfl := qIB hM21; have hx21_0 : w30.cell? ⟨go21, (0 : Int).toNat * 6, none⟩ = some (.int .i64 ((qb y174 0).f0)) := hcc21 0 _ rfl; have hx21_1 : w30.cell? ⟨go21, (0 : Int).toNat * 6 + 1, none⟩ = some (.int .i64 ((qb y174 0).f1)) := hcc21 1 _ rfl; have hx21_2 : w30.cell? ⟨go21, (0 : Int).toNat * 6 + 2, none⟩ = some (.int .i64 ((qb y174 0).f2)) := hcc21 2 _ rfl; have hx21_3 : w30.cell? ⟨go21, (0 : Int).toNat * 6 + 3, none⟩ = some (.int .i64 ((qb y174 0).f3)) := hcc21 3 _ rfl; have hx21_4 : w30.cell? ⟨go21, (0 : Int).toNat * 6 + 4, none⟩ = some (.int .i64 ((qb y174 0).f4)) := hcc21 4 _ rfl; have hx21_5 : w30.cell? ⟨go21, (0 : Int).toNat * 6 + 5, none⟩ = some (.int .i64 ((qb y174 0).f5)) := hcc21 5 _ rfl; have hf21_0 : w30.frozen? ⟨go21, (0 : Int).toNat * 6, none⟩ = false := hfr21 0; have hf21_1 : w30.frozen? ⟨go21, (0 : Int).toNat * 6 + 1, none⟩ = false := hfr21 1; have hf21_2 : w30.frozen? ⟨go21, (0 : Int).toNat * 6 + 2, none⟩ = false := hfr21 2; have hf21_3 : w30.frozen? ⟨go21, (0 : Int).toNat * 6 + 3, none⟩ = false := hfr21 3; have hf21_4 : w30.frozen? ⟨go21, (0 : Int).toNat * 6 + 4, none⟩ = false := hfr21 4; have hf21_5 : w30.frozen? ⟨go21, (0 : Int).toNat * 6 + 5, none⟩ = false := hfr21 5; clear hcl21 hcc21 hfr21 hM21; (try rw [show ((0 : Int)).toNat = 0 from rfl] at hx21_0); (try simp only [Nat.reduceMul, Nat.zero_mul, Nat.zero_add, Nat.reduceAdd] at hx21_0); (try rw [show ((0 : Int)).toNat = 0 from rfl] at hf21_0); (try simp only [Nat.reduceMul, Nat.zero_mul, Nat.zero_add, Nat.reduceAdd] at hf21_0); (try rw [show ((0 : Int)).toNat = 0 from rfl] at hx21_1); (try simp only [Nat.reduceMul, Nat.zero_mul, Nat.zero_add, Nat.reduceAdd] at hx21_1); (try rw [show ((0 : Int)).toNat = 0 from rfl] at hf21_1); (try simp only [Nat.reduceMul, Nat.zero_mul, Nat.zero_add, Nat.reduceAdd] at hf21_1); (try rw [show ((0 : Int)).toNat = 0 from rfl] at hx21_2); (try simp only [Nat.reduceMul, Nat.zero_mul, Nat.zero_add, Nat.reduceAdd] at hx21_2); (try rw [show ((0 : Int)).toNat = 0 from rfl] at hf21_2); (try simp only [Nat.reduceMul, Nat.zero_mul, Nat.zero_add, Nat.reduceAdd] at hf21_2); (try rw [show ((0 : Int)).toNat = 0 from rfl] at hx21_3); (try simp only [Nat.reduceMul, Nat.zero_mul, Nat.zero_add, Nat.reduceAdd] at hx21_3); (try rw [show ((0 : Int)).toNat = 0 from rfl] at hf21_3); (try simp only [Nat.reduceMul, Nat.zero_mul, Nat.zero_add, Nat.reduceAdd] at hf21_3); (try rw [show ((0 : Int)).toNat = 0 from rfl] at hx21_4); (try simp only [Nat.reduceMul, Nat.zero_mul, Nat.zero_add, Nat.reduceAdd] at hx21_4); (try rw [show ((0 : Int)).toNat = 0 from rfl] at hf21_4); (try simp only [Nat.reduceMul, Nat.zero_mul, Nat.zero_add, Nat.reduceAdd] at hf21_4); (try rw [show ((0 : Int)).toNat = 0 from rfl] at hx21_5); (try simp only [Nat.reduceMul, Nat.zero_mul, Nat.zero_add, Nat.reduceAdd] at hx21_5); (try rw [show ((0 : Int)).toNat = 0 from rfl] at hf21_5); (try simp only [Nat.reduceMul, Nat.zero_mul, Nat.zero_add, Nat.reduceAdd] at hf21_5); replace p21 := eq_true p21; replace q21 := eq_true q21; have HX31 := Aside0.mk (show Kd.R k31 31 w30 w.heap.size (fun _ => True) (.slice (some ⟨go21, 0, none⟩) y174.length co21) y174 from (by (with_reducible repeat (first | apply Kd.qF | apply Kd.qG | apply Kd.qI)); exact HO176.out)); obtain ⟨ce31, hcl31, hM31, hcc31, hfr31⟩ := Kd.qAC HX31.out z31 (0 : Int) (by omega) (by have h_ : (0 : Int) < ((y174.length : Int) : Int) := of_decide_eq_true (by first | (with_reducible assumption) | assumption); first | exact h_ | (have e_ := (Kd.qQ HO176.out).1; omega) | simpa using h_); obtain rfl := qIB hM31; have HP31 := Kd.R_seg HX31.out (0 : Int) (by omega) (by have h_ : (0 : Int) < ((y174.length : Int) : Int) := of_decide_eq_true (by first | (with_reducible assumption) | assumption); first | exact h_ | (have e_ := (Kd.qQ HO176.out).1; omega) | simpa using h_) (seg := [.int .i64 t180, .int .i64 t181, .int .i64 t182, .int .i64 t183, .int .i64 t184, .int .i64 t185]) (j := 0) hcl31 hcc31 (show 6 ≤ 6 from by decide) (x' := (⟨t180, t181, t182, t183, t184, t185⟩ : S31)) (qCC _ _ _ (⟨t180, t181, t182, t183, t184, t185⟩ : S31) ) (fun _ hk => hk); have hx31_0 := hcc31 0 _ rfl; (try simp only [show (k31).sz = 6 from rfl, Nat.mul_one, Nat.add_zero] at hx31_0); (try rw [show ((0 : Int)).toNat = 0 from rfl] at hx31_0); (try simp only [Nat.reduceMul, Nat.zero_mul, Nat.zero_add, Nat.reduceAdd] at hx31_0); have hf31_0 := hfr31 0; (try simp only [show (k31).sz = 6 from rfl, Nat.mul_one, Nat.add_zero] at hf31_0); (try rw [show ((0 : Int)).toNat = 0 from rfl] at hf31_0); (try simp only [Nat.reduceMul, Nat.zero_mul, Nat.zero_add, Nat.reduceAdd] at hf31_0); have hx31_1 := hcc31 1 _ rfl; (try simp only [show (k31).sz = 6 from rfl, Nat.mul_one, Nat.add_zero] at hx31_1); (try rw [show ((0 : Int)).toNat = 0 from rfl] at hx31_1); (try simp only [Nat.reduceMul, Nat.zero_mul, Nat.zero_add, Nat.reduceAdd] at hx31_1); have hf31_1 := hfr31 1; (try simp only [show (k31).sz = 6 from rfl, Nat.mul_one, Nat.add_zero] at hf31_1); (try rw [show ((0 : Int)).toNat = 0 from rfl] at hf31_1); (try simp only [Nat.reduceMul, Nat.zero_mul, Nat.zero_add, Nat.reduceAdd] at hf31_1); have hx31_2 := hcc31 2 _ rfl; (try simp only [show (k31).sz = 6 from rfl, Nat.mul_one, Nat.add_zero] at hx31_2); (try rw [show ((0 : Int)).toNat = 0 from rfl] at hx31_2); (try simp only [Nat.reduceMul, Nat.zero_mul, Nat.zero_add, Nat.reduceAdd] at hx31_2); have hf31_2 := hfr31 2; (try simp only [show (k31).sz = 6 from rfl, Nat.mul_one, Nat.add_zero] at hf31_2); (try rw [show ((0 : Int)).toNat = 0 from rfl] at hf31_2); (try simp only [Nat.reduceMul, Nat.zero_mul, Nat.zero_add, Nat.reduceAdd] at hf31_2); have hx31_3 := hcc31 3 _ rfl; (try simp only [show (k31).sz = 6 from rfl, Nat.mul_one, Nat.add_zero] at hx31_3); (try rw [show ((0 : Int)).toNat = 0 from rfl] at hx31_3); (try simp only [Nat.reduceMul, Nat.zero_mul, Nat.zero_add, Nat.reduceAdd] at hx31_3); have hf31_3 := hfr31 3; (try simp only [show (k31).sz = 6 from rfl, Nat.mul_one, Nat.add_zero] at hf31_3); (try rw [show ((0 : Int)).toNat = 0 from rfl] at hf31_3); (try simp only [Nat.reduceMul, Nat.zero_mul, Nat.zero_add, Nat.reduceAdd] at hf31_3); have hx31_4 := hcc31 4 _ rfl; (try simp only [show (k31).sz = 6 from rfl, Nat.mul_one, Nat.add_zero] at hx31_4); (try rw [show ((0 : Int)).toNat = 0 from rfl] at hx31_4); (try simp only [Nat.reduceMul, Nat.zero_mul, Nat.zero_add, Nat.reduceAdd] at hx31_4); have hf31_4 := hfr31 4; (try simp only [show (k31).sz = 6 from rfl, Nat.mul_one, Nat.add_zero] at hf31_4); (try rw [show ((0 : Int)).toNat = 0 from rfl] at hf31_4); (try simp only [Nat.reduceMul, Nat.zero_mul, Nat.zero_add, Nat.reduceAdd] at hf31_4); have hx31_5 := hcc31 5 _ rfl; (try simp only [show (k31).sz = 6 from rfl, Nat.mul_one, Nat.add_zero] at hx31_5); (try rw [show ((0 : Int)).toNat = 0 from rfl] at hx31_5); (try simp only [Nat.reduceMul, Nat.zero_mul, Nat.zero_add, Nat.reduceAdd] at hx31_5); have hf31_5 := hfr31 5; (try simp only [show (k31).sz = 6 from rfl, Nat.mul_one, Nat.add_zero] at hf31_5); (try rw [show ((0 : Int)).toNat = 0 from rfl] at hf31_5); (try simp only [Nat.reduceMul, Nat.zero_mul, Nat.zero_add, Nat.reduceAdd] at hf31_5); clear hcl31 hcc31 hfr31 hM31) | ((with_reducible refine qTA (t := 31) (p := 36) rfl ?_); refine qLA (t := 31) (p := 36) (v := ?vo_w32) (w1 := ((((((w30.setCell ⟨go21, 0, none⟩ (.int .i64 t180)).setCell ⟨go21, 1, none⟩ (.int .i64 t181)).setCell ⟨go21, 2, none⟩ (.int .i64 t182)).setCell ⟨go21, 3, none⟩ (.int .i64 t183)).setCell ⟨go21, 4, none⟩ (.int .i64 t184)).setCell ⟨go21, 5, none⟩ (.int .i64 t185))) ?hg ?ho ?hn ?hr ?_; (case ho => rfl); (case hg => rfl); (case hn => rfl); (case hr => first | (go_simp; done) | (go_simp; rfl)); intro w32 hw; have hg : w30.grownBy w32 (some go21) := (by rw [hw]; exact HP31.2); have hp_ : Kd.R k31 31 w32 w.heap.size (fun _ => True) (.slice (some ⟨go21, 0, none⟩) y174.length co21) y186 := (by rw [hw, Ny186.out]; exact HP31.1); clear HP31; have n0_ := Aside0.mk (Kd.qeA (v := (.slice (some ⟨go21, 0, none⟩) y174.length co21)) (by (with_reducible repeat (first | apply Kd.qF | apply Kd.qG | apply Kd.qI)); exact HO_15.out) (Kd.qCA HO176.out) (by decide) hg); have n1_ := Aside0.mk (Kd.qeA (v := (.slice (some ⟨go21, 0, none⟩) y174.length co21)) (by (with_reducible repeat (first | apply Kd.qF | apply Kd.qG | apply Kd.qI)); exact HO_18.out) (Kd.qCA HO176.out) (by decide) hg); have n2_ := Aside0.mk (hp_); have n3_ := Aside0.mk (Kd.qeA (v := (.slice (some ⟨go21, 0, none⟩) y174.length co21)) (by (with_reducible repeat (first | apply Kd.qF | apply Kd.qG | apply Kd.qI)); exact HO179.out) (Kd.qCA HO176.out) (by decide) hg); have n4_ := Aside0.mk ((by rw [hw]; exact qk (qk (qk (qk (qk (qk (HB.out) GB21.out) GB21.out) GB21.out) GB21.out) GB21.out) GB21.out : Below w.heap.size w w32)); clear HO_15; clear HO_18; clear HO176; clear HO179; clear HB; have HO_15 := n0_; have HO_18 := n1_; have HO176 := n2_; have HO179 := n3_; have HB := n4_; clear n0_ n1_ n2_ n3_ n4_; clear hg hw hp_; have p23 : 0 ≤ (0 : Int) := (by omega); have q23 : (0 : Int) < ((y167.length : Int) : Int) := of_decide_eq_true (by first | (with_reducible assumption) | assumption); have qi23 : (0 < y167.length) = True := eq_true (by omega); obtain ⟨go23, co23, eo23, gb23, gl23, cl23, HG23⟩ := Kd.qtB HO_15.out (by omega); (first | cases eo23 | (injection eo23 with ea_ en_ ec_; (first | subst ea_ | (injection ea_ with ea_; subst ea_)); subst ec_; clear en_)); have GB23 := Aside0.mk gb23; have GG23 := Aside0.mk HG23; clear gb23 gl23 HG23; obtain ⟨hx23_0, hf23_0⟩ := Kd.qbA 0 HO_15.out (0 : Int) p23 q23; (try rw [show ((0 : Int)).toNat = 0 from rfl] at hx23_0); (try simp only [Nat.reduceMul, Nat.zero_mul, Nat.zero_add, Nat.reduceAdd] at hx23_0); (try rw [show ((0 : Int)).toNat = 0 from rfl] at hf23_0); (try simp only [Nat.reduceMul, Nat.zero_mul, Nat.zero_add, Nat.reduceAdd] at hf23_0); replace p23 := eq_true p23; replace q23 := eq_true q23; obtain ⟨hy33_, hz33_⟩ := Kd.qbA 0 HO_15.out (0 : Int) (by omega) (of_decide_eq_true (by first | (with_reducible assumption) | assumption)); (try simp only [Int.reduceToNat, Int.toNat_zero, Int.toNat_ofNat, Nat.reduceMul, Nat.zero_mul, Nat.zero_add] at hy33_ hz33_); (try rw [show ((0 : Int)).toNat = 0 from rfl] at hy33_); (try rw [show ((0 : Int)).toNat = 0 from rfl] at hz33_); have HP33 := Kd.qrB HO_15.out (0 : Int) 5) | ((with_reducible refine qTA (t := 3) (p := 37) rfl ?_); refine qLA (t := 3) (p := 37) (v := ?vo_w34) (w1 := (w32.setCell ⟨go23, (0 : Int).toNat, none⟩ (.int .i64 5))) ?hg ?ho ?hn ?hr ?_; (case ho => rfl); (case hg => rfl); (case hn => rfl); (case hr => first | (go_simp; done) | (go_simp; rfl)); intro w34 hw; have hg : w32.grownBy w34 (some go23) := (by rw [hw]; exact HP33.2); have hp_ : Kd.R (Kd.int .i64) 3 w34 w.heap.size (fun k_ => some k_ ≠ (.slice Ao10 x18_1.length co10 : Value).ownBlock ∧ some k_ ≠ (v178 : Value).ownBlock) (.slice (some ⟨go23, 0, none⟩) y167.length co23) y187 := (by rw [hw, Ny187.out]; exact HP33.1); clear HP33; have n0_ := Aside0.mk (hp_); have n1_ := Aside0.mk (Kd.qfA (v := (.slice (some ⟨go23, 0, none⟩) y167.length co23)) (v1 := (.slice (some ⟨go23, 0, none⟩) y167.length co23)) (ok := (fun k_ => some k_ ≠ (v178 : Value).ownBlock)) (by (with_reducible repeat (first | apply Kd.qF | apply Kd.qG | apply Kd.qI)); exact Kd.qj HO_18.out (fun _ hk => ⟨hk.2, hk.1⟩)) hg (.inl rfl)); have n2_ := Aside0.mk (Kd.qeA (v := (.slice (some ⟨go23, 0, none⟩) y167.length co23)) (by (with_reducible repeat (first | apply Kd.qF | apply Kd.qG | apply Kd.qI)); exact HO176.out) (Kd.qCA HO_15.out) (by decide) hg); have n3_ := Aside0.mk (Kd.qfA (v := (.slice (some ⟨go23, 0, none⟩) y167.length co23)) (v1 := (.slice (some ⟨go23, 0, none⟩) y167.length co23)) (ok := (fun k_ => some k_ ≠ (.slice Ao10 x18_1.length co10 : Value).ownBlock)) (by (with_reducible repeat (first | apply Kd.qF | apply Kd.qG | apply Kd.qI)); exact Kd.qj HO179.out (fun _ hk => ⟨hk.2, hk.1.2⟩)) hg (.inl rfl)); have n4_ := Aside0.mk ((by rw [hw]; exact qk (HB.out) GB23.out : Below w.heap.size w w34)); clear HO_15; clear HO_18; clear HO176; clear HO179; clear HB; have HO_15 := n0_; have HO_18 := n1_; have HO176 := n2_; have HO179 := n3_; have HB := n4_; clear n0_ n1_ n2_ n3_ n4_; clear hg hw hp_; have p25 : 0 ≤ (0 : Int) := (by omega); have q25 : (0 : Int) < ((x18_1.length : Int) : Int) := of_decide_eq_true (by first | (with_reducible assumption) | assumption); have qi25 : (0 < x18_1.length) = True := eq_true (by omega); obtain ⟨go25, co25, eo25, gb25, gl25, cl25, HG25⟩ := Kd.qtB HO_18.out (by omega); (first | cases eo25 | (injection eo25 with ea_ en_ ec_; (first | subst ea_ | (injection ea_ with ea_; subst ea_)); subst ec_; clear en_)); have GB25 := Aside0.mk gb25; have GG25 := Aside0.mk HG25; clear gb25 gl25 HG25; obtain ⟨hx25_0, hf25_0⟩ := Kd.qbA 0 HO_18.out (0 : Int) p25 q25; (try rw [show ((0 : Int)).toNat = 0 from rfl] at hx25_0); (try simp only [Nat.reduceMul, Nat.zero_mul, Nat.zero_add, Nat.reduceAdd] at hx25_0); (try rw [show ((0 : Int)).toNat = 0 from rfl] at hf25_0); (try simp only [Nat.reduceMul, Nat.zero_mul, Nat.zero_add, Nat.reduceAdd] at hf25_0); replace p25 := eq_true p25; replace q25 := eq_true q25; obtain ⟨hy35_, hz35_⟩ := Kd.qbA 0 HO_18.out (0 : Int) (by omega) (of_decide_eq_true (by first | (with_reducible assumption) | assumption)); (try simp only [Int.reduceToNat, Int.toNat_zero, Int.toNat_ofNat, Nat.reduceMul, Nat.zero_mul, Nat.zero_add] at hy35_ hz35_); (try rw [show ((0 : Int)).toNat = 0 from rfl] at hy35_); (try rw [show ((0 : Int)).toNat = 0 from rfl] at hz35_); have HP35 := Kd.qrB HO_18.out (0 : Int) 0) | ((with_reducible refine qTA (t := 3) (p := 38) rfl ?_); refine qLA (t := 3) (p := 38) (v := ?vo_w36) (w1 := (w34.setCell ⟨go25, (0 : Int).toNat, none⟩ (.int .i64 0))) ?hg ?ho ?hn ?hr ?_; (case ho => rfl); (case hg => rfl); (case hn => rfl); (case hr => first | (go_simp; done) | (go_simp; rfl)); intro w36 hw; have hg : w34.grownBy w36 (some go25) := (by rw [hw]; exact HP35.2); have hp_ : Kd.R (Kd.int .i64) 3 w36 w.heap.size (fun k_ => some k_ ≠ (v178 : Value).ownBlock ∧ some k_ ≠ (.slice (some ⟨go23, 0, none⟩) y167.length co23 : Value).ownBlock) (.slice (some ⟨go25, 0, none⟩) x18_1.length co10) y188 := (by rw [hw, Ny188.out]; exact HP35.1); clear HP35; have n0_ := Aside0.mk (Kd.qfA (v := (.slice (some ⟨go25, 0, none⟩) x18_1.length co10)) (v1 := (.slice (some ⟨go25, 0, none⟩) x18_1.length co10)) (ok := (fun k_ => some k_ ≠ (v178 : Value).ownBlock)) (by (with_reducible repeat (first | apply Kd.qF | apply Kd.qG | apply Kd.qI)); exact Kd.qj HO_15.out (fun _ hk => ⟨hk.2, hk.1⟩)) hg (.inl rfl)); have n1_ := Aside0.mk (hp_); have n2_ := Aside0.mk (Kd.qeA (v := (.slice (some ⟨go25, 0, none⟩) x18_1.length co10)) (by (with_reducible repeat (first | apply Kd.qF | apply Kd.qG | apply Kd.qI)); exact HO176.out) (Kd.qCA HO_18.out) (by decide) hg); have n3_ := Aside0.mk (Kd.qfA (v := (.slice (some ⟨go25, 0, none⟩) x18_1.length co10)) (v1 := (.slice (some ⟨go25, 0, none⟩) x18_1.length co10)) (ok := (fun k_ => some k_ ≠ (.slice (some ⟨go23, 0, none⟩) y167.length co23 : Value).ownBlock)) (by (with_reducible repeat (first | apply Kd.qF | apply Kd.qG | apply Kd.qI)); exact Kd.qj HO179.out (fun _ hk => ⟨hk.2, hk.1⟩)) hg (.inl rfl)); have n4_ := Aside0.mk ((by rw [hw]; exact qk (HB.out) GB25.out : Below w.heap.size w w36)); clear HO_15; clear HO_18; clear HO176; clear HO179; clear HB; have HO_15 := n0_; have HO_18 := n1_; have HO176 := n2_; have HO179 := n3_; have HB := n4_; clear n0_ n1_ n2_ n3_ n4_; clear hg hw hp_))
           go_loopg [8, 9] k1 (fun kq v8 v9 w' => ∃ (x8_2 : List Int) (x9_2 : Int) (x15_2 : List Int) (x18_2 : List Int) (x30_2 : List (S31)), v9 = .int .i64 x9_2 ∧ Aside0 (qB.l1 kq l0 x8_2 x9_2 x15_2 x18_2 x30_2 = some (r1, r2)) ∧ Aside0 (kq ≤ k1) ∧ Aside0 (Kd.R (Kd.int .i64) 3 w' w.heap.size (fun k_ => some k_ ≠ ((.slice (some ⟨go23, 0, none⟩) y167.length co23) : Value).ownBlock ∧ some k_ ≠ ((.slice (some ⟨go25, 0, none⟩) x18_1.length co10) : Value).ownBlock) v8 x8_2) ∧ Aside0 (Kd.R (Kd.int .i64) 3 w' w.heap.size (fun k_ => some k_ ≠ (v8 : Value).ownBlock ∧ some k_ ≠ ((.slice (some ⟨go25, 0, none⟩) x18_1.length co10) : Value).ownBlock) (.slice (some ⟨go23, 0, none⟩) y167.length co23) x15_2) ∧ Aside0 (Kd.R (Kd.int .i64) 3 w' w.heap.size (fun k_ => some k_ ≠ (v8 : Value).ownBlock ∧ some k_ ≠ ((.slice (some ⟨go23, 0, none⟩) y167.length co23) : Value).ownBlock) (.slice (some ⟨go25, 0, none⟩) x18_1.length co10) x18_2) ∧ Aside0 (Kd.R k31 31 w' w.heap.size (fun _ => True) (.slice (some ⟨go21, 0, none⟩) y174.length co21) x30_2) ∧ Aside0 (Below w.heap.size w w'))
           case atStart => exact ⟨(y177), (0), (y187), (y188), (y186), (by first | rfl | (simp; done) | (simp [*]; done)), H', ⟨Nat.le_refl _⟩, ⟨by (try simp only [hl18_1]); (with_reducible repeat (first | apply Kd.qF | apply Kd.qG | apply Kd.qI)); exact HO179.out⟩, ⟨by (try simp only [hl18_1]); (with_reducible repeat (first | apply Kd.qF | apply Kd.qG | apply Kd.qI)); exact HO_15.out⟩, ⟨by (try simp only [hl18_1]); (with_reducible repeat (first | apply Kd.qF | apply Kd.qG | apply Kd.qI)); exact HO_18.out⟩, ⟨by (try simp only [hl18_1]); (with_reducible repeat (first | apply Kd.qF | apply Kd.qG | apply Kd.qI)); exact HO176.out⟩, ⟨bl⟩⟩
           case round =>
            clear H'
            try clear c1
            try clear p1
            try clear q1
            try clear hx1
            try clear hf1
            try clear c2
            try clear c2b0
            try clear c2b1
            try clear p2
            try clear q2
            try clear hx2
            try clear qi2
            try clear hf2
            try clear c3
            try clear c3b0
            try clear c3b1
            try clear hx3
            try clear hf3
            try clear c5
            try clear p6
            try clear c11
            try clear c11b0
            try clear c12
            try clear c12b0
            try clear c13
            try clear c13b0
            try clear p14
            try clear q14
            try clear hx14
            try clear hf14
            try clear c17
            try clear c17b0
            try clear c17b1
            try clear c18
            try clear c18b0
            try clear c18b1
            try clear c20
            try clear c20b0
            try clear c20b1
            try clear c21
            try clear p21
            try clear q21
            try clear hx21
            try clear qi21
            try clear hf21
            try clear c22
            try clear c22b0
            try clear c22b1
            try clear p23
            try clear q23
            try clear hx23
            try clear qi23
            try clear hf23
            try clear c24
            try clear c24b0
            try clear c24b1
            try clear p25
            try clear q25
            try clear hx25
            try clear qi25
            try clear hf25
            try clear c31
            try clear hx31
            try clear hf31
            try clear hx14_0
            try clear hx21_0
            try clear hx21_1
            try clear hx21_2
            try clear hx21_3
            try clear hx21_4
            try clear hx21_5
            try clear hx23_0
            try clear hx25_0
            try clear hx31_0
            try clear hx31_1
            try clear hx31_2
            try clear hx31_3
            try clear hx31_4
            try clear hx31_5
            try clear p14
            try clear p2
            try clear p21
            try clear p23
            try clear p25
            try clear q14
            try clear q21
            try clear q23
            try clear q25
            obtain ⟨x8_2, x9_2, x15_2, x18_2, x30_2, rfl, HA, HK2, HO_8, HO_15, HO_18, HO_30, HB⟩ := hrel
            have hl15_2 := (Kd.qQ HO_15.out).1
            rw [hl15_2] at HO_15
            (try simp only [hl15_2])
            (try simp only [hl15_2] at HO_8)
            (try simp only [hl15_2] at HO_18)
            (try simp only [hl15_2] at HO_30)
            have hl18_2 := (Kd.qQ HO_18.out).1
            rw [hl18_2] at HO_18
            (try simp only [hl18_2])
            (try simp only [hl18_2] at HO_8)
            (try simp only [hl18_2] at HO_15)
            (try simp only [hl18_2] at HO_30)
            have hl30_2 := (Kd.qQ HO_30.out).1
            rw [hl30_2] at HO_30
            (try simp only [hl30_2])
            (try simp only [hl30_2] at HO_8)
            (try simp only [hl30_2] at HO_15)
            (try simp only [hl30_2] at HO_18)
            cases gk with
            | zero => exact absurd HA.out (by simp [qB.l1])
            | succ k2 =>
             have H := HA.out
             clear HA
             simp only [qB.l1] at H
             by_cases c37 : x9_2 < (x8_2.length : Int)
             ·rw [if_pos c37] at H
              have c37b0 : decide (x9_2 < (x8_2.length : Int)) = true := decide_eq_true c37
              (try (have c37b0_hl18_1 := c37b0; simp only [hl18_1] at c37b0_hl18_1))
              (try (have c37b0_hl15_2 := c37b0; simp only [hl15_2] at c37b0_hl15_2))
              (try (have c37b0_hl18_2 := c37b0; simp only [hl18_2] at c37b0_hl18_2))
              (try (have c37b0_hl30_2 := c37b0; simp only [hl30_2] at c37b0_hl30_2))
              clear c37
              by_cases c38 : 0 ≤ x9_2
              ·rw [if_pos c38] at H
               have c38b0 : decide (0 ≤ x9_2) = true := decide_eq_true c38
               clear c38
               have H' := Aside0.mk H
               clear H
               obtain ⟨Ao39, co39, eo39⟩ := Kd.qy HO_8.out
               subst eo39
               have p189 : 0 ≤ (x9_2 : Int) := of_decide_eq_true (by first | (with_reducible assumption) | assumption)
               have q189 : x9_2 < (x8_2.length : Int) := of_decide_eq_true (by first | (with_reducible assumption) | assumption)
               obtain ⟨ad189, e189, hx189_0⟩ := Kd.qGA (Kd.qQ HO_8.out).2.2 x9_2 p189 q189
               cases e189
               replace p189 := eq_true p189
               replace q189 := eq_true q189
               go_wp2
               go_loopg [8, 49] k2 (fun kq v8 v49 w' => ∃ (x8_3 : List Int) (x15_3 : List Int) (x18_3 : List Int) (x30_3 : List (S31)) (x49_3 : Int), v49 = .int .i64 x49_3 ∧ Aside0 (qB.l2 kq l0 x8_3 x9_2 (rd x8_2 x9_2) x15_3 x18_3 x30_3 x49_3 = some (r1, r2)) ∧ Aside0 (kq ≤ k2) ∧ Aside0 (Kd.R (Kd.int .i64) 3 w' w.heap.size (fun k_ => some k_ ≠ ((.slice (some ⟨go23, 0, none⟩) x15_2.length co23) : Value).ownBlock ∧ some k_ ≠ ((.slice (some ⟨go25, 0, none⟩) x18_2.length co10) : Value).ownBlock) v8 x8_3) ∧ Aside0 (Kd.R (Kd.int .i64) 3 w' w.heap.size (fun k_ => some k_ ≠ (v8 : Value).ownBlock ∧ some k_ ≠ ((.slice (some ⟨go25, 0, none⟩) x18_2.length co10) : Value).ownBlock) (.slice (some ⟨go23, 0, none⟩) x15_2.length co23) x15_3) ∧ Aside0 (Kd.R (Kd.int .i64) 3 w' w.heap.size (fun k_ => some k_ ≠ (v8 : Value).ownBlock ∧ some k_ ≠ ((.slice (some ⟨go23, 0, none⟩) x15_2.length co23) : Value).ownBlock) (.slice (some ⟨go25, 0, none⟩) x18_2.length co10) x18_3) ∧ Aside0 (Kd.R k31 31 w' w.heap.size (fun _ => True) (.slice (some ⟨go21, 0, none⟩) x30_2.length co21) x30_3) ∧ Aside0 (Below w.heap.size w w'))
               case atStart => exact ⟨(x8_2), (x15_2), (x18_2), (x30_2), (0), (by first | rfl | (simp; done) | (simp [*]; done)), H', ⟨Nat.le_refl _⟩, ⟨by (try simp only [hl18_1]); (try simp only [hl15_2]); (try simp only [hl18_2]); (try simp only [hl30_2]); (with_reducible repeat (first | apply Kd.qF | apply Kd.qG | apply Kd.qI)); exact HO_8.out⟩, ⟨by (try simp only [hl18_1]); (try simp only [hl15_2]); (try simp only [hl18_2]); (try simp only [hl30_2]); (with_reducible repeat (first | apply Kd.qF | apply Kd.qG | apply Kd.qI)); exact HO_15.out⟩, ⟨by (try simp only [hl18_1]); (try simp only [hl15_2]); (try simp only [hl18_2]); (try simp only [hl30_2]); (with_reducible repeat (first | apply Kd.qF | apply Kd.qG | apply Kd.qI)); exact HO_18.out⟩, ⟨by (try simp only [hl18_1]); (try simp only [hl15_2]); (try simp only [hl18_2]); (try simp only [hl30_2]); (with_reducible repeat (first | apply Kd.qF | apply Kd.qG | apply Kd.qI)); exact HO_30.out⟩, ⟨bl⟩⟩
               case round =>
                clear H'
                try clear c1
                try clear p1
                try clear q1
                try clear hx1
                try clear hf1
                try clear c2
                try clear c2b0
                try clear c2b1
                try clear p2
                try clear q2
                try clear hx2
                try clear qi2
                try clear hf2
                try clear c3
                try clear c3b0
                try clear c3b1
                try clear hx3
                try clear hf3
                try clear c5
                try clear p6
                try clear c11
                try clear c11b0
                try clear c12
                try clear c12b0
                try clear c13
                try clear c13b0
                try clear p14
                try clear q14
                try clear hx14
                try clear hf14
                try clear c17
                try clear c17b0
                try clear c17b1
                try clear c18
                try clear c18b0
                try clear c18b1
                try clear p18
                try clear q18
                try clear hx18
                try clear c20
                try clear c20b0
                try clear c20b1
                try clear c21
                try clear p21
                try clear q21
                try clear hx21
                try clear qi21
                try clear hf21
                try clear c22
                try clear c22b0
                try clear c22b1
                try clear p23
                try clear q23
                try clear hx23
                try clear qi23
                try clear hf23
                try clear c24
                try clear c24b0
                try clear c24b1
                try clear p25
                try clear q25
                try clear hx25
                try clear qi25
                try clear hf25
                try clear c31
                try clear hx31
                try clear hf31
                try clear c37
                try clear c37b0
                try clear c38
                try clear c38b0
                try clear hx14_0
                try clear hx189_0
                try clear hx21_0
                try clear hx21_1
                try clear hx21_2
                try clear hx21_3
                try clear hx21_4
                try clear hx21_5
                try clear hx23_0
                try clear hx25_0
                try clear hx31_0
                try clear hx31_1
                try clear hx31_2
                try clear hx31_3
                try clear hx31_4
                try clear hx31_5
                try clear p1
                try clear p14
                try clear p189
                try clear p2
                try clear p21
                try clear p23
                try clear p25
                try clear p6
                try clear q1
                try clear q14
                try clear q189
                try clear q2
                try clear q21
                try clear q23
                try clear q25
                obtain ⟨x8_3, x15_3, x18_3, x30_3, x49_3, rfl, HA, HK3, HO_8, HO_15, HO_18, HO_30, HB⟩ := hrel
                have hl15_3 := (Kd.qQ HO_15.out).1
                rw [hl15_3] at HO_15
                (try simp only [hl15_3])
                (try simp only [hl15_3] at HO_8)
                (try simp only [hl15_3] at HO_18)
                (try simp only [hl15_3] at HO_30)
                have hl18_3 := (Kd.qQ HO_18.out).1
                rw [hl18_3] at HO_18
                (try simp only [hl18_3])
                (try simp only [hl18_3] at HO_8)
                (try simp only [hl18_3] at HO_15)
                (try simp only [hl18_3] at HO_30)
                have hl30_3 := (Kd.qQ HO_30.out).1
                rw [hl30_3] at HO_30
                (try simp only [hl30_3])
                (try simp only [hl30_3] at HO_8)
                (try simp only [hl30_3] at HO_15)
                (try simp only [hl30_3] at HO_18)
                cases gk with
                | zero => exact absurd HA.out (by simp [qB.l2])
                | succ k3 =>
                 have H := HA.out
                 clear HA
                 simp only [qB.l2] at H
                 by_cases c40 : x49_3 < 4
                 ·rw [if_pos c40] at H
                  have c40b0 : decide (x49_3 < 4) = true := decide_eq_true c40
                  clear c40
                  by_cases c41 : 0 ≤ (rd x8_2 x9_2)
                  ·rw [if_pos c41] at H
                   have c41b0 : decide (0 ≤ (rd x8_2 x9_2)) = true := decide_eq_true c41
                   clear c41
                   by_cases c42 : (rd x8_2 x9_2) < (l0.length : Int)
                   ·rw [if_pos c42] at H
                    have c42b0 : decide ((rd x8_2 x9_2) < (l0.length : Int)) = true := decide_eq_true c42
                    (try (have c42b0_hl18_1 := c42b0; simp only [hl18_1] at c42b0_hl18_1))
                    (try (have c42b0_hl15_2 := c42b0; simp only [hl15_2] at c42b0_hl15_2))
                    (try (have c42b0_hl18_2 := c42b0; simp only [hl18_2] at c42b0_hl18_2))
                    (try (have c42b0_hl30_2 := c42b0; simp only [hl30_2] at c42b0_hl30_2))
                    (try (have c42b0_hl15_3 := c42b0; simp only [hl15_3] at c42b0_hl15_3))
                    (try (have c42b0_hl18_3 := c42b0; simp only [hl18_3] at c42b0_hl18_3))
                    (try (have c42b0_hl30_3 := c42b0; simp only [hl30_3] at c42b0_hl30_3))
                    clear c42
                    by_cases c43 : 0 ≤ x49_3
                    ·rw [if_pos c43] at H
                     have c43b0 : decide (0 ≤ x49_3) = true := decide_eq_true c43
                     clear c43
                     replace H := Option.bind_eq_some_iff.mp H
                     obtain ⟨⟨t192, t193⟩, A450, H⟩ := H
                     replace H : ((qt.f k3 l0 t192 t193).bind fun t194 => (if t194 < 0 then (qB.l2 k3 l0 x8_3 x9_2 (rd x8_2 x9_2) x15_3 x18_3 x30_3 (wrap64 (x49_3 + 1))) else (if 0 ≤ t194 then (if t194 < (x18_3.length : Int) then (if (rd x18_3 t194) ≥ 0 then (qB.l2 k3 l0 x8_3 x9_2 (rd x8_2 x9_2) x15_3 x18_3 x30_3 (wrap64 (x49_3 + 1))) else (if (rd x8_2 x9_2) < (x30_3.length : Int) then ((qu.f ((qb x30_3 (rd x8_2 x9_2)).f0) ((qb x30_3 (rd x8_2 x9_2)).f1) ((qb x30_3 (rd x8_2 x9_2)).f2) ((qb x30_3 (rd x8_2 x9_2)).f3) ((qb x30_3 (rd x8_2 x9_2)).f4) ((qb x30_3 (rd x8_2 x9_2)).f5) (bt (⟨#[110, 101, 115, 119]⟩ : ByteArray) x49_3)).bind fun bt197 => (if (rd x8_2 x9_2) < (x18_3.length : Int) then (if t194 < (x30_3.length : Int) then (if t194 < (x15_3.length : Int) then (if x8_3.length < 17592186044416 then (qB.l2 k3 l0 (x8_3 ++ [t194]) x9_2 (rd x8_2 x9_2) (x15_3.set (t194 : Int).toNat bt197.2.2.2.2.2) (x18_3.set (t194 : Int).toNat (wrap64 ((rd x18_3 (rd x8_2 x9_2)) + 1))) (x30_3.set (t194 : Int).toNat (⟨bt197.1, bt197.2.1, bt197.2.2.1, bt197.2.2.2.1, bt197.2.2.2.2.1, bt197.2.2.2.2.2⟩ : S31)) (wrap64 (x49_3 + 1))) else (none)) else (none)) else (none)) else (none))) else (none))) else (none)) else (none)))) = some (r1, r2) := H
                     have A45 := Aside0.mk A450
                     clear A450
                     replace H := Option.bind_eq_some_iff.mp H
                     obtain ⟨t194, A460, H⟩ := H
                     replace H : (if t194 < 0 then (qB.l2 k3 l0 x8_3 x9_2 (rd x8_2 x9_2) x15_3 x18_3 x30_3 (wrap64 (x49_3 + 1))) else (if 0 ≤ t194 then (if t194 < (x18_3.length : Int) then (if (rd x18_3 t194) ≥ 0 then (qB.l2 k3 l0 x8_3 x9_2 (rd x8_2 x9_2) x15_3 x18_3 x30_3 (wrap64 (x49_3 + 1))) else (if (rd x8_2 x9_2) < (x30_3.length : Int) then ((qu.f ((qb x30_3 (rd x8_2 x9_2)).f0) ((qb x30_3 (rd x8_2 x9_2)).f1) ((qb x30_3 (rd x8_2 x9_2)).f2) ((qb x30_3 (rd x8_2 x9_2)).f3) ((qb x30_3 (rd x8_2 x9_2)).f4) ((qb x30_3 (rd x8_2 x9_2)).f5) (bt (⟨#[110, 101, 115, 119]⟩ : ByteArray) x49_3)).bind fun bt197 => (if (rd x8_2 x9_2) < (x18_3.length : Int) then (if t194 < (x30_3.length : Int) then (if t194 < (x15_3.length : Int) then (if x8_3.length < 17592186044416 then (qB.l2 k3 l0 (x8_3 ++ [t194]) x9_2 (rd x8_2 x9_2) (x15_3.set (t194 : Int).toNat bt197.2.2.2.2.2) (x18_3.set (t194 : Int).toNat (wrap64 ((rd x18_3 (rd x8_2 x9_2)) + 1))) (x30_3.set (t194 : Int).toNat (⟨bt197.1, bt197.2.1, bt197.2.2.1, bt197.2.2.2.1, bt197.2.2.2.2.1, bt197.2.2.2.2.2⟩ : S31)) (wrap64 (x49_3 + 1))) else (none)) else (none)) else (none)) else (none))) else (none))) else (none)) else (none))) = some (r1, r2) := H
                     have A46 := Aside0.mk A460
                     clear A460
                     by_cases c47 : t194 < 0
                     ·rw [if_pos c47] at H
                      have c47b0 : decide (t194 < 0) = true := decide_eq_true c47
                      clear c47
                      have H' := Aside0.mk H
                      clear H
                      try go_wp2
                      have n0_ := Aside0.mk (Kd.qI HO_8.out)
                      have n1_ := Aside0.mk (Kd.qI HO_15.out)
                      have n2_ := Aside0.mk (Kd.qI HO_18.out)
                      have n3_ := Aside0.mk (Kd.qI HO_30.out)
                      have n4_ := Aside0.mk (qi HB.out)
                      clear HO_8
                      clear HO_15
                      clear HO_18
                      clear HO_30
                      clear HB
                      have HO_8 := n0_
                      have HO_15 := n1_
                      have HO_18 := n2_
                      have HO_30 := n3_
                      have HB := n4_
                      clear n0_ n1_ n2_ n3_ n4_
                      have p190 : 0 ≤ ((rd x8_2 x9_2) : Int) := of_decide_eq_true (by first | (with_reducible assumption) | assumption)
                      have q190 : (rd x8_2 x9_2) < (l0.length : Int) := of_decide_eq_true (by first | (with_reducible assumption) | assumption)
                      obtain ⟨ad190, e190, hx190_0, hx190_1⟩ := qiB HR0.out (rd x8_2 x9_2) p190 q190
                      have hw190_1 := hx190_1
                      have hw190_0 := hx190_0
                      cases e190
                      replace hx190_0 := (HB.out.cell (World.block_lt_of_cell? w _ hx190_0)).trans hx190_0
                      replace hx190_1 := (HB.out.cell (World.block_lt_of_cell? w _ hx190_1)).trans hx190_1
                      replace p190 := eq_true p190
                      replace q190 := eq_true q190
                      have p191 : 0 ≤ ((rd x8_2 x9_2) : Int) := of_decide_eq_true (by first | (with_reducible assumption) | assumption)
                      have q191 : (rd x8_2 x9_2) < (l0.length : Int) := of_decide_eq_true (by first | (with_reducible assumption) | assumption)
                      obtain ⟨ad191, e191, hx191_0, hx191_1⟩ := qiB HR0.out (rd x8_2 x9_2) p191 q191
                      have hw191_1 := hx191_1
                      have hw191_0 := hx191_0
                      obtain rfl : ad190 = ad191 := (by injection e191)
                      replace hx191_0 := (HB.out.cell (World.block_lt_of_cell? w _ hx191_0)).trans hx191_0
                      replace hx191_1 := (HB.out.cell (World.block_lt_of_cell? w _ hx191_1)).trans hx191_1
                      replace p191 := eq_true p191
                      replace q191 := eq_true q191
                      have p44 : 0 ≤ (x49_3 : Int) := of_decide_eq_true (by first | (with_reducible assumption) | assumption)
                      have q44 : x49_3 < (4 : Int) := of_decide_eq_true (by first | (with_reducible assumption) | assumption)
                      have hx44 := bt_at (⟨#[110, 101, 115, 119]⟩ : ByteArray) x49_3
                      replace p44 := eq_true p44
                      replace q44 := eq_true q44
                      refine qvA (n := 18) (S := fun w' => w'.cell? (ad190.add (((rd x8_2 x9_2)).toNat * 2)) = some (.int .i64 ((ql l0 (rd x8_2 x9_2)).f0)) ∧ w'.cell? ⟨(ad190.add (((rd x8_2 x9_2)).toNat * 2)).block, (ad190.add (((rd x8_2 x9_2)).toNat * 2)).off + 1, none⟩ = some (.int .i64 ((ql l0 (rd x8_2 x9_2)).f1)) ∧ w'.cell? (ad190.add (((rd x8_2 x9_2)).toNat * 2)) = some (.int .i64 ((ql l0 (rd x8_2 x9_2)).f0)) ∧ w'.cell? ⟨(ad190.add (((rd x8_2 x9_2)).toNat * 2)).block, (ad190.add (((rd x8_2 x9_2)).toNat * 2)).off + 1, none⟩ = some (.int .i64 ((ql l0 (rd x8_2 x9_2)).f1))) (ds := []) #[false, false, false, false, false, false, false, false, false, false, false, false, false, false, false, false, false, false] (by kernel_rfl) rfl rfl ⟨((HB.out.cell (World.block_lt_of_cell? w _ hw190_0)).trans hw190_0), ((HB.out.cell (World.block_lt_of_cell? w _ hw190_1)).trans hw190_1), ((HB.out.cell (World.block_lt_of_cell? w _ hw191_0)).trans hw191_0), ((HB.out.cell (World.block_lt_of_cell? w _ hw191_1)).trans hw191_1)⟩ (fun hHeld => ?_); refine qFA qB.tab16 qB.bits16 (fun HT_ HW_ => ?_)
                      generalize wr.drew = w48 at HO_8 HO_15 HO_18 HO_30 HB hx190_0 hx190_1 hx191_0 hx191_1 hHeld ⊢
                      refine pS (i := 0) (N := some 52) #[true, false, false, false, false, false, false, false, false, false, false, false, false, false, false, false, false, false] HT_ ?_
                      refine pS (i := 1) (N := some 53) #[true, true, false, false, false, false, false, false, false, false, false, false, false, false, false, false, false, false] HT_ ?_
                      refine pS (i := 2) (N := some 54) #[true, true, true, false, false, false, false, false, false, false, false, false, false, false, false, false, false, false] HT_ ?_
                      refine pS (i := 3) (N := some 55) #[true, true, true, true, false, false, false, false, false, false, false, false, false, false, false, false, false, false] HT_ ?_
                      refine pS (i := 4) (N := some 56) #[true, true, true, true, true, false, false, false, false, false, false, false, false, false, false, false, false, false] HT_ ?_
                      refine pS (i := 6) (N := some 58) #[true, true, true, true, true, false, true, false, false, false, false, false, false, false, false, false, false, false] HT_ ?_
                      refine pS (i := 7) (N := some 59) #[true, true, true, true, true, false, true, true, false, false, false, false, false, false, false, false, false, false] HT_ ?_
                      refine pS (i := 8) (N := some 60) #[true, true, true, true, true, false, true, true, true, false, false, false, false, false, false, false, false, false] HT_ ?_
                      refine pS (i := 9) (N := some 61) #[true, true, true, true, true, false, true, true, true, true, false, false, false, false, false, false, false, false] HT_ ?_
                      refine pS (i := 11) (N := some 63) #[true, true, true, true, true, false, true, true, true, true, false, true, false, false, false, false, false, false] HT_ ?_
                      refine tS (i := 5) (N := some 57) #[true, true, true, true, true, true, true, true, true, true, false, true, false, false, false, false, false, false] HT_ HW_ hHeld ?_
                      refine tS (i := 10) (N := some 62) #[true, true, true, true, true, true, true, true, true, true, true, true, false, false, false, false, false, false] HT_ HW_ hHeld ?_
                      refine tS (i := 12) (N := some 64) #[true, true, true, true, true, true, true, true, true, true, true, true, true, false, false, false, false, false] HT_ HW_ hHeld ?_
                      refine one_ (i := 13) (N := some 65) #[true, true, true, true, true, true, true, true, true, true, true, true, true, true, false, false, false, false] rfl rfl (qdA HT_.out (by kernel_rfl)) (by decide) (fun K hK => ?_)
                      refine goes_ Tryd.func54 (by kernel_rfl) rfl #[.int .i64 ((ql l0 (rd x8_2 x9_2)).f0), .int .i64 ((ql l0 (rd x8_2 x9_2)).f1), .int .u8 (bt (⟨#[110, 101, 115, 119]⟩ : ByteArray) x49_3)] (by rfl) rfl rfl (by (try simp only [List.map_toArray, List.map_cons, List.map_nil]); first | done | rfl | (simp only [List.length_drop, List.length_take]; rfl)) ?_
                      with_reducible refine (qVA.calls ((ql l0 (rd x8_2 x9_2)).f0) ((ql l0 (rd x8_2 x9_2)).f1) (bt (⟨#[110, 101, 115, 119]⟩ : ByteArray) x49_3) t192 t193 _ A45.out).mono ?_
                      rintro e w' ⟨rfl, ⟨nd, rfl⟩⟩
                      refine ⟨_, rfl, ?_⟩
                      refine hK.out _ _ ⟨((HB.out.cell (World.block_lt_of_cell? w _ hw190_0)).trans hw190_0), ((HB.out.cell (World.block_lt_of_cell? w _ hw190_1)).trans hw190_1), ((HB.out.cell (World.block_lt_of_cell? w _ hw191_0)).trans hw191_0), ((HB.out.cell (World.block_lt_of_cell? w _ hw191_1)).trans hw191_1)⟩ (fun hHeld => ?_)
                      clear hK K
                      refine norm_ (a' := ?_) ?_ ?_
                      rotate_left
                      ·show Act.put _ (some 65) _ = _
                       simp only [Act.put, List.setIfInBounds_toArray, List.set_cons_zero, List.set_cons_succ, i64_w, i32_w]
                       rfl
                      refine pS (i := 14) (N := some 66) #[true, true, true, true, true, true, true, true, true, true, true, true, true, true, true, false, false, false] HT_ ?_
                      refine pS (i := 15) (N := some 67) #[true, true, true, true, true, true, true, true, true, true, true, true, true, true, true, true, false, false] HT_ ?_
                      refine one_ (i := 16) (N := some 68) #[true, true, true, true, true, true, true, true, true, true, true, true, true, true, true, true, true, false] rfl rfl (qdA HT_.out (by kernel_rfl)) (by decide) (fun K hK => ?_)
                      refine goes_ Tryd.func53 (by kernel_rfl) rfl #[.slice (some ad190) l0.length c0, .int .i64 t192, .int .i64 t193] (by rfl) rfl rfl (by (try simp only [List.map_toArray, List.map_cons, List.map_nil]); first | done | rfl | (simp only [List.length_drop, List.length_take]; rfl)) ?_
                      with_reducible refine (qt.calls k3 _ _ l0 t192 t193 t194 _ ?side1 ?side2 A46.out).mono ?_
                      (case side1 => repeat (first | exact (Kd.qYA HR0.out bl) | (with_reducible refine Kd.qZA ?_ _) | (with_reducible refine Kd.qXA ?_ _) | (with_reducible refine Kd.qtA ?_)))
                      (case side2 => exact HC0.out)
                      rintro e w49 ⟨rfl, hb⟩
                      refine ⟨_, rfl, ?_⟩
                      have n0_ := Aside0.mk (Kd.qa (by (with_reducible repeat (first | apply Kd.qF | apply Kd.qG | apply Kd.qI)); exact HO_8.out) hb)
                      have n1_ := Aside0.mk (Kd.qa (by (with_reducible repeat (first | apply Kd.qF | apply Kd.qG | apply Kd.qI)); exact HO_15.out) hb)
                      have n2_ := Aside0.mk (Kd.qa (by (with_reducible repeat (first | apply Kd.qF | apply Kd.qG | apply Kd.qI)); exact HO_18.out) hb)
                      have n3_ := Aside0.mk (Kd.qa (by (with_reducible repeat (first | apply Kd.qF | apply Kd.qG | apply Kd.qI)); exact HO_30.out) hb)
                      have n4_ := Aside0.mk (qL bl hb)
                      clear HO_8
                      clear HO_15
                      clear HO_18
                      clear HO_30
                      clear HB
                      have HO_8 := n0_
                      have HO_15 := n1_
                      have HO_18 := n2_
                      have HO_30 := n3_
                      have HB := n4_
                      clear n0_ n1_ n2_ n3_ n4_
                      (try clear hb)
                      (try clear hb2)
                      (try clear hk)
                      (try clear hi)
                      refine hK.out _ _ ⟨((HB.out.cell (World.block_lt_of_cell? w _ hw190_0)).trans hw190_0), ((HB.out.cell (World.block_lt_of_cell? w _ hw190_1)).trans hw190_1), ((HB.out.cell (World.block_lt_of_cell? w _ hw191_0)).trans hw191_0), ((HB.out.cell (World.block_lt_of_cell? w _ hw191_1)).trans hw191_1)⟩ (fun hHeld => ?_)
                      clear hK K
                      refine norm_ (a' := ?_) ?_ ?_
                      rotate_left
                      ·show Act.put _ (some 68) _ = _
                       simp only [Act.put, List.setIfInBounds_toArray, List.set_cons_zero, List.set_cons_succ, i64_w, i32_w]
                       rfl
                      refine pS (i := 17) (N := some 12) #[true, true, true, true, true, true, true, true, true, true, true, true, true, true, true, true, true, true] HT_ ?_
                      refine done_ (qFB HT_.out (by kernel_rfl)) ?_
                      try go_wp2
                      (try simp only [← hl15_3, ← hl18_3, ← hl30_3])
                      go_roundg k3
                      case measure => have := HK1.out; have := HK2.out; have := HK3.out; omega
                      case rel => exact ⟨(x8_3), (x15_3), (x18_3), (x30_3), (wrap64 (x49_3 + 1)), (by first | rfl | (simp; done) | (simp [*]; done)), H', ⟨by have := HK1.out; have := HK2.out; have := HK3.out; omega⟩, ⟨by (try simp only [hl18_1]); (try simp only [hl15_2]); (try simp only [hl18_2]); (try simp only [hl30_2]); (try simp only [hl15_3]); (try simp only [hl18_3]); (try simp only [hl30_3]); (with_reducible repeat (first | apply Kd.qF | apply Kd.qG | apply Kd.qI)); exact HO_8.out⟩, ⟨by (try simp only [hl18_1]); (try simp only [hl15_2]); (try simp only [hl18_2]); (try simp only [hl30_2]); (try simp only [hl15_3]); (try simp only [hl18_3]); (try simp only [hl30_3]); (with_reducible repeat (first | apply Kd.qF | apply Kd.qG | apply Kd.qI)); exact HO_15.out⟩, ⟨by (try simp only [hl18_1]); (try simp only [hl15_2]); (try simp only [hl18_2]); (try simp only [hl30_2]); (try simp only [hl15_3]); (try simp only [hl18_3]); (try simp only [hl30_3]); (with_reducible repeat (first | apply Kd.qF | apply Kd.qG | apply Kd.qI)); exact HO_18.out⟩, ⟨by (try simp only [hl18_1]); (try simp only [hl15_2]); (try simp only [hl18_2]); (try simp only [hl30_2]); (try simp only [hl15_3]); (try simp only [hl18_3]); (try simp only [hl30_3]); (with_reducible repeat (first | apply Kd.qF | apply Kd.qG | apply Kd.qI)); exact HO_30.out⟩, ⟨bl⟩⟩
                     ·rw [if_neg c47] at H
                      have c47b0 : decide (t194 < 0) = false := decide_eq_false c47
                      clear c47
                      by_cases c50 : 0 ≤ t194
                      ·rw [if_pos c50] at H
                       have c50b0 : decide (0 ≤ t194) = true := decide_eq_true c50
                       clear c50
                       by_cases c51 : t194 < (x18_3.length : Int)
                       ·rw [if_pos c51] at H
                        have c51b0 : decide (t194 < (x18_3.length : Int)) = true := decide_eq_true c51
                        (try (have c51b0_hl18_1 := c51b0; simp only [hl18_1] at c51b0_hl18_1))
                        (try (have c51b0_hl15_2 := c51b0; simp only [hl15_2] at c51b0_hl15_2))
                        (try (have c51b0_hl18_2 := c51b0; simp only [hl18_2] at c51b0_hl18_2))
                        (try (have c51b0_hl30_2 := c51b0; simp only [hl30_2] at c51b0_hl30_2))
                        (try (have c51b0_hl15_3 := c51b0; simp only [hl15_3] at c51b0_hl15_3))
                        (try (have c51b0_hl18_3 := c51b0; simp only [hl18_3] at c51b0_hl18_3))
                        (try (have c51b0_hl30_3 := c51b0; simp only [hl30_3] at c51b0_hl30_3))
                        clear c51
                        by_cases c52 : (rd x18_3 t194) ≥ 0
                        ·rw [if_pos c52] at H
                         have c52b0 : decide (0 ≤ (rd x18_3 t194)) = true := decide_eq_true c52
                         clear c52
                         have H' := Aside0.mk H
                         clear H
                         try go_wp2
                         have n0_ := Aside0.mk (Kd.qI HO_8.out)
                         have n1_ := Aside0.mk (Kd.qI HO_15.out)
                         have n2_ := Aside0.mk (Kd.qI HO_18.out)
                         have n3_ := Aside0.mk (Kd.qI HO_30.out)
                         have n4_ := Aside0.mk (qi HB.out)
                         clear HO_8
                         clear HO_15
                         clear HO_18
                         clear HO_30
                         clear HB
                         have HO_8 := n0_
                         have HO_15 := n1_
                         have HO_18 := n2_
                         have HO_30 := n3_
                         have HB := n4_
                         clear n0_ n1_ n2_ n3_ n4_
                         have p190 : 0 ≤ ((rd x8_2 x9_2) : Int) := of_decide_eq_true (by first | (with_reducible assumption) | assumption)
                         have q190 : (rd x8_2 x9_2) < (l0.length : Int) := of_decide_eq_true (by first | (with_reducible assumption) | assumption)
                         obtain ⟨ad190, e190, hx190_0, hx190_1⟩ := qiB HR0.out (rd x8_2 x9_2) p190 q190
                         have hw190_1 := hx190_1
                         have hw190_0 := hx190_0
                         cases e190
                         replace hx190_0 := (HB.out.cell (World.block_lt_of_cell? w _ hx190_0)).trans hx190_0
                         replace hx190_1 := (HB.out.cell (World.block_lt_of_cell? w _ hx190_1)).trans hx190_1
                         replace p190 := eq_true p190
                         replace q190 := eq_true q190
                         have p191 : 0 ≤ ((rd x8_2 x9_2) : Int) := of_decide_eq_true (by first | (with_reducible assumption) | assumption)
                         have q191 : (rd x8_2 x9_2) < (l0.length : Int) := of_decide_eq_true (by first | (with_reducible assumption) | assumption)
                         obtain ⟨ad191, e191, hx191_0, hx191_1⟩ := qiB HR0.out (rd x8_2 x9_2) p191 q191
                         have hw191_1 := hx191_1
                         have hw191_0 := hx191_0
                         obtain rfl : ad190 = ad191 := (by injection e191)
                         replace hx191_0 := (HB.out.cell (World.block_lt_of_cell? w _ hx191_0)).trans hx191_0
                         replace hx191_1 := (HB.out.cell (World.block_lt_of_cell? w _ hx191_1)).trans hx191_1
                         replace p191 := eq_true p191
                         replace q191 := eq_true q191
                         have p44 : 0 ≤ (x49_3 : Int) := of_decide_eq_true (by first | (with_reducible assumption) | assumption)
                         have q44 : x49_3 < (4 : Int) := of_decide_eq_true (by first | (with_reducible assumption) | assumption)
                         have hx44 := bt_at (⟨#[110, 101, 115, 119]⟩ : ByteArray) x49_3
                         replace p44 := eq_true p44
                         replace q44 := eq_true q44
                         refine qvA (n := 18) (S := fun w' => w'.cell? (ad190.add (((rd x8_2 x9_2)).toNat * 2)) = some (.int .i64 ((ql l0 (rd x8_2 x9_2)).f0)) ∧ w'.cell? ⟨(ad190.add (((rd x8_2 x9_2)).toNat * 2)).block, (ad190.add (((rd x8_2 x9_2)).toNat * 2)).off + 1, none⟩ = some (.int .i64 ((ql l0 (rd x8_2 x9_2)).f1)) ∧ w'.cell? (ad190.add (((rd x8_2 x9_2)).toNat * 2)) = some (.int .i64 ((ql l0 (rd x8_2 x9_2)).f0)) ∧ w'.cell? ⟨(ad190.add (((rd x8_2 x9_2)).toNat * 2)).block, (ad190.add (((rd x8_2 x9_2)).toNat * 2)).off + 1, none⟩ = some (.int .i64 ((ql l0 (rd x8_2 x9_2)).f1))) (ds := []) #[false, false, false, false, false, false, false, false, false, false, false, false, false, false, false, false, false, false] (by kernel_rfl) rfl rfl ⟨((HB.out.cell (World.block_lt_of_cell? w _ hw190_0)).trans hw190_0), ((HB.out.cell (World.block_lt_of_cell? w _ hw190_1)).trans hw190_1), ((HB.out.cell (World.block_lt_of_cell? w _ hw191_0)).trans hw191_0), ((HB.out.cell (World.block_lt_of_cell? w _ hw191_1)).trans hw191_1)⟩ (fun hHeld => ?_); refine qFA qB.tab16 qB.bits16 (fun HT_ HW_ => ?_)
                         generalize wr.drew = w53 at HO_8 HO_15 HO_18 HO_30 HB hx190_0 hx190_1 hx191_0 hx191_1 hHeld ⊢
                         refine pS (i := 0) (N := some 52) #[true, false, false, false, false, false, false, false, false, false, false, false, false, false, false, false, false, false] HT_ ?_
                         refine pS (i := 1) (N := some 53) #[true, true, false, false, false, false, false, false, false, false, false, false, false, false, false, false, false, false] HT_ ?_
                         refine pS (i := 2) (N := some 54) #[true, true, true, false, false, false, false, false, false, false, false, false, false, false, false, false, false, false] HT_ ?_
                         refine pS (i := 3) (N := some 55) #[true, true, true, true, false, false, false, false, false, false, false, false, false, false, false, false, false, false] HT_ ?_
                         refine pS (i := 4) (N := some 56) #[true, true, true, true, true, false, false, false, false, false, false, false, false, false, false, false, false, false] HT_ ?_
                         refine pS (i := 6) (N := some 58) #[true, true, true, true, true, false, true, false, false, false, false, false, false, false, false, false, false, false] HT_ ?_
                         refine pS (i := 7) (N := some 59) #[true, true, true, true, true, false, true, true, false, false, false, false, false, false, false, false, false, false] HT_ ?_
                         refine pS (i := 8) (N := some 60) #[true, true, true, true, true, false, true, true, true, false, false, false, false, false, false, false, false, false] HT_ ?_
                         refine pS (i := 9) (N := some 61) #[true, true, true, true, true, false, true, true, true, true, false, false, false, false, false, false, false, false] HT_ ?_
                         refine pS (i := 11) (N := some 63) #[true, true, true, true, true, false, true, true, true, true, false, true, false, false, false, false, false, false] HT_ ?_
                         refine tS (i := 5) (N := some 57) #[true, true, true, true, true, true, true, true, true, true, false, true, false, false, false, false, false, false] HT_ HW_ hHeld ?_
                         refine tS (i := 10) (N := some 62) #[true, true, true, true, true, true, true, true, true, true, true, true, false, false, false, false, false, false] HT_ HW_ hHeld ?_
                         refine tS (i := 12) (N := some 64) #[true, true, true, true, true, true, true, true, true, true, true, true, true, false, false, false, false, false] HT_ HW_ hHeld ?_
                         refine one_ (i := 13) (N := some 65) #[true, true, true, true, true, true, true, true, true, true, true, true, true, true, false, false, false, false] rfl rfl (qdA HT_.out (by kernel_rfl)) (by decide) (fun K hK => ?_)
                         refine goes_ Tryd.func54 (by kernel_rfl) rfl #[.int .i64 ((ql l0 (rd x8_2 x9_2)).f0), .int .i64 ((ql l0 (rd x8_2 x9_2)).f1), .int .u8 (bt (⟨#[110, 101, 115, 119]⟩ : ByteArray) x49_3)] (by rfl) rfl rfl (by (try simp only [List.map_toArray, List.map_cons, List.map_nil]); first | done | rfl | (simp only [List.length_drop, List.length_take]; rfl)) ?_
                         with_reducible refine (qVA.calls ((ql l0 (rd x8_2 x9_2)).f0) ((ql l0 (rd x8_2 x9_2)).f1) (bt (⟨#[110, 101, 115, 119]⟩ : ByteArray) x49_3) t192 t193 _ A45.out).mono ?_
                         rintro e w' ⟨rfl, ⟨nd, rfl⟩⟩
                         refine ⟨_, rfl, ?_⟩
                         refine hK.out _ _ ⟨((HB.out.cell (World.block_lt_of_cell? w _ hw190_0)).trans hw190_0), ((HB.out.cell (World.block_lt_of_cell? w _ hw190_1)).trans hw190_1), ((HB.out.cell (World.block_lt_of_cell? w _ hw191_0)).trans hw191_0), ((HB.out.cell (World.block_lt_of_cell? w _ hw191_1)).trans hw191_1)⟩ (fun hHeld => ?_)
                         clear hK K
                         refine norm_ (a' := ?_) ?_ ?_
                         rotate_left
                         ·show Act.put _ (some 65) _ = _
                          simp only [Act.put, List.setIfInBounds_toArray, List.set_cons_zero, List.set_cons_succ, i64_w, i32_w]
                          rfl
                         refine pS (i := 14) (N := some 66) #[true, true, true, true, true, true, true, true, true, true, true, true, true, true, true, false, false, false] HT_ ?_
                         refine pS (i := 15) (N := some 67) #[true, true, true, true, true, true, true, true, true, true, true, true, true, true, true, true, false, false] HT_ ?_
                         refine one_ (i := 16) (N := some 68) #[true, true, true, true, true, true, true, true, true, true, true, true, true, true, true, true, true, false] rfl rfl (qdA HT_.out (by kernel_rfl)) (by decide) (fun K hK => ?_)
                         refine goes_ Tryd.func53 (by kernel_rfl) rfl #[.slice (some ad190) l0.length c0, .int .i64 t192, .int .i64 t193] (by rfl) rfl rfl (by (try simp only [List.map_toArray, List.map_cons, List.map_nil]); first | done | rfl | (simp only [List.length_drop, List.length_take]; rfl)) ?_
                         with_reducible refine (qt.calls k3 _ _ l0 t192 t193 t194 _ ?side1 ?side2 A46.out).mono ?_
                         (case side1 => repeat (first | exact (Kd.qYA HR0.out bl) | (with_reducible refine Kd.qZA ?_ _) | (with_reducible refine Kd.qXA ?_ _) | (with_reducible refine Kd.qtA ?_)))
                         (case side2 => exact HC0.out)
                         rintro e w54 ⟨rfl, hb⟩
                         refine ⟨_, rfl, ?_⟩
                         have n0_ := Aside0.mk (Kd.qa (by (with_reducible repeat (first | apply Kd.qF | apply Kd.qG | apply Kd.qI)); exact HO_8.out) hb)
                         have n1_ := Aside0.mk (Kd.qa (by (with_reducible repeat (first | apply Kd.qF | apply Kd.qG | apply Kd.qI)); exact HO_15.out) hb)
                         have n2_ := Aside0.mk (Kd.qa (by (with_reducible repeat (first | apply Kd.qF | apply Kd.qG | apply Kd.qI)); exact HO_18.out) hb)
                         have n3_ := Aside0.mk (Kd.qa (by (with_reducible repeat (first | apply Kd.qF | apply Kd.qG | apply Kd.qI)); exact HO_30.out) hb)
                         have n4_ := Aside0.mk (qL bl hb)
                         clear HO_8
                         clear HO_15
                         clear HO_18
                         clear HO_30
                         clear HB
                         have HO_8 := n0_
                         have HO_15 := n1_
                         have HO_18 := n2_
                         have HO_30 := n3_
                         have HB := n4_
                         clear n0_ n1_ n2_ n3_ n4_
                         (try clear hb)
                         (try clear hb2)
                         (try clear hk)
                         (try clear hi)
                         refine hK.out _ _ ⟨((HB.out.cell (World.block_lt_of_cell? w _ hw190_0)).trans hw190_0), ((HB.out.cell (World.block_lt_of_cell? w _ hw190_1)).trans hw190_1), ((HB.out.cell (World.block_lt_of_cell? w _ hw191_0)).trans hw191_0), ((HB.out.cell (World.block_lt_of_cell? w _ hw191_1)).trans hw191_1)⟩ (fun hHeld => ?_)
                         clear hK K
                         refine norm_ (a' := ?_) ?_ ?_
                         rotate_left
                         ·show Act.put _ (some 68) _ = _
                          simp only [Act.put, List.setIfInBounds_toArray, List.set_cons_zero, List.set_cons_succ, i64_w, i32_w]
                          rfl
                         refine pS (i := 17) (N := some 12) #[true, true, true, true, true, true, true, true, true, true, true, true, true, true, true, true, true, true] HT_ ?_
                         refine done_ (qFB HT_.out (by kernel_rfl)) ?_
                         have p195 : 0 ≤ (t194 : Int) := of_decide_eq_true (by first | (with_reducible assumption) | assumption)
                         have q195 : t194 < (x18_3.length : Int) := of_decide_eq_true (by first | (with_reducible assumption) | assumption)
                         obtain ⟨ad195, e195, hx195_0⟩ := Kd.qGA (Kd.qQ HO_18.out).2.2 t194 p195 q195
                         obtain rfl : (⟨go25, 0, none⟩ : Addr) = ad195 := (by injection e195)
                         (first | simp only [qDA] at hx195_0 | simp only [qHB] at hx195_0 | simp only [Addr.add, Nat.zero_add] at hx195_0 | skip)
                         replace p195 := eq_true p195
                         replace q195 := eq_true q195
                         try go_wp2
                         (try simp only [← hl15_3, ← hl18_3, ← hl30_3])
                         go_roundg k3
                         case measure => have := HK1.out; have := HK2.out; have := HK3.out; omega
                         case rel => exact ⟨(x8_3), (x15_3), (x18_3), (x30_3), (wrap64 (x49_3 + 1)), (by first | rfl | (simp; done) | (simp [*]; done)), H', ⟨by have := HK1.out; have := HK2.out; have := HK3.out; omega⟩, ⟨by (try simp only [hl18_1]); (try simp only [hl15_2]); (try simp only [hl18_2]); (try simp only [hl30_2]); (try simp only [hl15_3]); (try simp only [hl18_3]); (try simp only [hl30_3]); (with_reducible repeat (first | apply Kd.qF | apply Kd.qG | apply Kd.qI)); exact HO_8.out⟩, ⟨by (try simp only [hl18_1]); (try simp only [hl15_2]); (try simp only [hl18_2]); (try simp only [hl30_2]); (try simp only [hl15_3]); (try simp only [hl18_3]); (try simp only [hl30_3]); (with_reducible repeat (first | apply Kd.qF | apply Kd.qG | apply Kd.qI)); exact HO_15.out⟩, ⟨by (try simp only [hl18_1]); (try simp only [hl15_2]); (try simp only [hl18_2]); (try simp only [hl30_2]); (try simp only [hl15_3]); (try simp only [hl18_3]); (try simp only [hl30_3]); (with_reducible repeat (first | apply Kd.qF | apply Kd.qG | apply Kd.qI)); exact HO_18.out⟩, ⟨by (try simp only [hl18_1]); (try simp only [hl15_2]); (try simp only [hl18_2]); (try simp only [hl30_2]); (try simp only [hl15_3]); (try simp only [hl18_3]); (try simp only [hl30_3]); (with_reducible repeat (first | apply Kd.qF | apply Kd.qG | apply Kd.qI)); exact HO_30.out⟩, ⟨bl⟩⟩
                        ·rw [if_neg c52] at H
                         have c52b0 : decide (0 ≤ (rd x18_3 t194)) = false := decide_eq_false c52
                         clear c52
                         by_cases c55 : (rd x8_2 x9_2) < (x30_3.length : Int)
                         ·rw [if_pos c55] at H
                          have c55b0 : decide ((rd x8_2 x9_2) < (x30_3.length : Int)) = true := decide_eq_true c55
                          (try (have c55b0_hl18_1 := c55b0; simp only [hl18_1] at c55b0_hl18_1))
                          (try (have c55b0_hl15_2 := c55b0; simp only [hl15_2] at c55b0_hl15_2))
                          (try (have c55b0_hl18_2 := c55b0; simp only [hl18_2] at c55b0_hl18_2))
                          (try (have c55b0_hl30_2 := c55b0; simp only [hl30_2] at c55b0_hl30_2))
                          (try (have c55b0_hl15_3 := c55b0; simp only [hl15_3] at c55b0_hl15_3))
                          (try (have c55b0_hl18_3 := c55b0; simp only [hl18_3] at c55b0_hl18_3))
                          (try (have c55b0_hl30_3 := c55b0; simp only [hl30_3] at c55b0_hl30_3))
                          clear c55
                          replace H := Option.bind_eq_some_iff.mp H
                          obtain ⟨⟨t197, t198, t199, t200, t201, t202⟩, A570, H⟩ := H
                          replace H : (if (rd x8_2 x9_2) < (x18_3.length : Int) then (if t194 < (x30_3.length : Int) then (if t194 < (x15_3.length : Int) then (if x8_3.length < 17592186044416 then (qB.l2 k3 l0 (x8_3 ++ [t194]) x9_2 (rd x8_2 x9_2) (x15_3.set (t194 : Int).toNat t202) (x18_3.set (t194 : Int).toNat (wrap64 ((rd x18_3 (rd x8_2 x9_2)) + 1))) (x30_3.set (t194 : Int).toNat (⟨t197, t198, t199, t200, t201, t202⟩ : S31)) (wrap64 (x49_3 + 1))) else (none)) else (none)) else (none)) else (none)) = some (r1, r2) := H
                          have A57 := Aside0.mk A570
                          clear A570
                          by_cases c58 : (rd x8_2 x9_2) < (x18_3.length : Int)
                          ·rw [if_pos c58] at H
                           have c58b0 : decide ((rd x8_2 x9_2) < (x18_3.length : Int)) = true := decide_eq_true c58
                           (try (have c58b0_hl18_1 := c58b0; simp only [hl18_1] at c58b0_hl18_1))
                           (try (have c58b0_hl15_2 := c58b0; simp only [hl15_2] at c58b0_hl15_2))
                           (try (have c58b0_hl18_2 := c58b0; simp only [hl18_2] at c58b0_hl18_2))
                           (try (have c58b0_hl30_2 := c58b0; simp only [hl30_2] at c58b0_hl30_2))
                           (try (have c58b0_hl15_3 := c58b0; simp only [hl15_3] at c58b0_hl15_3))
                           (try (have c58b0_hl18_3 := c58b0; simp only [hl18_3] at c58b0_hl18_3))
                           (try (have c58b0_hl30_3 := c58b0; simp only [hl30_3] at c58b0_hl30_3))
                           clear c58
                           by_cases c59 : t194 < (x30_3.length : Int)
                           ·rw [if_pos c59] at H
                            have c59b0 : decide (t194 < (x30_3.length : Int)) = true := decide_eq_true c59
                            (try (have c59b0_hl18_1 := c59b0; simp only [hl18_1] at c59b0_hl18_1))
                            (try (have c59b0_hl15_2 := c59b0; simp only [hl15_2] at c59b0_hl15_2))
                            (try (have c59b0_hl18_2 := c59b0; simp only [hl18_2] at c59b0_hl18_2))
                            (try (have c59b0_hl30_2 := c59b0; simp only [hl30_2] at c59b0_hl30_2))
                            (try (have c59b0_hl15_3 := c59b0; simp only [hl15_3] at c59b0_hl15_3))
                            (try (have c59b0_hl18_3 := c59b0; simp only [hl18_3] at c59b0_hl18_3))
                            (try (have c59b0_hl30_3 := c59b0; simp only [hl30_3] at c59b0_hl30_3))
                            clear c59
                            obtain ⟨y204, hy204⟩ : ∃ y_ : List (S31), y_ = (x30_3.set (t194 : Int).toNat (⟨t197, t198, t199, t200, t201, t202⟩ : S31)) := ⟨_, rfl⟩
                            replace H : (if t194 < (x15_3.length : Int) then (if x8_3.length < 17592186044416 then (qB.l2 k3 l0 (x8_3 ++ [t194]) x9_2 (rd x8_2 x9_2) (x15_3.set (t194 : Int).toNat t202) (x18_3.set (t194 : Int).toNat (wrap64 ((rd x18_3 (rd x8_2 x9_2)) + 1))) y204 (wrap64 (x49_3 + 1))) else (none)) else (none)) = some (r1, r2) := by first | (rw [hy204]; with_reducible exact H) | (have H2_ := (Option.bind_some _ _).symm.trans H; rw [hy204]; with_reducible exact H2_) | (have H2_ := (Option.bind_some _ _).symm.trans H; with_reducible exact H2_) | with_reducible exact H | (rw [hy204]; exact H) | exact H
                            have Ny204 := Aside0.mk hy204
                            clear hy204
                            obtain ⟨y205, hy205⟩ : ∃ y_ : List Int, y_ = (x18_3.set (t194 : Int).toNat (wrap64 ((rd x18_3 (rd x8_2 x9_2)) + 1))) := ⟨_, rfl⟩
                            replace H : (if t194 < (x15_3.length : Int) then (if x8_3.length < 17592186044416 then (qB.l2 k3 l0 (x8_3 ++ [t194]) x9_2 (rd x8_2 x9_2) (x15_3.set (t194 : Int).toNat t202) y205 y204 (wrap64 (x49_3 + 1))) else (none)) else (none)) = some (r1, r2) := by first | (rw [hy205]; with_reducible exact H) | (have H2_ := (Option.bind_some _ _).symm.trans H; rw [hy205]; with_reducible exact H2_) | (have H2_ := (Option.bind_some _ _).symm.trans H; with_reducible exact H2_) | with_reducible exact H | (rw [hy205]; exact H) | exact H
                            have Ny205 := Aside0.mk hy205
                            clear hy205
                            by_cases c63 : t194 < (x15_3.length : Int)
                            ·rw [if_pos c63] at H
                             have c63b0 : decide (t194 < (x15_3.length : Int)) = true := decide_eq_true c63
                             (try (have c63b0_hl18_1 := c63b0; simp only [hl18_1] at c63b0_hl18_1))
                             (try (have c63b0_hl15_2 := c63b0; simp only [hl15_2] at c63b0_hl15_2))
                             (try (have c63b0_hl18_2 := c63b0; simp only [hl18_2] at c63b0_hl18_2))
                             (try (have c63b0_hl30_2 := c63b0; simp only [hl30_2] at c63b0_hl30_2))
                             (try (have c63b0_hl15_3 := c63b0; simp only [hl15_3] at c63b0_hl15_3))
                             (try (have c63b0_hl18_3 := c63b0; simp only [hl18_3] at c63b0_hl18_3))
                             (try (have c63b0_hl30_3 := c63b0; simp only [hl30_3] at c63b0_hl30_3))
                             clear c63
                             obtain ⟨y207, hy207⟩ : ∃ y_ : List Int, y_ = (x15_3.set (t194 : Int).toNat t202) := ⟨_, rfl⟩
                             replace H : (if x8_3.length < 17592186044416 then (qB.l2 k3 l0 (x8_3 ++ [t194]) x9_2 (rd x8_2 x9_2) y207 y205 y204 (wrap64 (x49_3 + 1))) else (none)) = some (r1, r2) := by first | (rw [hy207]; with_reducible exact H) | (have H2_ := (Option.bind_some _ _).symm.trans H; rw [hy207]; with_reducible exact H2_) | (have H2_ := (Option.bind_some _ _).symm.trans H; with_reducible exact H2_) | with_reducible exact H | (rw [hy207]; exact H) | exact H
                             have Ny207 := Aside0.mk hy207
                             clear hy207
                             by_cases c65 : x8_3.length < 17592186044416
                             ·rw [if_pos c65] at H
                              have LMc65 := Aside0.mk c65
                              clear c65
                              obtain ⟨y208, hy208⟩ : ∃ y_ : List Int, y_ = (x8_3 ++ [t194]) := ⟨_, rfl⟩
                              replace H : (qB.l2 k3 l0 y208 x9_2 (rd x8_2 x9_2) y207 y205 y204 (wrap64 (x49_3 + 1))) = some (r1, r2) := by first | (rw [hy208]; with_reducible exact H) | (have H2_ := (Option.bind_some _ _).symm.trans H; rw [hy208]; with_reducible exact H2_) | (have H2_ := (Option.bind_some _ _).symm.trans H; with_reducible exact H2_) | with_reducible exact H | (rw [hy208]; exact H) | exact H
                              have Ny208 := Aside0.mk hy208
                              clear hy208
                              have H' := Aside0.mk H
                              clear H
                              try go_wp2
                              have n0_ := Aside0.mk (Kd.qI HO_8.out)
                              have n1_ := Aside0.mk (Kd.qI HO_15.out)
                              have n2_ := Aside0.mk (Kd.qI HO_18.out)
                              have n3_ := Aside0.mk (Kd.qI HO_30.out)
                              have n4_ := Aside0.mk (qi HB.out)
                              clear HO_8
                              clear HO_15
                              clear HO_18
                              clear HO_30
                              clear HB
                              have HO_8 := n0_
                              have HO_15 := n1_
                              have HO_18 := n2_
                              have HO_30 := n3_
                              have HB := n4_
                              clear n0_ n1_ n2_ n3_ n4_
                              have p190 : 0 ≤ ((rd x8_2 x9_2) : Int) := of_decide_eq_true (by first | (with_reducible assumption) | assumption)
                              have q190 : (rd x8_2 x9_2) < (l0.length : Int) := of_decide_eq_true (by first | (with_reducible assumption) | assumption)
                              obtain ⟨ad190, e190, hx190_0, hx190_1⟩ := qiB HR0.out (rd x8_2 x9_2) p190 q190
                              have hw190_1 := hx190_1
                              have hw190_0 := hx190_0
                              cases e190
                              replace hx190_0 := (HB.out.cell (World.block_lt_of_cell? w _ hx190_0)).trans hx190_0
                              replace hx190_1 := (HB.out.cell (World.block_lt_of_cell? w _ hx190_1)).trans hx190_1
                              replace p190 := eq_true p190
                              replace q190 := eq_true q190
                              have p191 : 0 ≤ ((rd x8_2 x9_2) : Int) := of_decide_eq_true (by first | (with_reducible assumption) | assumption)
                              have q191 : (rd x8_2 x9_2) < (l0.length : Int) := of_decide_eq_true (by first | (with_reducible assumption) | assumption)
                              obtain ⟨ad191, e191, hx191_0, hx191_1⟩ := qiB HR0.out (rd x8_2 x9_2) p191 q191
                              have hw191_1 := hx191_1
                              have hw191_0 := hx191_0
                              obtain rfl : ad190 = ad191 := (by injection e191)
                              replace hx191_0 := (HB.out.cell (World.block_lt_of_cell? w _ hx191_0)).trans hx191_0
                              replace hx191_1 := (HB.out.cell (World.block_lt_of_cell? w _ hx191_1)).trans hx191_1
                              replace p191 := eq_true p191
                              replace q191 := eq_true q191
                              have p44 : 0 ≤ (x49_3 : Int) := of_decide_eq_true (by first | (with_reducible assumption) | assumption)
                              have q44 : x49_3 < (4 : Int) := of_decide_eq_true (by first | (with_reducible assumption) | assumption)
                              have hx44 := bt_at (⟨#[110, 101, 115, 119]⟩ : ByteArray) x49_3
                              replace p44 := eq_true p44
                              replace q44 := eq_true q44
                              refine qvA (n := 18) (S := fun w' => w'.cell? (ad190.add (((rd x8_2 x9_2)).toNat * 2)) = some (.int .i64 ((ql l0 (rd x8_2 x9_2)).f0)) ∧ w'.cell? ⟨(ad190.add (((rd x8_2 x9_2)).toNat * 2)).block, (ad190.add (((rd x8_2 x9_2)).toNat * 2)).off + 1, none⟩ = some (.int .i64 ((ql l0 (rd x8_2 x9_2)).f1)) ∧ w'.cell? (ad190.add (((rd x8_2 x9_2)).toNat * 2)) = some (.int .i64 ((ql l0 (rd x8_2 x9_2)).f0)) ∧ w'.cell? ⟨(ad190.add (((rd x8_2 x9_2)).toNat * 2)).block, (ad190.add (((rd x8_2 x9_2)).toNat * 2)).off + 1, none⟩ = some (.int .i64 ((ql l0 (rd x8_2 x9_2)).f1))) (ds := []) #[false, false, false, false, false, false, false, false, false, false, false, false, false, false, false, false, false, false] (by kernel_rfl) rfl rfl ⟨((HB.out.cell (World.block_lt_of_cell? w _ hw190_0)).trans hw190_0), ((HB.out.cell (World.block_lt_of_cell? w _ hw190_1)).trans hw190_1), ((HB.out.cell (World.block_lt_of_cell? w _ hw191_0)).trans hw191_0), ((HB.out.cell (World.block_lt_of_cell? w _ hw191_1)).trans hw191_1)⟩ (fun hHeld => ?_); refine qFA qB.tab16 qB.bits16 (fun HT_ HW_ => ?_)
                              generalize wr.drew = w66 at HO_8 HO_15 HO_18 HO_30 HB hx190_0 hx190_1 hx191_0 hx191_1 hHeld ⊢
                              refine pS (i := 0) (N := some 52) #[true, false, false, false, false, false, false, false, false, false, false, false, false, false, false, false, false, false] HT_ ?_
                              refine pS (i := 1) (N := some 53) #[true, true, false, false, false, false, false, false, false, false, false, false, false, false, false, false, false, false] HT_ ?_
                              refine pS (i := 2) (N := some 54) #[true, true, true, false, false, false, false, false, false, false, false, false, false, false, false, false, false, false] HT_ ?_
                              refine pS (i := 3) (N := some 55) #[true, true, true, true, false, false, false, false, false, false, false, false, false, false, false, false, false, false] HT_ ?_
                              refine pS (i := 4) (N := some 56) #[true, true, true, true, true, false, false, false, false, false, false, false, false, false, false, false, false, false] HT_ ?_
                              refine pS (i := 6) (N := some 58) #[true, true, true, true, true, false, true, false, false, false, false, false, false, false, false, false, false, false] HT_ ?_
                              refine pS (i := 7) (N := some 59) #[true, true, true, true, true, false, true, true, false, false, false, false, false, false, false, false, false, false] HT_ ?_
                              refine pS (i := 8) (N := some 60) #[true, true, true, true, true, false, true, true, true, false, false, false, false, false, false, false, false, false] HT_ ?_
                              refine pS (i := 9) (N := some 61) #[true, true, true, true, true, false, true, true, true, true, false, false, false, false, false, false, false, false] HT_ ?_
                              refine pS (i := 11) (N := some 63) #[true, true, true, true, true, false, true, true, true, true, false, true, false, false, false, false, false, false] HT_ ?_
                              refine tS (i := 5) (N := some 57) #[true, true, true, true, true, true, true, true, true, true, false, true, false, false, false, false, false, false] HT_ HW_ hHeld ?_
                              refine tS (i := 10) (N := some 62) #[true, true, true, true, true, true, true, true, true, true, true, true, false, false, false, false, false, false] HT_ HW_ hHeld ?_
                              refine tS (i := 12) (N := some 64) #[true, true, true, true, true, true, true, true, true, true, true, true, true, false, false, false, false, false] HT_ HW_ hHeld ?_
                              refine one_ (i := 13) (N := some 65) #[true, true, true, true, true, true, true, true, true, true, true, true, true, true, false, false, false, false] rfl rfl (qdA HT_.out (by kernel_rfl)) (by decide) (fun K hK => ?_)
                              refine goes_ Tryd.func54 (by kernel_rfl) rfl #[.int .i64 ((ql l0 (rd x8_2 x9_2)).f0), .int .i64 ((ql l0 (rd x8_2 x9_2)).f1), .int .u8 (bt (⟨#[110, 101, 115, 119]⟩ : ByteArray) x49_3)] (by rfl) rfl rfl (by (try simp only [List.map_toArray, List.map_cons, List.map_nil]); first | done | rfl | (simp only [List.length_drop, List.length_take]; rfl)) ?_
                              with_reducible refine (qVA.calls ((ql l0 (rd x8_2 x9_2)).f0) ((ql l0 (rd x8_2 x9_2)).f1) (bt (⟨#[110, 101, 115, 119]⟩ : ByteArray) x49_3) t192 t193 _ A45.out).mono ?_
                              rintro e w' ⟨rfl, ⟨nd, rfl⟩⟩
                              refine ⟨_, rfl, ?_⟩
                              refine hK.out _ _ ⟨((HB.out.cell (World.block_lt_of_cell? w _ hw190_0)).trans hw190_0), ((HB.out.cell (World.block_lt_of_cell? w _ hw190_1)).trans hw190_1), ((HB.out.cell (World.block_lt_of_cell? w _ hw191_0)).trans hw191_0), ((HB.out.cell (World.block_lt_of_cell? w _ hw191_1)).trans hw191_1)⟩ (fun hHeld => ?_)
                              clear hK K
                              refine norm_ (a' := ?_) ?_ ?_
                              rotate_left
                              ·show Act.put _ (some 65) _ = _
                               simp only [Act.put, List.setIfInBounds_toArray, List.set_cons_zero, List.set_cons_succ, i64_w, i32_w]
                               rfl
                              refine pS (i := 14) (N := some 66) #[true, true, true, true, true, true, true, true, true, true, true, true, true, true, true, false, false, false] HT_ ?_
                              refine pS (i := 15) (N := some 67) #[true, true, true, true, true, true, true, true, true, true, true, true, true, true, true, true, false, false] HT_ ?_
                              refine one_ (i := 16) (N := some 68) #[true, true, true, true, true, true, true, true, true, true, true, true, true, true, true, true, true, false] rfl rfl (qdA HT_.out (by kernel_rfl)) (by decide) (fun K hK => ?_)
                              refine goes_ Tryd.func53 (by kernel_rfl) rfl #[.slice (some ad190) l0.length c0, .int .i64 t192, .int .i64 t193] (by rfl) rfl rfl (by (try simp only [List.map_toArray, List.map_cons, List.map_nil]); first | done | rfl | (simp only [List.length_drop, List.length_take]; rfl)) ?_
                              with_reducible refine (qt.calls k3 _ _ l0 t192 t193 t194 _ ?side1 ?side2 A46.out).mono ?_
                              (case side1 => repeat (first | exact (Kd.qYA HR0.out bl) | (with_reducible refine Kd.qZA ?_ _) | (with_reducible refine Kd.qXA ?_ _) | (with_reducible refine Kd.qtA ?_)))
                              (case side2 => exact HC0.out)
                              rintro e w67 ⟨rfl, hb⟩
                              refine ⟨_, rfl, ?_⟩
                              have n0_ := Aside0.mk (Kd.qa (by (with_reducible repeat (first | apply Kd.qF | apply Kd.qG | apply Kd.qI)); exact HO_8.out) hb)
                              have n1_ := Aside0.mk (Kd.qa (by (with_reducible repeat (first | apply Kd.qF | apply Kd.qG | apply Kd.qI)); exact HO_15.out) hb)
                              have n2_ := Aside0.mk (Kd.qa (by (with_reducible repeat (first | apply Kd.qF | apply Kd.qG | apply Kd.qI)); exact HO_18.out) hb)
                              have n3_ := Aside0.mk (Kd.qa (by (with_reducible repeat (first | apply Kd.qF | apply Kd.qG | apply Kd.qI)); exact HO_30.out) hb)
                              have n4_ := Aside0.mk (qL bl hb)
                              clear HO_8
                              clear HO_15
                              clear HO_18
                              clear HO_30
                              clear HB
                              have HO_8 := n0_
                              have HO_15 := n1_
                              have HO_18 := n2_
                              have HO_30 := n3_
                              have HB := n4_
                              clear n0_ n1_ n2_ n3_ n4_
                              (try clear hb)
                              (try clear hb2)
                              (try clear hk)
                              (try clear hi)
                              refine hK.out _ _ ⟨((HB.out.cell (World.block_lt_of_cell? w _ hw190_0)).trans hw190_0), ((HB.out.cell (World.block_lt_of_cell? w _ hw190_1)).trans hw190_1), ((HB.out.cell (World.block_lt_of_cell? w _ hw191_0)).trans hw191_0), ((HB.out.cell (World.block_lt_of_cell? w _ hw191_1)).trans hw191_1)⟩ (fun hHeld => ?_)
                              clear hK K
                              refine norm_ (a' := ?_) ?_ ?_
                              rotate_left
                              ·show Act.put _ (some 68) _ = _
                               simp only [Act.put, List.setIfInBounds_toArray, List.set_cons_zero, List.set_cons_succ, i64_w, i32_w]
                               rfl
                              refine pS (i := 17) (N := some 12) #[true, true, true, true, true, true, true, true, true, true, true, true, true, true, true, true, true, true] HT_ ?_
                              refine done_ (qFB HT_.out (by kernel_rfl)) ?_
                              have p195 : 0 ≤ (t194 : Int) := of_decide_eq_true (by first | (with_reducible assumption) | assumption)
                              have q195 : t194 < (x18_3.length : Int) := of_decide_eq_true (by first | (with_reducible assumption) | assumption)
                              obtain ⟨ad195, e195, hx195_0⟩ := Kd.qGA (Kd.qQ HO_18.out).2.2 t194 p195 q195
                              obtain rfl : (⟨go25, 0, none⟩ : Addr) = ad195 := (by injection e195)
                              (first | simp only [qDA] at hx195_0 | simp only [qHB] at hx195_0 | simp only [Addr.add, Nat.zero_add] at hx195_0 | skip)
                              replace p195 := eq_true p195
                              replace q195 := eq_true q195
                              try go_wp2
                              have n0_ := Aside0.mk (Kd.qI HO_8.out)
                              have n1_ := Aside0.mk (Kd.qI HO_15.out)
                              have n2_ := Aside0.mk (Kd.qI HO_18.out)
                              have n3_ := Aside0.mk (Kd.qI HO_30.out)
                              have n4_ := Aside0.mk (qi HB.out)
                              clear HO_8
                              clear HO_15
                              clear HO_18
                              clear HO_30
                              clear HB
                              have HO_8 := n0_
                              have HO_15 := n1_
                              have HO_18 := n2_
                              have HO_30 := n3_
                              have HB := n4_
                              clear n0_ n1_ n2_ n3_ n4_
                              have p196 : 0 ≤ ((rd x8_2 x9_2) : Int) := of_decide_eq_true (by first | (with_reducible assumption) | assumption)
                              have q196 : (rd x8_2 x9_2) < (x30_3.length : Int) := of_decide_eq_true (by first | (with_reducible assumption) | assumption)
                              obtain ⟨ad196, e196, hx196_0, hx196_1, hx196_2, hx196_3, hx196_4, hx196_5⟩ := at_T31 (Kd.qQ HO_30.out).2.2 (rd x8_2 x9_2) p196 q196
                              obtain rfl : (⟨go21, 0, none⟩ : Addr) = ad196 := (by injection e196)
                              (first | simp only [qDA] at hx196_0 | simp only [qHB] at hx196_0 | simp only [Addr.add, Nat.zero_add] at hx196_0 | skip)
                              (first | simp only [qDA] at hx196_1 | simp only [qHB] at hx196_1 | simp only [Addr.add, Nat.zero_add] at hx196_1 | skip)
                              (first | simp only [qDA] at hx196_2 | simp only [qHB] at hx196_2 | simp only [Addr.add, Nat.zero_add] at hx196_2 | skip)
                              (first | simp only [qDA] at hx196_3 | simp only [qHB] at hx196_3 | simp only [Addr.add, Nat.zero_add] at hx196_3 | skip)
                              (first | simp only [qDA] at hx196_4 | simp only [qHB] at hx196_4 | simp only [Addr.add, Nat.zero_add] at hx196_4 | skip)
                              (first | simp only [qDA] at hx196_5 | simp only [qHB] at hx196_5 | simp only [Addr.add, Nat.zero_add] at hx196_5 | skip)
                              replace p196 := eq_true p196
                              replace q196 := eq_true q196
                              have p56 : 0 ≤ (x49_3 : Int) := of_decide_eq_true (by first | (with_reducible assumption) | assumption)
                              have q56 : x49_3 < (4 : Int) := of_decide_eq_true (by first | (with_reducible assumption) | assumption)
                              have hx56 := bt_at (⟨#[110, 101, 115, 119]⟩ : ByteArray) x49_3
                              replace p56 := eq_true p56
                              replace q56 := eq_true q56
                              have p203 : 0 ≤ ((rd x8_2 x9_2) : Int) := of_decide_eq_true (by first | (with_reducible assumption) | assumption)
                              have q203 : (rd x8_2 x9_2) < (x18_3.length : Int) := of_decide_eq_true (by first | (with_reducible assumption) | assumption)
                              obtain ⟨ad203, e203, hx203_0⟩ := Kd.qGA (Kd.qQ HO_18.out).2.2 (rd x8_2 x9_2) p203 q203
                              obtain rfl : (⟨go25, 0, none⟩ : Addr) = ad203 := (by injection e203)
                              (first | simp only [qDA] at hx203_0 | simp only [qHB] at hx203_0 | simp only [Addr.add, Nat.zero_add] at hx203_0 | skip)
                              replace p203 := eq_true p203
                              replace q203 := eq_true q203
                              refine qvA (n := 20) (S := fun w' => w'.cell? ⟨go21, ((rd x8_2 x9_2)).toNat * 6, none⟩ = some (.int .i64 ((qb x30_3 (rd x8_2 x9_2)).f0)) ∧ w'.cell? ⟨go21, ((rd x8_2 x9_2)).toNat * 6 + 1, none⟩ = some (.int .i64 ((qb x30_3 (rd x8_2 x9_2)).f1)) ∧ w'.cell? ⟨go21, ((rd x8_2 x9_2)).toNat * 6 + 2, none⟩ = some (.int .i64 ((qb x30_3 (rd x8_2 x9_2)).f2)) ∧ w'.cell? ⟨go21, ((rd x8_2 x9_2)).toNat * 6 + 3, none⟩ = some (.int .i64 ((qb x30_3 (rd x8_2 x9_2)).f3)) ∧ w'.cell? ⟨go21, ((rd x8_2 x9_2)).toNat * 6 + 4, none⟩ = some (.int .i64 ((qb x30_3 (rd x8_2 x9_2)).f4)) ∧ w'.cell? ⟨go21, ((rd x8_2 x9_2)).toNat * 6 + 5, none⟩ = some (.int .i64 ((qb x30_3 (rd x8_2 x9_2)).f5)) ∧ w'.cell? ⟨go25, ((rd x8_2 x9_2)).toNat, none⟩ = some (.int .i64 (rd x18_3 (rd x8_2 x9_2)))) (ds := [17, 19]) #[false, false, false, false, false, false, false, false, false, false, false, false, false, false, false, false, false, false, false, false] (by kernel_rfl) rfl rfl ⟨hx196_0, hx196_1, hx196_2, hx196_3, hx196_4, hx196_5, hx203_0⟩ (fun hHeld => ?_); refine qFA qB.tab18 qB.bits18 (fun HT_ HW_ => ?_)
                              generalize w67.drew = w68 at HO_8 HO_15 HO_18 HO_30 HB hx196_0 hx196_1 hx196_2 hx196_3 hx196_4 hx196_5 hx203_0 hHeld ⊢
                              refine pS (i := 0) (N := some 78) #[true, false, false, false, false, false, false, false, false, false, false, false, false, false, false, false, false, false, false, false] HT_ ?_
                              refine pS (i := 1) (N := some 79) #[true, true, false, false, false, false, false, false, false, false, false, false, false, false, false, false, false, false, false, false] HT_ ?_
                              refine pS (i := 2) (N := some 80) #[true, true, true, false, false, false, false, false, false, false, false, false, false, false, false, false, false, false, false, false] HT_ ?_
                              refine pS (i := 3) (N := some 81) #[true, true, true, true, false, false, false, false, false, false, false, false, false, false, false, false, false, false, false, false] HT_ ?_
                              refine pS (i := 4) (N := some 82) #[true, true, true, true, true, false, false, false, false, false, false, false, false, false, false, false, false, false, false, false] HT_ ?_
                              refine pS (i := 5) (N := some 83) #[true, true, true, true, true, true, false, false, false, false, false, false, false, false, false, false, false, false, false, false] HT_ ?_
                              refine pS (i := 6) (N := some 84) #[true, true, true, true, true, true, true, false, false, false, false, false, false, false, false, false, false, false, false, false] HT_ ?_
                              refine pS (i := 8) (N := some 86) #[true, true, true, true, true, true, true, false, true, false, false, false, false, false, false, false, false, false, false, false] HT_ ?_
                              refine pS (i := 11) (N := some 89) #[true, true, true, true, true, true, true, false, true, false, false, true, false, false, false, false, false, false, false, false] HT_ ?_
                              refine pS (i := 12) (N := some 90) #[true, true, true, true, true, true, true, false, true, false, false, true, true, false, false, false, false, false, false, false] HT_ ?_
                              refine pS (i := 13) (N := some 91) #[true, true, true, true, true, true, true, false, true, false, false, true, true, true, false, false, false, false, false, false] HT_ ?_
                              refine tS (i := 7) (N := some 85) #[true, true, true, true, true, true, true, true, true, false, false, true, true, true, false, false, false, false, false, false] HT_ HW_ hHeld ?_
                              refine tS (i := 9) (N := some 87) #[true, true, true, true, true, true, true, true, true, true, false, true, true, true, false, false, false, false, false, false] HT_ HW_ hHeld ?_
                              refine tS (i := 14) (N := some 92) #[true, true, true, true, true, true, true, true, true, true, false, true, true, true, true, false, false, false, false, false] HT_ HW_ hHeld ?_
                              refine pS (i := 15) (N := some 93) #[true, true, true, true, true, true, true, true, true, true, false, true, true, true, true, true, false, false, false, false] HT_ ?_
                              refine one_ (i := 10) (N := some 88) #[true, true, true, true, true, true, true, true, true, true, true, true, true, true, true, true, false, false, false, false] rfl rfl (qdA HT_.out (by kernel_rfl)) (by decide) (fun K hK => ?_)
                              refine goes_ Tryd.func55 (by kernel_rfl) rfl #[.agg #[.int .i64 ((qb x30_3 (rd x8_2 x9_2)).f0), .int .i64 ((qb x30_3 (rd x8_2 x9_2)).f1), .int .i64 ((qb x30_3 (rd x8_2 x9_2)).f2), .int .i64 ((qb x30_3 (rd x8_2 x9_2)).f3), .int .i64 ((qb x30_3 (rd x8_2 x9_2)).f4), .int .i64 ((qb x30_3 (rd x8_2 x9_2)).f5)], .int .u8 (bt (⟨#[110, 101, 115, 119]⟩ : ByteArray) x49_3)] (by rfl) rfl rfl (by (try simp only [List.map_toArray, List.map_cons, List.map_nil]); first | done | rfl | (simp only [List.length_drop, List.length_take]; rfl)) ?_
                              with_reducible refine (qu.calls ((qb x30_3 (rd x8_2 x9_2)).f0) ((qb x30_3 (rd x8_2 x9_2)).f1) ((qb x30_3 (rd x8_2 x9_2)).f2) ((qb x30_3 (rd x8_2 x9_2)).f3) ((qb x30_3 (rd x8_2 x9_2)).f4) ((qb x30_3 (rd x8_2 x9_2)).f5) (bt (⟨#[110, 101, 115, 119]⟩ : ByteArray) x49_3) t197 t198 t199 t200 t201 t202 _ A57.out).mono ?_
                              rintro e w69 ⟨rfl, hb⟩
                              have HS0_ := (hb.cell (World.block_lt_of_cell? _ _ (hHeld.1))).trans (hHeld.1)
                              have HS1_ := (hb.cell (World.block_lt_of_cell? _ _ (hHeld.2.1))).trans (hHeld.2.1)
                              have HS2_ := (hb.cell (World.block_lt_of_cell? _ _ (hHeld.2.2.1))).trans (hHeld.2.2.1)
                              have HS3_ := (hb.cell (World.block_lt_of_cell? _ _ (hHeld.2.2.2.1))).trans (hHeld.2.2.2.1)
                              have HS4_ := (hb.cell (World.block_lt_of_cell? _ _ (hHeld.2.2.2.2.1))).trans (hHeld.2.2.2.2.1)
                              have HS5_ := (hb.cell (World.block_lt_of_cell? _ _ (hHeld.2.2.2.2.2.1))).trans (hHeld.2.2.2.2.2.1)
                              have HS6_ := (hb.cell (World.block_lt_of_cell? _ _ (hHeld.2.2.2.2.2.2))).trans (hHeld.2.2.2.2.2.2)
                              refine ⟨_, rfl, ?_⟩
                              have n0_ := Aside0.mk (Kd.qa (by (with_reducible repeat (first | apply Kd.qF | apply Kd.qG | apply Kd.qI)); exact HO_8.out) hb)
                              have n1_ := Aside0.mk (Kd.qa (by (with_reducible repeat (first | apply Kd.qF | apply Kd.qG | apply Kd.qI)); exact HO_15.out) hb)
                              have n2_ := Aside0.mk (Kd.qa (by (with_reducible repeat (first | apply Kd.qF | apply Kd.qG | apply Kd.qI)); exact HO_18.out) hb)
                              have n3_ := Aside0.mk (Kd.qa (by (with_reducible repeat (first | apply Kd.qF | apply Kd.qG | apply Kd.qI)); exact HO_30.out) hb)
                              have n4_ := Aside0.mk (qL bl hb)
                              clear HO_8
                              clear HO_15
                              clear HO_18
                              clear HO_30
                              clear HB
                              have HO_8 := n0_
                              have HO_15 := n1_
                              have HO_18 := n2_
                              have HO_30 := n3_
                              have HB := n4_
                              clear n0_ n1_ n2_ n3_ n4_
                              (try clear hb)
                              (try clear hb2)
                              (try clear hk)
                              (try clear hi)
                              have p60 : 0 ≤ (t194 : Int) := of_decide_eq_true (by first | (with_reducible assumption) | assumption)
                              have q60 : (t194 : Int) < ((x30_3.length : Int) : Int) := of_decide_eq_true (by first | (with_reducible assumption) | assumption)
                              obtain ⟨ce60, hcl60, hM60, hcc60, hfr60⟩ := Kd.qAC HO_30.out z31 (t194 : Int) p60 q60
                              obtain rfl := qIB hM60
                              have hx60_0 : World.cell? _ ⟨go21, (t194 : Int).toNat * 6, none⟩ = some (.int .i64 ((qb x30_3 t194).f0)) := hcc60 0 _ rfl
                              have hx60_1 : World.cell? _ ⟨go21, (t194 : Int).toNat * 6 + 1, none⟩ = some (.int .i64 ((qb x30_3 t194).f1)) := hcc60 1 _ rfl
                              have hx60_2 : World.cell? _ ⟨go21, (t194 : Int).toNat * 6 + 2, none⟩ = some (.int .i64 ((qb x30_3 t194).f2)) := hcc60 2 _ rfl
                              have hx60_3 : World.cell? _ ⟨go21, (t194 : Int).toNat * 6 + 3, none⟩ = some (.int .i64 ((qb x30_3 t194).f3)) := hcc60 3 _ rfl
                              have hx60_4 : World.cell? _ ⟨go21, (t194 : Int).toNat * 6 + 4, none⟩ = some (.int .i64 ((qb x30_3 t194).f4)) := hcc60 4 _ rfl
                              have hx60_5 : World.cell? _ ⟨go21, (t194 : Int).toNat * 6 + 5, none⟩ = some (.int .i64 ((qb x30_3 t194).f5)) := hcc60 5 _ rfl
                              have hf60_0 : World.frozen? _ ⟨go21, (t194 : Int).toNat * 6, none⟩ = false := hfr60 0
                              have hf60_1 : World.frozen? _ ⟨go21, (t194 : Int).toNat * 6 + 1, none⟩ = false := hfr60 1
                              have hf60_2 : World.frozen? _ ⟨go21, (t194 : Int).toNat * 6 + 2, none⟩ = false := hfr60 2
                              have hf60_3 : World.frozen? _ ⟨go21, (t194 : Int).toNat * 6 + 3, none⟩ = false := hfr60 3
                              have hf60_4 : World.frozen? _ ⟨go21, (t194 : Int).toNat * 6 + 4, none⟩ = false := hfr60 4
                              have hf60_5 : World.frozen? _ ⟨go21, (t194 : Int).toNat * 6 + 5, none⟩ = false := hfr60 5
                              clear hcl60 hcc60 hfr60 hM60
                              replace p60 := eq_true p60
                              replace q60 := eq_true q60
                              obtain ⟨ce70, hcl70, hM70, hcc70, hfr70⟩ := Kd.qAC (Kd.qNB (Kd.qNB (Kd.qNB HO_30.out (Kd.qCA HO_8.out) (by decide)) (Kd.qCA HO_15.out) (by decide)) (Kd.qCA HO_18.out) (by decide)) z31 (t194 : Int) (of_decide_eq_true (by first | (with_reducible assumption) | assumption)) (by have h_ : (t194 : Int) < ((x30_3.length : Int) : Int) := of_decide_eq_true (by first | (with_reducible assumption) | assumption); first | exact h_ | (have e_ := (Kd.qQ HO_30.out).1; omega) | simpa using h_)
                              obtain rfl := qIB hM70
                              have HP70 := (Kd.R_seg (Kd.qNB (Kd.qNB (Kd.qNB HO_30.out (Kd.qCA HO_8.out) (by decide)) (Kd.qCA HO_15.out) (by decide)) (Kd.qCA HO_18.out) (by decide)) (t194 : Int) (of_decide_eq_true (by first | (with_reducible assumption) | assumption)) (by have h_ : (t194 : Int) < ((x30_3.length : Int) : Int) := of_decide_eq_true (by first | (with_reducible assumption) | assumption); first | exact h_ | (have e_ := (Kd.qQ HO_30.out).1; omega) | simpa using h_) (seg := [.int .i64 t197, .int .i64 t198, .int .i64 t199, .int .i64 t200, .int .i64 t201, .int .i64 t202]) (j := 0) hcl70 hcc70 (show 6 ≤ 6 from by decide) (x' := (⟨t197, t198, t199, t200, t201, t202⟩ : S31)) (qCC _ _ _ (⟨t197, t198, t199, t200, t201, t202⟩ : S31) ) (fun _ hk => hk)).1
                              rw [← Ny204.out] at HP70
                              have HQ70 := Aside0.mk HP70
                              clear hcl70 hcc70 hfr70 hM70 HP70
                              have p61 : 0 ≤ (t194 : Int) := of_decide_eq_true (by first | (with_reducible assumption) | assumption)
                              have q61 : (t194 : Int) < ((x18_3.length : Int) : Int) := of_decide_eq_true (by first | (with_reducible assumption) | assumption)
                              obtain ⟨hx61_0, hf61_0⟩ := Kd.qbA 0 (Kd.R_far (p := ⟨go21, (t194 : Int).toNat * 6 + 5, none⟩) (Kd.R_far (p := ⟨go21, (t194 : Int).toNat * 6 + 4, none⟩) (Kd.R_far (p := ⟨go21, (t194 : Int).toNat * 6 + 3, none⟩) (Kd.R_far (p := ⟨go21, (t194 : Int).toNat * 6 + 2, none⟩) (Kd.R_far (p := ⟨go21, (t194 : Int).toNat * 6 + 1, none⟩) (Kd.R_far (p := ⟨go21, (t194 : Int).toNat * 6, none⟩) (Kd.quA HO_18.out (by first | exact GG21.out | exact (Kd.qCA HO_30.out go21 rfl).choose_spec) (by decide)) (fun _ hk => hk.2) (.int .i64 t197)) (fun _ hk => hk.2) (.int .i64 t198)) (fun _ hk => hk.2) (.int .i64 t199)) (fun _ hk => hk.2) (.int .i64 t200)) (fun _ hk => hk.2) (.int .i64 t201)) (fun _ hk => hk.2) (.int .i64 t202)) (t194 : Int) p61 q61
                              replace p61 := eq_true p61
                              replace q61 := eq_true q61
                              have HP71 := Kd.R_putn (Kd.R_far (p := ⟨go21, (t194 : Int).toNat * 6 + 5, none⟩) (Kd.R_far (p := ⟨go21, (t194 : Int).toNat * 6 + 4, none⟩) (Kd.R_far (p := ⟨go21, (t194 : Int).toNat * 6 + 3, none⟩) (Kd.R_far (p := ⟨go21, (t194 : Int).toNat * 6 + 2, none⟩) (Kd.R_far (p := ⟨go21, (t194 : Int).toNat * 6 + 1, none⟩) (Kd.R_far (p := ⟨go21, (t194 : Int).toNat * 6, none⟩) (Kd.quA HO_18.out (by first | exact GG21.out | exact (Kd.qCA HO_30.out go21 rfl).choose_spec) (by decide)) (fun _ hk => hk.2) (.int .i64 t197)) (fun _ hk => hk.2) (.int .i64 t198)) (fun _ hk => hk.2) (.int .i64 t199)) (fun _ hk => hk.2) (.int .i64 t200)) (fun _ hk => hk.2) (.int .i64 t201)) (fun _ hk => hk.2) (.int .i64 t202)) (t194 : Int) (wrap64 ((rd x18_3 (rd x8_2 x9_2)) + 1))
                              rw [← Ny205.out] at HP71
                              have HQ71 := Aside0.mk HP71
                              clear HP71
                              refine hK.out _ _ ⟨HS0_, HS1_, HS2_, HS3_, HS4_, HS5_, HS6_⟩ (fun hHeld => ?_)
                              clear hK K
                              refine norm_ (a' := ?_) ?_ ?_
                              rotate_left
                              ·show Act.put _ (some 88) _ = _
                               simp only [Act.put, List.setIfInBounds_toArray, List.set_cons_zero, List.set_cons_succ, i64_w, i32_w]
                               rfl
                              refine pS (i := 16) (N := some 94) #[true, true, true, true, true, true, true, true, true, true, true, true, true, true, true, true, true, false, false, false] HT_ ?_
                              refine last_ (i := 17) (N := none) #[true, true, true, true, true, true, true, true, true, true, true, true, true, true, true, true, true, true, false, false] rfl rfl (qdA HT_.out (by kernel_rfl)) (by decide) (fun K hK => ?_)
                              refine skip_ (w1 := ?_) (by rfl) rfl ?_ ?_
                              rotate_left
                              ·go_simp
                               rfl
                              refine hK.out _ _ ?_
                              clear hK K
                              generalize hWS : ((((((w69.setCell ⟨go21, (t194 : Int).toNat * 6, none⟩ (.int .i64 t197)).setCell ⟨go21, (t194 : Int).toNat * 6 + 1, none⟩ (.int .i64 t198)).setCell ⟨go21, (t194 : Int).toNat * 6 + 2, none⟩ (.int .i64 t199)).setCell ⟨go21, (t194 : Int).toNat * 6 + 3, none⟩ (.int .i64 t200)).setCell ⟨go21, (t194 : Int).toNat * 6 + 4, none⟩ (.int .i64 t201)).setCell ⟨go21, (t194 : Int).toNat * 6 + 5, none⟩ (.int .i64 t202)) = wS at hx61_0 hf61_0 ⊢
                              have HWS := Aside0.mk hWS
                              clear hWS
                              refine pS (i := 18) (N := some 95) #[true, true, true, true, true, true, true, true, true, true, true, true, true, true, true, true, true, true, true, false] HT_ ?_
                              refine last_ (i := 19) (N := none) #[true, true, true, true, true, true, true, true, true, true, true, true, true, true, true, true, true, true, true, true] rfl rfl (qdA HT_.out (by kernel_rfl)) (by decide) (fun K hK => ?_)
                              refine skip_ (w1 := ?_) (by rfl) rfl ?_ ?_
                              rotate_left
                              ·go_simp
                               rfl
                              refine hK.out _ _ ?_
                              clear hK K
                              have hWS := HWS.out
                              clear HWS
                              subst hWS
                              refine done_ (qFB HT_.out (by kernel_rfl)) ?_
                              have n0_ : Aside0 (Kd.R (Kd.int .i64) 3 (((((((w69.setCell ⟨go21, (t194 : Int).toNat * 6, none⟩ (.int .i64 t197)).setCell ⟨go21, (t194 : Int).toNat * 6 + 1, none⟩ (.int .i64 t198)).setCell ⟨go21, (t194 : Int).toNat * 6 + 2, none⟩ (.int .i64 t199)).setCell ⟨go21, (t194 : Int).toNat * 6 + 3, none⟩ (.int .i64 t200)).setCell ⟨go21, (t194 : Int).toNat * 6 + 4, none⟩ (.int .i64 t201)).setCell ⟨go21, (t194 : Int).toNat * 6 + 5, none⟩ (.int .i64 t202)).setCell ⟨go25, (t194 : Int).toNat, none⟩ (.int .i64 (wrap64 ((rd x18_3 (rd x8_2 x9_2)) + 1)))) w.heap.size (fun k_ => some k_ ≠ (.slice (some ⟨go23, 0, none⟩) x15_3.length co23 : Value).ownBlock ∧ some k_ ≠ (.slice (some ⟨go25, 0, none⟩) x18_3.length co10 : Value).ownBlock) u8 x8_3) := ⟨by (with_reducible repeat (first | apply Kd.qF | apply Kd.qG | apply Kd.qI)); exact Kd.qj (Kd.R_far (p := ⟨go25, (t194 : Int).toNat, none⟩) (Kd.R_far (p := ⟨go21, (t194 : Int).toNat * 6 + 5, none⟩) (Kd.R_far (p := ⟨go21, (t194 : Int).toNat * 6 + 4, none⟩) (Kd.R_far (p := ⟨go21, (t194 : Int).toNat * 6 + 3, none⟩) (Kd.R_far (p := ⟨go21, (t194 : Int).toNat * 6 + 2, none⟩) (Kd.R_far (p := ⟨go21, (t194 : Int).toNat * 6 + 1, none⟩) (Kd.R_far (p := ⟨go21, (t194 : Int).toNat * 6, none⟩) (Kd.qj (Kd.quA HO_8.out (by first | exact GG21.out | exact (Kd.qCA HO_30.out go21 rfl).choose_spec) (by decide)) (fun k_ hk => (⟨hk, fun e_ => hk.1.2 (by rw [e_]; rfl)⟩ : _ ∧ k_ ≠ go25))) (fun _ hk => hk.1.2) (.int .i64 t197)) (fun _ hk => hk.1.2) (.int .i64 t198)) (fun _ hk => hk.1.2) (.int .i64 t199)) (fun _ hk => hk.1.2) (.int .i64 t200)) (fun _ hk => hk.1.2) (.int .i64 t201)) (fun _ hk => hk.1.2) (.int .i64 t202)) (fun _ hk => hk.2) (.int .i64 (wrap64 ((rd x18_3 (rd x8_2 x9_2)) + 1)))) (fun _ hk => ⟨hk.1.1.1, hk.1.1.2⟩)⟩
                              have n1_ : Aside0 (Kd.R (Kd.int .i64) 3 (((((((w69.setCell ⟨go21, (t194 : Int).toNat * 6, none⟩ (.int .i64 t197)).setCell ⟨go21, (t194 : Int).toNat * 6 + 1, none⟩ (.int .i64 t198)).setCell ⟨go21, (t194 : Int).toNat * 6 + 2, none⟩ (.int .i64 t199)).setCell ⟨go21, (t194 : Int).toNat * 6 + 3, none⟩ (.int .i64 t200)).setCell ⟨go21, (t194 : Int).toNat * 6 + 4, none⟩ (.int .i64 t201)).setCell ⟨go21, (t194 : Int).toNat * 6 + 5, none⟩ (.int .i64 t202)).setCell ⟨go25, (t194 : Int).toNat, none⟩ (.int .i64 (wrap64 ((rd x18_3 (rd x8_2 x9_2)) + 1)))) w.heap.size (fun k_ => some k_ ≠ (u8 : Value).ownBlock ∧ some k_ ≠ (.slice (some ⟨go25, 0, none⟩) x18_3.length co10 : Value).ownBlock) (.slice (some ⟨go23, 0, none⟩) x15_3.length co23) x15_3) := ⟨by (with_reducible repeat (first | apply Kd.qF | apply Kd.qG | apply Kd.qI)); exact Kd.qj (Kd.R_far (p := ⟨go25, (t194 : Int).toNat, none⟩) (Kd.R_far (p := ⟨go21, (t194 : Int).toNat * 6 + 5, none⟩) (Kd.R_far (p := ⟨go21, (t194 : Int).toNat * 6 + 4, none⟩) (Kd.R_far (p := ⟨go21, (t194 : Int).toNat * 6 + 3, none⟩) (Kd.R_far (p := ⟨go21, (t194 : Int).toNat * 6 + 2, none⟩) (Kd.R_far (p := ⟨go21, (t194 : Int).toNat * 6 + 1, none⟩) (Kd.R_far (p := ⟨go21, (t194 : Int).toNat * 6, none⟩) (Kd.qj (Kd.quA HO_15.out (by first | exact GG21.out | exact (Kd.qCA HO_30.out go21 rfl).choose_spec) (by decide)) (fun k_ hk => (⟨hk, fun e_ => hk.1.2 (by rw [e_]; rfl)⟩ : _ ∧ k_ ≠ go25))) (fun _ hk => hk.1.2) (.int .i64 t197)) (fun _ hk => hk.1.2) (.int .i64 t198)) (fun _ hk => hk.1.2) (.int .i64 t199)) (fun _ hk => hk.1.2) (.int .i64 t200)) (fun _ hk => hk.1.2) (.int .i64 t201)) (fun _ hk => hk.1.2) (.int .i64 t202)) (fun _ hk => hk.2) (.int .i64 (wrap64 ((rd x18_3 (rd x8_2 x9_2)) + 1)))) (fun _ hk => ⟨hk.1.1.1, hk.1.1.2⟩)⟩
                              have n2_ : Aside0 (Kd.R (Kd.int .i64) 3 (((((((w69.setCell ⟨go21, (t194 : Int).toNat * 6, none⟩ (.int .i64 t197)).setCell ⟨go21, (t194 : Int).toNat * 6 + 1, none⟩ (.int .i64 t198)).setCell ⟨go21, (t194 : Int).toNat * 6 + 2, none⟩ (.int .i64 t199)).setCell ⟨go21, (t194 : Int).toNat * 6 + 3, none⟩ (.int .i64 t200)).setCell ⟨go21, (t194 : Int).toNat * 6 + 4, none⟩ (.int .i64 t201)).setCell ⟨go21, (t194 : Int).toNat * 6 + 5, none⟩ (.int .i64 t202)).setCell ⟨go25, (t194 : Int).toNat, none⟩ (.int .i64 (wrap64 ((rd x18_3 (rd x8_2 x9_2)) + 1)))) w.heap.size (fun k_ => some k_ ≠ (u8 : Value).ownBlock ∧ some k_ ≠ (.slice (some ⟨go23, 0, none⟩) x15_3.length co23 : Value).ownBlock) (.slice (some ⟨go25, 0, none⟩) x18_3.length co10) y205) := ⟨by (with_reducible repeat (first | apply Kd.qF | apply Kd.qG | apply Kd.qI)); exact Kd.qj HQ71.out (fun _ hk => ⟨hk.1.1, hk.1.2⟩)⟩
                              have n3_ : Aside0 (Kd.R k31 31 (((((((w69.setCell ⟨go21, (t194 : Int).toNat * 6, none⟩ (.int .i64 t197)).setCell ⟨go21, (t194 : Int).toNat * 6 + 1, none⟩ (.int .i64 t198)).setCell ⟨go21, (t194 : Int).toNat * 6 + 2, none⟩ (.int .i64 t199)).setCell ⟨go21, (t194 : Int).toNat * 6 + 3, none⟩ (.int .i64 t200)).setCell ⟨go21, (t194 : Int).toNat * 6 + 4, none⟩ (.int .i64 t201)).setCell ⟨go21, (t194 : Int).toNat * 6 + 5, none⟩ (.int .i64 t202)).setCell ⟨go25, (t194 : Int).toNat, none⟩ (.int .i64 (wrap64 ((rd x18_3 (rd x8_2 x9_2)) + 1)))) w.heap.size (fun _ => True) (.slice (some ⟨go21, 0, none⟩) x30_3.length co21) y204) := ⟨by (with_reducible repeat (first | apply Kd.qF | apply Kd.qG | apply Kd.qI)); exact Kd.qj (Kd.R_far (p := ⟨go25, (t194 : Int).toNat, none⟩) (Kd.qj HQ70.out (fun k_ hk => (⟨hk, fun e_ => hk.2 (by rw [e_]; rfl)⟩ : _ ∧ k_ ≠ go25))) (fun _ hk => hk.2) (.int .i64 (wrap64 ((rd x18_3 (rd x8_2 x9_2)) + 1)))) (fun _ hk => trivial)⟩
                              have n4_ : Aside0 (Below w.heap.size w (((((((w69.setCell ⟨go21, (t194 : Int).toNat * 6, none⟩ (.int .i64 t197)).setCell ⟨go21, (t194 : Int).toNat * 6 + 1, none⟩ (.int .i64 t198)).setCell ⟨go21, (t194 : Int).toNat * 6 + 2, none⟩ (.int .i64 t199)).setCell ⟨go21, (t194 : Int).toNat * 6 + 3, none⟩ (.int .i64 t200)).setCell ⟨go21, (t194 : Int).toNat * 6 + 4, none⟩ (.int .i64 t201)).setCell ⟨go21, (t194 : Int).toNat * 6 + 5, none⟩ (.int .i64 t202)).setCell ⟨go25, (t194 : Int).toNat, none⟩ (.int .i64 (wrap64 ((rd x18_3 (rd x8_2 x9_2)) + 1))))) := ⟨by repeat (first | (with_reducible first | exact HB.out | apply qv | apply qBA | apply qi | refine qk ?_ GB21.out | refine qk ?_ GB21.out | refine qk ?_ GB21.out | refine qk ?_ GB21.out | refine qk ?_ GB21.out | refine qk ?_ GB21.out | refine qk ?_ GB25.out) | exact HB.out)⟩
                              (try clear HO_8)
                              (try clear HO_15)
                              (try clear HO_18)
                              (try clear HO_30)
                              (try clear HB)
                              generalize (((((((w69.setCell ⟨go21, (t194 : Int).toNat * 6, none⟩ (.int .i64 t197)).setCell ⟨go21, (t194 : Int).toNat * 6 + 1, none⟩ (.int .i64 t198)).setCell ⟨go21, (t194 : Int).toNat * 6 + 2, none⟩ (.int .i64 t199)).setCell ⟨go21, (t194 : Int).toNat * 6 + 3, none⟩ (.int .i64 t200)).setCell ⟨go21, (t194 : Int).toNat * 6 + 4, none⟩ (.int .i64 t201)).setCell ⟨go21, (t194 : Int).toNat * 6 + 5, none⟩ (.int .i64 t202)).setCell ⟨go25, (t194 : Int).toNat, none⟩ (.int .i64 (wrap64 ((rd x18_3 (rd x8_2 x9_2)) + 1)))) = w72 at n0_ n1_ n2_ n3_ n4_ ⊢
                              have HO_8 := n0_
                              have HO_15 := n1_
                              have HO_18 := n2_
                              have HO_30 := n3_
                              have HB := n4_
                              clear n0_ n1_ n2_ n3_ n4_
                              have p62 : 0 ≤ (t194 : Int) := of_decide_eq_true (by first | (with_reducible assumption) | assumption)
                              have q62 : (t194 : Int) < ((x30_3.length : Int) : Int) := of_decide_eq_true (by first | (with_reducible assumption) | assumption)
                              have ht_ : (t194 : Int).toNat < x30_3.length := (Int.toNat_lt p62).2 q62
                              obtain ⟨ce_, hcl_, hM_, hcc_, hfr_⟩ := Kd.qAC HO_30.out z31 (t194 : Int) p62 q62
                              obtain rfl := qIB hM_
                              have hv_ : qb y204 t194 = (⟨t197, t198, t199, t200, t201, t202⟩ : S31) := by rw [Ny204.out]; unfold qb; rw [List.getD_eq_getElem?_getD, List.getElem?_set_self ht_]; rfl
                              have hx62_5 : World.cell? _ ⟨go21, (t194 : Int).toNat * 6 + 5, none⟩ = some (.int .i64 t202) := (hcc_ 5 _ rfl).trans (congrArg (fun z_ : S31 => some (Value.int .i64 z_.f5)) hv_)
                              clear ht_ hcl_ hM_ hcc_ hfr_ hv_
                              (try clear HS0_)
                              (try clear HS1_)
                              (try clear HS2_)
                              (try clear HS3_)
                              (try clear HS4_)
                              (try clear HS5_)
                              (try clear HS6_)
                              (try clear hHeld)
                              (try clear hx61_0)
                              (try clear hf61_0)
                              replace p62 := eq_true p62
                              replace q62 := eq_true q62
                              have p64 : 0 ≤ (t194 : Int) := of_decide_eq_true (by first | (with_reducible assumption) | assumption)
                              have q64 : (t194 : Int) < ((x15_3.length : Int) : Int) := of_decide_eq_true (by first | (with_reducible assumption) | assumption)
                              obtain ⟨hx64_0, hf64_0⟩ := Kd.qbA 0 HO_15.out (t194 : Int) p64 q64
                              replace p64 := eq_true p64
                              replace q64 := eq_true q64
                              obtain ⟨hy73_, hz73_⟩ := Kd.qbA 0 HO_15.out (t194 : Int) (of_decide_eq_true (by first | (with_reducible assumption) | assumption)) (of_decide_eq_true (by first | (with_reducible assumption) | assumption))
                              have HP73 := Kd.qrB HO_15.out (t194 : Int) t202
                              try go_wp2_with (first | ((with_reducible refine qTA (t := 3) (p := 103) rfl ?_); refine qLA (t := 3) (p := 103) (v := ?vo_w74) (w1 := (w72.setCell ⟨go23, (t194 : Int).toNat, none⟩ (.int .i64 t202))) ?hg ?ho ?hn ?hr ?_; (case ho => rfl); (case hg => rfl); (case hn => rfl); (case hr => first | (go_simp; done) | (go_simp; rfl)); intro w74 hw; have hg : w72.grownBy w74 (some go23) := (by rw [hw]; exact HP73.2); have hp_ : Kd.R (Kd.int .i64) 3 w74 w.heap.size (fun k_ => some k_ ≠ (u8 : Value).ownBlock ∧ some k_ ≠ (.slice (some ⟨go25, 0, none⟩) x18_3.length co10 : Value).ownBlock) (.slice (some ⟨go23, 0, none⟩) x15_3.length co23) y207 := (by rw [hw, Ny207.out]; exact HP73.1); clear HP73; have n0_ := Aside0.mk (Kd.qfA (v := (.slice (some ⟨go23, 0, none⟩) x15_3.length co23)) (v1 := (.slice (some ⟨go23, 0, none⟩) x15_3.length co23)) (ok := (fun k_ => some k_ ≠ (.slice (some ⟨go25, 0, none⟩) x18_3.length co10 : Value).ownBlock)) (by (with_reducible repeat (first | apply Kd.qF | apply Kd.qG | apply Kd.qI)); exact Kd.qj HO_8.out (fun _ hk => ⟨hk.2, hk.1⟩)) hg (.inl rfl)); have n1_ := Aside0.mk (hp_); have n2_ := Aside0.mk (Kd.qfA (v := (.slice (some ⟨go23, 0, none⟩) x15_3.length co23)) (v1 := (.slice (some ⟨go23, 0, none⟩) x15_3.length co23)) (ok := (fun k_ => some k_ ≠ (u8 : Value).ownBlock)) (by (with_reducible repeat (first | apply Kd.qF | apply Kd.qG | apply Kd.qI)); exact HO_18.out) hg (.inl rfl)); have n3_ := Aside0.mk (Kd.qeA (v := (.slice (some ⟨go23, 0, none⟩) x15_3.length co23)) (by (with_reducible repeat (first | apply Kd.qF | apply Kd.qG | apply Kd.qI)); exact HO_30.out) (Kd.qCA HO_15.out) (by decide) hg); have n4_ := Aside0.mk ((by rw [hw]; exact qk (HB.out) GB23.out : Below w.heap.size w w74)); clear HO_8; clear HO_15; clear HO_18; clear HO_30; clear HB; have HO_8 := n0_; have HO_15 := n1_; have HO_18 := n2_; have HO_30 := n3_; have HB := n4_; clear n0_ n1_ n2_ n3_ n4_; clear hg hw hp_) | ((with_reducible refine qJB (b := .append) (xs := #[.tmp 104, .tmp 106]) rfl ?_); at_builtin; refine Kd.qxB (Kd.int .i64) (w0 := w) w.heap.size rfl (.tmp 104) (.tmp 106) 25 3 (.int .i64 0) 8 rfl Tryd.underlying25 info3 rfl (by decide) (by omega) u8 x8_3 t194 [.int .i64 t194] (fun k_ => some k_ ≠ (.slice (some ⟨go23, 0, none⟩) x15_3.length co23 : Value).ownBlock ∧ some k_ ≠ (.slice (some ⟨go25, 0, none⟩) x18_3.length co10 : Value).ownBlock) (fun _ => False) rfl rfl ?aP (fun _ hk => hk.elim) ?aF ?aO ?aB ?aS ?aL ?_; (case aP => exact rfl); (case aB => exact bl); (case aF => exact (fun k_ hk => ⟨Kd.fresh' (Kd.R_lt (by (with_reducible repeat (first | apply Kd.qF | apply Kd.qG | apply Kd.qI)); exact HO_15.out)) k_ hk, Kd.fresh' (Kd.R_lt (by (with_reducible repeat (first | apply Kd.qF | apply Kd.qG | apply Kd.qI)); exact HO_18.out)) k_ hk⟩)); (case aO => exact (by (with_reducible repeat (first | apply Kd.qF | apply Kd.qG | apply Kd.qI)); exact Kd.qj HO_8.out (fun _ hk => ⟨hk.2, hk.1⟩))); (case aS => exact (qe bl)); (case aL => have := LMc65.out; omega); intro v209 w75 ho hb hg hat; rw [← Ny208.out] at ho; have n0_ := Aside0.mk (Kd.qfA (ok := (fun k_ => some k_ ≠ (.slice (some ⟨go25, 0, none⟩) x18_3.length co10 : Value).ownBlock)) (by (with_reducible repeat (first | apply Kd.qF | apply Kd.qG | apply Kd.qI)); exact Kd.qj HO_15.out (fun _ hk => ⟨hk.2, hk.1⟩)) hg hat); have n1_ := Aside0.mk (Kd.qfA (ok := (fun k_ => some k_ ≠ (.slice (some ⟨go23, 0, none⟩) x15_3.length co23 : Value).ownBlock)) (by (with_reducible repeat (first | apply Kd.qF | apply Kd.qG | apply Kd.qI)); exact Kd.qj HO_18.out (fun _ hk => ⟨hk.2, hk.1⟩)) hg hat); have n2_ := Aside0.mk (Kd.qeA (by (with_reducible repeat (first | apply Kd.qF | apply Kd.qG | apply Kd.qI)); exact HO_30.out) (Kd.qCA (by (with_reducible repeat (first | apply Kd.qF | apply Kd.qG | apply Kd.qI)); exact HO_8.out)) (by decide) hg); have n3_ := Aside0.mk (hb); have n4_ := Aside0.mk (ho); clear HO_15; clear HO_18; clear HO_30; clear HB; clear HO_8; have HO_15 := n0_; have HO_18 := n1_; have HO_30 := n2_; have HB := n3_; have HO210 := n4_; clear n0_ n1_ n2_ n3_ n4_; clear ho hb hg hat))
                              (try simp only [← hl15_3, ← hl18_3, ← hl30_3])
                              go_roundg k3
                              case measure => have := HK1.out; have := HK2.out; have := HK3.out; omega
                              case rel => exact ⟨(y208), (y207), (y205), (y204), (wrap64 (x49_3 + 1)), (by first | rfl | (simp; done) | (simp [*]; done)), H', ⟨by have := HK1.out; have := HK2.out; have := HK3.out; omega⟩, ⟨by (try simp only [hl18_1]); (try simp only [hl15_2]); (try simp only [hl18_2]); (try simp only [hl30_2]); (try simp only [hl15_3]); (try simp only [hl18_3]); (try simp only [hl30_3]); (with_reducible repeat (first | apply Kd.qF | apply Kd.qG | apply Kd.qI)); exact HO210.out⟩, ⟨by (try simp only [hl18_1]); (try simp only [hl15_2]); (try simp only [hl18_2]); (try simp only [hl30_2]); (try simp only [hl15_3]); (try simp only [hl18_3]); (try simp only [hl30_3]); (with_reducible repeat (first | apply Kd.qF | apply Kd.qG | apply Kd.qI)); exact Kd.qj HO_15.out (fun _ hk => ⟨hk.2, hk.1⟩)⟩, ⟨by (try simp only [hl18_1]); (try simp only [hl15_2]); (try simp only [hl18_2]); (try simp only [hl30_2]); (try simp only [hl15_3]); (try simp only [hl18_3]); (try simp only [hl30_3]); (with_reducible repeat (first | apply Kd.qF | apply Kd.qG | apply Kd.qI)); exact Kd.qj HO_18.out (fun _ hk => ⟨hk.2, hk.1⟩)⟩, ⟨by (try simp only [hl18_1]); (try simp only [hl15_2]); (try simp only [hl18_2]); (try simp only [hl30_2]); (try simp only [hl15_3]); (try simp only [hl18_3]); (try simp only [hl30_3]); (with_reducible repeat (first | apply Kd.qF | apply Kd.qG | apply Kd.qI)); exact HO_30.out⟩, ⟨bl⟩⟩
                             ·rw [if_neg c65] at H
                              exact absurd H (by simp)
                            ·rw [if_neg c63] at H
                             exact absurd H (by simp)
                           ·rw [if_neg c59] at H
                            exact absurd H (by simp)
                          ·rw [if_neg c58] at H
                           exact absurd H (by simp)
                         ·rw [if_neg c55] at H
                          exact absurd H (by simp)
                       ·rw [if_neg c51] at H
                        exact absurd H (by simp)
                      ·rw [if_neg c50] at H
                       exact absurd H (by simp)
                    ·rw [if_neg c43] at H
                     exact absurd H (by simp)
                   ·rw [if_neg c42] at H
                    exact absurd H (by simp)
                  ·rw [if_neg c41] at H
                   exact absurd H (by simp)
                 ·rw [if_neg c40] at H
                  have c40b0 : decide (x49_3 < 4) = false := decide_eq_false c40
                  clear c40
                  have H' := Aside0.mk H
                  clear H
                  go_wp2
                  (try simp only [← hl15_2, ← hl18_2, ← hl30_2, ← hl15_3, ← hl18_3, ← hl30_3])
                  go_roundg k3
                  case measure => have := HK1.out; have := HK2.out; have := HK3.out; omega
                  case rel => exact ⟨(x8_3), (wrap64 (x9_2 + 1)), (x15_3), (x18_3), (x30_3), (by first | rfl | (simp; done) | (simp [*]; done)), H', ⟨by have := HK1.out; have := HK2.out; have := HK3.out; omega⟩, ⟨by (try simp only [hl18_1]); (try simp only [hl15_2]); (try simp only [hl18_2]); (try simp only [hl30_2]); (try simp only [hl15_3]); (try simp only [hl18_3]); (try simp only [hl30_3]); (with_reducible repeat (first | apply Kd.qF | apply Kd.qG | apply Kd.qI)); exact HO_8.out⟩, ⟨by (try simp only [hl18_1]); (try simp only [hl15_2]); (try simp only [hl18_2]); (try simp only [hl30_2]); (try simp only [hl15_3]); (try simp only [hl18_3]); (try simp only [hl30_3]); (with_reducible repeat (first | apply Kd.qF | apply Kd.qG | apply Kd.qI)); exact HO_15.out⟩, ⟨by (try simp only [hl18_1]); (try simp only [hl15_2]); (try simp only [hl18_2]); (try simp only [hl30_2]); (try simp only [hl15_3]); (try simp only [hl18_3]); (try simp only [hl30_3]); (with_reducible repeat (first | apply Kd.qF | apply Kd.qG | apply Kd.qI)); exact HO_18.out⟩, ⟨by (try simp only [hl18_1]); (try simp only [hl15_2]); (try simp only [hl18_2]); (try simp only [hl30_2]); (try simp only [hl15_3]); (try simp only [hl18_3]); (try simp only [hl30_3]); (with_reducible repeat (first | apply Kd.qF | apply Kd.qG | apply Kd.qI)); exact HO_30.out⟩, ⟨bl⟩⟩
              ·rw [if_neg c38] at H
               exact absurd H (by simp)
             ·rw [if_neg c37] at H
              have c37b0 : decide (x9_2 < (x8_2.length : Int)) = false := decide_eq_false c37
              (try (have c37b0_hl18_1 := c37b0; simp only [hl18_1] at c37b0_hl18_1))
              (try (have c37b0_hl15_2 := c37b0; simp only [hl15_2] at c37b0_hl15_2))
              (try (have c37b0_hl18_2 := c37b0; simp only [hl18_2] at c37b0_hl18_2))
              (try (have c37b0_hl30_2 := c37b0; simp only [hl30_2] at c37b0_hl30_2))
              clear c37
              simp only [Option.some.injEq, Prod.mk.injEq] at H
              obtain ⟨rfl, rfl⟩ := H
              obtain ⟨Ao76, co76, eo76⟩ := Kd.qy HO_8.out
              subst eo76
              go_wp2
              go_ret2
              exact ⟨_, _, by first | rfl | (simp [qN, qM] <;> rfl) | (simp [*, qN, qM] <;> rfl), by (with_reducible repeat (first | apply Kd.qF | apply Kd.qG | apply Kd.qI)); exact Kd.qj HO_15.out (fun _ hk => hk.2), by (with_reducible repeat (first | apply Kd.qF | apply Kd.qG | apply Kd.qI)); exact Kd.qj HO_18.out (fun _ hk => hk.2), bl⟩
          ·rw [if_neg c24] at H
           exact absurd H (by simp)
         ·rw [if_neg c22] at H
          exact absurd H (by simp)
        ·rw [if_neg c20] at H
         exact absurd H (by simp)
       ·rw [if_neg c18] at H
        exact absurd H (by simp)
      ·rw [if_neg c17] at H
       exact absurd H (by simp)
  ·rw [if_neg c3] at H
   exact absurd H (by simp)
 ·rw [if_neg c2] at H
  exact absurd H (by simp)
def qO.l0 : Nat → List Int → Int → Int → Int → Option (Int)
 | 0, _, _, _, _ => none
 | k + 1, x0, x1, x7, x8 => if x8 < x7 then (if 0 ≤ x8 then (if x8 < (x0.length : Int) then (if x1 = (rd x0 x8) then (some x8) else (qO.l0 k x0 x1 x7 (wrap64 (x8 + 1)))) else (none)) else (none)) else (some (-1))
def qO.f (k : Nat) (l0 : List Int) (a1 : Int) : Option (Int) := qO.l0 k l0 a1 (l0.length : Int) 0
set_option maxHeartbeats 8000000 in
set_option maxRecDepth 100000 in
theorem qO.calls (k : Nat) (A0 : Option Addr) (c0 : Nat) (l0 : List Int) (a1 : Int) (r : Int) (w : World) (hr0 : Kd.C (Kd.int .i64) w A0 l0.length l0) (hc0 : l0.length ≤ c0) (h : qO.f k l0 a1 = some r) :
  Calls Tryd.prog 86 #[.slice A0 l0.length c0, .int .i64 a1] w fun e w' => e = .returned (.int .i64 r) ∧ Drawn0 w w' := by
 have HR0 := Aside0.mk hr0
 have HC0 := Aside0.mk hc0
 clear hr0 hc0
 have H : (qO.l0 k l0 a1 (l0.length : Int) 0) = some r := h
 clear h
 have H' := Aside0.mk H
 clear H
 go_enter Tryd.func86, Tryd.ntmps86
 go_wp2
 go_loopg [8] k (fun kq v8 w' => ∃ (x8_1 : Int), v8 = .int .i64 x8_1 ∧ Aside0 (qO.l0 kq l0 a1 (l0.length : Int) x8_1 = some r) ∧ Aside0 (kq ≤ k) ∧ Drawn0 w w')
 case atStart => exact ⟨(0), (by first | rfl | (simp; done) | (simp [*]; done)), H', ⟨Nat.le_refl _⟩, by repeat (first | exact Drawn0.refl _ | apply Drawn0.step)⟩
 case round =>
  clear H'
  try clear p2
  obtain ⟨x8_1, rfl, HA, HK1, ⟨m1, rfl⟩⟩ := hrel
  cases gk with
  | zero => exact absurd HA.out (by simp [qO.l0])
  | succ k1 =>
   have H := HA.out
   clear HA
   simp only [qO.l0] at H
   by_cases c3 : x8_1 < (l0.length : Int)
   ·rw [if_pos c3] at H
    have c3b0 : decide (x8_1 < (l0.length : Int)) = true := decide_eq_true c3
    clear c3
    by_cases c4 : 0 ≤ x8_1
    ·rw [if_pos c4] at H
     have c4b0 : decide (0 ≤ x8_1) = true := decide_eq_true c4
     clear c4
     by_cases c5 : x8_1 < (l0.length : Int)
     ·rw [if_pos c5] at H
      have c5b0 : decide (x8_1 < (l0.length : Int)) = true := decide_eq_true c5
      clear c5
      by_cases c6 : a1 = (rd l0 x8_1)
      ·rw [if_pos c6] at H
       have c6b0 : (a1 == (rd l0 x8_1)) = true := beq_iff_eq.mpr c6
       have c6b1 : (a1 != (rd l0 x8_1)) = false := bne_eq_false_iff_eq.mpr c6
       clear c6
       obtain rfl := Option.some.inj H
       have p211 : 0 ≤ (x8_1 : Int) := of_decide_eq_true (by first | (with_reducible assumption) | assumption)
       have q211 : x8_1 < (l0.length : Int) := of_decide_eq_true (by first | (with_reducible assumption) | assumption)
       obtain ⟨ad211, e211, hx211_0⟩ := Kd.qGA HR0.out x8_1 p211 q211
       cases e211
       replace p211 := eq_true p211
       replace q211 := eq_true q211
       go_wp2
       go_ret
       exact ⟨by first | rfl | (simp; done) | (simp [*]; done), by repeat (first | exact Drawn0.refl _ | apply Drawn0.step)⟩
      ·rw [if_neg c6] at H
       have c6b0 : (a1 == (rd l0 x8_1)) = false := beq_eq_false_iff_ne.mpr c6
       have c6b1 : (a1 != (rd l0 x8_1)) = true := bne_iff_ne.mpr c6
       have H' := Aside0.mk H
       clear H
       have p211 : 0 ≤ (x8_1 : Int) := of_decide_eq_true (by first | (with_reducible assumption) | assumption)
       have q211 : x8_1 < (l0.length : Int) := of_decide_eq_true (by first | (with_reducible assumption) | assumption)
       obtain ⟨ad211, e211, hx211_0⟩ := Kd.qGA HR0.out x8_1 p211 q211
       cases e211
       replace p211 := eq_true p211
       replace q211 := eq_true q211
       go_wp2
       go_roundg k1
       case measure => have := HK1.out; omega
       case rel => exact ⟨(wrap64 (x8_1 + 1)), (by first | rfl | (simp; done) | (simp [*]; done)), H', ⟨by have := HK1.out; omega⟩, by repeat (first | exact Drawn0.refl _ | apply Drawn0.step)⟩
     ·rw [if_neg c5] at H
      exact absurd H (by simp)
    ·rw [if_neg c4] at H
     exact absurd H (by simp)
   ·rw [if_neg c3] at H
    have c3b0 : decide (x8_1 < (l0.length : Int)) = false := decide_eq_false c3
    clear c3
    obtain rfl := Option.some.inj H
    go_wp2
    go_ret
    exact ⟨by first | rfl | (simp; done) | (simp [*]; done), by repeat (first | exact Drawn0.refl _ | apply Drawn0.step)⟩
def qY.f (k : Nat) (l0 : List Int) (a1 : Int) : Option (Bool) := (qO.f k l0 a1).bind fun t212 => (some (decide (t212 ≥ 0)))
set_option maxHeartbeats 8000000 in
set_option maxRecDepth 100000 in
theorem qY.calls (k : Nat) (A0 : Option Addr) (c0 : Nat) (l0 : List Int) (a1 : Int) (r : Bool) (w : World) (hr0 : Kd.C (Kd.int .i64) w A0 l0.length l0) (hc0 : l0.length ≤ c0) (h : qY.f k l0 a1 = some r) :
  Calls Tryd.prog 71 #[.slice A0 l0.length c0, .int .i64 a1] w fun e w' => e = .returned (.bool r) ∧ Drawn0 w w' := by
 have HR0 := Aside0.mk hr0
 have HC0 := Aside0.mk hc0
 clear hr0 hc0
 have H : ((qO.f k l0 a1).bind fun t212 => (some (decide (t212 ≥ 0)))) = some r := h
 clear h
 replace H := Option.bind_eq_some_iff.mp H
 obtain ⟨t212, A30, H⟩ := H
 replace H : (some (decide (t212 ≥ 0))) = some r := H
 have A3 := Aside0.mk A30
 clear A30
 obtain rfl := Option.some.inj H
 go_enter Tryd.func71, Tryd.ntmps71
 go_wp2_with (first | ((with_reducible refine qd (f := 86) rfl ?_); refine qSA (some 7) rfl rfl Tryd.func86 (by kernel_rfl) rfl #[.slice A0 l0.length c0, .int .i64 a1] rfl (by (try simp only [List.map_toArray, List.map_cons, List.map_nil]); first | done | rfl | (simp only [List.length_drop, List.length_take]; rfl)) ?_; (with_reducible refine (qO.calls k _ _ l0 a1 t212 _ ?side1 ?side2 A3.out).mono ?_); (case side1 => repeat (first | exact HR0.out | (with_reducible refine Kd.qZA ?_ _) | (with_reducible refine Kd.qXA ?_ _) | (with_reducible refine Kd.qtA ?_))); (case side2 => exact HC0.out); rintro e w' ⟨rfl, ⟨nd, rfl⟩⟩; refine ⟨_, rfl, ?_⟩))
 go_ret
 exact ⟨by first | rfl | (simp; done) | (simp [*]; done), by repeat (first | exact Drawn0.refl _ | apply Drawn0.step)⟩
def qw.f (k : Nat) (l0 : List (S61)) : Option (Bool) := (qB.f k l0).bind fun bt213 => ((qY.f k bt213.2 (-1)).bind fun t219 => (some (!t219)))
set_option maxHeartbeats 8000000 in
set_option maxRecDepth 100000 in
theorem qw.calls (k : Nat) (A0 : Option Addr) (c0 : Nat) (l0 : List (S61)) (r : Bool) (w : World) (hr0 : Kd.C k61 w A0 l0.length l0) (hc0 : l0.length ≤ c0) (h : qw.f k l0 = some r) :
  Calls Tryd.prog 49 #[.slice A0 l0.length c0] w fun e w' => e = .returned (.bool r) ∧ Below w.heap.size w w' := by
 have HR0 := Aside0.mk hr0
 have HC0 := Aside0.mk hc0
 clear hr0 hc0
 have HB := Aside0.mk (Below.refl w.heap.size w)
 have H : ((qB.f k l0).bind fun bt213 => ((qY.f k bt213.2 (-1)).bind fun t219 => (some (!t219)))) = some r := h
 clear h
 replace H := Option.bind_eq_some_iff.mp H
 obtain ⟨⟨t213, t214⟩, A20, H⟩ := H
 replace H : ((qY.f k t214 (-1)).bind fun t219 => (some (!t219))) = some r := H
 have A2 := Aside0.mk A20
 clear A20
 replace H := Option.bind_eq_some_iff.mp H
 obtain ⟨t219, A30, H⟩ := H
 replace H : (some (!t219)) = some r := H
 have A3 := Aside0.mk A30
 clear A30
 obtain rfl := Option.some.inj H
 go_enter Tryd.func49, Tryd.ntmps49
 go_wp2_with (first | ((with_reducible refine qd (f := 38) rfl ?_); refine qSA (some 7) rfl rfl Tryd.func38 (by kernel_rfl) rfl #[.slice A0 l0.length c0] rfl (by (try simp only [List.map_toArray, List.map_cons, List.map_nil]); first | done | rfl | (simp only [List.length_drop, List.length_take]; rfl)) ?_; (with_reducible refine (qB.calls k _ _ l0 t213 t214 _ ?side1 ?side2 A2.out).mono ?_); (case side1 => repeat (first | exact HR0.out | (with_reducible refine Kd.qZA ?_ _) | (with_reducible refine Kd.qXA ?_ _) | (with_reducible refine Kd.qtA ?_))); (case side2 => exact HC0.out); rintro e w4 ⟨v215, v217, rfl, ho0, ho1, hb⟩; refine ⟨_, rfl, ?_⟩; have n0_ := Aside0.mk (Kd.qHA ho0 (qe bl)); have n1_ := Aside0.mk (Kd.qHA ho1 (qe bl)); have n2_ := Aside0.mk (qL bl hb); clear HB; have HO216 := n0_; have HO218 := n1_; have HB := n2_; clear n0_ n1_ n2_; (try clear hb); (try clear hb2); (try clear hk); (try clear hi); (try clear ho0); (try clear ho1); obtain ⟨Ao5, co5, eo5⟩ := Kd.qy HO218.out; subst eo5) | ((with_reducible refine qd (f := 71) rfl ?_); refine qSA (some 11) rfl rfl Tryd.func71 (by kernel_rfl) rfl #[.slice Ao5 t214.length co5, .int .i64 (-1)] rfl (by (try simp only [List.map_toArray, List.map_cons, List.map_nil]); first | done | rfl | (simp only [List.length_drop, List.length_take]; rfl)) ?_; (with_reducible refine (qY.calls k _ _ t214 (-1) t219 _ ?side1 ?side2 A3.out).mono ?_); (case side1 => repeat (first | exact (Kd.qQ HO218.out).2.2 | (with_reducible refine Kd.qZA ?_ _) | (with_reducible refine Kd.qXA ?_ _) | (with_reducible refine Kd.qtA ?_))); (case side2 => exact (Kd.qQ HO218.out).2.1); rintro e w' ⟨rfl, ⟨nd, rfl⟩⟩; refine ⟨_, rfl, ?_⟩))
 go_ret
 exact ⟨by first | rfl | (simp [qN, qM] <;> rfl) | (simp [*, qN, qM] <;> rfl), bl⟩
end Go.Proofs.YtdncpkppkafkpaaDoor.P
namespace Go.Proofs.YtdncpkppkafkpaaDoor
open Go.RowKit Go.Proofs.YtdncpkppkafkpaaDoor.P Go.Proofs.YtdncpkppkafkpaaDoorW.PrintWords Go.Proofs.YtdncpkppkafkpaaDoorW.PrintLast
set_option linter.unusedVariables false
set_option linter.unusedSimpArgs false
abbrev CC := S61
structure Sx where
 cs : List CC
 ds : List Int
 ms : List (Int × Bool)
def isDg (c : UInt8) : Bool := decide (48 ≤ c.toNat) && decide (c.toNat ≤ 57)
def sixByte (y x : Nat) (c : UInt8) (s : Sx) : Option Sx := if c = 46 then some s else if isDg c = true then (if s.cs.length = 6 then none else some ⟨s.cs ++ [⟨(x : Int), (y : Int)⟩], s.ds ++ [((c.toNat : Int) - 48)], ((x : Int), true) :: s.ms⟩) else none
def sixRow (y : Nat) : Nat → List UInt8 → Sx → Option Sx
 | _, [], s => some s
 | x, c :: r, s => (sixByte y x c s).bind (sixRow y (x + 1) r)
def isDots (r : ByteArray) : Bool := r.data.toList.all (fun c => c == 46)
def sixRows (wd : Nat) : Nat → List ByteArray → Sx → Option Sx
 | _, [], s => some s
 | y, r :: l, s => if r.size = wd then (if isDots r = true then none else (sixRow y 0 r.data.toList s).bind (sixRows wd (y + 1) l)) else none
def sixFin (k wd : Nat) : Option Sx → Option (List CC × List Int × Bool)
 | none => some ([], [], false)
 | some s => if s.cs.length = 6 then (if MapKit.count s.ms = wd then (qw.f k s.cs).bind fun t => some (if t = true then (s.cs, s.ds, true) else ([], [], false)) else some ([], [], false)) else some ([], [], false)
def rowsOf6 (a : ByteArray) : List ByteArray := Lib.splitB ⟨#[47]⟩ 0 (Lib.countB a ⟨#[47]⟩) a
def sixAll (a : ByteArray) : Option Sx := sixRows ((rowsOf6 a).headD ByteArray.empty).size 0 (rowsOf6 a) ⟨[], [], []⟩
structure SixOk (s : Sx) : Prop where
 cs : s.cs.length ≤ 6
 ds : s.ds.length = s.cs.length
 ms : s.ms.length = s.cs.length
theorem SixOk.start : SixOk ⟨[], [], []⟩ := ⟨by simp, rfl, rfl⟩
theorem SixOk.add {s : Sx} (h : SixOk s) (hn : s.cs.length ≠ 6) (c : CC) (d : Int) (x : Int) : SixOk ⟨s.cs ++ [c], s.ds ++ [d], (x, true) :: s.ms⟩ := by
 have h1 := h.cs; have h2 := h.ds; have h3 := h.ms
 exact ⟨by simp; omega, by simp; omega, by simp; omega⟩
theorem six_trim (r u : ByteArray) (h : qIA.f r ⟨#[46]⟩ = some u) : (u = ⟨#[]⟩) ↔ isDots r = true := by
 unfold qIA.f at h
 split at h
 ·obtain rfl := Option.some.inj h
  have e : (Lib.trimS r.data.toList [46] = []) ↔ r.data.toList.all (([46] : List UInt8).contains ·) = true := trimS_nil _ _
  unfold isDots
  have e2 : (fun c : UInt8 => c == 46) = (([46] : List UInt8).contains ·) := by funext c; by_cases h : c = 46 <;> simp [h]
  rw [e2, ← e]
  constructor
  ·intro h
   have := congrArg (fun x : ByteArray => x.data.toList) h
   simpa using this
  ·intro h
   show (⟨(Lib.trimS r.data.toList [46]).toArray⟩ : ByteArray) = _
   rw [h]
 ·cases h
theorem split_size (a : ByteArray) : ∀ r ∈ rowsOf6 a, r.size ≤ a.size := by
 intro r hr
 have h := split_sp a 47
 have hl := qlB 47 a.data.toList
 have hd : a.data.toList.length = a.size := by rw [Array.length_toList]; rfl
 have hr2 : r.data.toList ∈ (sp 47 a.data.toList).1 :: (sp 47 a.data.toList).2 := by
  rw [← h]
  exact List.mem_map.2 ⟨r, hr, rfl⟩
 have hrl : r.data.toList.length = r.size := by rw [Array.length_toList]; rfl
 rcases List.mem_cons.1 hr2 with e | e
 ·rw [← e] at hl
  omega
 ·have : r.data.toList.length ≤ ((sp 47 a.data.toList).2.map List.length).sum := by
   generalize (sp 47 a.data.toList).2 = L at e
   clear hl h hr2
   induction L with
   | nil => cases e
   | cons b L ih =>
    rcases List.mem_cons.1 e with e | e
    ·rw [e]; simp
    ·have := ih e; simp; omega
  omega
theorem split_len (a : ByteArray) : (rowsOf6 a).length = Lib.countB a ⟨#[47]⟩ + 1 := by
 have := Lib.splitB_all ⟨#[47]⟩ (by decide) 0 _ a rfl
 exact this
theorem qOB {α : Type} {d : Kd α} {e base : Nat} {ok : Nat → Prop} {W w1 : World} {u : Value} {xs : List α} (h : d.R e W base ok u xs) (hg : W.grownBy w1 none) : d.R e w1 base ok u xs :=
 Kd.qj (Kd.qGC (Kd.qrA h) (fun k hk hlt => hg.block k hlt (by simp))) (fun _ hk => hk.1)
theorem dg_eq (c : UInt8) : qNA.f (c.toNat : Int) = some (isDg c) := by
 unfold qNA.f isDg
 by_cases h : 48 ≤ c.toNat
 ·rw [if_pos (by omega), decide_eq_true h, Bool.true_and]
  congr 1
  exact decide_eq_decide.2 (by omega)
 ·rw [if_neg (by omega), decide_eq_false h, Bool.false_and]
namespace P
def qhA.f (k : Nat) (a0 : ByteArray) : Option (List CC × List Int × Bool) := if a0.size < 4294967281 then sixFin k ((rowsOf6 a0).headD ByteArray.empty).size (sixAll a0) else none
end P
theorem six_getW (l : List ByteArray) (j : Nat) (h : j < l.length) : rdOf ByteArray.empty l (j : Int) = l[j] := by
 unfold rdOf
 rw [Int.toNat_natCast, List.getD_eq_getElem?_getD, List.getElem?_eq_getElem h]; rfl
theorem six_bt (s : ByteArray) (i : Nat) (h : i < s.data.toList.length) : bt s (i : Int) = ((s.data.toList[i]).toNat : Int) := by
 have h' : i < s.size := by have : s.data.toList.length = s.size := (by rw [Array.length_toList]; rfl); omega
 unfold bt
 rw [dif_pos (by simpa using h')]
 simp only [Int.toNat_natCast, Array.getElem_toList]
 rfl
def sixT14 : Bool × List (List Nat × List Nat) := (true, [([], []), ([], []), ([], []), ([], []), ([], []), ([3, 4], [3, 4]), ([5], [5]), ([2, 6], [2, 6]), ([], []), ([], []), ([], []), ([9, 10], [9, 10]), ([11], [11]), ([12], [12]), ([13], [13]), ([8, 14, 7], [8, 14]), ([7, 15, 2, 3, 4, 5, 6, 7], [2, 7]), ([15, 16, 2, 3, 4, 5, 6, 7, 8, 9, 10, 11, 12, 13, 14, 15, 16], [8, 15]), ([0, 1, 17, 0, 1, 2, 3, 4, 5, 6, 7, 8, 9, 10, 11, 12, 13, 14, 15, 16, 17], [0, 1])])
def sixB14 : List Nat := [0, 0, 0, 0, 0, 24, 56, 124, 0, 0, 0, 1536, 3584, 7680, 15872, 32764, 65532, 131068, 262143]
def sixT17 : Bool × List (List Nat × List Nat) := (true, [([], []), ([0], [0]), ([1], [1]), ([2], [2]), ([3], [3]), ([4, 3, 3], [3, 4]), ([3], [3]), ([6, 3], [3, 6]), ([7, 3], [3, 7]), ([8, 3], [3, 8]), ([5, 9, 3], [3, 5, 9]), ([3, 10], [3, 10]), ([11, 5], [11]), ([12], [12]), ([13, 12, 12], [12, 13]), ([14, 12], [12, 14]), ([12, 15], [12, 15])])
def sixB17 : List Nat := [0, 1, 3, 7, 15, 31, 15, 79, 207, 463, 1023, 2047, 4095, 8191, 16383, 32767, 65535]
theorem sixTab14 : rtab .any (opsOf Tryd.f33 14) = sixT14 := by kernel_rfl
theorem sixBits14 : waitsOk sixT14.2 sixB14 = true := by kernel_rfl
theorem sixTab17 : rtab .any (opsOf Tryd.f33 17) = sixT17 := by kernel_rfl
theorem sixBits17 : waitsOk sixT17.2 sixB17 = true := by kernel_rfl
namespace P
set_option maxHeartbeats 4000000 in
set_option maxRecDepth 100000 in
theorem qhA.calls (k : Nat) (a0 : ByteArray) (r1 : List CC) (r2 : List Int) (r3 : Bool) (w : World) (hL : Laid w) (h : qhA.f k a0 = some (r1, r2, r3)) :
    Calls Tryd.prog 33 #[.string a0] w fun e w' => ∃ v0_ v1_ : Value, e = .returned (.tuple #[v0_, v1_, .bool r3]) ∧ Kd.R k61 61 w' w.heap.size (fun _ => True) v0_ r1 ∧ Kd.R (Kd.int .i64) 3 w' w.heap.size (fun _ => True) v1_ r2 ∧ Below w.heap.size w w' := by
  unfold qhA.f at h
  by_cases hs : a0.size < 4294967281
  case neg => rw [if_neg hs] at h; cases h
  rw [if_pos hs] at h
  have hsp : strings_Split.f a0 ⟨#[47]⟩ = some (rowsOf6 a0) := if_pos ⟨hs, by decide⟩
  have hlen := split_len a0
  have hcnt := Lib.countB_le ⟨#[47]⟩ (by decide) a0.size a0 (Nat.le_refl _)
  have hrs : ∀ r ∈ rowsOf6 a0, r.size < 4294967281 := fun r hr => Nat.lt_of_le_of_lt (split_size a0 r hr) hs
  unfold sixAll at h
  generalize rowsOf6 a0 = L at h hsp hlen hrs
  have hLn : L.length ≤ 4294967281 := by omega
  have hL0 : 0 < L.length := by omega
  clear hlen hcnt hs
  obtain ⟨r0, hr0⟩ : ∃ r0, L[0] = r0 := ⟨_, rfl⟩
  have hhd : L.headD ByteArray.empty = r0 := by rw [← hr0]; cases L with | nil => simp at hL0 | cons a l => rfl
  rw [hhd] at h
  obtain ⟨T, hT⟩ : ∃ T, sixRows r0.size 0 L ⟨[], [], []⟩ = T := ⟨_, rfl⟩
  rw [hT] at h
  have HT := Aside0.mk hT
  have HF := Aside0.mk h
  have HSP := Aside0.mk hsp
  have HRS := Aside0.mk hrs
  have HL0 := Aside0.mk hL0
  have HLN := Aside0.mk hLn
  have HLD := Aside0.mk hL
  have HLP := Aside0.mk (show (0 : Int) < (L.length : Int) by omega)
  have HR0 := Aside0.mk (show rdOf ByteArray.empty L 0 = r0 from (six_getW L 0 hL0).trans hr0)
  clear hT h hsp hrs hLn hL hhd hr0 hL0
  have hu := Tryd.underlying61
  go_enter Tryd.func33, Tryd.ntmps33
  have B0 := Aside0.mk (Below.refl w.heap.size w)
  have hmm := @run_makeMap Tryd.prog
  go_wp2_with (first
    | ((with_reducible refine qW (N := 12) rfl ?_); refine Kd.R_lit k61 w.heap.size 61 ?hg (N := 12) ?hd (xs := ([] : List CC)) (inner := []) (ok := fun _ => True) (okp := fun _ => True) ?hr ?hp (fun _ hk => hk) trivial B0.out B0.out.size (by simp) ?_; (case hd => rfl); (case hg => rfl); (case hr => first | (go_simp; done) | (go_simp; rfl)); (case hp => exact (Reps.none _ _)); intro vc wA ho hb hg_ hnew_; have C1 := Aside0.mk ho; have B1 := Aside0.mk hb; clear ho hb hg_ hnew_ B0)
    | ((with_reducible refine qW (N := 13) rfl ?_); refine Kd.R_lit (Kd.int .i64) w.heap.size 3 ?hg (N := 13) ?hd (xs := ([] : List Int)) (inner := []) (ok := fun _ => True) (okp := fun _ => True) ?hr ?hp (fun _ hk => hk) trivial B1.out B1.out.size (by simp) ?_; (case hd => rfl); (case hg => rfl); (case hr => first | (go_simp; done) | (go_simp; rfl)); (case hp => exact (Reps.none _ _)); intro vd wB ho hb hg_ hnew_; have C2 := Aside0.mk (qOB C1.out hg_); have D2 := Aside0.mk ho; have B2 := Aside0.mk hb; clear ho hb hg_ hnew_ B1 C1)
    | ((with_reducible refine qd (f := 46) rfl ?_); refine qSA (some 15) rfl rfl Tryd.func46 (by kernel_rfl) rfl #[.string a0, .string ⟨#[47]⟩] rfl (by (try simp only [List.map_toArray, List.map_cons, List.map_nil]); first | done | rfl | simp) ?_; refine (strings_Split.calls a0 ⟨#[47]⟩ L _ (Laid.below HLD.out B2.out) HSP.out).mono ?_; rintro e wC ⟨vw, rfl, hw, hb⟩; refine ⟨_, rfl, ?_⟩; have C3 := Aside0.mk (Kd.qa C2.out hb); have D3 := Aside0.mk (Kd.qa D2.out hb); have L3 := Aside0.mk (Kd.qHA hw B2.out.size); have B3 := Aside0.mk (qUA B2.out B2.out.size hb); obtain ⟨ad, cw, ew⟩ := Kd.R_slice1 L3.out HL0.out; subst ew; clear hw hb C2 D2 B2))
  have M4 := Aside0.mk (show mapI.Is (wC.alloc (.map #[] 0)) wC.heap.size [] from MapKit.Is.made wC)
  have HG := Aside0.mk (show w.heap.size ≤ wC.heap.size from B3.out.size)
  have C4 := Aside0.mk (Kd.qF C3.out (.map #[] 0))
  have D4 := Aside0.mk (Kd.qF D3.out (.map #[] 0))
  have L4 := Aside0.mk (Kd.qF L3.out (.map #[] 0))
  have B4 := Aside0.mk (qv B3.out (.map #[] 0))
  clear C3 D3 L3 B3 hmm
  generalize hgg : wC.heap.size = g at M4 HG ⊢
  clear hgg
  generalize wC.alloc (.map #[] 0) = wD at M4 C4 D4 L4 B4 ⊢
  go_loopg [5, 6, 19] L.length (fun gg v5 v6 v19 wq => ∃ (vc vd : Value) (s : Sx) (y : Nat), vc = v5 ∧ vd = v6 ∧ v19 = .int .i64 y ∧ L.length - y ≤ gg ∧ y ≤ L.length ∧ Aside0 (sixRows r0.size y (L.drop y) s = T) ∧ Aside0 (SixOk s) ∧ Aside0 (Kd.R k61 61 wq w.heap.size (fun _ => True) vc s.cs) ∧ Aside0 (Kd.R (Kd.int .i64) 3 wq w.heap.size (fun _ => True) vd s.ds) ∧ Aside0 (Kd.R Kd.string 9 wq w.heap.size (fun _ => True) (.slice (some ad) L.length cw) L) ∧ Aside0 (mapI.Is wq g s.ms) ∧ Aside0 (Below w.heap.size w wq))
  case atStart => exact ⟨_, _, ⟨[], [], []⟩, 0, rfl, rfl, rfl, by omega, by omega, HT, ⟨SixOk.start⟩, C4, D4, L4, M4, B4⟩
  case round =>
    clear C4 D4 L4 M4 B4 HT
    obtain ⟨vc, vd, s, y, rfl, rfl, rfl, hgk, hy, HT, HK, C0, D0, LR, M0, B⟩ := hrel
    rename World => wr
    by_cases hlt : y < L.length
    · have hltz : (y : Int) < (L.length : Int) := by omega
      obtain ⟨_, _, hC⟩ := Kd.qQ LR.out
      obtain ⟨ady, ey, hcell⟩ := Kd.qZB hC (y : Int) (by omega) (by omega)
      obtain rfl : ad = ady := by injection ey
      obtain ⟨ad0, e0, hcell0⟩ := Kd.qZB hC (0 : Int) (by omega) (by omega)
      obtain rfl : ad = ad0 := by injection e0
      rw [HR0.out] at hcell0
      obtain ⟨row, hrow⟩ : ∃ row, L[y] = row := ⟨_, rfl⟩
      rw [six_getW L y hlt, hrow, Int.toNat_natCast] at hcell
      have hmem : row ∈ L := hrow ▸ List.getElem_mem hlt
      have hT := HT.out
      rw [List.drop_eq_getElem_cons hlt, hrow, sixRows] at hT
      have hrz := HRS.out row hmem
      have HRZ := Aside0.mk hrz
      have htr : qIA.f row ⟨#[46]⟩ = some ⟨(Lib.trimS row.data.toList [46]).toArray⟩ := if_pos ⟨by omega, by decide, by decide⟩
      have hdot := six_trim row _ htr
      generalize (⟨(Lib.trimS row.data.toList [46]).toArray⟩ : ByteArray) = u at htr hdot
      have HTR := Aside0.mk htr
      have HDT := Aside0.mk hdot
      clear hC hrow htr hdot HT hmem ey e0
      have hcell1 : wr.cell? ad = some (.string r0) := hcell0
      by_cases hz : row.size = r0.size
      · have hzi : (row.size : Int) = (r0.size : Int) := by omega
        rw [if_pos hz] at hT
        have HT1 := Aside0.mk hT
        clear hT
        by_cases hu0 : u = ⟨#[]⟩
        · subst hu0
          have HTN := Aside0.mk (show none = T by have := HT1.out; rwa [if_pos (HDT.out.1 rfl)] at this)
          have HFN := HF.out
          rw [← HTN.out] at HFN
          simp only [sixFin, Option.some.injEq, Prod.mk.injEq] at HFN
          obtain ⟨rfl, rfl, rfl⟩ := HFN
          go_wp2_with (first
            | (go_at_call 47; refine (qIA.calls row ⟨#[46]⟩ ⟨#[]⟩ _ HTR.out).mono ?_; rintro e w2 ⟨rfl, hb⟩; have B1 := Aside0.mk (qUA B.out B.out.size hb); clear hb))
          go_ret3
          exact ⟨_, _, rfl, Kd.R_nil k61 61 _ _ _, Kd.R_nil (Kd.int .i64) 3 _ _ _, B1.out⟩
        · have HTS := Aside0.mk (show (sixRow y 0 row.data.toList s).bind (sixRows r0.size (y + 1) (L.drop (y + 1))) = T by have := HT1.out; rwa [if_neg (fun h => hu0 (HDT.out.2 h))] at this)
          clear HT1 HDT
          have hue : u.toList.isEmpty = false := by
            rw [Bool.eq_false_iff]
            intro h
            apply hu0
            rw [Lib.toList_data, List.isEmpty_iff] at h
            obtain ⟨⟨l⟩⟩ := u
            obtain rfl : l = [] := h
            rfl
          go_wp2_with (first
            | (go_at_call 47; refine (qIA.calls row ⟨#[46]⟩ u _ HTR.out).mono ?_; rintro e w2 ⟨rfl, hb⟩; have B1 := Aside0.mk (qUA B.out B.out.size hb); have C1 := Aside0.mk (Kd.qa C0.out hb); have D1 := Aside0.mk (Kd.qa D0.out hb); have L1 := Aside0.mk (Kd.qa LR.out hb); have M1 := Aside0.mk (M0.out.below hb); clear hb B C0 D0 LR M0 hcell hcell0 hcell1))
          go_loopg [5, 6, 38] row.size (fun gg v5 v6 v38 wq => ∃ (vc vd : Value) (s : Sx) (x : Nat), vc = v5 ∧ vd = v6 ∧ v38 = .int .i64 x ∧ row.size - x ≤ gg ∧ x ≤ row.size ∧ Aside0 ((sixRow y x (row.data.toList.drop x) s).bind (sixRows r0.size (y + 1) (L.drop (y + 1))) = T) ∧ Aside0 (SixOk s) ∧ Aside0 (Kd.R k61 61 wq w.heap.size (fun _ => True) vc s.cs) ∧ Aside0 (Kd.R (Kd.int .i64) 3 wq w.heap.size (fun _ => True) vd s.ds) ∧ Aside0 (Kd.R Kd.string 9 wq w.heap.size (fun _ => True) (.slice (some ad) L.length cw) L) ∧ Aside0 (mapI.Is wq g s.ms) ∧ Aside0 (Below w.heap.size w wq))
          case atStart => exact ⟨_, _, s, 0, rfl, rfl, rfl, by omega, by omega, HTS, HK, C1, D1, L1, M1, B1⟩
          case round =>
            clear C1 D1 L1 M1 B1 HTS HK
            obtain ⟨vc, vd, s, x, rfl, rfl, rfl, hgx, hx, HT, HK, C0, D0, LR, M0, B⟩ := hrel
            rename World => wq
            have hdl : row.data.toList.length = row.size := by rw [Array.length_toList]; rfl
            by_cases hxl : x < row.size
            · have hxz : (x : Int) < (row.size : Int) := by omega
              have hx0 : (0 : Int) ≤ (x : Int) := by omega
              have hxt : x < row.data.toList.length := by omega
              obtain ⟨c, hc⟩ : ∃ c, row.data.toList[x] = c := ⟨_, rfl⟩
              have hT := HT.out
              rw [List.drop_eq_getElem_cons hxt, hc, sixRow, sixByte] at hT
              have hbt := six_bt row x hxt
              rw [hc] at hbt
              have hix : ∀ h : x < row.size, ((row[x]'h).toNat : Int) = (c.toNat : Int) := fun h => by have := bt_at row (x : Int) (by simpa using h); rw [hbt] at this; simpa using this
              have hc256 : c.toNat < 256 := c.toNat_lt
              have HBT := Aside0.mk hbt
              clear HT hbt hc hdl hxt
              have p0 := eq_true hx0
              have q0 := eq_true hxz
              obtain ⟨n, hn⟩ : ∃ n : Int, (c.toNat : Int) = n := ⟨_, rfl⟩
              simp only [hn] at hix
              by_cases h46 : c = 46
              · have hn46 : n = 46 := by rw [← hn, h46]; rfl
                rw [if_pos h46] at hT
                have HT := Aside0.mk hT
                clear hT
                subst hn46
                clear hn
                go_wp2
                go_roundg (row.size - (x + 1))
                case measure => omega
                case rel => exact ⟨_, _, s, x + 1, rfl, rfl, by push_cast; rfl, by omega, by omega, HT, HK, C0, D0, LR, M0, B⟩
              · have hn46 : ¬ n = 46 := fun e => h46 (by rw [← hn] at e; have : c.toNat = 46 := by omega
                                                         have := congrArg UInt8.ofNat this; simpa using this)
                rw [if_neg h46] at hT
                have HT := Aside0.mk hT
                clear hT
                have hdg := dg_eq c
                rw [hn] at hdg
                obtain ⟨dg, hdgv⟩ : ∃ dg, isDg c = dg := ⟨_, rfl⟩
                rw [hdgv] at hdg
                have HDG := Aside0.mk hdg
                have HDV := Aside0.mk hdgv
                have HN := Aside0.mk hn
                clear hdg hdgv hn
                cases dg with
                | false =>
                  have HTN := Aside0.mk (show none = T by have := HT.out; rwa [HDV.out, if_neg (by decide), Option.bind_none, Option.bind_none] at this)
                  have HFN := HF.out
                  rw [← HTN.out] at HFN
                  simp only [sixFin, Option.some.injEq, Prod.mk.injEq] at HFN
                  obtain ⟨rfl, rfl, rfl⟩ := HFN
                  go_wp2_with (first
                    | ((with_reducible refine qd (f := 48) rfl ?_); refine qSA (some 48) rfl rfl Tryd.func48 (by kernel_rfl) rfl #[.int .u8 n] rfl (by (try simp only [List.map_toArray, List.map_cons, List.map_nil]); first | done | rfl | simp) ?_; refine (qNA.calls n false _ HDG.out).mono ?_; rintro e w2 ⟨rfl, hb0⟩; refine ⟨_, rfl, ?_⟩; have hb := hb0.below; clear hb0; have B1 := Aside0.mk (qUA B.out B.out.size hb); clear hb))
                  go_ret3
                  exact ⟨_, _, rfl, Kd.R_nil k61 61 _ _ _, Kd.R_nil (Kd.int .i64) 3 _ _ _, B1.out⟩
                | true =>
                  have HT1 := Aside0.mk (show ((if s.cs.length = 6 then (none : Option Sx) else some ⟨s.cs ++ [⟨(x : Int), (y : Int)⟩], s.ds ++ [((c.toNat : Int) - 48)], ((x : Int), true) :: s.ms⟩).bind (sixRow y (x + 1) (row.data.toList.drop (x + 1)))).bind (sixRows r0.size (y + 1) (L.drop (y + 1))) = T by have := HT.out; rwa [HDV.out, if_pos rfl] at this)
                  clear HT
                  obtain ⟨Ac, cc, eac⟩ := Kd.qy C0.out
                  subst eac
                  by_cases h6 : s.cs.length = 6
                  · have h6i : (s.cs.length : Int) = 6 := by omega
                    have HTN := Aside0.mk (show none = T by have := HT1.out; rwa [if_pos h6, Option.bind_none, Option.bind_none] at this)
                    have HFN := HF.out
                    rw [← HTN.out] at HFN
                    simp only [sixFin, Option.some.injEq, Prod.mk.injEq] at HFN
                    obtain ⟨rfl, rfl, rfl⟩ := HFN
                    clear HT1
                    go_wp2_with (first
                      | ((with_reducible refine qd (f := 48) rfl ?_); refine qSA (some 48) rfl rfl Tryd.func48 (by kernel_rfl) rfl #[.int .u8 n] rfl (by (try simp only [List.map_toArray, List.map_cons, List.map_nil]); first | done | rfl | simp) ?_; refine (qNA.calls n true _ HDG.out).mono ?_; rintro e w2 ⟨rfl, hb0⟩; refine ⟨_, rfl, ?_⟩; have hb := hb0.below; clear hb0; have B1 := Aside0.mk (qUA B.out B.out.size hb); clear hb))
                    go_ret3
                    exact ⟨_, _, rfl, Kd.R_nil k61 61 _ _ _, Kd.R_nil (Kd.int .i64) 3 _ _ _, B1.out⟩
                  · have h6i : ¬ (s.cs.length : Int) = 6 := by omega
                    have HT2 := Aside0.mk (show (sixRow y (x + 1) (row.data.toList.drop (x + 1)) ⟨s.cs ++ [⟨(x : Int), (y : Int)⟩], s.ds ++ [((c.toNat : Int) - 48)], ((x : Int), true) :: s.ms⟩).bind (sixRows r0.size (y + 1) (L.drop (y + 1))) = T by have := HT1.out; rwa [if_neg h6] at this)
                    clear HT1
                    go_wp2_with (first
                      | ((with_reducible refine qd (f := 48) rfl ?_); refine qSA (some 48) rfl rfl Tryd.func48 (by kernel_rfl) rfl #[.int .u8 n] rfl (by (try simp only [List.map_toArray, List.map_cons, List.map_nil]); first | done | rfl | simp) ?_; refine (qNA.calls n true _ HDG.out).mono ?_; rintro e w2 ⟨rfl, hb0⟩; refine ⟨_, rfl, ?_⟩; have hb := hb0.below; clear hb0; have n0_ := Aside0.mk (qUA B.out B.out.size hb); have n1_ := Aside0.mk (Kd.qa C0.out hb); have n2_ := Aside0.mk (Kd.qa D0.out hb); have n3_ := Aside0.mk (Kd.qa LR.out hb); have n4_ := Aside0.mk (M0.out.below hb); clear hb B C0 D0 LR M0; have B := n0_; have C0 := n1_; have D0 := n2_; have LR := n3_; have M0 := n4_; clear n0_ n1_ n2_ n3_ n4_))
                    generalize hvc : (Value.slice Ac s.cs.length cc) = vc at C0 ⊢
                    clear hvc
                    have hrange : 48 ≤ n ∧ n ≤ 57 := by
                      have h1 := HDV.out
                      have h2 := HN.out
                      unfold isDg at h1
                      simp only [Bool.and_eq_true, decide_eq_true_eq] at h1
                      omega
                    have hw8 : IntKind.u8.wrap (n - 48) = n - 48 := by show (n - 48) % 256 = n - 48; omega
                    have hw64 : IntKind.i64.wrap (n - 48) = n - 48 := by rw [IntKind.wrap_i64]; omega
                    have HOK := Aside0.mk (show s.cs.length < 6 by have := HK.out.cs; omega)
                    have HOK2 := Aside0.mk (show s.ds.length < 6 by have := HK.out.cs; have := HK.out.ds; omega)
                    have HML := Aside0.mk (show s.ms.length < maxLen by have := HK.out.cs; have := HK.out.ms; unfold maxLen; omega)
                    have HXW := Aside0.mk (show (Lit.int .i64 (x : Int)).wf = true by have := HRZ.out; unfold Lit.wf; simp only [Bool.and_eq_true, decide_eq_true_eq]; exact ⟨by show (-9223372036854775808 : Int) ≤ _; omega, by show _ ≤ (9223372036854775807 : Int); omega⟩)
                    clear hrange h6i
                    refine qvA (n := 19) (S := fun w' => True) (ds := []) #[false, false, false, false, false, false, false, false, false, false, false, false, false, false, false, false, false, false, false] (by kernel_rfl) rfl rfl trivial (fun hHeld => ?_); refine qFA sixTab14 sixBits14 (fun HT_ HW_ => ?_)
                    refine pure_ (i := 0) (N := some 55) (v := ?_) (a' := ?_) #[true, false, false, false, false, false, false, false, false, false, false, false, false, false, false, false, false, false, false] rfl rfl (qr HT_.out (by kernel_rfl)) (fun _ _ _ h => h) (Or.inl ⟨by rfl, ?_⟩) ?_ ?_
                    rotate_left
                    · intro w'
                      go_simp
                      with_reducible rfl
                    rotate_left
                    · simp only [Act.put, List.setIfInBounds_toArray, List.set_cons_zero, List.set_cons_succ, i64_w, i32_w]
                      rfl
                    refine pure_ (i := 1) (N := some 56) (v := ?_) (a' := ?_) #[true, true, false, false, false, false, false, false, false, false, false, false, false, false, false, false, false, false, false] rfl rfl (qr HT_.out (by kernel_rfl)) (fun _ _ _ h => h) (Or.inl ⟨by rfl, ?_⟩) ?_ ?_
                    rotate_left
                    · intro w'
                      go_simp
                      with_reducible rfl
                    rotate_left
                    · simp only [Act.put, List.setIfInBounds_toArray, List.set_cons_zero, List.set_cons_succ, i64_w, i32_w]
                      rfl
                    refine pure_ (i := 2) (N := some 57) (v := ?_) (a' := ?_) #[true, true, true, false, false, false, false, false, false, false, false, false, false, false, false, false, false, false, false] rfl rfl (qr HT_.out (by kernel_rfl)) (fun _ _ _ h => h) (Or.inl ⟨by rfl, ?_⟩) ?_ ?_
                    rotate_left
                    · intro w'
                      go_simp
                      with_reducible rfl
                    rotate_left
                    · simp only [Act.put, List.setIfInBounds_toArray, List.set_cons_zero, List.set_cons_succ, i64_w, i32_w]
                      rfl
                    refine pure_ (i := 3) (N := some 58) (v := ?_) (a' := ?_) #[true, true, true, true, false, false, false, false, false, false, false, false, false, false, false, false, false, false, false] rfl rfl (qr HT_.out (by kernel_rfl)) (fun _ _ _ h => h) (Or.inl ⟨by rfl, ?_⟩) ?_ ?_
                    rotate_left
                    · intro w'
                      go_simp
                      with_reducible rfl
                    rotate_left
                    · simp only [Act.put, List.setIfInBounds_toArray, List.set_cons_zero, List.set_cons_succ, i64_w, i32_w]
                      rfl
                    refine pure_ (i := 4) (N := some 59) (v := ?_) (a' := ?_) #[true, true, true, true, true, false, false, false, false, false, false, false, false, false, false, false, false, false, false] rfl rfl (qr HT_.out (by kernel_rfl)) (fun _ _ _ h => h) (Or.inl ⟨by rfl, ?_⟩) ?_ ?_
                    rotate_left
                    · intro w'
                      go_simp
                      with_reducible rfl
                    rotate_left
                    · simp only [Act.put, List.setIfInBounds_toArray, List.set_cons_zero, List.set_cons_succ, i64_w, i32_w]
                      rfl
                    refine pure_ (i := 5) (N := some 60) (v := ?_) (a' := ?_) #[true, true, true, true, true, true, false, false, false, false, false, false, false, false, false, false, false, false, false] rfl rfl (qr HT_.out (by kernel_rfl)) (fun _ _ _ h => h) (Or.inl ⟨by rfl, ?_⟩) ?_ ?_
                    rotate_left
                    · intro w'
                      go_simp
                      with_reducible rfl
                    rotate_left
                    · simp only [Act.put, List.setIfInBounds_toArray, List.set_cons_zero, List.set_cons_succ, i64_w, i32_w]
                      rfl
                    refine pure_ (i := 8) (N := some 63) (v := ?_) (a' := ?_) #[true, true, true, true, true, true, false, false, true, false, false, false, false, false, false, false, false, false, false] rfl rfl (qr HT_.out (by kernel_rfl)) (fun _ _ _ h => h) (Or.inl ⟨by rfl, ?_⟩) ?_ ?_
                    rotate_left
                    · intro w'
                      go_simp
                      with_reducible rfl
                    rotate_left
                    · simp only [Act.put, List.setIfInBounds_toArray, List.set_cons_zero, List.set_cons_succ, i64_w, i32_w]
                      rfl
                    refine pure_ (i := 9) (N := some 64) (v := ?_) (a' := ?_) #[true, true, true, true, true, true, false, false, true, true, false, false, false, false, false, false, false, false, false] rfl rfl (qr HT_.out (by kernel_rfl)) (fun _ _ _ h => h) (Or.inl ⟨by rfl, ?_⟩) ?_ ?_
                    rotate_left
                    · intro w'
                      go_simp
                      with_reducible rfl
                    rotate_left
                    · simp only [Act.put, List.setIfInBounds_toArray, List.set_cons_zero, List.set_cons_succ, i64_w, i32_w]
                      rfl
                    refine pure_ (i := 10) (N := some 65) (v := ?_) (a' := ?_) #[true, true, true, true, true, true, false, false, true, true, true, false, false, false, false, false, false, false, false] rfl rfl (qr HT_.out (by kernel_rfl)) (fun _ _ _ h => h) (Or.inl ⟨by rfl, ?_⟩) ?_ ?_
                    rotate_left
                    · intro w'
                      go_simp
                      with_reducible rfl
                    rotate_left
                    · simp only [Act.put, List.setIfInBounds_toArray, List.set_cons_zero, List.set_cons_succ, i64_w, i32_w]
                      rfl
                    refine pure_ (i := 11) (N := some 66) (v := ?_) (a' := ?_) #[true, true, true, true, true, true, false, false, true, true, true, true, false, false, false, false, false, false, false] rfl rfl (qr HT_.out (by kernel_rfl)) (fun _ _ _ h => h) (Or.inl ⟨by rfl, ?_⟩) ?_ ?_
                    rotate_left
                    · intro w'
                      go_simp
                      with_reducible rfl
                    rotate_left
                    · simp only [Act.put, List.setIfInBounds_toArray, List.set_cons_zero, List.set_cons_succ, i64_w, i32_w]
                      rfl
                    refine pure_ (i := 12) (N := some 67) (v := ?_) (a' := ?_) #[true, true, true, true, true, true, false, false, true, true, true, true, true, false, false, false, false, false, false] rfl rfl (qr HT_.out (by kernel_rfl)) (fun _ _ _ h => h) (Or.inl ⟨by rfl, ?_⟩) ?_ ?_
                    rotate_left
                    · intro w'
                      go_simp
                      with_reducible rfl
                    rotate_left
                    · simp only [Act.put, List.setIfInBounds_toArray, List.set_cons_zero, List.set_cons_succ, i64_w, i32_w]
                      rfl
                    refine pure_ (i := 13) (N := some 68) (v := ?_) (a' := ?_) #[true, true, true, true, true, true, false, false, true, true, true, true, true, true, false, false, false, false, false] rfl rfl (qr HT_.out (by kernel_rfl)) (fun _ _ _ h => h) (Or.inl ⟨by rfl, ?_⟩) ?_ ?_
                    rotate_left
                    · intro w'
                      go_simp
                      with_reducible rfl
                    rotate_left
                    · simp only [Act.put, List.setIfInBounds_toArray, List.set_cons_zero, List.set_cons_succ, i64_w, i32_w]
                      rfl
                    refine qFC [6, 7, 14, 15, 16, 17, 18] (fun a0_ b a w' => ∃ (s61 : Value) (s62 : Value) (s69 : Value) (s70 : Value) (m16_ : Value) (m17_ : Value), a = putSel a0_ b [(6, 61, s61), (7, 62, s62), (14, 69, s69), (15, 70, s70), (16, 5, m16_), (17, 6, m17_)] ∧ (Below w.heap.size w w') ∧ (Kd.R Kd.string 9 w' w.heap.size (fun _ => True) (.slice (some ad) L.length cw) L) ∧ (b 7 = false → Kd.R k61 61 w' w.heap.size (fun _ => True) vc s.cs) ∧ (b 6 = true → b 7 = false → Kd.R k61 61 w' w.heap.size (fun k_ => some k_ ≠ (vc : Value).ownBlock) s61 [(⟨(x : Int), (y : Int)⟩ : CC)]) ∧ (b 7 = true → Kd.R k61 61 w' w.heap.size (fun _ => True) s62 (s.cs ++ [(⟨(x : Int), (y : Int)⟩ : CC)])) ∧ (b 15 = false → Kd.R (Kd.int .i64) 3 w' w.heap.size (fun _ => True) vd s.ds) ∧ (b 14 = true → b 15 = false → Kd.R (Kd.int .i64) 3 w' w.heap.size (fun k_ => some k_ ≠ (vd : Value).ownBlock) s69 [(n - 48)]) ∧ (b 15 = true → Kd.R (Kd.int .i64) 3 w' w.heap.size (fun _ => True) s70 (s.ds ++ [(n - 48)])) ∧ (b 18 = false → mapI.Is w' g s.ms) ∧ (b 18 = true → mapI.Is w' g (((x : Int), true) :: s.ms)) ∧ (b 16 = true → (m16_ : Value) = s62) ∧ (b 17 = true → (m17_ : Value) = s70)) HT_.out HW_.out (by kernel_rfl) (by kernel_rfl) ?_ ?_ ?_
                    · exact ⟨.bool false, .bool false, .bool false, .bool false, .bool false, .bool false, by simp only [putSel, Bool.false_eq_true, if_false], qi B.out, Kd.qI LR.out, fun _ => Kd.qI C0.out, fun h_ => absurd h_ (by decide), fun h_ => absurd h_ (by decide), fun _ => Kd.qI D0.out, fun h_ => absurd h_ (by decide), fun h_ => absurd h_ (by decide), fun _ => M0.out.drew, fun h_ => absurd h_ (by decide), fun h_ => absurd h_ (by decide), fun h_ => absurd h_ (by decide)⟩
                    · skip
                      clear B C0 D0 LR M0
                      refine qV ?_ ?_
                      · rintro b a w' ⟨s61, s62, s69, s70, m16_, m17_, ha, Q_B, Q_LR, Q_C0, Q_LC, Q_C1, Q_D0, Q_LD, Q_D1, Q_M0, Q_M1, Q_X16_, Q_X17_⟩ hb_ hon hoff
                        refine ⟨_, rfl, fun K hK => ?_⟩
                        have e60 : a.tmps[60]? = some (.agg #[.int .i64 (x : Int), .int .i64 (y : Int)]) := by rw [ha]; exact (qZ rfl).trans rfl
                        replace ha := Aside0.mk ha
                        have B := Aside0.mk Q_B
                        have LR := Aside0.mk Q_LR
                        have C0 := Aside0.mk (Q_C0 (hoff 7 (by kernel_rfl)))
                        have D0 := Aside0.mk (Q_D0 (hoff 15 (by kernel_rfl)))
                        have M0 := Aside0.mk (Q_M0 (hoff 18 (by kernel_rfl)))
                        refine Kd.qhB k61 (w0 := w) w.heap.size 61 (by rfl) (N := 61) rfl (xs := ([(⟨(x : Int), (y : Int)⟩ : CC)] : List _)) (inner := [.int .i64 (x : Int), .int .i64 (y : Int)]) (ok := fun k_ => some k_ ≠ (vc : Value).ownBlock) (okp := fun _ => False) ?hr61 ?hp61 (fun _ hk => hk.elim) (Kd.fresh' (Kd.R_lt C0.out) _ (Nat.le_refl _)) B.out B.out.size (by simp) ?_
                        case hr61 => first | (go_simp; done) | (go_simp; rfl)
                        case hp61 => exact Reps.c2 (show Kd.M k61 _ _ _ (⟨(x : Int), (y : Int)⟩ : CC) [.int .i64 (x : Int), .int .i64 (y : Int)] from k61_mkM _ _ _ _) (Reps.none _ _)
                        intro v_ w1_ hR_ hB_ hg_ _
                        refine hK.out _ _ ⟨v_, s62, s69, s70, m16_, m17_, (by rw [ha.out]; exact qX 0 hb_ rfl rfl rfl), hB_, qOB LR.out hg_, fun _ => qOB C0.out hg_, fun _ _ => hR_, fun h0_ => absurd ((hoff 7 (by kernel_rfl)).symm.trans h0_) (by decide), fun _ => qOB D0.out hg_, fun h0_ h1_ => qOB (Q_LD h0_ h1_) hg_, fun h0_ => absurd ((hoff 15 (by kernel_rfl)).symm.trans h0_) (by decide), fun _ => M0.out.qDB (hg_.block g M0.out.lt (by simp)), fun h0_ => absurd ((hoff 18 (by kernel_rfl)).symm.trans h0_) (by decide), fun h0_ => absurd ((hoff 16 (by kernel_rfl)).symm.trans h0_) (by decide), fun h0_ => absurd ((hoff 17 (by kernel_rfl)).symm.trans h0_) (by decide)⟩
                      refine qV ?_ ?_
                      · rintro b a w' ⟨s61, s62, s69, s70, m16_, m17_, ha, Q_B, Q_LR, Q_C0, Q_LC, Q_C1, Q_D0, Q_LD, Q_D1, Q_M0, Q_M1, Q_X16_, Q_X17_⟩ hb_ hon hoff
                        refine ⟨_, rfl, fun K hK => ?_⟩
                        have e57 : a.tmps[57]? = some (vc) := by rw [ha]; exact (qZ rfl).trans rfl
                        have e61 : a.tmps[61]? = some (s61) := by rw [ha]; exact qc (e := (6, 61, s61)) 0 rfl rfl (hon 6 (by kernel_rfl)) rfl
                        replace ha := Aside0.mk ha
                        have B := Aside0.mk Q_B
                        have LR := Aside0.mk Q_LR
                        have C0 := Aside0.mk (Q_C0 hb_)
                        have LC := Aside0.mk (Q_LC (hon 6 (by kernel_rfl)) hb_)
                        have D0 := Aside0.mk (Q_D0 (hoff 15 (by kernel_rfl)))
                        have M0 := Aside0.mk (Q_M0 (hoff 18 (by kernel_rfl)))
                        obtain ⟨A_, c_, hs_⟩ := Kd.qy LC.out
                        have LX_ := LC.out
                        rw [hs_] at LX_
                        have HRd_ := (Kd.qQ LX_).2.2
                        have hbd_ := HOK.out
                        refine Kd.R_append_rows_step k61 (w0 := w) w.heap.size (by rfl) (.tmp 57) (.tmp 61) 50 61 (.agg #[(.int .i64 0), (.int .i64 0)]) 16 rfl Tryd.underlying50 info61 rfl (by decide) (by omega) vc s.cs [(⟨(x : Int), (y : Int)⟩ : CC)] A_ _ c_ (fun _ => True) (fun _ => False) (qRB e57) ((qRB e61).trans hs_) C0.out HRd_ (fun x_ cs_ hk_ => by obtain rfl := k61_open hk_; exact k61_mkM _ _ _ x_) (fun _ hk => hk.elim) (fun _ _ => trivial) B.out B.out.size (by simp only [List.length_cons, List.length_nil]; omega) ?_
                        intro v_ w1_ hR_ hB_ hg_ _
                        refine hK.out _ _ ⟨s61, v_, s69, s70, m16_, m17_, (by rw [ha.out]; exact qX 1 hb_ rfl rfl rfl), hB_, Kd.qeA LR.out (Kd.qCA C0.out) (by decide) hg_, fun h0_ => absurd ((qzA b 7).symm.trans h0_) (by decide), fun _ h1_ => absurd ((qzA b 7).symm.trans h1_) (by decide), fun _ => hR_, fun _ => Kd.qeA D0.out (Kd.qCA C0.out) (by decide) hg_, fun h0_ h1_ => Kd.qeA (Q_LD h0_ h1_) (Kd.qCA C0.out) (by decide) hg_, fun h0_ => absurd ((hoff 15 (by kernel_rfl)).symm.trans h0_) (by decide), fun _ => M0.out.qDB (hg_.block g M0.out.lt (M0.out.ne C0.out)), fun h0_ => absurd ((hoff 18 (by kernel_rfl)).symm.trans h0_) (by decide), fun h0_ => absurd ((hoff 16 (by kernel_rfl)).symm.trans h0_) (by decide), fun h0_ => absurd ((hoff 17 (by kernel_rfl)).symm.trans h0_) (by decide)⟩
                      refine qV ?_ ?_
                      · rintro b a w' ⟨s61, s62, s69, s70, m16_, m17_, ha, Q_B, Q_LR, Q_C0, Q_LC, Q_C1, Q_D0, Q_LD, Q_D1, Q_M0, Q_M1, Q_X16_, Q_X17_⟩ hb_ hon hoff
                        refine ⟨_, rfl, fun K hK => ?_⟩
                        have e68 : a.tmps[68]? = some (.int .i64 (n - 48)) := by rw [ha]; exact (qZ rfl).trans rfl
                        replace ha := Aside0.mk ha
                        have B := Aside0.mk Q_B
                        have LR := Aside0.mk Q_LR
                        have D0 := Aside0.mk (Q_D0 (hoff 15 (by kernel_rfl)))
                        have M0 := Aside0.mk (Q_M0 (hoff 18 (by kernel_rfl)))
                        refine Kd.qhB (Kd.int .i64) (w0 := w) w.heap.size 3 (by rfl) (N := 69) rfl (xs := ([(n - 48)] : List _)) (inner := [.int .i64 (n - 48)]) (ok := fun k_ => some k_ ≠ (vd : Value).ownBlock) (okp := fun _ => False) ?hr69 ?hp69 (fun _ hk => hk.elim) (Kd.fresh' (Kd.R_lt D0.out) _ (Nat.le_refl _)) B.out B.out.size (by simp) ?_
                        case hr69 => first | (go_simp; done) | (go_simp; rfl)
                        case hp69 => exact Reps.one (show Kd.M (Kd.int .i64) _ _ _ (n - 48) [.int .i64 (n - 48)] from rfl) (Reps.none _ _)
                        intro v_ w1_ hR_ hB_ hg_ _
                        refine hK.out _ _ ⟨s61, s62, v_, s70, m16_, m17_, (by rw [ha.out]; exact qX 2 hb_ rfl rfl rfl), hB_, qOB LR.out hg_, fun h0_ => qOB (Q_C0 h0_) hg_, fun h0_ h1_ => qOB (Q_LC h0_ h1_) hg_, fun h0_ => qOB (Q_C1 h0_) hg_, fun _ => qOB D0.out hg_, fun _ _ => hR_, fun h0_ => absurd ((hoff 15 (by kernel_rfl)).symm.trans h0_) (by decide), fun _ => M0.out.qDB (hg_.block g M0.out.lt (by simp)), fun h0_ => absurd ((hoff 18 (by kernel_rfl)).symm.trans h0_) (by decide), fun h0_ => absurd ((hoff 16 (by kernel_rfl)).symm.trans h0_) (by decide), fun h0_ => absurd ((hoff 17 (by kernel_rfl)).symm.trans h0_) (by decide)⟩
                      refine qV ?_ ?_
                      · rintro b a w' ⟨s61, s62, s69, s70, m16_, m17_, ha, Q_B, Q_LR, Q_C0, Q_LC, Q_C1, Q_D0, Q_LD, Q_D1, Q_M0, Q_M1, Q_X16_, Q_X17_⟩ hb_ hon hoff
                        refine ⟨_, rfl, fun K hK => ?_⟩
                        have e63 : a.tmps[63]? = some (vd) := by rw [ha]; exact (qZ rfl).trans rfl
                        have e69 : a.tmps[69]? = some (s69) := by rw [ha]; exact qc (e := (14, 69, s69)) 2 rfl rfl (hon 14 (by kernel_rfl)) rfl
                        replace ha := Aside0.mk ha
                        have B := Aside0.mk Q_B
                        have LR := Aside0.mk Q_LR
                        have C1 := Aside0.mk (Q_C1 (hon 7 (by kernel_rfl)))
                        have D0 := Aside0.mk (Q_D0 hb_)
                        have LD := Aside0.mk (Q_LD (hon 14 (by kernel_rfl)) hb_)
                        have M0 := Aside0.mk (Q_M0 (hoff 18 (by kernel_rfl)))
                        obtain ⟨A_, c_, hs_⟩ := Kd.qy LD.out
                        have LX_ := LD.out
                        rw [hs_] at LX_
                        have HRd_ := (Kd.qQ LX_).2.2
                        have hbd_ := HOK2.out
                        refine Kd.R_append_rows_step (Kd.int .i64) (w0 := w) w.heap.size (by rfl) (.tmp 63) (.tmp 69) 25 3 (.int .i64 0) 8 rfl Tryd.underlying25 info3 rfl (by decide) (by omega) vd s.ds [(n - 48)] A_ _ c_ (fun _ => True) (fun _ => False) (qRB e63) ((qRB e69).trans hs_) D0.out HRd_ (fun _ _ hk_ => hk_) (fun _ hk => hk.elim) (fun _ _ => trivial) B.out B.out.size (by simp only [List.length_cons, List.length_nil]; omega) ?_
                        intro v_ w1_ hR_ hB_ hg_ _
                        refine hK.out _ _ ⟨s61, s62, s69, v_, m16_, m17_, (by rw [ha.out]; exact qX 3 hb_ rfl rfl rfl), hB_, Kd.qeA LR.out (Kd.qCA D0.out) (by decide) hg_, fun h0_ => absurd ((hon 7 (by kernel_rfl)).symm.trans h0_) (by decide), fun _ h1_ => absurd ((hon 7 (by kernel_rfl)).symm.trans h1_) (by decide), fun _ => Kd.qeA C1.out (Kd.qCA D0.out) (by decide) hg_, fun h0_ => absurd ((qzA b 15).symm.trans h0_) (by decide), fun _ h1_ => absurd ((qzA b 15).symm.trans h1_) (by decide), fun _ => hR_, fun _ => M0.out.qDB (hg_.block g M0.out.lt (M0.out.ne D0.out)), fun h0_ => absurd ((hoff 18 (by kernel_rfl)).symm.trans h0_) (by decide), fun h0_ => absurd ((hoff 16 (by kernel_rfl)).symm.trans h0_) (by decide), fun h0_ => absurd ((hoff 17 (by kernel_rfl)).symm.trans h0_) (by decide)⟩
                      refine qV ?_ ?_
                      · rintro b a w' ⟨s61, s62, s69, s70, m16_, m17_, ha, Q_B, Q_LR, Q_C0, Q_LC, Q_C1, Q_D0, Q_LD, Q_D1, Q_M0, Q_M1, Q_X16_, Q_X17_⟩ hb_ hon hoff
                        refine ⟨_, rfl, fun K hK => ?_⟩
                        have e62 : a.tmps[62]? = some (s62) := by rw [ha]; exact qc (e := (7, 62, s62)) 1 rfl rfl (hon 7 (by kernel_rfl)) rfl
                        replace ha := Aside0.mk ha
                        have B := Aside0.mk Q_B
                        have LR := Aside0.mk Q_LR
                        have C1 := Aside0.mk (Q_C1 (hon 7 (by kernel_rfl)))
                        have D1 := Aside0.mk (Q_D1 (hon 15 (by kernel_rfl)))
                        have M0 := Aside0.mk (Q_M0 (hoff 18 (by kernel_rfl)))
                        refine qPA (w1 := w') (v := s62) (by rfl) rfl ?_ ?_
                        · go_simp
                          (try simp only [i64_w])
                          try rfl
                        refine hK.out _ _ ⟨s61, s62, s69, s70, (s62), m17_, (by rw [ha.out]; exact qX 4 hb_ rfl rfl rfl), Q_B, Q_LR, fun h0_ => absurd ((hon 7 (by kernel_rfl)).symm.trans h0_) (by decide), fun _ h1_ => absurd ((hon 7 (by kernel_rfl)).symm.trans h1_) (by decide), Q_C1, fun h0_ => absurd ((hon 15 (by kernel_rfl)).symm.trans h0_) (by decide), fun _ h1_ => absurd ((hon 15 (by kernel_rfl)).symm.trans h1_) (by decide), Q_D1, Q_M0, fun h0_ => absurd ((hoff 18 (by kernel_rfl)).symm.trans h0_) (by decide), fun _ => rfl, fun h0_ => absurd ((hoff 17 (by kernel_rfl)).symm.trans h0_) (by decide)⟩
                      refine qV ?_ ?_
                      · rintro b a w' ⟨s61, s62, s69, s70, m16_, m17_, ha, Q_B, Q_LR, Q_C0, Q_LC, Q_C1, Q_D0, Q_LD, Q_D1, Q_M0, Q_M1, Q_X16_, Q_X17_⟩ hb_ hon hoff
                        refine ⟨_, rfl, fun K hK => ?_⟩
                        have e70 : a.tmps[70]? = some (s70) := by rw [ha]; exact qc (e := (15, 70, s70)) 3 rfl rfl (hon 15 (by kernel_rfl)) rfl
                        replace ha := Aside0.mk ha
                        have B := Aside0.mk Q_B
                        have LR := Aside0.mk Q_LR
                        have C1 := Aside0.mk (Q_C1 (hon 7 (by kernel_rfl)))
                        have D1 := Aside0.mk (Q_D1 (hon 15 (by kernel_rfl)))
                        have M0 := Aside0.mk (Q_M0 (hoff 18 (by kernel_rfl)))
                        refine qPA (w1 := w') (v := s70) (by rfl) rfl ?_ ?_
                        · go_simp
                          (try simp only [i64_w])
                          try rfl
                        refine hK.out _ _ ⟨s61, s62, s69, s70, m16_, (s70), (by rw [ha.out]; exact qX 5 hb_ rfl rfl rfl), Q_B, Q_LR, fun h0_ => absurd ((hon 7 (by kernel_rfl)).symm.trans h0_) (by decide), fun _ h1_ => absurd ((hon 7 (by kernel_rfl)).symm.trans h1_) (by decide), Q_C1, fun h0_ => absurd ((hon 15 (by kernel_rfl)).symm.trans h0_) (by decide), fun _ h1_ => absurd ((hon 15 (by kernel_rfl)).symm.trans h1_) (by decide), Q_D1, Q_M0, fun h0_ => absurd ((hoff 18 (by kernel_rfl)).symm.trans h0_) (by decide), Q_X16_, fun _ => rfl⟩
                      refine qV ?_ ?_
                      · rintro b a w' ⟨s61, s62, s69, s70, m16_, m17_, ha, Q_B, Q_LR, Q_C0, Q_LC, Q_C1, Q_D0, Q_LD, Q_D1, Q_M0, Q_M1, Q_X16_, Q_X17_⟩ hb_ hon hoff
                        refine ⟨_, rfl, fun K hK => ?_⟩
                        have e55 : a.tmps[55]? = some (.map (some g)) := by rw [ha]; exact (qZ rfl).trans rfl
                        have e56 : a.tmps[56]? = some (.int .i64 (x : Int)) := by rw [ha]; exact (qZ rfl).trans rfl
                        replace ha := Aside0.mk ha
                        have B := Aside0.mk Q_B
                        have LR := Aside0.mk Q_LR
                        have C1 := Aside0.mk (Q_C1 (hon 7 (by kernel_rfl)))
                        have D1 := Aside0.mk (Q_D1 (hon 15 (by kernel_rfl)))
                        have M0 := Aside0.mk (Q_M0 hb_)
                        obtain ⟨w1_, hrun_, hM1_, hgr_⟩ := M0.out.run_put HML.out (x := (x : Int)) HXW.out (v := true) trivial
                        have hrun2_ : (Instr.mapUpdate 64 (.map (some g)) (.int .i64 (x : Int)) (.bool true)).run Tryd.prog w' = .ok () w1_ := hrun_
                        refine skip_ (w1 := w1_) (by rfl) rfl ?hr18 ?_
                        case hr18 =>
                          have a1_ := qRB e55
                          have a2_ := qRB e56
                          unfold execOp
                          simp [a1_, a2_, show a.eval (.const (.bool true)) = .bool true from rfl, hrun2_, Result.andThen]
                        refine hK.out _ _ ⟨s61, s62, s69, s70, m16_, m17_, (by rw [ha.out]; exact putSel_none (v := undef) rfl), B.out.grown hgr_ B.out.size (fun k_ e_ => by cases e_; exact HG.out), M0.out.row LR.out hgr_, fun h0_ => absurd ((hon 7 (by kernel_rfl)).symm.trans h0_) (by decide), fun _ h1_ => absurd ((hon 7 (by kernel_rfl)).symm.trans h1_) (by decide), fun _ => M0.out.row C1.out hgr_, fun h0_ => absurd ((hon 15 (by kernel_rfl)).symm.trans h0_) (by decide), fun _ h1_ => absurd ((hon 15 (by kernel_rfl)).symm.trans h1_) (by decide), fun _ => M0.out.row D1.out hgr_, fun h0_ => absurd ((qzA b 18).symm.trans h0_) (by decide), fun _ => hM1_, Q_X16_, Q_X17_⟩
                      exact qTB
                    · rintro b a w' hall ⟨s61, s62, s69, s70, m16_, m17_, ha, Q_B, Q_LR, Q_C0, Q_LC, Q_C1, Q_D0, Q_LD, Q_D1, Q_M0, Q_M1, Q_X16_, Q_X17_⟩
                      clear B C0 D0 LR M0
                      have hb6_ := hall 6 (by kernel_rfl)
                      have hb7_ := hall 7 (by kernel_rfl)
                      have hb14_ := hall 14 (by kernel_rfl)
                      have hb15_ := hall 15 (by kernel_rfl)
                      have hb16_ := hall 16 (by kernel_rfl)
                      have hb17_ := hall 17 (by kernel_rfl)
                      have hb18_ := hall 18 (by kernel_rfl)
                      subst ha
                      obtain rfl := Q_X16_ hb16_
                      obtain rfl := Q_X17_ hb17_
                      simp only [putSel, hb6_, hb7_, hb14_, hb15_, hb16_, hb17_, hb18_, if_true, Act.put, List.setIfInBounds_toArray, List.set_cons_zero, List.set_cons_succ]
                      have B := Aside0.mk Q_B
                      clear Q_B
                      have LR := Aside0.mk Q_LR
                      clear Q_LR
                      clear Q_C0
                      clear Q_LC
                      have C1 := Aside0.mk (Q_C1 hb7_)
                      clear Q_C1
                      clear Q_D0
                      clear Q_LD
                      have D1 := Aside0.mk (Q_D1 hb15_)
                      clear Q_D1
                      clear Q_M0
                      have M1 := Aside0.mk (Q_M1 hb18_)
                      clear Q_M1
                      clear hall hb6_ hb7_ hb14_ hb15_ hb16_ hb17_ hb18_
                      go_wp2
                      go_roundg (row.size - (x + 1))
                      case measure => omega
                      case rel => exact ⟨_, _, ⟨s.cs ++ [⟨(x : Int), (y : Int)⟩], s.ds ++ [((c.toNat : Int) - 48)], ((x : Int), true) :: s.ms⟩, x + 1, rfl, rfl, by push_cast; rfl, by omega, by omega, HT2, ⟨HK.out.add h6 _ _ _⟩, C1, by rw [HN.out]; exact D1, LR, M1, B⟩
            · have hxz : ¬ (x : Int) < (row.size : Int) := by omega
              have HT2 := Aside0.mk (show sixRows r0.size (y + 1) (L.drop (y + 1)) s = T by have := HT.out; rwa [List.drop_eq_nil_of_le (by omega), sixRow, Option.bind_some] at this)
              clear HT hdl
              go_wp2
              go_roundg (L.length - (y + 1))
              case measure => omega
              case rel => exact ⟨_, _, s, y + 1, rfl, rfl, by (first | (push_cast; rfl) | (have hz_ := HLN.out; show Value.int .i64 (wrap64 ((y : Int) + 1)) = _; rw [show wrap64 ((y : Int) + 1) = ((y + 1 : Nat) : Int) by unfold wrap64; omega])), by omega, by omega, HT2, HK, C0, D0, LR, M0, B⟩
      · have hzi : ¬ (row.size : Int) = (r0.size : Int) := by omega
        rw [if_neg hz] at hT
        have HTN := Aside0.mk hT
        clear hT
        have HFN := HF.out
        rw [← HTN.out] at HFN
        simp only [sixFin, Option.some.injEq, Prod.mk.injEq] at HFN
        obtain ⟨rfl, rfl, rfl⟩ := HFN
        go_wp2
        go_ret3
        exact ⟨_, _, rfl, Kd.R_nil k61 61 _ _ _, Kd.R_nil (Kd.int .i64) 3 _ _ _, B.out⟩
    · have hltz : ¬ (y : Int) < (L.length : Int) := by omega
      have hT := HT.out
      rw [List.drop_eq_nil_of_le (by omega), sixRows] at hT
      have HFN := HF.out
      rw [← hT, sixFin] at HFN
      clear hT HT
      have hLpos : 0 < L.length := HL0.out
      go_wp2
      obtain ⟨Ac, cc, eac⟩ := Kd.qy C0.out
      subst eac
      by_cases h6 : s.cs.length = 6
      · rw [if_pos h6] at HFN
        have h6i : (s.cs.length : Int) = 6 := by omega
        by_cases hq : MapKit.count s.ms = r0.size
        · rw [if_pos hq] at HFN
          have hqi : (MapKit.count s.ms : Int) = (r0.size : Int) := by omega
          obtain ⟨th, hth, hr⟩ := Option.bind_eq_some_iff.mp HFN
          have HH := Aside0.mk hth
          clear HFN hth
          refine qvA (n := 17) (S := fun w' => True) (ds := []) #[false, false, false, false, false, false, false, false, false, false, false, false, false, false, false, false, false] (by kernel_rfl) rfl rfl trivial (fun hHeld => ?_); refine qFA sixTab17 sixBits17 (fun HT_ HW_ => ?_)
          refine pure_ (i := 0) (N := some 73) (v := ?_) (a' := ?_) #[true, false, false, false, false, false, false, false, false, false, false, false, false, false, false, false, false] rfl rfl (qr HT_.out (by kernel_rfl)) (fun _ _ _ h => h) (Or.inl ⟨by rfl, ?_⟩) ?_ ?_
          rotate_left
          · intro w'
            go_simp
            with_reducible rfl
          rotate_left
          · simp only [Act.put, List.setIfInBounds_toArray, List.set_cons_zero, List.set_cons_succ, i64_w, i32_w]
            rfl
          refine pure_ (i := 1) (N := some 74) (v := ?_) (a' := ?_) #[true, true, false, false, false, false, false, false, false, false, false, false, false, false, false, false, false] rfl rfl (qr HT_.out (by kernel_rfl)) (fun _ _ _ h => h) (Or.inl ⟨by rfl, ?_⟩) ?_ ?_
          rotate_left
          · intro w'
            go_simp
            with_reducible rfl
          rotate_left
          · simp only [Act.put, List.setIfInBounds_toArray, List.set_cons_zero, List.set_cons_succ, i64_w, i32_w]
            rfl
          refine pure_ (i := 2) (N := some 75) (v := ?_) (a' := ?_) #[true, true, true, false, false, false, false, false, false, false, false, false, false, false, false, false, false] rfl rfl (qr HT_.out (by kernel_rfl)) (fun _ _ _ h => h) (Or.inl ⟨by rfl, ?_⟩) ?_ ?_
          rotate_left
          · intro w'
            go_simp
            with_reducible rfl
          rotate_left
          · simp only [Act.put, List.setIfInBounds_toArray, List.set_cons_zero, List.set_cons_succ, i64_w, i32_w]
            rfl
          refine pure_ (i := 3) (N := some 76) (v := ?_) (a' := ?_) #[true, true, true, true, false, false, false, false, false, false, false, false, false, false, false, false, false] rfl rfl (qr HT_.out (by kernel_rfl)) (fun _ _ _ h => h) (Or.inl ⟨by rfl, ?_⟩) ?_ ?_
          rotate_left
          · intro w'
            go_simp
            with_reducible rfl
          rotate_left
          · simp only [Act.put, List.setIfInBounds_toArray, List.set_cons_zero, List.set_cons_succ, i64_w, i32_w]
            rfl
          refine pure_ (i := 4) (N := some 77) (v := ?_) (a' := ?_) #[true, true, true, true, true, false, false, false, false, false, false, false, false, false, false, false, false] rfl rfl (qr HT_.out (by kernel_rfl)) (fun _ _ _ h => h) (Or.inl ⟨by rfl, ?_⟩) ?_ ?_
          rotate_left
          · intro w'
            go_simp
            with_reducible rfl
          rotate_left
          · simp only [Act.put, List.setIfInBounds_toArray, List.set_cons_zero, List.set_cons_succ, i64_w, i32_w]
            rfl
          refine pure_ (i := 6) (N := some 79) (v := ?_) (a' := ?_) #[true, true, true, true, true, false, true, false, false, false, false, false, false, false, false, false, false] rfl rfl (qr HT_.out (by kernel_rfl)) (fun _ _ _ h => h) (Or.inl ⟨by rfl, ?_⟩) ?_ ?_
          rotate_left
          · intro w'
            go_simp
            with_reducible rfl
          rotate_left
          · simp only [Act.put, List.setIfInBounds_toArray, List.set_cons_zero, List.set_cons_succ, i64_w, i32_w]
            rfl
          refine pure_ (i := 7) (N := some 80) (v := ?_) (a' := ?_) #[true, true, true, true, true, false, true, true, false, false, false, false, false, false, false, false, false] rfl rfl (qr HT_.out (by kernel_rfl)) (fun _ _ _ h => h) (Or.inl ⟨by rfl, ?_⟩) ?_ ?_
          rotate_left
          · intro w'
            go_simp
            with_reducible rfl
          rotate_left
          · simp only [Act.put, List.setIfInBounds_toArray, List.set_cons_zero, List.set_cons_succ, i64_w, i32_w]
            rfl
          refine qFC [5, 8, 9, 10, 11, 12, 13, 14, 15, 16] (fun a0_ b a w' => a = putSel a0_ b [(5, 78, .int .i64 (MapKit.count s.ms : Int)), (8, 81, .string r0), (9, 82, .int .i64 (r0.size : Int)), (10, 83, .bool false), (11, 84, .bool false), (12, 85, .bool false), (13, 86, .slice Ac s.cs.length cc), (14, 87, .bool th), (15, 88, .bool (!th)), (16, 89, .bool (!th))] ∧ (Below w.heap.size w w') ∧ (Kd.R Kd.string 9 w' w.heap.size (fun _ => True) (.slice (some ad) L.length cw) L) ∧ (Kd.R k61 61 w' w.heap.size (fun _ => True) (.slice Ac s.cs.length cc) s.cs) ∧ (Kd.R (Kd.int .i64) 3 w' w.heap.size (fun _ => True) vd s.ds) ∧ (mapI.Is w' g s.ms)) HT_.out HW_.out (by kernel_rfl) (by kernel_rfl) ?_ ?_ ?_
          · exact ⟨by simp only [putSel, Bool.false_eq_true, if_false], qi B.out, Kd.qI LR.out, Kd.qI C0.out, Kd.qI D0.out, M0.out.drew⟩
          · skip
            clear B C0 D0 LR M0
            refine qV ?_ ?_
            · rintro b a w' ⟨ha, Q_B, Q_LR, Q_C0, Q_D0, Q_M0⟩ hb_ hon hoff
              refine ⟨_, rfl, fun K hK => ?_⟩
              have e77 : a.tmps[77]? = some (.map (some g)) := by rw [ha]; exact (qZ rfl).trans rfl
              have e76 : a.tmps[76]? = some (.bool false) := by rw [ha]; exact (qZ rfl).trans rfl
              replace ha := Aside0.mk ha
              have B := Aside0.mk Q_B
              have LR := Aside0.mk Q_LR
              have C0 := Aside0.mk Q_C0
              have D0 := Aside0.mk Q_D0
              have M0 := Aside0.mk Q_M0
              have hrl_ := fun ty_ => (show (Builtin.len_ #[64] ty_ #[.map (some g)]).run Tryd.prog w' = .ok (.int .i64 (MapKit.count s.ms)) w' from M0.out.run_len ty_)
              refine qPA (w1 := w') (v := .int .i64 (MapKit.count s.ms : Int)) (qKA rfl rfl rfl (e76.trans (by first | rfl | (simp [*]; done)))) rfl ?_ ?_
              · go_simp
                (try simp only [i64_w])
                try rfl
              refine hK.out _ _ ⟨(by rw [ha.out]; exact qX 0 hb_ rfl rfl rfl), Q_B, Q_LR, Q_C0, Q_D0, Q_M0⟩
            refine qV ?_ ?_
            · rintro b a w' ⟨ha, Q_B, Q_LR, Q_C0, Q_D0, Q_M0⟩ hb_ hon hoff
              refine ⟨_, rfl, fun K hK => ?_⟩
              have e80 : a.tmps[80]? = some (.pointer (some ad)) := by rw [ha]; exact (qZ rfl).trans rfl
              have e76 : a.tmps[76]? = some (.bool false) := by rw [ha]; exact (qZ rfl).trans rfl
              replace ha := Aside0.mk ha
              have B := Aside0.mk Q_B
              have LR := Aside0.mk Q_LR
              have C0 := Aside0.mk Q_C0
              have D0 := Aside0.mk Q_D0
              have M0 := Aside0.mk Q_M0
              obtain ⟨ad_, e_, hcell_⟩ := Kd.qZB (Kd.qQ LR.out).2.2 (0 : Int) (Int.le_refl 0) HLP.out
              obtain rfl : ad = ad_ := by injection e_
              rw [HR0.out] at hcell_
              have hcell2_ : w'.cell? ad = some (.string r0) := hcell_
              refine qPA (w1 := w') (v := .string r0) (qKA rfl rfl rfl (e76.trans (by first | rfl | (simp [*]; done)))) rfl ?_ ?_
              · go_simp
                (try simp only [i64_w])
                try rfl
              refine hK.out _ _ ⟨(by rw [ha.out]; exact qX 1 hb_ rfl rfl rfl), Q_B, Q_LR, Q_C0, Q_D0, Q_M0⟩
            refine qV ?_ ?_
            · rintro b a w' ⟨ha, Q_B, Q_LR, Q_C0, Q_D0, Q_M0⟩ hb_ hon hoff
              refine ⟨_, rfl, fun K hK => ?_⟩
              have e81 : a.tmps[81]? = some (.string r0) := by rw [ha]; exact qc (e := (8, 81, .string r0)) 1 rfl rfl (hon 8 (by kernel_rfl)) rfl
              have e76 : a.tmps[76]? = some (.bool false) := by rw [ha]; exact (qZ rfl).trans rfl
              replace ha := Aside0.mk ha
              have B := Aside0.mk Q_B
              have LR := Aside0.mk Q_LR
              have C0 := Aside0.mk Q_C0
              have D0 := Aside0.mk Q_D0
              have M0 := Aside0.mk Q_M0
              refine qPA (w1 := w') (v := .int .i64 (r0.size : Int)) (qKA rfl rfl rfl (e76.trans (by first | rfl | (simp [*]; done)))) rfl ?_ ?_
              · go_simp
                (try simp only [i64_w])
                try rfl
              refine hK.out _ _ ⟨(by rw [ha.out]; exact qX 2 hb_ rfl rfl rfl), Q_B, Q_LR, Q_C0, Q_D0, Q_M0⟩
            refine qV ?_ ?_
            · rintro b a w' ⟨ha, Q_B, Q_LR, Q_C0, Q_D0, Q_M0⟩ hb_ hon hoff
              refine ⟨_, rfl, fun K hK => ?_⟩
              have e78 : a.tmps[78]? = some (.int .i64 (MapKit.count s.ms : Int)) := by rw [ha]; exact qc (e := (5, 78, .int .i64 (MapKit.count s.ms : Int))) 0 rfl rfl (hon 5 (by kernel_rfl)) rfl
              have e82 : a.tmps[82]? = some (.int .i64 (r0.size : Int)) := by rw [ha]; exact qc (e := (9, 82, .int .i64 (r0.size : Int))) 2 rfl rfl (hon 9 (by kernel_rfl)) rfl
              have e76 : a.tmps[76]? = some (.bool false) := by rw [ha]; exact (qZ rfl).trans rfl
              replace ha := Aside0.mk ha
              have B := Aside0.mk Q_B
              have LR := Aside0.mk Q_LR
              have C0 := Aside0.mk Q_C0
              have D0 := Aside0.mk Q_D0
              have M0 := Aside0.mk Q_M0
              refine qPA (w1 := w') (v := .bool false) (qKA rfl rfl rfl (e76.trans (by first | rfl | (simp [*]; done)))) rfl ?_ ?_
              · go_simp
                (try simp only [i64_w])
                try rfl
              refine hK.out _ _ ⟨(by rw [ha.out]; exact qX 3 hb_ rfl rfl rfl), Q_B, Q_LR, Q_C0, Q_D0, Q_M0⟩
            refine qV ?_ ?_
            · rintro b a w' ⟨ha, Q_B, Q_LR, Q_C0, Q_D0, Q_M0⟩ hb_ hon hoff
              refine ⟨_, rfl, fun K hK => ?_⟩
              have e76 : a.tmps[76]? = some (.bool false) := by rw [ha]; exact (qZ rfl).trans rfl
              have e83 : a.tmps[83]? = some (.bool false) := by rw [ha]; exact qc (e := (10, 83, .bool false)) 3 rfl rfl (hon 10 (by kernel_rfl)) rfl
              replace ha := Aside0.mk ha
              have B := Aside0.mk Q_B
              have LR := Aside0.mk Q_LR
              have C0 := Aside0.mk Q_C0
              have D0 := Aside0.mk Q_D0
              have M0 := Aside0.mk Q_M0
              refine qPA (w1 := w') (v := .bool false) (by rfl) rfl ?_ ?_
              · go_simp
                (try simp only [i64_w])
                try rfl
              refine hK.out _ _ ⟨(by rw [ha.out]; exact qX 4 hb_ rfl rfl rfl), Q_B, Q_LR, Q_C0, Q_D0, Q_M0⟩
            refine qV ?_ ?_
            · rintro b a w' ⟨ha, Q_B, Q_LR, Q_C0, Q_D0, Q_M0⟩ hb_ hon hoff
              refine ⟨_, rfl, fun K hK => ?_⟩
              have e84 : a.tmps[84]? = some (.bool false) := by rw [ha]; exact qc (e := (11, 84, .bool false)) 4 rfl rfl (hon 11 (by kernel_rfl)) rfl
              replace ha := Aside0.mk ha
              have B := Aside0.mk Q_B
              have LR := Aside0.mk Q_LR
              have C0 := Aside0.mk Q_C0
              have D0 := Aside0.mk Q_D0
              have M0 := Aside0.mk Q_M0
              refine qPA (w1 := w') (v := .bool false) (by rfl) rfl ?_ ?_
              · go_simp
                (try simp only [i64_w])
                try rfl
              refine hK.out _ _ ⟨(by rw [ha.out]; exact qX 5 hb_ rfl rfl rfl), Q_B, Q_LR, Q_C0, Q_D0, Q_M0⟩
            refine qV ?_ ?_
            · rintro b a w' ⟨ha, Q_B, Q_LR, Q_C0, Q_D0, Q_M0⟩ hb_ hon hoff
              refine ⟨_, rfl, fun K hK => ?_⟩
              have e5 : a.tmps[5]? = some (.slice Ac s.cs.length cc) := by rw [ha]; exact (qZ rfl).trans rfl
              have e85 : a.tmps[85]? = some (.bool false) := by rw [ha]; exact qc (e := (12, 85, .bool false)) 5 rfl rfl (hon 12 (by kernel_rfl)) rfl
              replace ha := Aside0.mk ha
              have B := Aside0.mk Q_B
              have LR := Aside0.mk Q_LR
              have C0 := Aside0.mk Q_C0
              have D0 := Aside0.mk Q_D0
              have M0 := Aside0.mk Q_M0
              refine qPA (w1 := w') (v := .slice Ac s.cs.length cc) (qKA rfl rfl rfl (e85.trans (by first | rfl | (simp [*]; done)))) rfl ?_ ?_
              · go_simp
                (try simp only [i64_w])
                try rfl
              refine hK.out _ _ ⟨(by rw [ha.out]; exact qX 6 hb_ rfl rfl rfl), Q_B, Q_LR, Q_C0, Q_D0, Q_M0⟩
            refine qV ?_ ?_
            · rintro b a w' ⟨ha, Q_B, Q_LR, Q_C0, Q_D0, Q_M0⟩ hb_ hon hoff
              refine ⟨_, rfl, fun K hK => ?_⟩
              have e86 : a.tmps[86]? = some (.slice Ac s.cs.length cc) := by rw [ha]; exact qc (e := (13, 86, .slice Ac s.cs.length cc)) 6 rfl rfl (hon 13 (by kernel_rfl)) rfl
              have e85 : a.tmps[85]? = some (.bool false) := by rw [ha]; exact qc (e := (12, 85, .bool false)) 5 rfl rfl (hon 12 (by kernel_rfl)) rfl
              replace ha := Aside0.mk ha
              have B := Aside0.mk Q_B
              have LR := Aside0.mk Q_LR
              have C0 := Aside0.mk Q_C0
              have D0 := Aside0.mk Q_D0
              have M0 := Aside0.mk Q_M0
              refine goes_ Tryd.func49 (by kernel_rfl) rfl #[.slice Ac s.cs.length cc] (qKA rfl rfl rfl (e85.trans (by first | rfl | (simp [*]; done)))) rfl rfl (by simp only [List.map_toArray, List.map_cons, List.map_nil, qRB e86]) ?_
              refine (qw.calls k Ac cc s.cs th w' (Kd.qQ C0.out).2.2 (Kd.qQ C0.out).2.1 HH.out).mono ?_
              rintro e_ w1_ ⟨rfl, hb_1⟩
              refine ⟨_, rfl, ?_⟩
              refine hK.out _ _ ⟨(by rw [ha.out]; exact qX 7 hb_ rfl rfl rfl), qUA B.out B.out.size hb_1, Kd.qa LR.out hb_1, Kd.qa C0.out hb_1, Kd.qa D0.out hb_1, M0.out.below hb_1⟩
            refine qV ?_ ?_
            · rintro b a w' ⟨ha, Q_B, Q_LR, Q_C0, Q_D0, Q_M0⟩ hb_ hon hoff
              refine ⟨_, rfl, fun K hK => ?_⟩
              have e87 : a.tmps[87]? = some (.bool th) := by rw [ha]; exact qc (e := (14, 87, .bool th)) 7 rfl rfl (hon 14 (by kernel_rfl)) rfl
              have e85 : a.tmps[85]? = some (.bool false) := by rw [ha]; exact qc (e := (12, 85, .bool false)) 5 rfl rfl (hon 12 (by kernel_rfl)) rfl
              replace ha := Aside0.mk ha
              have B := Aside0.mk Q_B
              have LR := Aside0.mk Q_LR
              have C0 := Aside0.mk Q_C0
              have D0 := Aside0.mk Q_D0
              have M0 := Aside0.mk Q_M0
              refine qPA (w1 := w') (v := .bool (!th)) (qKA rfl rfl rfl (e85.trans (by first | rfl | (simp [*]; done)))) rfl ?_ ?_
              · go_simp
                (try simp only [i64_w])
                try rfl
              refine hK.out _ _ ⟨(by rw [ha.out]; exact qX 8 hb_ rfl rfl rfl), Q_B, Q_LR, Q_C0, Q_D0, Q_M0⟩
            refine qV ?_ ?_
            · rintro b a w' ⟨ha, Q_B, Q_LR, Q_C0, Q_D0, Q_M0⟩ hb_ hon hoff
              refine ⟨_, rfl, fun K hK => ?_⟩
              have e85 : a.tmps[85]? = some (.bool false) := by rw [ha]; exact qc (e := (12, 85, .bool false)) 5 rfl rfl (hon 12 (by kernel_rfl)) rfl
              have e88 : a.tmps[88]? = some (.bool (!th)) := by rw [ha]; exact qc (e := (15, 88, .bool (!th))) 8 rfl rfl (hon 15 (by kernel_rfl)) rfl
              replace ha := Aside0.mk ha
              have B := Aside0.mk Q_B
              have LR := Aside0.mk Q_LR
              have C0 := Aside0.mk Q_C0
              have D0 := Aside0.mk Q_D0
              have M0 := Aside0.mk Q_M0
              refine qPA (w1 := w') (v := .bool (!th)) (by rfl) rfl ?_ ?_
              · go_simp
                (try simp only [i64_w])
                try rfl
              refine hK.out _ _ ⟨(by rw [ha.out]; exact qX 9 hb_ rfl rfl rfl), Q_B, Q_LR, Q_C0, Q_D0, Q_M0⟩
            exact qTB
          · rintro b a w' hall ⟨ha, Q_B, Q_LR, Q_C0, Q_D0, Q_M0⟩
            clear B C0 D0 LR M0
            have hb5_ := hall 5 (by kernel_rfl)
            have hb8_ := hall 8 (by kernel_rfl)
            have hb9_ := hall 9 (by kernel_rfl)
            have hb10_ := hall 10 (by kernel_rfl)
            have hb11_ := hall 11 (by kernel_rfl)
            have hb12_ := hall 12 (by kernel_rfl)
            have hb13_ := hall 13 (by kernel_rfl)
            have hb14_ := hall 14 (by kernel_rfl)
            have hb15_ := hall 15 (by kernel_rfl)
            have hb16_ := hall 16 (by kernel_rfl)
            subst ha
            simp only [putSel, hb5_, hb8_, hb9_, hb10_, hb11_, hb12_, hb13_, hb14_, hb15_, hb16_, if_true, Act.put, List.setIfInBounds_toArray, List.set_cons_zero, List.set_cons_succ]
            have B := Aside0.mk Q_B
            clear Q_B
            have LR := Aside0.mk Q_LR
            clear Q_LR
            have C0 := Aside0.mk Q_C0
            clear Q_C0
            have D0 := Aside0.mk Q_D0
            clear Q_D0
            have M0 := Aside0.mk Q_M0
            clear Q_M0
            clear hall hb5_ hb8_ hb9_ hb10_ hb11_ hb12_ hb13_ hb14_ hb15_ hb16_
            cases th with
            | true =>
              simp only [if_true, Option.some.injEq, Prod.mk.injEq] at hr
              obtain ⟨rfl, rfl, rfl⟩ := hr
              go_wp2
              go_ret3
              exact ⟨_, _, rfl, C0.out, D0.out, B.out⟩
            | false =>
              simp only [Bool.false_eq_true, if_false, Option.some.injEq, Prod.mk.injEq] at hr
              obtain ⟨rfl, rfl, rfl⟩ := hr
              go_wp2
              go_ret3
              exact ⟨_, _, rfl, Kd.R_nil k61 61 _ _ _, Kd.R_nil (Kd.int .i64) 3 _ _ _, B.out⟩
        · rw [if_neg hq] at HFN
          have hqi : ¬ (MapKit.count s.ms : Int) = (r0.size : Int) := by omega
          simp only [Option.some.injEq, Prod.mk.injEq] at HFN
          obtain ⟨rfl, rfl, rfl⟩ := HFN
          refine qvA (n := 17) (S := fun w' => True) (ds := []) #[false, false, false, false, false, false, false, false, false, false, false, false, false, false, false, false, false] (by kernel_rfl) rfl rfl trivial (fun hHeld => ?_); refine qFA sixTab17 sixBits17 (fun HT_ HW_ => ?_)
          refine pure_ (i := 0) (N := some 73) (v := ?_) (a' := ?_) #[true, false, false, false, false, false, false, false, false, false, false, false, false, false, false, false, false] rfl rfl (qr HT_.out (by kernel_rfl)) (fun _ _ _ h => h) (Or.inl ⟨by rfl, ?_⟩) ?_ ?_
          rotate_left
          · intro w'
            go_simp
            with_reducible rfl
          rotate_left
          · simp only [Act.put, List.setIfInBounds_toArray, List.set_cons_zero, List.set_cons_succ, i64_w, i32_w]
            rfl
          refine pure_ (i := 1) (N := some 74) (v := ?_) (a' := ?_) #[true, true, false, false, false, false, false, false, false, false, false, false, false, false, false, false, false] rfl rfl (qr HT_.out (by kernel_rfl)) (fun _ _ _ h => h) (Or.inl ⟨by rfl, ?_⟩) ?_ ?_
          rotate_left
          · intro w'
            go_simp
            with_reducible rfl
          rotate_left
          · simp only [Act.put, List.setIfInBounds_toArray, List.set_cons_zero, List.set_cons_succ, i64_w, i32_w]
            rfl
          refine pure_ (i := 2) (N := some 75) (v := ?_) (a' := ?_) #[true, true, true, false, false, false, false, false, false, false, false, false, false, false, false, false, false] rfl rfl (qr HT_.out (by kernel_rfl)) (fun _ _ _ h => h) (Or.inl ⟨by rfl, ?_⟩) ?_ ?_
          rotate_left
          · intro w'
            go_simp
            with_reducible rfl
          rotate_left
          · simp only [Act.put, List.setIfInBounds_toArray, List.set_cons_zero, List.set_cons_succ, i64_w, i32_w]
            rfl
          refine pure_ (i := 3) (N := some 76) (v := ?_) (a' := ?_) #[true, true, true, true, false, false, false, false, false, false, false, false, false, false, false, false, false] rfl rfl (qr HT_.out (by kernel_rfl)) (fun _ _ _ h => h) (Or.inl ⟨by rfl, ?_⟩) ?_ ?_
          rotate_left
          · intro w'
            go_simp
            with_reducible rfl
          rotate_left
          · simp only [Act.put, List.setIfInBounds_toArray, List.set_cons_zero, List.set_cons_succ, i64_w, i32_w]
            rfl
          refine pure_ (i := 4) (N := some 77) (v := ?_) (a' := ?_) #[true, true, true, true, true, false, false, false, false, false, false, false, false, false, false, false, false] rfl rfl (qr HT_.out (by kernel_rfl)) (fun _ _ _ h => h) (Or.inl ⟨by rfl, ?_⟩) ?_ ?_
          rotate_left
          · intro w'
            go_simp
            with_reducible rfl
          rotate_left
          · simp only [Act.put, List.setIfInBounds_toArray, List.set_cons_zero, List.set_cons_succ, i64_w, i32_w]
            rfl
          refine pure_ (i := 6) (N := some 79) (v := ?_) (a' := ?_) #[true, true, true, true, true, false, true, false, false, false, false, false, false, false, false, false, false] rfl rfl (qr HT_.out (by kernel_rfl)) (fun _ _ _ h => h) (Or.inl ⟨by rfl, ?_⟩) ?_ ?_
          rotate_left
          · intro w'
            go_simp
            with_reducible rfl
          rotate_left
          · simp only [Act.put, List.setIfInBounds_toArray, List.set_cons_zero, List.set_cons_succ, i64_w, i32_w]
            rfl
          refine pure_ (i := 7) (N := some 80) (v := ?_) (a' := ?_) #[true, true, true, true, true, false, true, true, false, false, false, false, false, false, false, false, false] rfl rfl (qr HT_.out (by kernel_rfl)) (fun _ _ _ h => h) (Or.inl ⟨by rfl, ?_⟩) ?_ ?_
          rotate_left
          · intro w'
            go_simp
            with_reducible rfl
          rotate_left
          · simp only [Act.put, List.setIfInBounds_toArray, List.set_cons_zero, List.set_cons_succ, i64_w, i32_w]
            rfl
          refine qFC [5, 8, 9, 10, 11, 12, 13, 14, 15, 16] (fun a0_ b a w' => a = putSel a0_ b [(5, 78, .int .i64 (MapKit.count s.ms : Int)), (8, 81, .string r0), (9, 82, .int .i64 (r0.size : Int)), (10, 83, .bool true), (11, 84, .bool true), (12, 85, .bool true), (13, 86, undef), (14, 87, undef), (15, 88, undef), (16, 89, .bool true)] ∧ (Below w.heap.size w w') ∧ (Kd.R Kd.string 9 w' w.heap.size (fun _ => True) (.slice (some ad) L.length cw) L) ∧ (Kd.R k61 61 w' w.heap.size (fun _ => True) (.slice Ac s.cs.length cc) s.cs) ∧ (Kd.R (Kd.int .i64) 3 w' w.heap.size (fun _ => True) vd s.ds) ∧ (mapI.Is w' g s.ms)) HT_.out HW_.out (by kernel_rfl) (by kernel_rfl) ?_ ?_ ?_
          · exact ⟨by simp only [putSel, Bool.false_eq_true, if_false], qi B.out, Kd.qI LR.out, Kd.qI C0.out, Kd.qI D0.out, M0.out.drew⟩
          · skip
            clear B C0 D0 LR M0
            refine qV ?_ ?_
            · rintro b a w' ⟨ha, Q_B, Q_LR, Q_C0, Q_D0, Q_M0⟩ hb_ hon hoff
              refine ⟨_, rfl, fun K hK => ?_⟩
              have e77 : a.tmps[77]? = some (.map (some g)) := by rw [ha]; exact (qZ rfl).trans rfl
              have e76 : a.tmps[76]? = some (.bool false) := by rw [ha]; exact (qZ rfl).trans rfl
              replace ha := Aside0.mk ha
              have B := Aside0.mk Q_B
              have LR := Aside0.mk Q_LR
              have C0 := Aside0.mk Q_C0
              have D0 := Aside0.mk Q_D0
              have M0 := Aside0.mk Q_M0
              have hrl_ := fun ty_ => (show (Builtin.len_ #[64] ty_ #[.map (some g)]).run Tryd.prog w' = .ok (.int .i64 (MapKit.count s.ms)) w' from M0.out.run_len ty_)
              refine qPA (w1 := w') (v := .int .i64 (MapKit.count s.ms : Int)) (qKA rfl rfl rfl (e76.trans (by first | rfl | (simp [*]; done)))) rfl ?_ ?_
              · go_simp
                (try simp only [i64_w])
                try rfl
              refine hK.out _ _ ⟨(by rw [ha.out]; exact qX 0 hb_ rfl rfl rfl), Q_B, Q_LR, Q_C0, Q_D0, Q_M0⟩
            refine qV ?_ ?_
            · rintro b a w' ⟨ha, Q_B, Q_LR, Q_C0, Q_D0, Q_M0⟩ hb_ hon hoff
              refine ⟨_, rfl, fun K hK => ?_⟩
              have e80 : a.tmps[80]? = some (.pointer (some ad)) := by rw [ha]; exact (qZ rfl).trans rfl
              have e76 : a.tmps[76]? = some (.bool false) := by rw [ha]; exact (qZ rfl).trans rfl
              replace ha := Aside0.mk ha
              have B := Aside0.mk Q_B
              have LR := Aside0.mk Q_LR
              have C0 := Aside0.mk Q_C0
              have D0 := Aside0.mk Q_D0
              have M0 := Aside0.mk Q_M0
              obtain ⟨ad_, e_, hcell_⟩ := Kd.qZB (Kd.qQ LR.out).2.2 (0 : Int) (Int.le_refl 0) HLP.out
              obtain rfl : ad = ad_ := by injection e_
              rw [HR0.out] at hcell_
              have hcell2_ : w'.cell? ad = some (.string r0) := hcell_
              refine qPA (w1 := w') (v := .string r0) (qKA rfl rfl rfl (e76.trans (by first | rfl | (simp [*]; done)))) rfl ?_ ?_
              · go_simp
                (try simp only [i64_w])
                try rfl
              refine hK.out _ _ ⟨(by rw [ha.out]; exact qX 1 hb_ rfl rfl rfl), Q_B, Q_LR, Q_C0, Q_D0, Q_M0⟩
            refine qV ?_ ?_
            · rintro b a w' ⟨ha, Q_B, Q_LR, Q_C0, Q_D0, Q_M0⟩ hb_ hon hoff
              refine ⟨_, rfl, fun K hK => ?_⟩
              have e81 : a.tmps[81]? = some (.string r0) := by rw [ha]; exact qc (e := (8, 81, .string r0)) 1 rfl rfl (hon 8 (by kernel_rfl)) rfl
              have e76 : a.tmps[76]? = some (.bool false) := by rw [ha]; exact (qZ rfl).trans rfl
              replace ha := Aside0.mk ha
              have B := Aside0.mk Q_B
              have LR := Aside0.mk Q_LR
              have C0 := Aside0.mk Q_C0
              have D0 := Aside0.mk Q_D0
              have M0 := Aside0.mk Q_M0
              refine qPA (w1 := w') (v := .int .i64 (r0.size : Int)) (qKA rfl rfl rfl (e76.trans (by first | rfl | (simp [*]; done)))) rfl ?_ ?_
              · go_simp
                (try simp only [i64_w])
                try rfl
              refine hK.out _ _ ⟨(by rw [ha.out]; exact qX 2 hb_ rfl rfl rfl), Q_B, Q_LR, Q_C0, Q_D0, Q_M0⟩
            refine qV ?_ ?_
            · rintro b a w' ⟨ha, Q_B, Q_LR, Q_C0, Q_D0, Q_M0⟩ hb_ hon hoff
              refine ⟨_, rfl, fun K hK => ?_⟩
              have e78 : a.tmps[78]? = some (.int .i64 (MapKit.count s.ms : Int)) := by rw [ha]; exact qc (e := (5, 78, .int .i64 (MapKit.count s.ms : Int))) 0 rfl rfl (hon 5 (by kernel_rfl)) rfl
              have e82 : a.tmps[82]? = some (.int .i64 (r0.size : Int)) := by rw [ha]; exact qc (e := (9, 82, .int .i64 (r0.size : Int))) 2 rfl rfl (hon 9 (by kernel_rfl)) rfl
              have e76 : a.tmps[76]? = some (.bool false) := by rw [ha]; exact (qZ rfl).trans rfl
              replace ha := Aside0.mk ha
              have B := Aside0.mk Q_B
              have LR := Aside0.mk Q_LR
              have C0 := Aside0.mk Q_C0
              have D0 := Aside0.mk Q_D0
              have M0 := Aside0.mk Q_M0
              refine qPA (w1 := w') (v := .bool true) (qKA rfl rfl rfl (e76.trans (by first | rfl | (simp [*]; done)))) rfl ?_ ?_
              · go_simp
                (try simp only [i64_w])
                try rfl
              refine hK.out _ _ ⟨(by rw [ha.out]; exact qX 3 hb_ rfl rfl rfl), Q_B, Q_LR, Q_C0, Q_D0, Q_M0⟩
            refine qV ?_ ?_
            · rintro b a w' ⟨ha, Q_B, Q_LR, Q_C0, Q_D0, Q_M0⟩ hb_ hon hoff
              refine ⟨_, rfl, fun K hK => ?_⟩
              have e76 : a.tmps[76]? = some (.bool false) := by rw [ha]; exact (qZ rfl).trans rfl
              have e83 : a.tmps[83]? = some (.bool true) := by rw [ha]; exact qc (e := (10, 83, .bool true)) 3 rfl rfl (hon 10 (by kernel_rfl)) rfl
              replace ha := Aside0.mk ha
              have B := Aside0.mk Q_B
              have LR := Aside0.mk Q_LR
              have C0 := Aside0.mk Q_C0
              have D0 := Aside0.mk Q_D0
              have M0 := Aside0.mk Q_M0
              refine qPA (w1 := w') (v := .bool true) (by rfl) rfl ?_ ?_
              · go_simp
                (try simp only [i64_w])
                try rfl
              refine hK.out _ _ ⟨(by rw [ha.out]; exact qX 4 hb_ rfl rfl rfl), Q_B, Q_LR, Q_C0, Q_D0, Q_M0⟩
            refine qV ?_ ?_
            · rintro b a w' ⟨ha, Q_B, Q_LR, Q_C0, Q_D0, Q_M0⟩ hb_ hon hoff
              refine ⟨_, rfl, fun K hK => ?_⟩
              have e84 : a.tmps[84]? = some (.bool true) := by rw [ha]; exact qc (e := (11, 84, .bool true)) 4 rfl rfl (hon 11 (by kernel_rfl)) rfl
              replace ha := Aside0.mk ha
              have B := Aside0.mk Q_B
              have LR := Aside0.mk Q_LR
              have C0 := Aside0.mk Q_C0
              have D0 := Aside0.mk Q_D0
              have M0 := Aside0.mk Q_M0
              refine qPA (w1 := w') (v := .bool true) (by rfl) rfl ?_ ?_
              · go_simp
                (try simp only [i64_w])
                try rfl
              refine hK.out _ _ ⟨(by rw [ha.out]; exact qX 5 hb_ rfl rfl rfl), Q_B, Q_LR, Q_C0, Q_D0, Q_M0⟩
            refine qV ?_ ?_
            · rintro b a w' ⟨ha, Q_B, Q_LR, Q_C0, Q_D0, Q_M0⟩ hb_ hon hoff
              refine ⟨_, rfl, fun K hK => ?_⟩
              have e85 : a.tmps[85]? = some (.bool true) := by rw [ha]; exact qc (e := (12, 85, .bool true)) 5 rfl rfl (hon 12 (by kernel_rfl)) rfl
              replace ha := Aside0.mk ha
              have B := Aside0.mk Q_B
              have LR := Aside0.mk Q_LR
              have C0 := Aside0.mk Q_C0
              have D0 := Aside0.mk Q_D0
              have M0 := Aside0.mk Q_M0
              refine off_ (qcB rfl rfl rfl (e85.trans (by first | rfl | (simp [*]; done)))) ?_
              refine hK.out _ _ ⟨(by rw [ha.out]; exact qX 6 hb_ rfl rfl rfl), Q_B, Q_LR, Q_C0, Q_D0, Q_M0⟩
            refine qV ?_ ?_
            · rintro b a w' ⟨ha, Q_B, Q_LR, Q_C0, Q_D0, Q_M0⟩ hb_ hon hoff
              refine ⟨_, rfl, fun K hK => ?_⟩
              have e85 : a.tmps[85]? = some (.bool true) := by rw [ha]; exact qc (e := (12, 85, .bool true)) 5 rfl rfl (hon 12 (by kernel_rfl)) rfl
              replace ha := Aside0.mk ha
              have B := Aside0.mk Q_B
              have LR := Aside0.mk Q_LR
              have C0 := Aside0.mk Q_C0
              have D0 := Aside0.mk Q_D0
              have M0 := Aside0.mk Q_M0
              refine off_ (qcB rfl rfl rfl (e85.trans (by first | rfl | (simp [*]; done)))) ?_
              refine hK.out _ _ ⟨(by rw [ha.out]; exact qX 7 hb_ rfl rfl rfl), Q_B, Q_LR, Q_C0, Q_D0, Q_M0⟩
            refine qV ?_ ?_
            · rintro b a w' ⟨ha, Q_B, Q_LR, Q_C0, Q_D0, Q_M0⟩ hb_ hon hoff
              refine ⟨_, rfl, fun K hK => ?_⟩
              have e85 : a.tmps[85]? = some (.bool true) := by rw [ha]; exact qc (e := (12, 85, .bool true)) 5 rfl rfl (hon 12 (by kernel_rfl)) rfl
              replace ha := Aside0.mk ha
              have B := Aside0.mk Q_B
              have LR := Aside0.mk Q_LR
              have C0 := Aside0.mk Q_C0
              have D0 := Aside0.mk Q_D0
              have M0 := Aside0.mk Q_M0
              refine off_ (qcB rfl rfl rfl (e85.trans (by first | rfl | (simp [*]; done)))) ?_
              refine hK.out _ _ ⟨(by rw [ha.out]; exact qX 8 hb_ rfl rfl rfl), Q_B, Q_LR, Q_C0, Q_D0, Q_M0⟩
            refine qV ?_ ?_
            · rintro b a w' ⟨ha, Q_B, Q_LR, Q_C0, Q_D0, Q_M0⟩ hb_ hon hoff
              refine ⟨_, rfl, fun K hK => ?_⟩
              have e85 : a.tmps[85]? = some (.bool true) := by rw [ha]; exact qc (e := (12, 85, .bool true)) 5 rfl rfl (hon 12 (by kernel_rfl)) rfl
              have e88 : a.tmps[88]? = some (undef) := by rw [ha]; exact qc (e := (15, 88, undef)) 8 rfl rfl (hon 15 (by kernel_rfl)) rfl
              replace ha := Aside0.mk ha
              have B := Aside0.mk Q_B
              have LR := Aside0.mk Q_LR
              have C0 := Aside0.mk Q_C0
              have D0 := Aside0.mk Q_D0
              have M0 := Aside0.mk Q_M0
              refine qPA (w1 := w') (v := .bool true) (by rfl) rfl ?_ ?_
              · go_simp
                (try simp only [i64_w])
                try rfl
              refine hK.out _ _ ⟨(by rw [ha.out]; exact qX 9 hb_ rfl rfl rfl), Q_B, Q_LR, Q_C0, Q_D0, Q_M0⟩
            exact qTB
          · rintro b a w' hall ⟨ha, Q_B, Q_LR, Q_C0, Q_D0, Q_M0⟩
            clear B C0 D0 LR M0
            have hb5_ := hall 5 (by kernel_rfl)
            have hb8_ := hall 8 (by kernel_rfl)
            have hb9_ := hall 9 (by kernel_rfl)
            have hb10_ := hall 10 (by kernel_rfl)
            have hb11_ := hall 11 (by kernel_rfl)
            have hb12_ := hall 12 (by kernel_rfl)
            have hb13_ := hall 13 (by kernel_rfl)
            have hb14_ := hall 14 (by kernel_rfl)
            have hb15_ := hall 15 (by kernel_rfl)
            have hb16_ := hall 16 (by kernel_rfl)
            subst ha
            simp only [putSel, hb5_, hb8_, hb9_, hb10_, hb11_, hb12_, hb13_, hb14_, hb15_, hb16_, if_true, Act.put, List.setIfInBounds_toArray, List.set_cons_zero, List.set_cons_succ]
            have B := Aside0.mk Q_B
            clear Q_B
            have LR := Aside0.mk Q_LR
            clear Q_LR
            have C0 := Aside0.mk Q_C0
            clear Q_C0
            have D0 := Aside0.mk Q_D0
            clear Q_D0
            have M0 := Aside0.mk Q_M0
            clear Q_M0
            clear hall hb5_ hb8_ hb9_ hb10_ hb11_ hb12_ hb13_ hb14_ hb15_ hb16_
            go_wp2
            go_ret3
            exact ⟨_, _, rfl, Kd.R_nil k61 61 _ _ _, Kd.R_nil (Kd.int .i64) 3 _ _ _, B.out⟩
      · rw [if_neg h6] at HFN
        have h6i : ¬ (s.cs.length : Int) = 6 := by omega
        have h6b : ((s.cs.length : Int) != 6) = true := bne_iff_ne.2 h6i
        have h6c : ((s.cs.length : Int) == 6) = false := beq_eq_false_iff_ne.2 h6i
        have h6d : decide ((s.cs.length : Int) = 6) = false := decide_eq_false h6i
        simp only [Option.some.injEq, Prod.mk.injEq] at HFN
        obtain ⟨rfl, rfl, rfl⟩ := HFN
        refine qvA (n := 17) (S := fun w' => True) (ds := []) #[false, false, false, false, false, false, false, false, false, false, false, false, false, false, false, false, false] (by kernel_rfl) rfl rfl trivial (fun hHeld => ?_); refine qFA sixTab17 sixBits17 (fun HT_ HW_ => ?_)
        refine pure_ (i := 0) (N := some 73) (v := ?_) (a' := ?_) #[true, false, false, false, false, false, false, false, false, false, false, false, false, false, false, false, false] rfl rfl (qr HT_.out (by kernel_rfl)) (fun _ _ _ h => h) (Or.inl ⟨by rfl, ?_⟩) ?_ ?_
        rotate_left
        · intro w'
          go_simp
          with_reducible rfl
        rotate_left
        · simp only [Act.put, List.setIfInBounds_toArray, List.set_cons_zero, List.set_cons_succ, i64_w, i32_w]
          rfl
        refine pure_ (i := 1) (N := some 74) (v := ?_) (a' := ?_) #[true, true, false, false, false, false, false, false, false, false, false, false, false, false, false, false, false] rfl rfl (qr HT_.out (by kernel_rfl)) (fun _ _ _ h => h) (Or.inl ⟨by rfl, ?_⟩) ?_ ?_
        rotate_left
        · intro w'
          go_simp
          with_reducible rfl
        rotate_left
        · simp only [Act.put, List.setIfInBounds_toArray, List.set_cons_zero, List.set_cons_succ, i64_w, i32_w]
          rfl
        refine pure_ (i := 2) (N := some 75) (v := ?_) (a' := ?_) #[true, true, true, false, false, false, false, false, false, false, false, false, false, false, false, false, false] rfl rfl (qr HT_.out (by kernel_rfl)) (fun _ _ _ h => h) (Or.inl ⟨by rfl, ?_⟩) ?_ ?_
        rotate_left
        · intro w'
          go_simp
          with_reducible rfl
        rotate_left
        · simp only [Act.put, List.setIfInBounds_toArray, List.set_cons_zero, List.set_cons_succ, i64_w, i32_w]
          rfl
        refine pure_ (i := 3) (N := some 76) (v := ?_) (a' := ?_) #[true, true, true, true, false, false, false, false, false, false, false, false, false, false, false, false, false] rfl rfl (qr HT_.out (by kernel_rfl)) (fun _ _ _ h => h) (Or.inl ⟨by rfl, ?_⟩) ?_ ?_
        rotate_left
        · intro w'
          go_simp
          with_reducible rfl
        rotate_left
        · simp only [Act.put, List.setIfInBounds_toArray, List.set_cons_zero, List.set_cons_succ, i64_w, i32_w]
          rfl
        refine pure_ (i := 4) (N := some 77) (v := undef) (a' := ?_) #[true, true, true, true, true, false, false, false, false, false, false, false, false, false, false, false, false] rfl rfl (qr HT_.out (by kernel_rfl)) (fun _ _ _ h => h) (Or.inr ⟨by rfl, rfl⟩) ?_ ?_
        rotate_left
        · simp only [Act.put, List.setIfInBounds_toArray, List.set_cons_zero, List.set_cons_succ, i64_w, i32_w]
          rfl
        refine pure_ (i := 5) (N := some 78) (v := undef) (a' := ?_) #[true, true, true, true, true, true, false, false, false, false, false, false, false, false, false, false, false] rfl rfl (qr HT_.out (by kernel_rfl)) (fun _ _ _ h => h) (Or.inr ⟨by rfl, rfl⟩) ?_ ?_
        rotate_left
        · simp only [Act.put, List.setIfInBounds_toArray, List.set_cons_zero, List.set_cons_succ, i64_w, i32_w]
          rfl
        refine pure_ (i := 6) (N := some 79) (v := undef) (a' := ?_) #[true, true, true, true, true, true, true, false, false, false, false, false, false, false, false, false, false] rfl rfl (qr HT_.out (by kernel_rfl)) (fun _ _ _ h => h) (Or.inr ⟨by rfl, rfl⟩) ?_ ?_
        rotate_left
        · simp only [Act.put, List.setIfInBounds_toArray, List.set_cons_zero, List.set_cons_succ, i64_w, i32_w]
          rfl
        refine pure_ (i := 7) (N := some 80) (v := undef) (a' := ?_) #[true, true, true, true, true, true, true, true, false, false, false, false, false, false, false, false, false] rfl rfl (qr HT_.out (by kernel_rfl)) (fun _ _ _ h => h) (Or.inr ⟨by rfl, rfl⟩) ?_ ?_
        rotate_left
        · simp only [Act.put, List.setIfInBounds_toArray, List.set_cons_zero, List.set_cons_succ, i64_w, i32_w]
          rfl
        refine pure_ (i := 8) (N := some 81) (v := undef) (a' := ?_) #[true, true, true, true, true, true, true, true, true, false, false, false, false, false, false, false, false] rfl rfl (qr HT_.out (by kernel_rfl)) (fun _ _ _ h => h) (Or.inr ⟨by rfl, rfl⟩) ?_ ?_
        rotate_left
        · simp only [Act.put, List.setIfInBounds_toArray, List.set_cons_zero, List.set_cons_succ, i64_w, i32_w]
          rfl
        refine pure_ (i := 9) (N := some 82) (v := undef) (a' := ?_) #[true, true, true, true, true, true, true, true, true, true, false, false, false, false, false, false, false] rfl rfl (qr HT_.out (by kernel_rfl)) (fun _ _ _ h => h) (Or.inr ⟨by rfl, rfl⟩) ?_ ?_
        rotate_left
        · simp only [Act.put, List.setIfInBounds_toArray, List.set_cons_zero, List.set_cons_succ, i64_w, i32_w]
          rfl
        refine pure_ (i := 10) (N := some 83) (v := undef) (a' := ?_) #[true, true, true, true, true, true, true, true, true, true, true, false, false, false, false, false, false] rfl rfl (qr HT_.out (by kernel_rfl)) (fun _ _ _ h => h) (Or.inr ⟨by rfl, rfl⟩) ?_ ?_
        rotate_left
        · simp only [Act.put, List.setIfInBounds_toArray, List.set_cons_zero, List.set_cons_succ, i64_w, i32_w]
          rfl
        refine pure_ (i := 11) (N := some 84) (v := ?_) (a' := ?_) #[true, true, true, true, true, true, true, true, true, true, true, true, false, false, false, false, false] rfl rfl (qr HT_.out (by kernel_rfl)) (fun _ _ _ h => h) (Or.inl ⟨by rfl, ?_⟩) ?_ ?_
        rotate_left
        · intro w'
          go_simp
          with_reducible rfl
        rotate_left
        · simp only [Act.put, List.setIfInBounds_toArray, List.set_cons_zero, List.set_cons_succ, i64_w, i32_w]
          rfl
        refine pure_ (i := 12) (N := some 85) (v := ?_) (a' := ?_) #[true, true, true, true, true, true, true, true, true, true, true, true, true, false, false, false, false] rfl rfl (qr HT_.out (by kernel_rfl)) (fun _ _ _ h => h) (Or.inl ⟨by rfl, ?_⟩) ?_ ?_
        rotate_left
        · intro w'
          go_simp
          with_reducible rfl
        rotate_left
        · simp only [Act.put, List.setIfInBounds_toArray, List.set_cons_zero, List.set_cons_succ, i64_w, i32_w]
          rfl
        refine pure_ (i := 13) (N := some 86) (v := undef) (a' := ?_) #[true, true, true, true, true, true, true, true, true, true, true, true, true, true, false, false, false] rfl rfl (qr HT_.out (by kernel_rfl)) (fun _ _ _ h => h) (Or.inr ⟨by rfl, rfl⟩) ?_ ?_
        rotate_left
        · simp only [Act.put, List.setIfInBounds_toArray, List.set_cons_zero, List.set_cons_succ, i64_w, i32_w]
          rfl
        refine pure_ (i := 14) (N := some 87) (v := undef) (a' := ?_) #[true, true, true, true, true, true, true, true, true, true, true, true, true, true, true, false, false] rfl rfl (qr HT_.out (by kernel_rfl)) (fun _ _ _ h => h) (Or.inr ⟨by rfl, rfl⟩) ?_ ?_
        rotate_left
        · simp only [Act.put, List.setIfInBounds_toArray, List.set_cons_zero, List.set_cons_succ, i64_w, i32_w]
          rfl
        refine pure_ (i := 15) (N := some 88) (v := undef) (a' := ?_) #[true, true, true, true, true, true, true, true, true, true, true, true, true, true, true, true, false] rfl rfl (qr HT_.out (by kernel_rfl)) (fun _ _ _ h => h) (Or.inr ⟨by rfl, rfl⟩) ?_ ?_
        rotate_left
        · simp only [Act.put, List.setIfInBounds_toArray, List.set_cons_zero, List.set_cons_succ, i64_w, i32_w]
          rfl
        refine qFC [16] (fun a0_ b a w' => a = putSel a0_ b [(16, 89, .bool true)] ∧ (Below w.heap.size w w') ∧ (Kd.R Kd.string 9 w' w.heap.size (fun _ => True) (.slice (some ad) L.length cw) L) ∧ (Kd.R k61 61 w' w.heap.size (fun _ => True) (.slice Ac s.cs.length cc) s.cs) ∧ (Kd.R (Kd.int .i64) 3 w' w.heap.size (fun _ => True) vd s.ds) ∧ (mapI.Is w' g s.ms)) HT_.out HW_.out (by kernel_rfl) (by kernel_rfl) ?_ ?_ ?_
        · exact ⟨by simp only [putSel, Bool.false_eq_true, if_false], qi B.out, Kd.qI LR.out, Kd.qI C0.out, Kd.qI D0.out, M0.out.drew⟩
        · skip
          clear B C0 D0 LR M0
          refine qV ?_ ?_
          · rintro b a w' ⟨ha, Q_B, Q_LR, Q_C0, Q_D0, Q_M0⟩ hb_ hon hoff
            refine ⟨_, rfl, fun K hK => ?_⟩
            have e85 : a.tmps[85]? = some (.bool true) := by rw [ha]; exact (qZ rfl).trans rfl
            have e88 : a.tmps[88]? = some (undef) := by rw [ha]; exact (qZ rfl).trans rfl
            replace ha := Aside0.mk ha
            have B := Aside0.mk Q_B
            have LR := Aside0.mk Q_LR
            have C0 := Aside0.mk Q_C0
            have D0 := Aside0.mk Q_D0
            have M0 := Aside0.mk Q_M0
            refine qPA (w1 := w') (v := .bool true) (by rfl) rfl ?_ ?_
            · go_simp
              (try simp only [i64_w])
              try rfl
            refine hK.out _ _ ⟨(by rw [ha.out]; exact qX 0 hb_ rfl rfl rfl), Q_B, Q_LR, Q_C0, Q_D0, Q_M0⟩
          exact qTB
        · rintro b a w' hall ⟨ha, Q_B, Q_LR, Q_C0, Q_D0, Q_M0⟩
          clear B C0 D0 LR M0
          have hb16_ := hall 16 (by kernel_rfl)
          subst ha
          simp only [putSel, hb16_, if_true, Act.put, List.setIfInBounds_toArray, List.set_cons_zero, List.set_cons_succ]
          have B := Aside0.mk Q_B
          clear Q_B
          have LR := Aside0.mk Q_LR
          clear Q_LR
          have C0 := Aside0.mk Q_C0
          clear Q_C0
          have D0 := Aside0.mk Q_D0
          clear Q_D0
          have M0 := Aside0.mk Q_M0
          clear Q_M0
          clear hall hb16_
          go_wp2
          go_ret3
          exact ⟨_, _, rfl, Kd.R_nil k61 61 _ _ _, Kd.R_nil (Kd.int .i64) 3 _ _ _, B.out⟩
end P
end Go.Proofs.YtdncpkppkafkpaaDoor
namespace Go.Proofs.YtdncpkppkafkpaaDoor.P
open Go.RowKit Go.Proofs.YtdncpkppkafkpaaDoorW.PrintWords Go.Proofs.YtdncpkppkafkpaaDoorW.PrintLast Go.Proofs.YtdncpkppkafkpaaDoorW.PrintMore
attribute [local go_sem] qq qo qAA qz qg qf qp qn
set_option linter.unusedVariables false
set_option linter.unusedSimpArgs false
def qRA.f (k : Nat) (a0 : ByteArray) : Option (Bool) := (qhA.f k a0).bind fun bt220 => (some bt220.2.2)
set_option maxHeartbeats 8000000 in
set_option maxRecDepth 100000 in
theorem qRA.calls (k : Nat) (a0 : ByteArray) (r : Bool) (w : World) (hL : Laid w) (h : qRA.f k a0 = some r) :
  Calls Tryd.prog 11 #[.string a0] w fun e w' => e = .returned (.bool r) ∧ Below w.heap.size w w' := by
 have HLD := Aside0.mk hL
 clear hL
 have HB := Aside0.mk (Below.refl w.heap.size w)
 have H : ((qhA.f k a0).bind fun bt220 => (some bt220.2.2)) = some r := h
 clear h
 replace H := Option.bind_eq_some_iff.mp H
 obtain ⟨⟨t220, t221, t222⟩, A20, H⟩ := H
 replace H : (some t222) = some r := H
 have A2 := Aside0.mk A20
 clear A20
 obtain rfl := Option.some.inj H
 go_enter Tryd.func11, Tryd.ntmps11
 go_wp2_with (first | ((with_reducible refine qd (f := 33) rfl ?_); refine qSA (some 8) rfl rfl Tryd.func33 (by kernel_rfl) rfl #[.string a0] rfl (by (try simp only [List.map_toArray, List.map_cons, List.map_nil]); first | done | rfl | (simp only [List.length_drop, List.length_take]; rfl)) ?_; (with_reducible refine (qhA.calls k a0 t220 t221 t222 _ ?side1 A2.out).mono ?_); (case side1 => first | exact HLD.out | exact Laid.below HLD.out (by repeat (first | (with_reducible first | exact HB.out | apply qv | apply qBA | apply qi | refine qk ?_ (Aside0.out (by with_reducible assumption))) | exact HB.out))); rintro e w3 ⟨v223, v225, rfl, ho0, ho1, hb⟩; refine ⟨_, rfl, ?_⟩; have n0_ := Aside0.mk (Kd.qHA ho0 (qe bl)); have n1_ := Aside0.mk (Kd.qHA ho1 (qe bl)); have n2_ := Aside0.mk (qL bl hb); clear HB; have HO224 := n0_; have HO226 := n1_; have HB := n2_; clear n0_ n1_ n2_; (try clear hb); (try clear hb2); (try clear hk); (try clear hi); (try clear ho0); (try clear ho1)))
 go_ret
 exact ⟨by first | rfl | (simp [qN, qM] <;> rfl) | (simp [*, qN, qM] <;> rfl), bl⟩
def qx.f (k : Nat) (a0 : ByteArray) : Option (Bool) := if (a0.size : Int) > 1048576 then (some true) else ((qQA.f k a0).bind fun t227 => ((qRA.f k a0).bind fun t228 => (if (t228 != t227) = true then (some false) else (some true))))
set_option maxHeartbeats 8000000 in
set_option maxRecDepth 100000 in
theorem qx.calls (k : Nat) (a0 : ByteArray) (r : Bool) (w : World) (hL : Laid w) (h : qx.f k a0 = some r) :
  Calls Tryd.prog 3 #[.string a0] w fun e w' => e = .returned (.bool r) ∧ Below w.heap.size w w' := by
 have HLD := Aside0.mk hL
 clear hL
 have HB := Aside0.mk (Below.refl w.heap.size w)
 have H : (if (a0.size : Int) > 1048576 then (some true) else ((qQA.f k a0).bind fun t227 => ((qRA.f k a0).bind fun t228 => (if (t228 != t227) = true then (some false) else (some true))))) = some r := h
 clear h
 by_cases c2 : (a0.size : Int) > 1048576
 ·rw [if_pos c2] at H
  have c2b0 : decide (1048576 < (a0.size : Int)) = true := decide_eq_true c2
  have c2b1 : decide (1048576 < a0.size) = true := decide_eq_true (by omega)
  clear c2
  obtain rfl := Option.some.inj H
  go_enter Tryd.func3, Tryd.ntmps3
  go_wp2
  go_ret
  exact ⟨by first | rfl | (simp [qN, qM] <;> rfl) | (simp [*, qN, qM] <;> rfl), bl⟩
 ·rw [if_neg c2] at H
  have c2b0 : decide (1048576 < (a0.size : Int)) = false := decide_eq_false c2
  have c2b1 : decide (1048576 < a0.size) = false := decide_eq_false (by omega)
  clear c2
  replace H := Option.bind_eq_some_iff.mp H
  obtain ⟨t227, A30, H⟩ := H
  replace H : ((qRA.f k a0).bind fun t228 => (if (t228 != t227) = true then (some false) else (some true))) = some r := H
  have A3 := Aside0.mk A30
  clear A30
  replace H := Option.bind_eq_some_iff.mp H
  obtain ⟨t228, A40, H⟩ := H
  replace H : (if (t228 != t227) = true then (some false) else (some true)) = some r := H
  have A4 := Aside0.mk A40
  clear A40
  by_cases c5 : (t228 != t227) = true
  ·rw [if_pos c5] at H
   have c5b0 : (t228 != t227) = true := c5
   (try (have c5b1 : decide (t228 = t227) = false := by simpa using c5))
   (try (have c5b2 : (t228 == t227) = false := by simpa using c5))
   (try (have c5b3 : ¬ (t228 = t227) := by simpa using c5))
   clear c5
   obtain rfl := Option.some.inj H
   go_enter Tryd.func3, Tryd.ntmps3
   go_wp2_with (first | ((with_reducible refine qd (f := 10) rfl ?_); refine qSA (some 9) rfl rfl Tryd.func10 (by kernel_rfl) rfl #[.string a0] rfl (by (try simp only [List.map_toArray, List.map_cons, List.map_nil]); first | done | rfl | (simp only [List.length_drop, List.length_take]; rfl)) ?_; (with_reducible refine (qQA.calls k a0 t227 _ A3.out).mono ?_); rintro e w6 ⟨rfl, hb⟩; refine ⟨_, rfl, ?_⟩; have n0_ := Aside0.mk (qL bl hb); clear HB; have HB := n0_; clear n0_; (try clear hb); (try clear hb2); (try clear hk); (try clear hi)) | ((with_reducible refine qd (f := 11) rfl ?_); refine qSA (some 11) rfl rfl Tryd.func11 (by kernel_rfl) rfl #[.string a0] rfl (by (try simp only [List.map_toArray, List.map_cons, List.map_nil]); first | done | rfl | (simp only [List.length_drop, List.length_take]; rfl)) ?_; (with_reducible refine (qRA.calls k a0 t228 _ ?side1 A4.out).mono ?_); (case side1 => first | exact HLD.out | exact Laid.below HLD.out (by repeat (first | (with_reducible first | exact HB.out | apply qv | apply qBA | apply qi | refine qk ?_ (Aside0.out (by with_reducible assumption))) | exact HB.out))); rintro e w7 ⟨rfl, hb⟩; refine ⟨_, rfl, ?_⟩; have n0_ := Aside0.mk (qL bl hb); clear HB; have HB := n0_; clear n0_; (try clear hb); (try clear hb2); (try clear hk); (try clear hi)))
   go_ret
   exact ⟨by first | rfl | (simp [qN, qM] <;> rfl) | (simp [*, qN, qM] <;> rfl), bl⟩
  ·rw [if_neg c5] at H
   have c5b0 : (t228 != t227) = false := by simpa using c5
   (try (have c5b1 : decide (t228 = t227) = true := by simpa using c5))
   (try (have c5b2 : (t228 == t227) = true := by simpa using c5))
   clear c5
   obtain rfl := Option.some.inj H
   go_enter Tryd.func3, Tryd.ntmps3
   go_wp2_with (first | ((with_reducible refine qd (f := 10) rfl ?_); refine qSA (some 9) rfl rfl Tryd.func10 (by kernel_rfl) rfl #[.string a0] rfl (by (try simp only [List.map_toArray, List.map_cons, List.map_nil]); first | done | rfl | (simp only [List.length_drop, List.length_take]; rfl)) ?_; (with_reducible refine (qQA.calls k a0 t227 _ A3.out).mono ?_); rintro e w8 ⟨rfl, hb⟩; refine ⟨_, rfl, ?_⟩; have n0_ := Aside0.mk (qL bl hb); clear HB; have HB := n0_; clear n0_; (try clear hb); (try clear hb2); (try clear hk); (try clear hi)) | ((with_reducible refine qd (f := 11) rfl ?_); refine qSA (some 11) rfl rfl Tryd.func11 (by kernel_rfl) rfl #[.string a0] rfl (by (try simp only [List.map_toArray, List.map_cons, List.map_nil]); first | done | rfl | (simp only [List.length_drop, List.length_take]; rfl)) ?_; (with_reducible refine (qRA.calls k a0 t228 _ ?side1 A4.out).mono ?_); (case side1 => first | exact HLD.out | exact Laid.below HLD.out (by repeat (first | (with_reducible first | exact HB.out | apply qv | apply qBA | apply qi | refine qk ?_ (Aside0.out (by with_reducible assumption))) | exact HB.out))); rintro e w9 ⟨rfl, hb⟩; refine ⟨_, rfl, ?_⟩; have n0_ := Aside0.mk (qL bl hb); clear HB; have HB := n0_; clear n0_; (try clear hb); (try clear hb2); (try clear hk); (try clear hi)))
   go_ret
   exact ⟨by first | rfl | (simp [qN, qM] <;> rfl) | (simp [*, qN, qM] <;> rfl), bl⟩
def qx.Pure : Prop := ∀ (a0 : ByteArray), a0.size ≤ 140737488351232 → ∃ k, qx.f k a0 = some true
end Go.Proofs.YtdncpkppkafkpaaDoor.P
