/- The program's MirrorNet returns what the reference's returns, for all texts (the law lets longer texts by). No further condition. -/
import Derived.Test.YtdncpkppkafkpaaGreatDoorKFnExactMirrorNet2
import Derived.Maps.OwnSet
import Derived.DeepKeys4
import Derived.KernelRfl
import Derived.Maps.Keyed
import Derived.Shelf.SlGeneric
import Derived.Shelf.Small.Strs
import Derived.Shelf.Strings.Search1
import Derived.Ground.NamesProg
import Derived.Shelf.Strings.OnBuilder
import Derived.Shelf.Strings.Split
import Derived.Shelf.Strings.Count
import Derived.Shelf.Strings.SlTrimAscii
import Derived.Test.YtdncpkppkafkpaaGreatDoorProg
import Derived.Lib.Strings
import Derived.Lib.SplitLaws

namespace Go.Proofs.YtdncpkppkafkpaaGreatDoor.P
open Go.RowKit Go.Proofs.YtdncpkppkafkpaaGreatDoorW.PrintWords Go.Proofs.YtdncpkppkafkpaaGreatDoorW.PrintLast Go.Proofs.YtdncpkppkafkpaaGreatDoorW.PrintMore
attribute [local go_sem] qw qu qHA qGA qj qi qv qt
set_option linter.unusedVariables false
set_option linter.unusedSimpArgs false
mutual
def qF.l0 : Nat → List (S75) → List Int → List Int → Int → Int → Option (List Int × List Int)
 | 0, _, _, _, _, _ => none
 | k + 1, x0, x15, x18, x20, x21 => if x21 < x20 then (if 0 ≤ x21 then (if x21 < (x18.length : Int) then (qF.l0 k x0 x15 (x18.set (x21 : Int).toNat (-1)) x20 (wrap64 (x21 + 1))) else (none)) else (none)) else (if 0 ≤ (x0.length : Int) then (if ((x0.length : Int) : Int).toNat ≤ 5864062014805 then ((some (List.replicate ((x0.length : Int) : Int).toNat z53 : List (S53))).bind fun y271 => ((qKB.f).bind fun bt277 => (if 0 < (y271.length : Int) then (if 0 < (x15.length : Int) then (if 0 < (x18.length : Int) then (qF.l1 k x0 (([0] : List Int)) 0 (x15.set (0 : Int).toNat 5) (x18.set (0 : Int).toNat 0) (y271.set (0 : Int).toNat (⟨bt277.1, bt277.2.1, bt277.2.2.1, bt277.2.2.2.1, bt277.2.2.2.2.1, bt277.2.2.2.2.2⟩ : S53))) else (none)) else (none)) else (none)))) else (none)) else (none))
def qF.l1 : Nat → List (S75) → List Int → Int → List Int → List Int → List (S53) → Option (List Int × List Int)
 | 0, _, _, _, _, _, _ => none
 | k + 1, x0, x8, x9, x15, x18, x30 => if x9 < (x8.length : Int) then (if 0 ≤ x9 then (qF.l2 k x0 x8 x9 (rd x8 x9) x15 x18 x30 0) else (none)) else (some (x15, x18))
def qF.l2 : Nat → List (S75) → List Int → Int → Int → List Int → List Int → List (S53) → Int → Option (List Int × List Int)
 | 0, _, _, _, _, _, _, _, _ => none
 | k + 1, x0, x8, x9, x10, x15, x18, x30, x49 => if x49 < 4 then (if 0 ≤ x10 then (if x10 < (x0.length : Int) then (if 0 ≤ x49 then ((qCB.f ((qBA x0 x10).f0) ((qBA x0 x10).f1) (bt (⟨#[110, 101, 115, 119]⟩ : ByteArray) x49)).bind fun bt289 => ((qLA.f k x0 bt289.1 bt289.2).bind fun t291 => (if t291 < 0 then (qF.l2 k x0 x8 x9 x10 x15 x18 x30 (wrap64 (x49 + 1))) else (if 0 ≤ t291 then (if t291 < (x18.length : Int) then (if (rd x18 t291) ≥ 0 then (qF.l2 k x0 x8 x9 x10 x15 x18 x30 (wrap64 (x49 + 1))) else (if x10 < (x30.length : Int) then ((qPA.f ((qZ x30 x10).f0) ((qZ x30 x10).f1) ((qZ x30 x10).f2) ((qZ x30 x10).f3) ((qZ x30 x10).f4) ((qZ x30 x10).f5) (bt (⟨#[110, 101, 115, 119]⟩ : ByteArray) x49)).bind fun bt294 => (if x10 < (x18.length : Int) then (if t291 < (x30.length : Int) then (if t291 < (x15.length : Int) then (if x8.length < 17592186044416 then (qF.l2 k x0 (x8 ++ [t291]) x9 x10 (x15.set (t291 : Int).toNat bt294.2.2.2.2.2) (x18.set (t291 : Int).toNat (wrap64 ((rd x18 x10) + 1))) (x30.set (t291 : Int).toNat (⟨bt294.1, bt294.2.1, bt294.2.2.1, bt294.2.2.2.1, bt294.2.2.2.2.1, bt294.2.2.2.2.2⟩ : S53)) (wrap64 (x49 + 1))) else (none)) else (none)) else (none)) else (none))) else (none))) else (none)) else (none))))) else (none)) else (none)) else (none)) else (qF.l1 k x0 x8 (wrap64 (x9 + 1)) x15 x18 x30)
end
def qF.f (k : Nat) (l0 : List (S75)) : Option (List Int × List Int) := if 0 ≤ (l0.length : Int) then (if ((l0.length : Int) : Int).toNat ≤ 35184372088832 then ((some (List.replicate ((l0.length : Int) : Int).toNat 0 : List Int)).bind fun y267 => (qF.l0 k l0 (List.replicate ((l0.length : Int) : Int).toNat 0) y267 (y267.length : Int) 0)) else (none)) else (none)
def qF.T1 : Bool × List (List Nat × List Nat) := (true, [([], []), ([0], [0]), ([1, 1], [1]), ([], []), ([3], [3]), ([4, 4], [4]), ([2, 0, 1, 2], [2]), ([5, 6, 0, 1, 2, 3, 4, 5, 6], [5])])
def qF.B1 : List Nat := [0, 1, 3, 0, 8, 24, 7, 127]
theorem qF.tab1 : rtab .any (opsOf Tryz.f37 1) = qF.T1 := by kernel_rfl
theorem qF.bits1 : waitsOk qF.T1.2 qF.B1 = true := by kernel_rfl
def qF.T16 : Bool × List (List Nat × List Nat) := (true, [([], []), ([], []), ([], []), ([1, 2], [1, 2]), ([3], [3]), ([4], [4]), ([], []), ([], []), ([6, 7], [6, 7]), ([8], [8]), ([9], [9]), ([], []), ([11], [11]), ([5, 10, 12], [5, 10, 12]), ([13], [13]), ([13], [13]), ([0, 14, 15, 13], [0, 14, 15]), ([16, 16, 0, 1, 2, 3, 4, 5, 6, 7, 8, 9, 10, 11, 12, 13, 14, 15, 16], [16])])
def qF.B16 : List Nat := [0, 0, 0, 6, 14, 30, 0, 0, 192, 448, 960, 0, 2048, 8190, 16382, 16382, 65535, 131071]
theorem qF.tab16 : rtab .any (opsOf Tryz.f37 16) = qF.T16 := by kernel_rfl
theorem qF.bits16 : waitsOk qF.T16.2 qF.B16 = true := by kernel_rfl
def qF.T18 : Bool × List (List Nat × List Nat) := (true, [([], []), ([], []), ([], []), ([], []), ([], []), ([], []), ([4, 5], [4, 5]), ([6], [6]), ([], []), ([8], [8]), ([7, 9], [7, 9]), ([], []), ([], []), ([11, 12], [11, 12]), ([13], [13]), ([14], [14]), ([0, 1, 0, 1, 4, 5, 6, 7, 8, 9, 10, 14], [0, 1]), ([16, 10, 10, 0, 1, 4, 5, 6, 7, 8, 9, 10, 14], [10, 16]), ([2, 3, 0, 1, 2, 3, 4, 5, 6, 7, 8, 9, 10, 11, 12, 13, 14, 15, 16, 17], [2, 3]), ([18, 15, 17, 0, 1, 2, 3, 4, 5, 6, 7, 8, 9, 10, 11, 12, 13, 14, 15, 16, 17], [15, 18])])
def qF.B18 : List Nat := [0, 0, 0, 0, 0, 0, 48, 112, 0, 256, 1008, 0, 0, 6144, 14336, 30720, 32755, 98291, 262143, 524287]
theorem qF.tab18 : rtab .any (opsOf Tryz.f37 18) = qF.T18 := by kernel_rfl
theorem qF.bits18 : waitsOk qF.T18.2 qF.B18 = true := by kernel_rfl
set_option maxHeartbeats 8000000 in
set_option maxRecDepth 100000 in
theorem qF.calls (k : Nat) (A0 : Option Addr) (c0 : Nat) (l0 : List (S75)) (r1 : List Int) (r2 : List Int) (w : World) (hr0 : Kd.C k75 w A0 l0.length l0) (hc0 : l0.length ≤ c0) (h : qF.f k l0 = some (r1, r2)) :
  Calls Tryz.prog 37 #[.slice A0 l0.length c0] w fun e w' => ∃ v0_ v1_ : Value, e = .returned (.tuple #[v0_, v1_]) ∧ Kd.R (Kd.int .i64) 3 w' w.heap.size (fun k_ => some k_ ≠ (v1_ : Value).ownBlock) v0_ r1 ∧ Kd.R (Kd.int .i64) 3 w' w.heap.size (fun k_ => some k_ ≠ (v0_ : Value).ownBlock) v1_ r2 ∧ Below w.heap.size w w' := by
 have hu53 := Tryz.underlying53
 have HR0 := Aside0.mk hr0
 have HC0 := Aside0.mk hc0
 clear hr0 hc0
 have HB := Aside0.mk (Below.refl w.heap.size w)
 have H : (if 0 ≤ (l0.length : Int) then (if ((l0.length : Int) : Int).toNat ≤ 35184372088832 then ((some (List.replicate ((l0.length : Int) : Int).toNat 0 : List Int)).bind fun y267 => (qF.l0 k l0 (List.replicate ((l0.length : Int) : Int).toNat 0) y267 (y267.length : Int) 0)) else (none)) else (none)) = some (r1, r2) := h
 clear h
 by_cases c2 : 0 ≤ (l0.length : Int)
 ·rw [if_pos c2] at H
  have c2b0 := eq_true c2
  have c2b1 : decide (0 ≤ (l0.length : Int)) = true := decide_eq_true c2
  clear c2
  by_cases c3 : ((l0.length : Int) : Int).toNat ≤ 35184372088832
  ·rw [if_pos c3] at H
   have c3b0 := eq_true c3
   have c3b1 : decide (((l0.length : Int) : Int).toNat ≤ 35184372088832) = true := decide_eq_true c3
   clear c3
   obtain ⟨y264, hy264⟩ : ∃ y_ : List Int, y_ = (List.replicate ((l0.length : Int) : Int).toNat 0) := ⟨_, rfl⟩
   replace H : ((some (List.replicate ((l0.length : Int) : Int).toNat 0 : List Int)).bind fun y267 => (qF.l0 k l0 y264 y267 (y267.length : Int) 0)) = some (r1, r2) := by first | (rw [hy264]; with_reducible exact H) | (have H2_ := (Option.bind_some _ _).symm.trans H; rw [hy264]; with_reducible exact H2_) | (have H2_ := (Option.bind_some _ _).symm.trans H; with_reducible exact H2_) | with_reducible exact H | (rw [hy264]; exact H) | exact H
   have Ny264 := Aside0.mk hy264
   clear hy264
   obtain ⟨y267, hy267⟩ : ∃ y_ : List Int, y_ = (List.replicate ((l0.length : Int) : Int).toNat 0) := ⟨_, rfl⟩
   replace H : (qF.l0 k l0 y264 y267 (y267.length : Int) 0) = some (r1, r2) := by first | (rw [hy267]; with_reducible exact H) | (have H2_ := (Option.bind_some _ _).symm.trans H; rw [hy267]; with_reducible exact H2_) | (have H2_ := (Option.bind_some _ _).symm.trans H; with_reducible exact H2_) | with_reducible exact H | (rw [hy267]; exact H) | exact H
   have Ny267 := Aside0.mk hy267
   clear hy267
   have H' := Aside0.mk H
   clear H
   go_enter Tryz.func37, Tryz.ntmps37
   try go_wp2
   have n0_ := Aside0.mk (qh HB.out)
   clear HB
   have HB := n0_
   clear n0_
   refine qxA (n := 8) (S := fun w' => True) (ds := []) #[false, false, false, false, false, false, false, false] (by kernel_rfl) rfl rfl trivial (fun hHeld => ?_); refine qNA qF.tab1 qF.bits1 (fun HT_ HW_ => ?_)
   generalize w.drew = w4 at HB hHeld ⊢
   refine pS (i := 0) (N := some 13) #[true, false, false, false, false, false, false, false] HT_ ?_
   refine pS (i := 1) (N := some 14) #[true, true, false, false, false, false, false, false] HT_ ?_
   refine pS (i := 3) (N := some 16) #[true, true, false, true, false, false, false, false] HT_ ?_
   refine pS (i := 4) (N := some 17) #[true, true, false, true, true, false, false, false] HT_ ?_
   refine join_ (σ := Value × Value) 1 #[true, true, true, true, true, true, true, false] (fun s_ => [(15, s_.1), (18, s_.2), (4, s_.1)]) (fun s_ w' => (Kd.R (Kd.int .i64) 3 w' w.heap.size (fun k_ => some k_ ≠ (s_.2 : Value).ownBlock) s_.1 y264) ∧ (Kd.R (Kd.int .i64) 3 w' w.heap.size (fun k_ => some k_ ≠ (s_.1 : Value).ownBlock) s_.2 y267) ∧ (Below w.heap.size w w')) ?_ ?_
   rotate_left
   ·intro hCont
    refine two_ (i := 2) (j := 5) (Ni := some 15) (Nj := some 18) #[true, true, true, true, true, false, false, false] #[true, true, false, true, true, true, false, false] rfl rfl rfl rfl (two_of HT_.out (by kernel_rfl)) (by decide) (by decide) (fun K hK => ?_) (fun K hK => ?_)
    ·skip
     refine Kd.qgB (Kd.int .i64) _ 3 (by rfl) (N := 15) rfl 28 _ _ rfl (l0.length : Int) rfl rfl Tryz.underlying28 (.int .i64 0) 8 info3 rfl (by decide) (by omega) 0 (ok := fun _ => True) (okp := fun _ => True) rfl (fun _ hk => hk) trivial (of_decide_eq_true (by first | (with_reducible assumption) | assumption)) (Nat.le_trans (Nat.mul_le_mul_right _ (of_decide_eq_true (by first | (with_reducible assumption) | assumption) : (l0.length : Int).toNat ≤ 35184372088832)) (by omega)) (Below.refl _ _) (Nat.le_refl _) ?_
     intro v265 w5 ho6 hb hg_ hnew_
     clear hg_ hnew_
     (first | rw [← Ny264.out] at ho6 | (simp only [Int.reduceToNat] at ho6; rw [← Ny264.out] at ho6))
     have n0_ := Aside0.mk (Kd.qAA ho6 (qa bl))
     have n1_ := Aside0.mk (qK bl hb)
     clear HB
     have HO266 := n0_
     have HB := n1_
     clear n0_ n1_
     clear hb ho6
     refine hK.out _ _ trivial (fun hHeld => ?_)
     clear hK K
     refine norm_ (a' := ?_) ?_ ?_
     rotate_left
     ·show Act.put _ (some 15) _ = _
      simp only [Act.put, List.setIfInBounds_toArray, List.set_cons_zero, List.set_cons_succ, i64_w, i32_w]
      rfl
     refine pS (i := 6) (N := some 4) #[true, true, true, true, true, false, true, false] HT_ ?_
     refine one_ (i := 5) (N := some 18) #[true, true, true, true, true, true, true, false] rfl rfl (qjA HT_.out (by kernel_rfl)) (by decide) (fun K hK => ?_)
     refine Kd.qgB (Kd.int .i64) _ 3 (by rfl) (N := 18) rfl 28 _ _ rfl (l0.length : Int) rfl rfl Tryz.underlying28 (.int .i64 0) 8 info3 rfl (by decide) (by omega) 0 (ok := fun _ => True) (okp := fun _ => True) rfl (fun _ hk => hk) trivial (of_decide_eq_true (by first | (with_reducible assumption) | assumption)) (Nat.le_trans (Nat.mul_le_mul_right _ (of_decide_eq_true (by first | (with_reducible assumption) | assumption) : (l0.length : Int).toNat ≤ 35184372088832)) (by omega)) (Below.refl _ _) (Nat.le_refl _) ?_
     intro v268 w7 ho8 hb hg_ hnew_
     clear hg_ hnew_
     (first | rw [← Ny267.out] at ho8 | (simp only [Int.reduceToNat] at ho8; rw [← Ny267.out] at ho8))
     have n0_ := Aside0.mk (Kd.quA (by (with_reducible repeat (first | apply Kd.qG | apply Kd.qH | apply Kd.qI)); exact HO266.out) (Kd.qZB ho8) hb)
     have n1_ := Aside0.mk (Kd.qAA (Kd.qYB ho8 (Kd.R_lt (by (with_reducible repeat (first | apply Kd.qG | apply Kd.qH | apply Kd.qI)); exact HO266.out))) (qa bl))
     have n2_ := Aside0.mk (qK bl hb)
     clear HO266
     clear HB
     have HO266 := n0_
     have HO269 := n1_
     have HB := n2_
     clear n0_ n1_ n2_
     clear hb ho8
     refine hK.out _ _ trivial (fun hHeld => ?_)
     clear hK K
     refine norm_ (a' := ?_) ?_ ?_
     rotate_left
     ·show Act.put _ (some 18) _ = _
      simp only [Act.put, List.setIfInBounds_toArray, List.set_cons_zero, List.set_cons_succ, i64_w, i32_w]
      rfl
     exact norm_ (by simp only [putAll, Act.put, List.setIfInBounds_toArray, List.set_cons_zero, List.set_cons_succ]) (hCont (v265, v268) _ ⟨(by (with_reducible repeat (first | apply Kd.qG | apply Kd.qH | apply Kd.qI)); exact Kd.qf HO266.out (fun _ hk => hk.2)), (by (with_reducible repeat (first | apply Kd.qG | apply Kd.qH | apply Kd.qI)); exact Kd.qf HO269.out (fun _ hk => hk.2)), bl⟩)
    ·skip
     refine Kd.qgB (Kd.int .i64) _ 3 (by rfl) (N := 18) rfl 28 _ _ rfl (l0.length : Int) rfl rfl Tryz.underlying28 (.int .i64 0) 8 info3 rfl (by decide) (by omega) 0 (ok := fun _ => True) (okp := fun _ => True) rfl (fun _ hk => hk) trivial (of_decide_eq_true (by first | (with_reducible assumption) | assumption)) (Nat.le_trans (Nat.mul_le_mul_right _ (of_decide_eq_true (by first | (with_reducible assumption) | assumption) : (l0.length : Int).toNat ≤ 35184372088832)) (by omega)) (Below.refl _ _) (Nat.le_refl _) ?_
     intro v268 w5 ho6 hb hg_ hnew_
     clear hg_ hnew_
     (first | rw [← Ny267.out] at ho6 | (simp only [Int.reduceToNat] at ho6; rw [← Ny267.out] at ho6))
     have n0_ := Aside0.mk (Kd.qAA ho6 (qa bl))
     have n1_ := Aside0.mk (qK bl hb)
     clear HB
     have HO269 := n0_
     have HB := n1_
     clear n0_ n1_
     clear hb ho6
     refine hK.out _ _ trivial (fun hHeld => ?_)
     clear hK K
     refine norm_ (a' := ?_) ?_ ?_
     rotate_left
     ·show Act.put _ (some 18) _ = _
      simp only [Act.put, List.setIfInBounds_toArray, List.set_cons_zero, List.set_cons_succ, i64_w, i32_w]
      rfl
     refine one_ (i := 2) (N := some 15) #[true, true, true, true, true, true, false, false] rfl rfl (qjA HT_.out (by kernel_rfl)) (by decide) (fun K hK => ?_)
     refine Kd.qgB (Kd.int .i64) _ 3 (by rfl) (N := 15) rfl 28 _ _ rfl (l0.length : Int) rfl rfl Tryz.underlying28 (.int .i64 0) 8 info3 rfl (by decide) (by omega) 0 (ok := fun _ => True) (okp := fun _ => True) rfl (fun _ hk => hk) trivial (of_decide_eq_true (by first | (with_reducible assumption) | assumption)) (Nat.le_trans (Nat.mul_le_mul_right _ (of_decide_eq_true (by first | (with_reducible assumption) | assumption) : (l0.length : Int).toNat ≤ 35184372088832)) (by omega)) (Below.refl _ _) (Nat.le_refl _) ?_
     intro v265 w7 ho8 hb hg_ hnew_
     clear hg_ hnew_
     (first | rw [← Ny264.out] at ho8 | (simp only [Int.reduceToNat] at ho8; rw [← Ny264.out] at ho8))
     have n0_ := Aside0.mk (Kd.quA (by (with_reducible repeat (first | apply Kd.qG | apply Kd.qH | apply Kd.qI)); exact HO269.out) (Kd.qZB ho8) hb)
     have n1_ := Aside0.mk (Kd.qAA (Kd.qYB ho8 (Kd.R_lt (by (with_reducible repeat (first | apply Kd.qG | apply Kd.qH | apply Kd.qI)); exact HO269.out))) (qa bl))
     have n2_ := Aside0.mk (qK bl hb)
     clear HO269
     clear HB
     have HO269 := n0_
     have HO266 := n1_
     have HB := n2_
     clear n0_ n1_ n2_
     clear hb ho8
     refine hK.out _ _ trivial (fun hHeld => ?_)
     clear hK K
     refine norm_ (a' := ?_) ?_ ?_
     rotate_left
     ·show Act.put _ (some 15) _ = _
      simp only [Act.put, List.setIfInBounds_toArray, List.set_cons_zero, List.set_cons_succ, i64_w, i32_w]
      rfl
     refine pS (i := 6) (N := some 4) #[true, true, true, true, true, true, true, false] HT_ ?_
     exact norm_ (by simp only [putAll, Act.put, List.setIfInBounds_toArray, List.set_cons_zero, List.set_cons_succ]) (hCont (v265, v268) _ ⟨(by (with_reducible repeat (first | apply Kd.qG | apply Kd.qH | apply Kd.qI)); exact Kd.qf HO266.out (fun _ hk => hk.2)), (by (with_reducible repeat (first | apply Kd.qG | apply Kd.qH | apply Kd.qI)); exact Kd.qf HO269.out (fun _ hk => hk.2)), bl⟩)
   rintro ⟨v265, v268⟩ w9 ⟨h0_, h1_, h2_⟩
   have n0_ : Aside0 (Kd.R (Kd.int .i64) 3 w9 w.heap.size (fun k_ => some k_ ≠ (v268 : Value).ownBlock) v265 y264) := ⟨h0_⟩
   have n1_ : Aside0 (Kd.R (Kd.int .i64) 3 w9 w.heap.size (fun k_ => some k_ ≠ (v265 : Value).ownBlock) v268 y267) := ⟨h1_⟩
   have n2_ : Aside0 (Below w.heap.size w w9) := ⟨h2_⟩
   clear HB
   clear h0_ h1_ h2_
   have HO266 := n0_
   have HO269 := n1_
   have HB := n2_
   clear n0_ n1_ n2_
   have hHeld := trivial
   refine norm_ (a' := ?_) ?_ ?_
   rotate_left
   ·simp only [putAll, Act.put, List.setIfInBounds_toArray, List.set_cons_zero, List.set_cons_succ]
    rfl
   refine pS (i := 7) (N := some 5) #[true, true, true, true, true, true, true, true] HT_ ?_
   refine done_ (qvA HT_.out (by kernel_rfl)) ?_
   obtain ⟨Ao10, co10, eo10⟩ := Kd.qp HO269.out
   subst eo10
   try go_wp2
   go_loopg [21] k (fun kq v21 w' => ∃ (x18_1 : List Int) (x21_1 : Int), v21 = .int .i64 x21_1 ∧ Aside0 (qF.l0 kq l0 y264 x18_1 (y267.length : Int) x21_1 = some (r1, r2)) ∧ Aside0 (kq ≤ k) ∧ Aside0 (Kd.R (Kd.int .i64) 3 w' w.heap.size (fun k_ => some k_ ≠ ((.slice Ao10 y267.length co10) : Value).ownBlock) v265 y264) ∧ Aside0 (Kd.R (Kd.int .i64) 3 w' w.heap.size (fun k_ => some k_ ≠ (v265 : Value).ownBlock) (.slice Ao10 y267.length co10) x18_1) ∧ Aside0 (Below w.heap.size w w'))
   case atStart => exact ⟨(y267), (0), (by first | rfl | (simp; done) | (simp [*]; done)), H', ⟨Nat.le_refl _⟩, ⟨by (with_reducible repeat (first | apply Kd.qG | apply Kd.qH | apply Kd.qI)); exact HO266.out⟩, ⟨by (with_reducible repeat (first | apply Kd.qG | apply Kd.qH | apply Kd.qI)); exact HO269.out⟩, ⟨bl⟩⟩
   case round =>
    clear H'
    try clear c2
    try clear c2b0
    try clear c2b1
    try clear p2
    try clear c3
    try clear c3b0
    try clear c3b1
    obtain ⟨x18_1, x21_1, rfl, HA, HK1, HO_15, HO_18, HB⟩ := hrel
    have hl18_1 := (Kd.qQ HO_18.out).1
    rw [hl18_1] at HO_18
    (try simp only [hl18_1])
    (try simp only [hl18_1] at HO_15)
    cases gk with
    | zero => exact absurd HA.out (by simp [qF.l0])
    | succ k1 =>
     have H := HA.out
     clear HA
     simp only [qF.l0] at H
     by_cases c11 : x21_1 < (y267.length : Int)
     ·rw [if_pos c11] at H
      have c11b0 : decide (x21_1 < (y267.length : Int)) = true := decide_eq_true c11
      (try (have c11b0_hl18_1 := c11b0; simp only [hl18_1] at c11b0_hl18_1))
      clear c11
      by_cases c12 : 0 ≤ x21_1
      ·rw [if_pos c12] at H
       have c12b0 : decide (0 ≤ x21_1) = true := decide_eq_true c12
       clear c12
       by_cases c13 : x21_1 < (x18_1.length : Int)
       ·rw [if_pos c13] at H
        have c13b0 : decide (x21_1 < (x18_1.length : Int)) = true := decide_eq_true c13
        (try (have c13b0_hl18_1 := c13b0; simp only [hl18_1] at c13b0_hl18_1))
        clear c13
        obtain ⟨y270, hy270⟩ : ∃ y_ : List Int, y_ = (x18_1.set (x21_1 : Int).toNat (-1)) := ⟨_, rfl⟩
        replace H : (qF.l0 k1 l0 y264 y270 (y267.length : Int) (wrap64 (x21_1 + 1))) = some (r1, r2) := by first | (rw [hy270]; with_reducible exact H) | (have H2_ := (Option.bind_some _ _).symm.trans H; rw [hy270]; with_reducible exact H2_) | (have H2_ := (Option.bind_some _ _).symm.trans H; with_reducible exact H2_) | with_reducible exact H | (rw [hy270]; exact H) | exact H
        have Ny270 := Aside0.mk hy270
        clear hy270
        have H' := Aside0.mk H
        clear H
        have p14 : 0 ≤ (x21_1 : Int) := of_decide_eq_true (by first | (with_reducible assumption) | assumption)
        have q14 : (x21_1 : Int) < ((x18_1.length : Int) : Int) := of_decide_eq_true (by first | (with_reducible assumption) | assumption)
        obtain ⟨go14, co14, eo14, gb14, gl14, cl14, HG14⟩ := Kd.qkB HO_18.out (by omega)
        (first | cases eo14 | (injection eo14 with ea_ en_ ec_; (first | subst ea_ | (injection ea_ with ea_; subst ea_)); subst ec_; clear en_))
        have GB14 := Aside0.mk gb14
        have GG14 := Aside0.mk HG14
        clear gb14 gl14 HG14
        obtain ⟨hx14_0, hf14_0⟩ := Kd.qhA 0 HO_18.out (x21_1 : Int) p14 q14
        replace p14 := eq_true p14
        replace q14 := eq_true q14
        have HP15 := Kd.qnB HO_18.out (x21_1 : Int) (-1)
        go_wp2_with (first | ((with_reducible refine qeA (t := 3) (p := 26) rfl ?_); refine qUA (t := 3) (p := 26) (v := ?vo_w16) (w1 := (wr.setCell ⟨go14, (x21_1 : Int).toNat, none⟩ (.int .i64 (-1)))) ?hg ?ho ?hn ?hr ?_; (case ho => rfl); (case hg => rfl); (case hn => rfl); (case hr => first | (go_simp; done) | (go_simp; rfl)); intro w16 hw; have hg : wr.grownBy w16 (some go14) := (by rw [hw]; exact HP15.2); have hp_ : Kd.R (Kd.int .i64) 3 w16 w.heap.size (fun k_ => some k_ ≠ (v265 : Value).ownBlock) (.slice (some ⟨go14, 0, none⟩) x18_1.length co10) y270 := (by rw [hw, Ny270.out]; exact HP15.1); clear HP15; have n0_ := Aside0.mk (Kd.qsA (v := (.slice (some ⟨go14, 0, none⟩) x18_1.length co10)) (v1 := (.slice (some ⟨go14, 0, none⟩) x18_1.length co10)) (ok := (fun _ => True)) (by (with_reducible repeat (first | apply Kd.qG | apply Kd.qH | apply Kd.qI)); exact Kd.qf HO_15.out (fun _ hk => ⟨trivial, hk⟩)) hg (.inl rfl)); have n1_ := Aside0.mk (hp_); have n2_ := Aside0.mk ((by rw [hw]; exact qe (HB.out) GB14.out : Below w.heap.size w w16)); clear HO_15; clear HO_18; clear HB; have HO_15 := n0_; have HO_18 := n1_; have HB := n2_; clear n0_ n1_ n2_; clear hg hw hp_))
        (try simp only [← hl18_1])
        go_roundg k1
        case measure => have := HK1.out; omega
        case rel => exact ⟨(y270), (wrap64 (x21_1 + 1)), (by first | rfl | (simp; done) | (simp [*]; done)), H', ⟨by have := HK1.out; omega⟩, ⟨by (try simp only [hl18_1]); (with_reducible repeat (first | apply Kd.qG | apply Kd.qH | apply Kd.qI)); exact Kd.qf HO_15.out (fun _ hk => hk.2)⟩, ⟨by (try simp only [hl18_1]); (with_reducible repeat (first | apply Kd.qG | apply Kd.qH | apply Kd.qI)); exact HO_18.out⟩, ⟨bl⟩⟩
       ·rw [if_neg c13] at H
        exact absurd H (by simp)
      ·rw [if_neg c12] at H
       exact absurd H (by simp)
     ·rw [if_neg c11] at H
      have c11b0 : decide (x21_1 < (y267.length : Int)) = false := decide_eq_false c11
      (try (have c11b0_hl18_1 := c11b0; simp only [hl18_1] at c11b0_hl18_1))
      clear c11
      by_cases c17 : 0 ≤ (l0.length : Int)
      ·rw [if_pos c17] at H
       have c17b0 := eq_true c17
       have c17b1 : decide (0 ≤ (l0.length : Int)) = true := decide_eq_true c17
       (try (have c17b1_hl18_1 := c17b1; simp only [hl18_1] at c17b1_hl18_1))
       clear c17
       by_cases c18 : ((l0.length : Int) : Int).toNat ≤ 5864062014805
       ·rw [if_pos c18] at H
        have c18b0 := eq_true c18
        have c18b1 : decide (((l0.length : Int) : Int).toNat ≤ 5864062014805) = true := decide_eq_true c18
        clear c18
        obtain ⟨y271, hy271⟩ : ∃ y_ : List (S53), y_ = (List.replicate ((l0.length : Int) : Int).toNat z53) := ⟨_, rfl⟩
        replace H : ((qKB.f).bind fun bt277 => (if 0 < (y271.length : Int) then (if 0 < (y264.length : Int) then (if 0 < (x18_1.length : Int) then (qF.l1 k1 l0 (([0] : List Int)) 0 (y264.set (0 : Int).toNat 5) (x18_1.set (0 : Int).toNat 0) (y271.set (0 : Int).toNat (⟨bt277.1, bt277.2.1, bt277.2.2.1, bt277.2.2.2.1, bt277.2.2.2.2.1, bt277.2.2.2.2.2⟩ : S53))) else (none)) else (none)) else (none))) = some (r1, r2) := by first | (rw [hy271]; with_reducible exact H) | (have H2_ := (Option.bind_some _ _).symm.trans H; rw [hy271]; with_reducible exact H2_) | (have H2_ := (Option.bind_some _ _).symm.trans H; with_reducible exact H2_) | with_reducible exact H | (rw [hy271]; exact H) | exact H
        have Ny271 := Aside0.mk hy271
        clear hy271
        obtain ⟨y274, hy274⟩ : ∃ y_ : List Int, y_ = (([0] : List Int)) := ⟨_, rfl⟩
        replace H : ((qKB.f).bind fun bt277 => (if 0 < (y271.length : Int) then (if 0 < (y264.length : Int) then (if 0 < (x18_1.length : Int) then (qF.l1 k1 l0 y274 0 (y264.set (0 : Int).toNat 5) (x18_1.set (0 : Int).toNat 0) (y271.set (0 : Int).toNat (⟨bt277.1, bt277.2.1, bt277.2.2.1, bt277.2.2.2.1, bt277.2.2.2.2.1, bt277.2.2.2.2.2⟩ : S53))) else (none)) else (none)) else (none))) = some (r1, r2) := by first | (rw [hy274]; with_reducible exact H) | (have H2_ := (Option.bind_some _ _).symm.trans H; rw [hy274]; with_reducible exact H2_) | (have H2_ := (Option.bind_some _ _).symm.trans H; with_reducible exact H2_) | with_reducible exact H | (rw [hy274]; exact H) | exact H
        have Ny274 := Aside0.mk hy274
        clear hy274
        replace H := Option.bind_eq_some_iff.mp H
        obtain ⟨⟨t277, t278, t279, t280, t281, t282⟩, A190, H⟩ := H
        replace H : (if 0 < (y271.length : Int) then (if 0 < (y264.length : Int) then (if 0 < (x18_1.length : Int) then (qF.l1 k1 l0 y274 0 (y264.set (0 : Int).toNat 5) (x18_1.set (0 : Int).toNat 0) (y271.set (0 : Int).toNat (⟨t277, t278, t279, t280, t281, t282⟩ : S53))) else (none)) else (none)) else (none)) = some (r1, r2) := H
        have A19 := Aside0.mk A190
        clear A190
        by_cases c20 : 0 < (y271.length : Int)
        ·rw [if_pos c20] at H
         have c20b0 : decide (0 < (y271.length : Int)) = true := decide_eq_true c20
         (try (have c20b0_hl18_1 := c20b0; simp only [hl18_1] at c20b0_hl18_1))
         have c20b1 : decide (0 < y271.length) = true := decide_eq_true (by omega)
         clear c20
         obtain ⟨y283, hy283⟩ : ∃ y_ : List (S53), y_ = (y271.set (0 : Int).toNat (⟨t277, t278, t279, t280, t281, t282⟩ : S53)) := ⟨_, rfl⟩
         replace H : (if 0 < (y264.length : Int) then (if 0 < (x18_1.length : Int) then (qF.l1 k1 l0 y274 0 (y264.set (0 : Int).toNat 5) (x18_1.set (0 : Int).toNat 0) y283) else (none)) else (none)) = some (r1, r2) := by first | (rw [hy283]; with_reducible exact H) | (have H2_ := (Option.bind_some _ _).symm.trans H; rw [hy283]; with_reducible exact H2_) | (have H2_ := (Option.bind_some _ _).symm.trans H; with_reducible exact H2_) | with_reducible exact H | (rw [hy283]; exact H) | exact H
         have Ny283 := Aside0.mk hy283
         clear hy283
         by_cases c22 : 0 < (y264.length : Int)
         ·rw [if_pos c22] at H
          have c22b0 : decide (0 < (y264.length : Int)) = true := decide_eq_true c22
          (try (have c22b0_hl18_1 := c22b0; simp only [hl18_1] at c22b0_hl18_1))
          have c22b1 : decide (0 < y264.length) = true := decide_eq_true (by omega)
          clear c22
          obtain ⟨y284, hy284⟩ : ∃ y_ : List Int, y_ = (y264.set (0 : Int).toNat 5) := ⟨_, rfl⟩
          replace H : (if 0 < (x18_1.length : Int) then (qF.l1 k1 l0 y274 0 y284 (x18_1.set (0 : Int).toNat 0) y283) else (none)) = some (r1, r2) := by first | (rw [hy284]; with_reducible exact H) | (have H2_ := (Option.bind_some _ _).symm.trans H; rw [hy284]; with_reducible exact H2_) | (have H2_ := (Option.bind_some _ _).symm.trans H; with_reducible exact H2_) | with_reducible exact H | (rw [hy284]; exact H) | exact H
          have Ny284 := Aside0.mk hy284
          clear hy284
          by_cases c24 : 0 < (x18_1.length : Int)
          ·rw [if_pos c24] at H
           have c24b0 : decide (0 < (x18_1.length : Int)) = true := decide_eq_true c24
           (try (have c24b0_hl18_1 := c24b0; simp only [hl18_1] at c24b0_hl18_1))
           have c24b1 : decide (0 < x18_1.length) = true := decide_eq_true (by omega)
           clear c24
           obtain ⟨y285, hy285⟩ : ∃ y_ : List Int, y_ = (x18_1.set (0 : Int).toNat 0) := ⟨_, rfl⟩
           replace H : (qF.l1 k1 l0 y274 0 y284 y285 y283) = some (r1, r2) := by first | (rw [hy285]; with_reducible exact H) | (have H2_ := (Option.bind_some _ _).symm.trans H; rw [hy285]; with_reducible exact H2_) | (have H2_ := (Option.bind_some _ _).symm.trans H; with_reducible exact H2_) | with_reducible exact H | (rw [hy285]; exact H) | exact H
           have Ny285 := Aside0.mk hy285
           clear hy285
           have H' := Aside0.mk H
           clear H
           go_wp2_with (first | ((with_reducible refine qX (N := 30) rfl ?_); refine Kd.qoC k53 _ 53 rfl (N := 30) rfl 51 _ _ rfl (l0.length : Int) rfl rfl Tryz.underlying51 (.agg #[(.int .i64 0), (.int .i64 0), (.int .i64 0), (.int .i64 0), (.int .i64 0), (.int .i64 0)]) 48 info53 rfl (by decide) (by omega) z53 (ok := fun _ => True) (okp := fun _ => True) (qLC _ _ _ z53 ) (fun _ hk => hk) trivial (of_decide_eq_true (by first | (with_reducible assumption) | assumption)) (Nat.le_trans (Nat.mul_le_mul_right _ (of_decide_eq_true (by first | (with_reducible assumption) | assumption) : (l0.length : Int).toNat ≤ 5864062014805)) (by omega)) (Below.refl _ _) (Nat.le_refl _) ?_; intro v272 w26 ho27 hb hg_ hnew_; clear hg_ hnew_; (first | rw [← Ny271.out] at ho27 | (simp only [Int.reduceToNat] at ho27; rw [← Ny271.out] at ho27)); have n0_ := Aside0.mk (Kd.qW (by (with_reducible repeat (first | apply Kd.qG | apply Kd.qH | apply Kd.qI)); exact HO_15.out) hb); have n1_ := Aside0.mk (Kd.qW (by (with_reducible repeat (first | apply Kd.qG | apply Kd.qH | apply Kd.qI)); exact HO_18.out) hb); have n2_ := Aside0.mk (Kd.qAA ho27 (qa bl)); have n3_ := Aside0.mk (qK bl hb); clear HO_15; clear HO_18; clear HB; have HO_15 := n0_; have HO_18 := n1_; have HO273 := n2_; have HB := n3_; clear n0_ n1_ n2_ n3_; clear hb ho27) | ((with_reducible refine qX (N := 31) rfl ?_); refine Kd.R_lit (Kd.int .i64) _ 3 ?hg (N := 31) ?hd (xs := ([0] : List Int)) (inner := [.int .i64 0]) (ok := fun _ => True) (okp := fun _ => True) ?hr ?hp (fun _ hk => hk) trivial (Below.refl _ _) (Nat.le_refl _) (by simp) ?_; (case hd => rfl); (case hg => rfl); (case hr => first | (go_simp; done) | (go_simp; rfl)); (case hp => exact (Reps.one (show Kd.M (Kd.int .i64) _ _ _ 0 [.int .i64 0] from rfl) (Reps.none _ _))); intro v275 w28 ho29 hb hg_ hnew_; clear hg_ hnew_; (first | rw [← Ny274.out] at ho29 | (simp only [Int.reduceToNat] at ho29; rw [← Ny274.out] at ho29)); have n0_ := Aside0.mk (Kd.quA (by (with_reducible repeat (first | apply Kd.qG | apply Kd.qH | apply Kd.qI)); exact HO_15.out) (Kd.qZB ho29) hb); have n1_ := Aside0.mk (Kd.quA (by (with_reducible repeat (first | apply Kd.qG | apply Kd.qH | apply Kd.qI)); exact HO_18.out) (Kd.qZB ho29) hb); have n2_ := Aside0.mk (Kd.qW (by (with_reducible repeat (first | apply Kd.qG | apply Kd.qH | apply Kd.qI)); exact HO273.out) hb); have n3_ := Aside0.mk (Kd.qAA (Kd.qYB (Kd.qYB ho29 (Kd.R_lt (by (with_reducible repeat (first | apply Kd.qG | apply Kd.qH | apply Kd.qI)); exact HO_15.out))) (Kd.R_lt (by (with_reducible repeat (first | apply Kd.qG | apply Kd.qH | apply Kd.qI)); exact HO_18.out))) (qa bl)); have n4_ := Aside0.mk (qK bl hb); clear HO_15; clear HO_18; clear HO273; clear HB; have HO_15 := n0_; have HO_18 := n1_; have HO273 := n2_; have HO276 := n3_; have HB := n4_; clear n0_ n1_ n2_ n3_ n4_; clear hb ho29) | ((with_reducible refine qb (f := 54) rfl ?_); refine qRA (some 35) rfl rfl Tryz.func54 (by kernel_rfl) rfl #[] rfl (by (try simp only [List.map_toArray, List.map_cons, List.map_nil]); first | done | rfl | (simp only [List.length_drop, List.length_take]; rfl)) ?_; (with_reducible refine (qKB.calls  t277 t278 t279 t280 t281 t282 _ A19.out).mono ?_); rintro e w30 ⟨rfl, hb⟩; refine ⟨_, rfl, ?_⟩; have n0_ := Aside0.mk (Kd.qW (by (with_reducible repeat (first | apply Kd.qG | apply Kd.qH | apply Kd.qI)); exact HO_15.out) hb); have n1_ := Aside0.mk (Kd.qW (by (with_reducible repeat (first | apply Kd.qG | apply Kd.qH | apply Kd.qI)); exact HO_18.out) hb); have n2_ := Aside0.mk (Kd.qW (by (with_reducible repeat (first | apply Kd.qG | apply Kd.qH | apply Kd.qI)); exact HO273.out) hb); have n3_ := Aside0.mk (Kd.qW (by (with_reducible repeat (first | apply Kd.qG | apply Kd.qH | apply Kd.qI)); exact HO276.out) hb); have n4_ := Aside0.mk (qK bl hb); clear HO_15; clear HO_18; clear HO273; clear HO276; clear HB; have HO_15 := n0_; have HO_18 := n1_; have HO273 := n2_; have HO276 := n3_; have HB := n4_; clear n0_ n1_ n2_ n3_ n4_; (try clear hb); (try clear hb2); (try clear hk); (try clear hi); have p21 : 0 ≤ (0 : Int) := (by omega); have q21 : (0 : Int) < ((y271.length : Int) : Int) := of_decide_eq_true (by first | (with_reducible assumption) | assumption); have qi21 : (0 < y271.length) = True := eq_true (by omega); obtain ⟨go21, co21, eo21, gb21, gl21, cl21, HG21⟩ := Kd.qkB HO273.out (by omega); (first | cases eo21 | (injection eo21 with ea_ en_ ec_; (first | subst ea_ | (injection ea_ with ea_; subst ea_)); subst ec_; clear en_)); have GB21 := Aside0.mk gb21; have GG21 := Aside0.mk HG21; clear gb21 gl21 HG21; obtain ⟨ce21, hcl21, hM21, hcc21, hfr21⟩ := Kd.qEC HO273.out z53 (0 : Int) p21 q21; obtain rfl := qBB hM21; have hx21_0 : w30.cell? ⟨go21, (0 : Int).toNat * 6, none⟩ = some (.int .i64 ((qZ y271 0).f0)) := hcc21 0 _ rfl; have hx21_1 : w30.cell? ⟨go21, (0 : Int).toNat * 6 + 1, none⟩ = some (.int .i64 ((qZ y271 0).f1)) := hcc21 1 _ rfl; have hx21_2 : w30.cell? ⟨go21, (0 : Int).toNat * 6 + 2, none⟩ = some (.int .i64 ((qZ y271 0).f2)) := hcc21 2 _ rfl; have hx21_3 : w30.cell? ⟨go21, (0 : Int).toNat * 6 + 3, none⟩ = some (.int .i64 ((qZ y271 0).f3)) := hcc21 3 _ rfl; have hx21_4 : w30.cell? ⟨go21, (0 : Int).toNat * 6 + 4, none⟩ = some (.int .i64 ((qZ y271 0).f4)) := hcc21 4 _ rfl; have hx21_5 : w30.cell? ⟨go21, (0 : Int).toNat * 6 + 5, none⟩ = some (.int .i64 ((qZ y271 0).f5)) := hcc21 5 _ rfl; have hf21_0 : w30.frozen? ⟨go21, (0 : Int).toNat * 6, none⟩ = false := hfr21 0; have hf21_1 : w30.frozen? ⟨go21, (0 : Int).toNat * 6 + 1, none⟩ = false := hfr21 1; have hf21_2 : w30.frozen? ⟨go21, (0 : Int).toNat * 6 + 2, none⟩ = false := hfr21 2; have hf21_3 : w30.frozen? ⟨go21, (0 : Int).toNat * 6 + 3, none⟩ = false := hfr21 3; have hf21_4 : w30.frozen? ⟨go21, (0 : Int).toNat * 6 + 4, none⟩ = false := hfr21 4; have hf21_5 : w30.frozen? ⟨go21, (0 : Int).toNat * 6 + 5, none⟩ = false := hfr21 5; clear hcl21 hcc21 hfr21 hM21; (try rw [show ((0 : Int)).toNat = 0 from rfl] at hx21_0); (try simp only [Nat.reduceMul, Nat.zero_mul, Nat.zero_add, Nat.reduceAdd] at hx21_0); (try rw [show ((0 : Int)).toNat = 0 from rfl] at hf21_0); (try simp only [Nat.reduceMul, Nat.zero_mul, Nat.zero_add, Nat.reduceAdd] at hf21_0); (try rw [show ((0 : Int)).toNat = 0 from rfl] at hx21_1); (try simp only [Nat.reduceMul, Nat.zero_mul, Nat.zero_add, Nat.reduceAdd] at hx21_1); (try rw [show ((0 : Int)).toNat = 0 from rfl] at hf21_1); (try simp only [Nat.reduceMul, Nat.zero_mul, Nat.zero_add, Nat.reduceAdd] at hf21_1); (try rw [show ((0 : Int)).toNat = 0 from rfl] at hx21_2); (try simp only [Nat.reduceMul, Nat.zero_mul, Nat.zero_add, Nat.reduceAdd] at hx21_2); (try rw [show ((0 : Int)).toNat = 0 from rfl] at hf21_2); (try simp only [Nat.reduceMul, Nat.zero_mul, Nat.zero_add, Nat.reduceAdd] at hf21_2); (try rw [show ((0 : Int)).toNat = 0 from rfl] at hx21_3); (try simp only [Nat.reduceMul, Nat.zero_mul, Nat.zero_add, Nat.reduceAdd] at hx21_3); (try rw [show ((0 : Int)).toNat = 0 from rfl] at hf21_3); (try simp only [Nat.reduceMul, Nat.zero_mul, Nat.zero_add, Nat.reduceAdd] at hf21_3); (try rw [show ((0 : Int)).toNat = 0 from rfl] at hx21_4); (try simp only [Nat.reduceMul, Nat.zero_mul, Nat.zero_add, Nat.reduceAdd] at hx21_4); (try rw [show ((0 : Int)).toNat = 0 from rfl] at hf21_4); (try simp only [Nat.reduceMul, Nat.zero_mul, Nat.zero_add, Nat.reduceAdd] at hf21_4); (try rw [show ((0 : Int)).toNat = 0 from rfl] at hx21_5); (try simp only [Nat.reduceMul, Nat.zero_mul, Nat.zero_add, Nat.reduceAdd] at hx21_5); (try rw [show ((0 : Int)).toNat = 0 from rfl] at hf21_5); (try simp only [Nat.reduceMul, Nat.zero_mul, Nat.zero_add, Nat.reduceAdd] at hf21_5); replace p21 := eq_true p21; replace q21 := eq_true q21; have HX31 := Aside0.mk (show Kd.R k53 53 w30 w.heap.size (fun _ => True) (.slice (some ⟨go21, 0, none⟩) y271.length co21) y271 from (by (with_reducible repeat (first | apply Kd.qG | apply Kd.qH | apply Kd.qI)); exact HO273.out)); obtain ⟨ce31, hcl31, hM31, hcc31, hfr31⟩ := Kd.qEC HX31.out z53 (0 : Int) (by omega) (by have h_ : (0 : Int) < ((y271.length : Int) : Int) := of_decide_eq_true (by first | (with_reducible assumption) | assumption); first | exact h_ | (have e_ := (Kd.qQ HO273.out).1; omega) | simpa using h_); obtain rfl := qBB hM31; have HP31 := Kd.R_seg HX31.out (0 : Int) (by omega) (by have h_ : (0 : Int) < ((y271.length : Int) : Int) := of_decide_eq_true (by first | (with_reducible assumption) | assumption); first | exact h_ | (have e_ := (Kd.qQ HO273.out).1; omega) | simpa using h_) (seg := [.int .i64 t277, .int .i64 t278, .int .i64 t279, .int .i64 t280, .int .i64 t281, .int .i64 t282]) (j := 0) hcl31 hcc31 (show 6 ≤ 6 from by decide) (x' := (⟨t277, t278, t279, t280, t281, t282⟩ : S53)) (qLC _ _ _ (⟨t277, t278, t279, t280, t281, t282⟩ : S53) ) (fun _ hk => hk); have hx31_0 := hcc31 0 _ rfl; (try simp only [show (k53).sz = 6 from rfl, Nat.mul_one, Nat.add_zero] at hx31_0); (try rw [show ((0 : Int)).toNat = 0 from rfl] at hx31_0); (try simp only [Nat.reduceMul, Nat.zero_mul, Nat.zero_add, Nat.reduceAdd] at hx31_0); have hf31_0 := hfr31 0; (try simp only [show (k53).sz = 6 from rfl, Nat.mul_one, Nat.add_zero] at hf31_0); (try rw [show ((0 : Int)).toNat = 0 from rfl] at hf31_0); (try simp only [Nat.reduceMul, Nat.zero_mul, Nat.zero_add, Nat.reduceAdd] at hf31_0); have hx31_1 := hcc31 1 _ rfl; (try simp only [show (k53).sz = 6 from rfl, Nat.mul_one, Nat.add_zero] at hx31_1); (try rw [show ((0 : Int)).toNat = 0 from rfl] at hx31_1); (try simp only [Nat.reduceMul, Nat.zero_mul, Nat.zero_add, Nat.reduceAdd] at hx31_1); have hf31_1 := hfr31 1; (try simp only [show (k53).sz = 6 from rfl, Nat.mul_one, Nat.add_zero] at hf31_1); (try rw [show ((0 : Int)).toNat = 0 from rfl] at hf31_1); (try simp only [Nat.reduceMul, Nat.zero_mul, Nat.zero_add, Nat.reduceAdd] at hf31_1); have hx31_2 := hcc31 2 _ rfl; (try simp only [show (k53).sz = 6 from rfl, Nat.mul_one, Nat.add_zero] at hx31_2); (try rw [show ((0 : Int)).toNat = 0 from rfl] at hx31_2); (try simp only [Nat.reduceMul, Nat.zero_mul, Nat.zero_add, Nat.reduceAdd] at hx31_2); have hf31_2 := hfr31 2; (try simp only [show (k53).sz = 6 from rfl, Nat.mul_one, Nat.add_zero] at hf31_2); (try rw [show ((0 : Int)).toNat = 0 from rfl] at hf31_2); (try simp only [Nat.reduceMul, Nat.zero_mul, Nat.zero_add, Nat.reduceAdd] at hf31_2); have hx31_3 := hcc31 3 _ rfl; (try simp only [show (k53).sz = 6 from rfl, Nat.mul_one, Nat.add_zero] at hx31_3); (try rw [show ((0 : Int)).toNat = 0 from rfl] at hx31_3); (try simp only [Nat.reduceMul, Nat.zero_mul, Nat.zero_add, Nat.reduceAdd] at hx31_3); have hf31_3 := hfr31 3; (try simp only [show (k53).sz = 6 from rfl, Nat.mul_one, Nat.add_zero] at hf31_3); (try rw [show ((0 : Int)).toNat = 0 from rfl] at hf31_3); (try simp only [Nat.reduceMul, Nat.zero_mul, Nat.zero_add, Nat.reduceAdd] at hf31_3); have hx31_4 := hcc31 4 _ rfl; (try simp only [show (k53).sz = 6 from rfl, Nat.mul_one, Nat.add_zero] at hx31_4); (try rw [show ((0 : Int)).toNat = 0 from rfl] at hx31_4); (try simp only [Nat.reduceMul, Nat.zero_mul, Nat.zero_add, Nat.reduceAdd] at hx31_4); have hf31_4 := hfr31 4; (try simp only [show (k53).sz = 6 from rfl, Nat.mul_one, Nat.add_zero] at hf31_4); (try rw [show ((0 : Int)).toNat = 0 from rfl] at hf31_4); (try simp only [Nat.reduceMul, Nat.zero_mul, Nat.zero_add, Nat.reduceAdd] at hf31_4); have hx31_5 := hcc31 5 _ rfl; (try simp only [show (k53).sz = 6 from rfl, Nat.mul_one, Nat.add_zero] at hx31_5); (try rw [show ((0 : Int)).toNat = 0 from rfl] at hx31_5); (try simp only [Nat.reduceMul, Nat.zero_mul, Nat.zero_add, Nat.reduceAdd] at hx31_5); have hf31_5 := hfr31 5; (try simp only [show (k53).sz = 6 from rfl, Nat.mul_one, Nat.add_zero] at hf31_5); (try rw [show ((0 : Int)).toNat = 0 from rfl] at hf31_5); (try simp only [Nat.reduceMul, Nat.zero_mul, Nat.zero_add, Nat.reduceAdd] at hf31_5); clear hcl31 hcc31 hfr31 hM31) | ((with_reducible refine qeA (t := 53) (p := 36) rfl ?_); refine qUA (t := 53) (p := 36) (v := ?vo_w32) (w1 := ((((((w30.setCell ⟨go21, 0, none⟩ (.int .i64 t277)).setCell ⟨go21, 1, none⟩ (.int .i64 t278)).setCell ⟨go21, 2, none⟩ (.int .i64 t279)).setCell ⟨go21, 3, none⟩ (.int .i64 t280)).setCell ⟨go21, 4, none⟩ (.int .i64 t281)).setCell ⟨go21, 5, none⟩ (.int .i64 t282))) ?hg ?ho ?hn ?hr ?_; (case ho => rfl); (case hg => rfl); (case hn => rfl); (case hr => first | (go_simp; done) | (go_simp; rfl)); intro w32 hw; have hg : w30.grownBy w32 (some go21) := (by rw [hw]; exact HP31.2); have hp_ : Kd.R k53 53 w32 w.heap.size (fun _ => True) (.slice (some ⟨go21, 0, none⟩) y271.length co21) y283 := (by rw [hw, Ny283.out]; exact HP31.1); clear HP31; have n0_ := Aside0.mk (Kd.qnA (v := (.slice (some ⟨go21, 0, none⟩) y271.length co21)) (by (with_reducible repeat (first | apply Kd.qG | apply Kd.qH | apply Kd.qI)); exact HO_15.out) (Kd.qEA HO273.out) (by decide) hg); have n1_ := Aside0.mk (Kd.qnA (v := (.slice (some ⟨go21, 0, none⟩) y271.length co21)) (by (with_reducible repeat (first | apply Kd.qG | apply Kd.qH | apply Kd.qI)); exact HO_18.out) (Kd.qEA HO273.out) (by decide) hg); have n2_ := Aside0.mk (hp_); have n3_ := Aside0.mk (Kd.qnA (v := (.slice (some ⟨go21, 0, none⟩) y271.length co21)) (by (with_reducible repeat (first | apply Kd.qG | apply Kd.qH | apply Kd.qI)); exact HO276.out) (Kd.qEA HO273.out) (by decide) hg); have n4_ := Aside0.mk ((by rw [hw]; exact qe (qe (qe (qe (qe (qe (HB.out) GB21.out) GB21.out) GB21.out) GB21.out) GB21.out) GB21.out : Below w.heap.size w w32)); clear HO_15; clear HO_18; clear HO273; clear HO276; clear HB; have HO_15 := n0_; have HO_18 := n1_; have HO273 := n2_; have HO276 := n3_; have HB := n4_; clear n0_ n1_ n2_ n3_ n4_; clear hg hw hp_; have p23 : 0 ≤ (0 : Int) := (by omega); have q23 : (0 : Int) < ((y264.length : Int) : Int) := of_decide_eq_true (by first | (with_reducible assumption) | assumption); have qi23 : (0 < y264.length) = True := eq_true (by omega); obtain ⟨go23, co23, eo23, gb23, gl23, cl23, HG23⟩ := Kd.qkB HO_15.out (by omega); (first | cases eo23 | (injection eo23 with ea_ en_ ec_; (first | subst ea_ | (injection ea_ with ea_; subst ea_)); subst ec_; clear en_)); have GB23 := Aside0.mk gb23; have GG23 := Aside0.mk HG23; clear gb23 gl23 HG23; obtain ⟨hx23_0, hf23_0⟩ := Kd.qhA 0 HO_15.out (0 : Int) p23 q23; (try rw [show ((0 : Int)).toNat = 0 from rfl] at hx23_0); (try simp only [Nat.reduceMul, Nat.zero_mul, Nat.zero_add, Nat.reduceAdd] at hx23_0); (try rw [show ((0 : Int)).toNat = 0 from rfl] at hf23_0); (try simp only [Nat.reduceMul, Nat.zero_mul, Nat.zero_add, Nat.reduceAdd] at hf23_0); replace p23 := eq_true p23; replace q23 := eq_true q23; obtain ⟨hy33_, hz33_⟩ := Kd.qhA 0 HO_15.out (0 : Int) (by omega) (of_decide_eq_true (by first | (with_reducible assumption) | assumption)); (try simp only [Int.reduceToNat, Int.toNat_zero, Int.toNat_ofNat, Nat.reduceMul, Nat.zero_mul, Nat.zero_add] at hy33_ hz33_); (try rw [show ((0 : Int)).toNat = 0 from rfl] at hy33_); (try rw [show ((0 : Int)).toNat = 0 from rfl] at hz33_); have HP33 := Kd.qnB HO_15.out (0 : Int) 5) | ((with_reducible refine qeA (t := 3) (p := 37) rfl ?_); refine qUA (t := 3) (p := 37) (v := ?vo_w34) (w1 := (w32.setCell ⟨go23, (0 : Int).toNat, none⟩ (.int .i64 5))) ?hg ?ho ?hn ?hr ?_; (case ho => rfl); (case hg => rfl); (case hn => rfl); (case hr => first | (go_simp; done) | (go_simp; rfl)); intro w34 hw; have hg : w32.grownBy w34 (some go23) := (by rw [hw]; exact HP33.2); have hp_ : Kd.R (Kd.int .i64) 3 w34 w.heap.size (fun k_ => some k_ ≠ (.slice Ao10 x18_1.length co10 : Value).ownBlock ∧ some k_ ≠ (v275 : Value).ownBlock) (.slice (some ⟨go23, 0, none⟩) y264.length co23) y284 := (by rw [hw, Ny284.out]; exact HP33.1); clear HP33; have n0_ := Aside0.mk (hp_); have n1_ := Aside0.mk (Kd.qsA (v := (.slice (some ⟨go23, 0, none⟩) y264.length co23)) (v1 := (.slice (some ⟨go23, 0, none⟩) y264.length co23)) (ok := (fun k_ => some k_ ≠ (v275 : Value).ownBlock)) (by (with_reducible repeat (first | apply Kd.qG | apply Kd.qH | apply Kd.qI)); exact Kd.qf HO_18.out (fun _ hk => ⟨hk.2, hk.1⟩)) hg (.inl rfl)); have n2_ := Aside0.mk (Kd.qnA (v := (.slice (some ⟨go23, 0, none⟩) y264.length co23)) (by (with_reducible repeat (first | apply Kd.qG | apply Kd.qH | apply Kd.qI)); exact HO273.out) (Kd.qEA HO_15.out) (by decide) hg); have n3_ := Aside0.mk (Kd.qsA (v := (.slice (some ⟨go23, 0, none⟩) y264.length co23)) (v1 := (.slice (some ⟨go23, 0, none⟩) y264.length co23)) (ok := (fun k_ => some k_ ≠ (.slice Ao10 x18_1.length co10 : Value).ownBlock)) (by (with_reducible repeat (first | apply Kd.qG | apply Kd.qH | apply Kd.qI)); exact Kd.qf HO276.out (fun _ hk => ⟨hk.2, hk.1.2⟩)) hg (.inl rfl)); have n4_ := Aside0.mk ((by rw [hw]; exact qe (HB.out) GB23.out : Below w.heap.size w w34)); clear HO_15; clear HO_18; clear HO273; clear HO276; clear HB; have HO_15 := n0_; have HO_18 := n1_; have HO273 := n2_; have HO276 := n3_; have HB := n4_; clear n0_ n1_ n2_ n3_ n4_; clear hg hw hp_; have p25 : 0 ≤ (0 : Int) := (by omega); have q25 : (0 : Int) < ((x18_1.length : Int) : Int) := of_decide_eq_true (by first | (with_reducible assumption) | assumption); have qi25 : (0 < x18_1.length) = True := eq_true (by omega); obtain ⟨go25, co25, eo25, gb25, gl25, cl25, HG25⟩ := Kd.qkB HO_18.out (by omega); (first | cases eo25 | (injection eo25 with ea_ en_ ec_; (first | subst ea_ | (injection ea_ with ea_; subst ea_)); subst ec_; clear en_)); have GB25 := Aside0.mk gb25; have GG25 := Aside0.mk HG25; clear gb25 gl25 HG25; obtain ⟨hx25_0, hf25_0⟩ := Kd.qhA 0 HO_18.out (0 : Int) p25 q25; (try rw [show ((0 : Int)).toNat = 0 from rfl] at hx25_0); (try simp only [Nat.reduceMul, Nat.zero_mul, Nat.zero_add, Nat.reduceAdd] at hx25_0); (try rw [show ((0 : Int)).toNat = 0 from rfl] at hf25_0); (try simp only [Nat.reduceMul, Nat.zero_mul, Nat.zero_add, Nat.reduceAdd] at hf25_0); replace p25 := eq_true p25; replace q25 := eq_true q25; obtain ⟨hy35_, hz35_⟩ := Kd.qhA 0 HO_18.out (0 : Int) (by omega) (of_decide_eq_true (by first | (with_reducible assumption) | assumption)); (try simp only [Int.reduceToNat, Int.toNat_zero, Int.toNat_ofNat, Nat.reduceMul, Nat.zero_mul, Nat.zero_add] at hy35_ hz35_); (try rw [show ((0 : Int)).toNat = 0 from rfl] at hy35_); (try rw [show ((0 : Int)).toNat = 0 from rfl] at hz35_); have HP35 := Kd.qnB HO_18.out (0 : Int) 0) | ((with_reducible refine qeA (t := 3) (p := 38) rfl ?_); refine qUA (t := 3) (p := 38) (v := ?vo_w36) (w1 := (w34.setCell ⟨go25, (0 : Int).toNat, none⟩ (.int .i64 0))) ?hg ?ho ?hn ?hr ?_; (case ho => rfl); (case hg => rfl); (case hn => rfl); (case hr => first | (go_simp; done) | (go_simp; rfl)); intro w36 hw; have hg : w34.grownBy w36 (some go25) := (by rw [hw]; exact HP35.2); have hp_ : Kd.R (Kd.int .i64) 3 w36 w.heap.size (fun k_ => some k_ ≠ (v275 : Value).ownBlock ∧ some k_ ≠ (.slice (some ⟨go23, 0, none⟩) y264.length co23 : Value).ownBlock) (.slice (some ⟨go25, 0, none⟩) x18_1.length co10) y285 := (by rw [hw, Ny285.out]; exact HP35.1); clear HP35; have n0_ := Aside0.mk (Kd.qsA (v := (.slice (some ⟨go25, 0, none⟩) x18_1.length co10)) (v1 := (.slice (some ⟨go25, 0, none⟩) x18_1.length co10)) (ok := (fun k_ => some k_ ≠ (v275 : Value).ownBlock)) (by (with_reducible repeat (first | apply Kd.qG | apply Kd.qH | apply Kd.qI)); exact Kd.qf HO_15.out (fun _ hk => ⟨hk.2, hk.1⟩)) hg (.inl rfl)); have n1_ := Aside0.mk (hp_); have n2_ := Aside0.mk (Kd.qnA (v := (.slice (some ⟨go25, 0, none⟩) x18_1.length co10)) (by (with_reducible repeat (first | apply Kd.qG | apply Kd.qH | apply Kd.qI)); exact HO273.out) (Kd.qEA HO_18.out) (by decide) hg); have n3_ := Aside0.mk (Kd.qsA (v := (.slice (some ⟨go25, 0, none⟩) x18_1.length co10)) (v1 := (.slice (some ⟨go25, 0, none⟩) x18_1.length co10)) (ok := (fun k_ => some k_ ≠ (.slice (some ⟨go23, 0, none⟩) y264.length co23 : Value).ownBlock)) (by (with_reducible repeat (first | apply Kd.qG | apply Kd.qH | apply Kd.qI)); exact Kd.qf HO276.out (fun _ hk => ⟨hk.2, hk.1⟩)) hg (.inl rfl)); have n4_ := Aside0.mk ((by rw [hw]; exact qe (HB.out) GB25.out : Below w.heap.size w w36)); clear HO_15; clear HO_18; clear HO273; clear HO276; clear HB; have HO_15 := n0_; have HO_18 := n1_; have HO273 := n2_; have HO276 := n3_; have HB := n4_; clear n0_ n1_ n2_ n3_ n4_; clear hg hw hp_))
           go_loopg [8, 9] k1 (fun kq v8 v9 w' => ∃ (x8_2 : List Int) (x9_2 : Int) (x15_2 : List Int) (x18_2 : List Int) (x30_2 : List (S53)), v9 = .int .i64 x9_2 ∧ Aside0 (qF.l1 kq l0 x8_2 x9_2 x15_2 x18_2 x30_2 = some (r1, r2)) ∧ Aside0 (kq ≤ k1) ∧ Aside0 (Kd.R (Kd.int .i64) 3 w' w.heap.size (fun k_ => some k_ ≠ ((.slice (some ⟨go23, 0, none⟩) y264.length co23) : Value).ownBlock ∧ some k_ ≠ ((.slice (some ⟨go25, 0, none⟩) x18_1.length co10) : Value).ownBlock) v8 x8_2) ∧ Aside0 (Kd.R (Kd.int .i64) 3 w' w.heap.size (fun k_ => some k_ ≠ (v8 : Value).ownBlock ∧ some k_ ≠ ((.slice (some ⟨go25, 0, none⟩) x18_1.length co10) : Value).ownBlock) (.slice (some ⟨go23, 0, none⟩) y264.length co23) x15_2) ∧ Aside0 (Kd.R (Kd.int .i64) 3 w' w.heap.size (fun k_ => some k_ ≠ (v8 : Value).ownBlock ∧ some k_ ≠ ((.slice (some ⟨go23, 0, none⟩) y264.length co23) : Value).ownBlock) (.slice (some ⟨go25, 0, none⟩) x18_1.length co10) x18_2) ∧ Aside0 (Kd.R k53 53 w' w.heap.size (fun _ => True) (.slice (some ⟨go21, 0, none⟩) y271.length co21) x30_2) ∧ Aside0 (Below w.heap.size w w'))
           case atStart => exact ⟨(y274), (0), (y284), (y285), (y283), (by first | rfl | (simp; done) | (simp [*]; done)), H', ⟨Nat.le_refl _⟩, ⟨by (try simp only [hl18_1]); (with_reducible repeat (first | apply Kd.qG | apply Kd.qH | apply Kd.qI)); exact HO276.out⟩, ⟨by (try simp only [hl18_1]); (with_reducible repeat (first | apply Kd.qG | apply Kd.qH | apply Kd.qI)); exact HO_15.out⟩, ⟨by (try simp only [hl18_1]); (with_reducible repeat (first | apply Kd.qG | apply Kd.qH | apply Kd.qI)); exact HO_18.out⟩, ⟨by (try simp only [hl18_1]); (with_reducible repeat (first | apply Kd.qG | apply Kd.qH | apply Kd.qI)); exact HO273.out⟩, ⟨bl⟩⟩
           case round =>
            clear H'
            try clear c1
            try clear p1
            try clear q1
            try clear hx1
            try clear hf1
            try clear c2
            try clear c2b0
            try clear c2b1
            try clear p2
            try clear q2
            try clear hx2
            try clear qi2
            try clear hf2
            try clear c3
            try clear c3b0
            try clear c3b1
            try clear hx3
            try clear hf3
            try clear c5
            try clear p6
            try clear c11
            try clear c11b0
            try clear c12
            try clear c12b0
            try clear c13
            try clear c13b0
            try clear p14
            try clear q14
            try clear hx14
            try clear hf14
            try clear c17
            try clear c17b0
            try clear c17b1
            try clear c18
            try clear c18b0
            try clear c18b1
            try clear c20
            try clear c20b0
            try clear c20b1
            try clear c21
            try clear p21
            try clear q21
            try clear hx21
            try clear qi21
            try clear hf21
            try clear c22
            try clear c22b0
            try clear c22b1
            try clear p23
            try clear q23
            try clear hx23
            try clear qi23
            try clear hf23
            try clear c24
            try clear c24b0
            try clear c24b1
            try clear p25
            try clear q25
            try clear hx25
            try clear qi25
            try clear hf25
            try clear c31
            try clear hx31
            try clear hf31
            try clear hx14_0
            try clear hx21_0
            try clear hx21_1
            try clear hx21_2
            try clear hx21_3
            try clear hx21_4
            try clear hx21_5
            try clear hx23_0
            try clear hx25_0
            try clear hx31_0
            try clear hx31_1
            try clear hx31_2
            try clear hx31_3
            try clear hx31_4
            try clear hx31_5
            try clear p14
            try clear p2
            try clear p21
            try clear p23
            try clear p25
            try clear q14
            try clear q21
            try clear q23
            try clear q25
            obtain ⟨x8_2, x9_2, x15_2, x18_2, x30_2, rfl, HA, HK2, HO_8, HO_15, HO_18, HO_30, HB⟩ := hrel
            have hl15_2 := (Kd.qQ HO_15.out).1
            rw [hl15_2] at HO_15
            (try simp only [hl15_2])
            (try simp only [hl15_2] at HO_8)
            (try simp only [hl15_2] at HO_18)
            (try simp only [hl15_2] at HO_30)
            have hl18_2 := (Kd.qQ HO_18.out).1
            rw [hl18_2] at HO_18
            (try simp only [hl18_2])
            (try simp only [hl18_2] at HO_8)
            (try simp only [hl18_2] at HO_15)
            (try simp only [hl18_2] at HO_30)
            have hl30_2 := (Kd.qQ HO_30.out).1
            rw [hl30_2] at HO_30
            (try simp only [hl30_2])
            (try simp only [hl30_2] at HO_8)
            (try simp only [hl30_2] at HO_15)
            (try simp only [hl30_2] at HO_18)
            cases gk with
            | zero => exact absurd HA.out (by simp [qF.l1])
            | succ k2 =>
             have H := HA.out
             clear HA
             simp only [qF.l1] at H
             by_cases c37 : x9_2 < (x8_2.length : Int)
             ·rw [if_pos c37] at H
              have c37b0 : decide (x9_2 < (x8_2.length : Int)) = true := decide_eq_true c37
              (try (have c37b0_hl18_1 := c37b0; simp only [hl18_1] at c37b0_hl18_1))
              (try (have c37b0_hl15_2 := c37b0; simp only [hl15_2] at c37b0_hl15_2))
              (try (have c37b0_hl18_2 := c37b0; simp only [hl18_2] at c37b0_hl18_2))
              (try (have c37b0_hl30_2 := c37b0; simp only [hl30_2] at c37b0_hl30_2))
              clear c37
              by_cases c38 : 0 ≤ x9_2
              ·rw [if_pos c38] at H
               have c38b0 : decide (0 ≤ x9_2) = true := decide_eq_true c38
               clear c38
               have H' := Aside0.mk H
               clear H
               obtain ⟨Ao39, co39, eo39⟩ := Kd.qp HO_8.out
               subst eo39
               have p286 : 0 ≤ (x9_2 : Int) := of_decide_eq_true (by first | (with_reducible assumption) | assumption)
               have q286 : x9_2 < (x8_2.length : Int) := of_decide_eq_true (by first | (with_reducible assumption) | assumption)
               obtain ⟨ad286, e286, hx286_0⟩ := Kd.qCA (Kd.qQ HO_8.out).2.2 x9_2 p286 q286
               cases e286
               replace p286 := eq_true p286
               replace q286 := eq_true q286
               go_wp2
               go_loopg [8, 49] k2 (fun kq v8 v49 w' => ∃ (x8_3 : List Int) (x15_3 : List Int) (x18_3 : List Int) (x30_3 : List (S53)) (x49_3 : Int), v49 = .int .i64 x49_3 ∧ Aside0 (qF.l2 kq l0 x8_3 x9_2 (rd x8_2 x9_2) x15_3 x18_3 x30_3 x49_3 = some (r1, r2)) ∧ Aside0 (kq ≤ k2) ∧ Aside0 (Kd.R (Kd.int .i64) 3 w' w.heap.size (fun k_ => some k_ ≠ ((.slice (some ⟨go23, 0, none⟩) x15_2.length co23) : Value).ownBlock ∧ some k_ ≠ ((.slice (some ⟨go25, 0, none⟩) x18_2.length co10) : Value).ownBlock) v8 x8_3) ∧ Aside0 (Kd.R (Kd.int .i64) 3 w' w.heap.size (fun k_ => some k_ ≠ (v8 : Value).ownBlock ∧ some k_ ≠ ((.slice (some ⟨go25, 0, none⟩) x18_2.length co10) : Value).ownBlock) (.slice (some ⟨go23, 0, none⟩) x15_2.length co23) x15_3) ∧ Aside0 (Kd.R (Kd.int .i64) 3 w' w.heap.size (fun k_ => some k_ ≠ (v8 : Value).ownBlock ∧ some k_ ≠ ((.slice (some ⟨go23, 0, none⟩) x15_2.length co23) : Value).ownBlock) (.slice (some ⟨go25, 0, none⟩) x18_2.length co10) x18_3) ∧ Aside0 (Kd.R k53 53 w' w.heap.size (fun _ => True) (.slice (some ⟨go21, 0, none⟩) x30_2.length co21) x30_3) ∧ Aside0 (Below w.heap.size w w'))
               case atStart => exact ⟨(x8_2), (x15_2), (x18_2), (x30_2), (0), (by first | rfl | (simp; done) | (simp [*]; done)), H', ⟨Nat.le_refl _⟩, ⟨by (try simp only [hl18_1]); (try simp only [hl15_2]); (try simp only [hl18_2]); (try simp only [hl30_2]); (with_reducible repeat (first | apply Kd.qG | apply Kd.qH | apply Kd.qI)); exact HO_8.out⟩, ⟨by (try simp only [hl18_1]); (try simp only [hl15_2]); (try simp only [hl18_2]); (try simp only [hl30_2]); (with_reducible repeat (first | apply Kd.qG | apply Kd.qH | apply Kd.qI)); exact HO_15.out⟩, ⟨by (try simp only [hl18_1]); (try simp only [hl15_2]); (try simp only [hl18_2]); (try simp only [hl30_2]); (with_reducible repeat (first | apply Kd.qG | apply Kd.qH | apply Kd.qI)); exact HO_18.out⟩, ⟨by (try simp only [hl18_1]); (try simp only [hl15_2]); (try simp only [hl18_2]); (try simp only [hl30_2]); (with_reducible repeat (first | apply Kd.qG | apply Kd.qH | apply Kd.qI)); exact HO_30.out⟩, ⟨bl⟩⟩
               case round =>
                clear H'
                try clear c1
                try clear p1
                try clear q1
                try clear hx1
                try clear hf1
                try clear c2
                try clear c2b0
                try clear c2b1
                try clear p2
                try clear q2
                try clear hx2
                try clear qi2
                try clear hf2
                try clear c3
                try clear c3b0
                try clear c3b1
                try clear hx3
                try clear hf3
                try clear c5
                try clear p6
                try clear c11
                try clear c11b0
                try clear c12
                try clear c12b0
                try clear c13
                try clear c13b0
                try clear p14
                try clear q14
                try clear hx14
                try clear hf14
                try clear c17
                try clear c17b0
                try clear c17b1
                try clear c18
                try clear c18b0
                try clear c18b1
                try clear c20
                try clear c20b0
                try clear c20b1
                try clear c21
                try clear p21
                try clear q21
                try clear hx21
                try clear qi21
                try clear hf21
                try clear c22
                try clear c22b0
                try clear c22b1
                try clear p23
                try clear q23
                try clear hx23
                try clear qi23
                try clear hf23
                try clear c24
                try clear c24b0
                try clear c24b1
                try clear p25
                try clear q25
                try clear hx25
                try clear qi25
                try clear hf25
                try clear p28
                try clear q28
                try clear hx28
                try clear c31
                try clear hx31
                try clear hf31
                try clear c37
                try clear c37b0
                try clear c38
                try clear c38b0
                try clear hx14_0
                try clear hx21_0
                try clear hx21_1
                try clear hx21_2
                try clear hx21_3
                try clear hx21_4
                try clear hx21_5
                try clear hx23_0
                try clear hx25_0
                try clear hx286_0
                try clear hx31_0
                try clear hx31_1
                try clear hx31_2
                try clear hx31_3
                try clear hx31_4
                try clear hx31_5
                try clear p1
                try clear p14
                try clear p2
                try clear p21
                try clear p23
                try clear p25
                try clear p286
                try clear p6
                try clear q1
                try clear q14
                try clear q2
                try clear q21
                try clear q23
                try clear q25
                try clear q286
                obtain ⟨x8_3, x15_3, x18_3, x30_3, x49_3, rfl, HA, HK3, HO_8, HO_15, HO_18, HO_30, HB⟩ := hrel
                have hl15_3 := (Kd.qQ HO_15.out).1
                rw [hl15_3] at HO_15
                (try simp only [hl15_3])
                (try simp only [hl15_3] at HO_8)
                (try simp only [hl15_3] at HO_18)
                (try simp only [hl15_3] at HO_30)
                have hl18_3 := (Kd.qQ HO_18.out).1
                rw [hl18_3] at HO_18
                (try simp only [hl18_3])
                (try simp only [hl18_3] at HO_8)
                (try simp only [hl18_3] at HO_15)
                (try simp only [hl18_3] at HO_30)
                have hl30_3 := (Kd.qQ HO_30.out).1
                rw [hl30_3] at HO_30
                (try simp only [hl30_3])
                (try simp only [hl30_3] at HO_8)
                (try simp only [hl30_3] at HO_15)
                (try simp only [hl30_3] at HO_18)
                cases gk with
                | zero => exact absurd HA.out (by simp [qF.l2])
                | succ k3 =>
                 have H := HA.out
                 clear HA
                 simp only [qF.l2] at H
                 by_cases c40 : x49_3 < 4
                 ·rw [if_pos c40] at H
                  have c40b0 : decide (x49_3 < 4) = true := decide_eq_true c40
                  clear c40
                  by_cases c41 : 0 ≤ (rd x8_2 x9_2)
                  ·rw [if_pos c41] at H
                   have c41b0 : decide (0 ≤ (rd x8_2 x9_2)) = true := decide_eq_true c41
                   clear c41
                   by_cases c42 : (rd x8_2 x9_2) < (l0.length : Int)
                   ·rw [if_pos c42] at H
                    have c42b0 : decide ((rd x8_2 x9_2) < (l0.length : Int)) = true := decide_eq_true c42
                    (try (have c42b0_hl18_1 := c42b0; simp only [hl18_1] at c42b0_hl18_1))
                    (try (have c42b0_hl15_2 := c42b0; simp only [hl15_2] at c42b0_hl15_2))
                    (try (have c42b0_hl18_2 := c42b0; simp only [hl18_2] at c42b0_hl18_2))
                    (try (have c42b0_hl30_2 := c42b0; simp only [hl30_2] at c42b0_hl30_2))
                    (try (have c42b0_hl15_3 := c42b0; simp only [hl15_3] at c42b0_hl15_3))
                    (try (have c42b0_hl18_3 := c42b0; simp only [hl18_3] at c42b0_hl18_3))
                    (try (have c42b0_hl30_3 := c42b0; simp only [hl30_3] at c42b0_hl30_3))
                    clear c42
                    by_cases c43 : 0 ≤ x49_3
                    ·rw [if_pos c43] at H
                     have c43b0 : decide (0 ≤ x49_3) = true := decide_eq_true c43
                     clear c43
                     replace H := Option.bind_eq_some_iff.mp H
                     obtain ⟨⟨t289, t290⟩, A450, H⟩ := H
                     replace H : ((qLA.f k3 l0 t289 t290).bind fun t291 => (if t291 < 0 then (qF.l2 k3 l0 x8_3 x9_2 (rd x8_2 x9_2) x15_3 x18_3 x30_3 (wrap64 (x49_3 + 1))) else (if 0 ≤ t291 then (if t291 < (x18_3.length : Int) then (if (rd x18_3 t291) ≥ 0 then (qF.l2 k3 l0 x8_3 x9_2 (rd x8_2 x9_2) x15_3 x18_3 x30_3 (wrap64 (x49_3 + 1))) else (if (rd x8_2 x9_2) < (x30_3.length : Int) then ((qPA.f ((qZ x30_3 (rd x8_2 x9_2)).f0) ((qZ x30_3 (rd x8_2 x9_2)).f1) ((qZ x30_3 (rd x8_2 x9_2)).f2) ((qZ x30_3 (rd x8_2 x9_2)).f3) ((qZ x30_3 (rd x8_2 x9_2)).f4) ((qZ x30_3 (rd x8_2 x9_2)).f5) (bt (⟨#[110, 101, 115, 119]⟩ : ByteArray) x49_3)).bind fun bt294 => (if (rd x8_2 x9_2) < (x18_3.length : Int) then (if t291 < (x30_3.length : Int) then (if t291 < (x15_3.length : Int) then (if x8_3.length < 17592186044416 then (qF.l2 k3 l0 (x8_3 ++ [t291]) x9_2 (rd x8_2 x9_2) (x15_3.set (t291 : Int).toNat bt294.2.2.2.2.2) (x18_3.set (t291 : Int).toNat (wrap64 ((rd x18_3 (rd x8_2 x9_2)) + 1))) (x30_3.set (t291 : Int).toNat (⟨bt294.1, bt294.2.1, bt294.2.2.1, bt294.2.2.2.1, bt294.2.2.2.2.1, bt294.2.2.2.2.2⟩ : S53)) (wrap64 (x49_3 + 1))) else (none)) else (none)) else (none)) else (none))) else (none))) else (none)) else (none)))) = some (r1, r2) := H
                     have A45 := Aside0.mk A450
                     clear A450
                     replace H := Option.bind_eq_some_iff.mp H
                     obtain ⟨t291, A460, H⟩ := H
                     replace H : (if t291 < 0 then (qF.l2 k3 l0 x8_3 x9_2 (rd x8_2 x9_2) x15_3 x18_3 x30_3 (wrap64 (x49_3 + 1))) else (if 0 ≤ t291 then (if t291 < (x18_3.length : Int) then (if (rd x18_3 t291) ≥ 0 then (qF.l2 k3 l0 x8_3 x9_2 (rd x8_2 x9_2) x15_3 x18_3 x30_3 (wrap64 (x49_3 + 1))) else (if (rd x8_2 x9_2) < (x30_3.length : Int) then ((qPA.f ((qZ x30_3 (rd x8_2 x9_2)).f0) ((qZ x30_3 (rd x8_2 x9_2)).f1) ((qZ x30_3 (rd x8_2 x9_2)).f2) ((qZ x30_3 (rd x8_2 x9_2)).f3) ((qZ x30_3 (rd x8_2 x9_2)).f4) ((qZ x30_3 (rd x8_2 x9_2)).f5) (bt (⟨#[110, 101, 115, 119]⟩ : ByteArray) x49_3)).bind fun bt294 => (if (rd x8_2 x9_2) < (x18_3.length : Int) then (if t291 < (x30_3.length : Int) then (if t291 < (x15_3.length : Int) then (if x8_3.length < 17592186044416 then (qF.l2 k3 l0 (x8_3 ++ [t291]) x9_2 (rd x8_2 x9_2) (x15_3.set (t291 : Int).toNat bt294.2.2.2.2.2) (x18_3.set (t291 : Int).toNat (wrap64 ((rd x18_3 (rd x8_2 x9_2)) + 1))) (x30_3.set (t291 : Int).toNat (⟨bt294.1, bt294.2.1, bt294.2.2.1, bt294.2.2.2.1, bt294.2.2.2.2.1, bt294.2.2.2.2.2⟩ : S53)) (wrap64 (x49_3 + 1))) else (none)) else (none)) else (none)) else (none))) else (none))) else (none)) else (none))) = some (r1, r2) := H
                     have A46 := Aside0.mk A460
                     clear A460
                     by_cases c47 : t291 < 0
                     ·rw [if_pos c47] at H
                      have c47b0 : decide (t291 < 0) = true := decide_eq_true c47
                      clear c47
                      have H' := Aside0.mk H
                      clear H
                      try go_wp2
                      have n0_ := Aside0.mk (Kd.qI HO_8.out)
                      have n1_ := Aside0.mk (Kd.qI HO_15.out)
                      have n2_ := Aside0.mk (Kd.qI HO_18.out)
                      have n3_ := Aside0.mk (Kd.qI HO_30.out)
                      have n4_ := Aside0.mk (qh HB.out)
                      clear HO_8
                      clear HO_15
                      clear HO_18
                      clear HO_30
                      clear HB
                      have HO_8 := n0_
                      have HO_15 := n1_
                      have HO_18 := n2_
                      have HO_30 := n3_
                      have HB := n4_
                      clear n0_ n1_ n2_ n3_ n4_
                      have p287 : 0 ≤ ((rd x8_2 x9_2) : Int) := of_decide_eq_true (by first | (with_reducible assumption) | assumption)
                      have q287 : (rd x8_2 x9_2) < (l0.length : Int) := of_decide_eq_true (by first | (with_reducible assumption) | assumption)
                      obtain ⟨ad287, e287, hx287_0, hx287_1⟩ := qOC HR0.out (rd x8_2 x9_2) p287 q287
                      have hw287_1 := hx287_1
                      have hw287_0 := hx287_0
                      cases e287
                      replace hx287_0 := (HB.out.cell (World.block_lt_of_cell? w _ hx287_0)).trans hx287_0
                      replace hx287_1 := (HB.out.cell (World.block_lt_of_cell? w _ hx287_1)).trans hx287_1
                      replace p287 := eq_true p287
                      replace q287 := eq_true q287
                      have p288 : 0 ≤ ((rd x8_2 x9_2) : Int) := of_decide_eq_true (by first | (with_reducible assumption) | assumption)
                      have q288 : (rd x8_2 x9_2) < (l0.length : Int) := of_decide_eq_true (by first | (with_reducible assumption) | assumption)
                      obtain ⟨ad288, e288, hx288_0, hx288_1⟩ := qOC HR0.out (rd x8_2 x9_2) p288 q288
                      have hw288_1 := hx288_1
                      have hw288_0 := hx288_0
                      obtain rfl : ad287 = ad288 := (by injection e288)
                      replace hx288_0 := (HB.out.cell (World.block_lt_of_cell? w _ hx288_0)).trans hx288_0
                      replace hx288_1 := (HB.out.cell (World.block_lt_of_cell? w _ hx288_1)).trans hx288_1
                      replace p288 := eq_true p288
                      replace q288 := eq_true q288
                      have p44 : 0 ≤ (x49_3 : Int) := of_decide_eq_true (by first | (with_reducible assumption) | assumption)
                      have q44 : x49_3 < (4 : Int) := of_decide_eq_true (by first | (with_reducible assumption) | assumption)
                      have hx44 := bt_at (⟨#[110, 101, 115, 119]⟩ : ByteArray) x49_3
                      replace p44 := eq_true p44
                      replace q44 := eq_true q44
                      refine qxA (n := 18) (S := fun w' => w'.cell? (ad287.add (((rd x8_2 x9_2)).toNat * 2)) = some (.int .i64 ((qBA l0 (rd x8_2 x9_2)).f0)) ∧ w'.cell? ⟨(ad287.add (((rd x8_2 x9_2)).toNat * 2)).block, (ad287.add (((rd x8_2 x9_2)).toNat * 2)).off + 1, none⟩ = some (.int .i64 ((qBA l0 (rd x8_2 x9_2)).f1)) ∧ w'.cell? (ad287.add (((rd x8_2 x9_2)).toNat * 2)) = some (.int .i64 ((qBA l0 (rd x8_2 x9_2)).f0)) ∧ w'.cell? ⟨(ad287.add (((rd x8_2 x9_2)).toNat * 2)).block, (ad287.add (((rd x8_2 x9_2)).toNat * 2)).off + 1, none⟩ = some (.int .i64 ((qBA l0 (rd x8_2 x9_2)).f1))) (ds := []) #[false, false, false, false, false, false, false, false, false, false, false, false, false, false, false, false, false, false] (by kernel_rfl) rfl rfl ⟨((HB.out.cell (World.block_lt_of_cell? w _ hw287_0)).trans hw287_0), ((HB.out.cell (World.block_lt_of_cell? w _ hw287_1)).trans hw287_1), ((HB.out.cell (World.block_lt_of_cell? w _ hw288_0)).trans hw288_0), ((HB.out.cell (World.block_lt_of_cell? w _ hw288_1)).trans hw288_1)⟩ (fun hHeld => ?_); refine qNA qF.tab16 qF.bits16 (fun HT_ HW_ => ?_)
                      generalize wr.drew = w48 at HO_8 HO_15 HO_18 HO_30 HB hx287_0 hx287_1 hx288_0 hx288_1 hHeld ⊢
                      refine pS (i := 0) (N := some 52) #[true, false, false, false, false, false, false, false, false, false, false, false, false, false, false, false, false, false] HT_ ?_
                      refine pS (i := 1) (N := some 53) #[true, true, false, false, false, false, false, false, false, false, false, false, false, false, false, false, false, false] HT_ ?_
                      refine pS (i := 2) (N := some 54) #[true, true, true, false, false, false, false, false, false, false, false, false, false, false, false, false, false, false] HT_ ?_
                      refine pS (i := 3) (N := some 55) #[true, true, true, true, false, false, false, false, false, false, false, false, false, false, false, false, false, false] HT_ ?_
                      refine pS (i := 4) (N := some 56) #[true, true, true, true, true, false, false, false, false, false, false, false, false, false, false, false, false, false] HT_ ?_
                      refine pS (i := 6) (N := some 58) #[true, true, true, true, true, false, true, false, false, false, false, false, false, false, false, false, false, false] HT_ ?_
                      refine pS (i := 7) (N := some 59) #[true, true, true, true, true, false, true, true, false, false, false, false, false, false, false, false, false, false] HT_ ?_
                      refine pS (i := 8) (N := some 60) #[true, true, true, true, true, false, true, true, true, false, false, false, false, false, false, false, false, false] HT_ ?_
                      refine pS (i := 9) (N := some 61) #[true, true, true, true, true, false, true, true, true, true, false, false, false, false, false, false, false, false] HT_ ?_
                      refine pS (i := 11) (N := some 63) #[true, true, true, true, true, false, true, true, true, true, false, true, false, false, false, false, false, false] HT_ ?_
                      refine tS (i := 5) (N := some 57) #[true, true, true, true, true, true, true, true, true, true, false, true, false, false, false, false, false, false] HT_ HW_ hHeld ?_
                      refine tS (i := 10) (N := some 62) #[true, true, true, true, true, true, true, true, true, true, true, true, false, false, false, false, false, false] HT_ HW_ hHeld ?_
                      refine tS (i := 12) (N := some 64) #[true, true, true, true, true, true, true, true, true, true, true, true, true, false, false, false, false, false] HT_ HW_ hHeld ?_
                      refine one_ (i := 13) (N := some 65) #[true, true, true, true, true, true, true, true, true, true, true, true, true, true, false, false, false, false] rfl rfl (qjA HT_.out (by kernel_rfl)) (by decide) (fun K hK => ?_)
                      refine goes_ Tryz.func56 (by kernel_rfl) rfl #[.int .i64 ((qBA l0 (rd x8_2 x9_2)).f0), .int .i64 ((qBA l0 (rd x8_2 x9_2)).f1), .int .u8 (bt (⟨#[110, 101, 115, 119]⟩ : ByteArray) x49_3)] (by rfl) rfl rfl (by (try simp only [List.map_toArray, List.map_cons, List.map_nil]); first | done | rfl | (simp only [List.length_drop, List.length_take]; rfl)) ?_
                      with_reducible refine (qCB.calls ((qBA l0 (rd x8_2 x9_2)).f0) ((qBA l0 (rd x8_2 x9_2)).f1) (bt (⟨#[110, 101, 115, 119]⟩ : ByteArray) x49_3) t289 t290 _ A45.out).mono ?_
                      rintro e w' ⟨rfl, ⟨nd, rfl⟩⟩
                      refine ⟨_, rfl, ?_⟩
                      refine hK.out _ _ ⟨((HB.out.cell (World.block_lt_of_cell? w _ hw287_0)).trans hw287_0), ((HB.out.cell (World.block_lt_of_cell? w _ hw287_1)).trans hw287_1), ((HB.out.cell (World.block_lt_of_cell? w _ hw288_0)).trans hw288_0), ((HB.out.cell (World.block_lt_of_cell? w _ hw288_1)).trans hw288_1)⟩ (fun hHeld => ?_)
                      clear hK K
                      refine norm_ (a' := ?_) ?_ ?_
                      rotate_left
                      ·show Act.put _ (some 65) _ = _
                       simp only [Act.put, List.setIfInBounds_toArray, List.set_cons_zero, List.set_cons_succ, i64_w, i32_w]
                       rfl
                      refine pS (i := 14) (N := some 66) #[true, true, true, true, true, true, true, true, true, true, true, true, true, true, true, false, false, false] HT_ ?_
                      refine pS (i := 15) (N := some 67) #[true, true, true, true, true, true, true, true, true, true, true, true, true, true, true, true, false, false] HT_ ?_
                      refine one_ (i := 16) (N := some 68) #[true, true, true, true, true, true, true, true, true, true, true, true, true, true, true, true, true, false] rfl rfl (qjA HT_.out (by kernel_rfl)) (by decide) (fun K hK => ?_)
                      refine goes_ Tryz.func55 (by kernel_rfl) rfl #[.slice (some ad287) l0.length c0, .int .i64 t289, .int .i64 t290] (by rfl) rfl rfl (by (try simp only [List.map_toArray, List.map_cons, List.map_nil]); first | done | rfl | (simp only [List.length_drop, List.length_take]; rfl)) ?_
                      with_reducible refine (qLA.calls k3 _ _ l0 t289 t290 t291 _ ?side1 ?side2 A46.out).mono ?_
                      (case side1 => repeat (first | exact (Kd.qiA HR0.out bl) | (with_reducible refine Kd.qcA ?_ _) | (with_reducible refine Kd.qbA ?_ _) | (with_reducible refine Kd.qtA ?_)))
                      (case side2 => exact HC0.out)
                      rintro e w49 ⟨rfl, hb⟩
                      refine ⟨_, rfl, ?_⟩
                      have n0_ := Aside0.mk (Kd.qW (by (with_reducible repeat (first | apply Kd.qG | apply Kd.qH | apply Kd.qI)); exact HO_8.out) hb)
                      have n1_ := Aside0.mk (Kd.qW (by (with_reducible repeat (first | apply Kd.qG | apply Kd.qH | apply Kd.qI)); exact HO_15.out) hb)
                      have n2_ := Aside0.mk (Kd.qW (by (with_reducible repeat (first | apply Kd.qG | apply Kd.qH | apply Kd.qI)); exact HO_18.out) hb)
                      have n3_ := Aside0.mk (Kd.qW (by (with_reducible repeat (first | apply Kd.qG | apply Kd.qH | apply Kd.qI)); exact HO_30.out) hb)
                      have n4_ := Aside0.mk (qK bl hb)
                      clear HO_8
                      clear HO_15
                      clear HO_18
                      clear HO_30
                      clear HB
                      have HO_8 := n0_
                      have HO_15 := n1_
                      have HO_18 := n2_
                      have HO_30 := n3_
                      have HB := n4_
                      clear n0_ n1_ n2_ n3_ n4_
                      (try clear hb)
                      (try clear hb2)
                      (try clear hk)
                      (try clear hi)
                      refine hK.out _ _ ⟨((HB.out.cell (World.block_lt_of_cell? w _ hw287_0)).trans hw287_0), ((HB.out.cell (World.block_lt_of_cell? w _ hw287_1)).trans hw287_1), ((HB.out.cell (World.block_lt_of_cell? w _ hw288_0)).trans hw288_0), ((HB.out.cell (World.block_lt_of_cell? w _ hw288_1)).trans hw288_1)⟩ (fun hHeld => ?_)
                      clear hK K
                      refine norm_ (a' := ?_) ?_ ?_
                      rotate_left
                      ·show Act.put _ (some 68) _ = _
                       simp only [Act.put, List.setIfInBounds_toArray, List.set_cons_zero, List.set_cons_succ, i64_w, i32_w]
                       rfl
                      refine pS (i := 17) (N := some 12) #[true, true, true, true, true, true, true, true, true, true, true, true, true, true, true, true, true, true] HT_ ?_
                      refine done_ (qvA HT_.out (by kernel_rfl)) ?_
                      try go_wp2
                      (try simp only [← hl15_3, ← hl18_3, ← hl30_3])
                      go_roundg k3
                      case measure => have := HK1.out; have := HK2.out; have := HK3.out; omega
                      case rel => exact ⟨(x8_3), (x15_3), (x18_3), (x30_3), (wrap64 (x49_3 + 1)), (by first | rfl | (simp; done) | (simp [*]; done)), H', ⟨by have := HK1.out; have := HK2.out; have := HK3.out; omega⟩, ⟨by (try simp only [hl18_1]); (try simp only [hl15_2]); (try simp only [hl18_2]); (try simp only [hl30_2]); (try simp only [hl15_3]); (try simp only [hl18_3]); (try simp only [hl30_3]); (with_reducible repeat (first | apply Kd.qG | apply Kd.qH | apply Kd.qI)); exact HO_8.out⟩, ⟨by (try simp only [hl18_1]); (try simp only [hl15_2]); (try simp only [hl18_2]); (try simp only [hl30_2]); (try simp only [hl15_3]); (try simp only [hl18_3]); (try simp only [hl30_3]); (with_reducible repeat (first | apply Kd.qG | apply Kd.qH | apply Kd.qI)); exact HO_15.out⟩, ⟨by (try simp only [hl18_1]); (try simp only [hl15_2]); (try simp only [hl18_2]); (try simp only [hl30_2]); (try simp only [hl15_3]); (try simp only [hl18_3]); (try simp only [hl30_3]); (with_reducible repeat (first | apply Kd.qG | apply Kd.qH | apply Kd.qI)); exact HO_18.out⟩, ⟨by (try simp only [hl18_1]); (try simp only [hl15_2]); (try simp only [hl18_2]); (try simp only [hl30_2]); (try simp only [hl15_3]); (try simp only [hl18_3]); (try simp only [hl30_3]); (with_reducible repeat (first | apply Kd.qG | apply Kd.qH | apply Kd.qI)); exact HO_30.out⟩, ⟨bl⟩⟩
                     ·rw [if_neg c47] at H
                      have c47b0 : decide (t291 < 0) = false := decide_eq_false c47
                      clear c47
                      by_cases c50 : 0 ≤ t291
                      ·rw [if_pos c50] at H
                       have c50b0 : decide (0 ≤ t291) = true := decide_eq_true c50
                       clear c50
                       by_cases c51 : t291 < (x18_3.length : Int)
                       ·rw [if_pos c51] at H
                        have c51b0 : decide (t291 < (x18_3.length : Int)) = true := decide_eq_true c51
                        (try (have c51b0_hl18_1 := c51b0; simp only [hl18_1] at c51b0_hl18_1))
                        (try (have c51b0_hl15_2 := c51b0; simp only [hl15_2] at c51b0_hl15_2))
                        (try (have c51b0_hl18_2 := c51b0; simp only [hl18_2] at c51b0_hl18_2))
                        (try (have c51b0_hl30_2 := c51b0; simp only [hl30_2] at c51b0_hl30_2))
                        (try (have c51b0_hl15_3 := c51b0; simp only [hl15_3] at c51b0_hl15_3))
                        (try (have c51b0_hl18_3 := c51b0; simp only [hl18_3] at c51b0_hl18_3))
                        (try (have c51b0_hl30_3 := c51b0; simp only [hl30_3] at c51b0_hl30_3))
                        clear c51
                        by_cases c52 : (rd x18_3 t291) ≥ 0
                        ·rw [if_pos c52] at H
                         have c52b0 : decide (0 ≤ (rd x18_3 t291)) = true := decide_eq_true c52
                         clear c52
                         have H' := Aside0.mk H
                         clear H
                         try go_wp2
                         have n0_ := Aside0.mk (Kd.qI HO_8.out)
                         have n1_ := Aside0.mk (Kd.qI HO_15.out)
                         have n2_ := Aside0.mk (Kd.qI HO_18.out)
                         have n3_ := Aside0.mk (Kd.qI HO_30.out)
                         have n4_ := Aside0.mk (qh HB.out)
                         clear HO_8
                         clear HO_15
                         clear HO_18
                         clear HO_30
                         clear HB
                         have HO_8 := n0_
                         have HO_15 := n1_
                         have HO_18 := n2_
                         have HO_30 := n3_
                         have HB := n4_
                         clear n0_ n1_ n2_ n3_ n4_
                         have p287 : 0 ≤ ((rd x8_2 x9_2) : Int) := of_decide_eq_true (by first | (with_reducible assumption) | assumption)
                         have q287 : (rd x8_2 x9_2) < (l0.length : Int) := of_decide_eq_true (by first | (with_reducible assumption) | assumption)
                         obtain ⟨ad287, e287, hx287_0, hx287_1⟩ := qOC HR0.out (rd x8_2 x9_2) p287 q287
                         have hw287_1 := hx287_1
                         have hw287_0 := hx287_0
                         cases e287
                         replace hx287_0 := (HB.out.cell (World.block_lt_of_cell? w _ hx287_0)).trans hx287_0
                         replace hx287_1 := (HB.out.cell (World.block_lt_of_cell? w _ hx287_1)).trans hx287_1
                         replace p287 := eq_true p287
                         replace q287 := eq_true q287
                         have p288 : 0 ≤ ((rd x8_2 x9_2) : Int) := of_decide_eq_true (by first | (with_reducible assumption) | assumption)
                         have q288 : (rd x8_2 x9_2) < (l0.length : Int) := of_decide_eq_true (by first | (with_reducible assumption) | assumption)
                         obtain ⟨ad288, e288, hx288_0, hx288_1⟩ := qOC HR0.out (rd x8_2 x9_2) p288 q288
                         have hw288_1 := hx288_1
                         have hw288_0 := hx288_0
                         obtain rfl : ad287 = ad288 := (by injection e288)
                         replace hx288_0 := (HB.out.cell (World.block_lt_of_cell? w _ hx288_0)).trans hx288_0
                         replace hx288_1 := (HB.out.cell (World.block_lt_of_cell? w _ hx288_1)).trans hx288_1
                         replace p288 := eq_true p288
                         replace q288 := eq_true q288
                         have p44 : 0 ≤ (x49_3 : Int) := of_decide_eq_true (by first | (with_reducible assumption) | assumption)
                         have q44 : x49_3 < (4 : Int) := of_decide_eq_true (by first | (with_reducible assumption) | assumption)
                         have hx44 := bt_at (⟨#[110, 101, 115, 119]⟩ : ByteArray) x49_3
                         replace p44 := eq_true p44
                         replace q44 := eq_true q44
                         refine qxA (n := 18) (S := fun w' => w'.cell? (ad287.add (((rd x8_2 x9_2)).toNat * 2)) = some (.int .i64 ((qBA l0 (rd x8_2 x9_2)).f0)) ∧ w'.cell? ⟨(ad287.add (((rd x8_2 x9_2)).toNat * 2)).block, (ad287.add (((rd x8_2 x9_2)).toNat * 2)).off + 1, none⟩ = some (.int .i64 ((qBA l0 (rd x8_2 x9_2)).f1)) ∧ w'.cell? (ad287.add (((rd x8_2 x9_2)).toNat * 2)) = some (.int .i64 ((qBA l0 (rd x8_2 x9_2)).f0)) ∧ w'.cell? ⟨(ad287.add (((rd x8_2 x9_2)).toNat * 2)).block, (ad287.add (((rd x8_2 x9_2)).toNat * 2)).off + 1, none⟩ = some (.int .i64 ((qBA l0 (rd x8_2 x9_2)).f1))) (ds := []) #[false, false, false, false, false, false, false, false, false, false, false, false, false, false, false, false, false, false] (by kernel_rfl) rfl rfl ⟨((HB.out.cell (World.block_lt_of_cell? w _ hw287_0)).trans hw287_0), ((HB.out.cell (World.block_lt_of_cell? w _ hw287_1)).trans hw287_1), ((HB.out.cell (World.block_lt_of_cell? w _ hw288_0)).trans hw288_0), ((HB.out.cell (World.block_lt_of_cell? w _ hw288_1)).trans hw288_1)⟩ (fun hHeld => ?_); refine qNA qF.tab16 qF.bits16 (fun HT_ HW_ => ?_)
                         generalize wr.drew = w53 at HO_8 HO_15 HO_18 HO_30 HB hx287_0 hx287_1 hx288_0 hx288_1 hHeld ⊢
                         refine pS (i := 0) (N := some 52) #[true, false, false, false, false, false, false, false, false, false, false, false, false, false, false, false, false, false] HT_ ?_
                         refine pS (i := 1) (N := some 53) #[true, true, false, false, false, false, false, false, false, false, false, false, false, false, false, false, false, false] HT_ ?_
                         refine pS (i := 2) (N := some 54) #[true, true, true, false, false, false, false, false, false, false, false, false, false, false, false, false, false, false] HT_ ?_
                         refine pS (i := 3) (N := some 55) #[true, true, true, true, false, false, false, false, false, false, false, false, false, false, false, false, false, false] HT_ ?_
                         refine pS (i := 4) (N := some 56) #[true, true, true, true, true, false, false, false, false, false, false, false, false, false, false, false, false, false] HT_ ?_
                         refine pS (i := 6) (N := some 58) #[true, true, true, true, true, false, true, false, false, false, false, false, false, false, false, false, false, false] HT_ ?_
                         refine pS (i := 7) (N := some 59) #[true, true, true, true, true, false, true, true, false, false, false, false, false, false, false, false, false, false] HT_ ?_
                         refine pS (i := 8) (N := some 60) #[true, true, true, true, true, false, true, true, true, false, false, false, false, false, false, false, false, false] HT_ ?_
                         refine pS (i := 9) (N := some 61) #[true, true, true, true, true, false, true, true, true, true, false, false, false, false, false, false, false, false] HT_ ?_
                         refine pS (i := 11) (N := some 63) #[true, true, true, true, true, false, true, true, true, true, false, true, false, false, false, false, false, false] HT_ ?_
                         refine tS (i := 5) (N := some 57) #[true, true, true, true, true, true, true, true, true, true, false, true, false, false, false, false, false, false] HT_ HW_ hHeld ?_
                         refine tS (i := 10) (N := some 62) #[true, true, true, true, true, true, true, true, true, true, true, true, false, false, false, false, false, false] HT_ HW_ hHeld ?_
                         refine tS (i := 12) (N := some 64) #[true, true, true, true, true, true, true, true, true, true, true, true, true, false, false, false, false, false] HT_ HW_ hHeld ?_
                         refine one_ (i := 13) (N := some 65) #[true, true, true, true, true, true, true, true, true, true, true, true, true, true, false, false, false, false] rfl rfl (qjA HT_.out (by kernel_rfl)) (by decide) (fun K hK => ?_)
                         refine goes_ Tryz.func56 (by kernel_rfl) rfl #[.int .i64 ((qBA l0 (rd x8_2 x9_2)).f0), .int .i64 ((qBA l0 (rd x8_2 x9_2)).f1), .int .u8 (bt (⟨#[110, 101, 115, 119]⟩ : ByteArray) x49_3)] (by rfl) rfl rfl (by (try simp only [List.map_toArray, List.map_cons, List.map_nil]); first | done | rfl | (simp only [List.length_drop, List.length_take]; rfl)) ?_
                         with_reducible refine (qCB.calls ((qBA l0 (rd x8_2 x9_2)).f0) ((qBA l0 (rd x8_2 x9_2)).f1) (bt (⟨#[110, 101, 115, 119]⟩ : ByteArray) x49_3) t289 t290 _ A45.out).mono ?_
                         rintro e w' ⟨rfl, ⟨nd, rfl⟩⟩
                         refine ⟨_, rfl, ?_⟩
                         refine hK.out _ _ ⟨((HB.out.cell (World.block_lt_of_cell? w _ hw287_0)).trans hw287_0), ((HB.out.cell (World.block_lt_of_cell? w _ hw287_1)).trans hw287_1), ((HB.out.cell (World.block_lt_of_cell? w _ hw288_0)).trans hw288_0), ((HB.out.cell (World.block_lt_of_cell? w _ hw288_1)).trans hw288_1)⟩ (fun hHeld => ?_)
                         clear hK K
                         refine norm_ (a' := ?_) ?_ ?_
                         rotate_left
                         ·show Act.put _ (some 65) _ = _
                          simp only [Act.put, List.setIfInBounds_toArray, List.set_cons_zero, List.set_cons_succ, i64_w, i32_w]
                          rfl
                         refine pS (i := 14) (N := some 66) #[true, true, true, true, true, true, true, true, true, true, true, true, true, true, true, false, false, false] HT_ ?_
                         refine pS (i := 15) (N := some 67) #[true, true, true, true, true, true, true, true, true, true, true, true, true, true, true, true, false, false] HT_ ?_
                         refine one_ (i := 16) (N := some 68) #[true, true, true, true, true, true, true, true, true, true, true, true, true, true, true, true, true, false] rfl rfl (qjA HT_.out (by kernel_rfl)) (by decide) (fun K hK => ?_)
                         refine goes_ Tryz.func55 (by kernel_rfl) rfl #[.slice (some ad287) l0.length c0, .int .i64 t289, .int .i64 t290] (by rfl) rfl rfl (by (try simp only [List.map_toArray, List.map_cons, List.map_nil]); first | done | rfl | (simp only [List.length_drop, List.length_take]; rfl)) ?_
                         with_reducible refine (qLA.calls k3 _ _ l0 t289 t290 t291 _ ?side1 ?side2 A46.out).mono ?_
                         (case side1 => repeat (first | exact (Kd.qiA HR0.out bl) | (with_reducible refine Kd.qcA ?_ _) | (with_reducible refine Kd.qbA ?_ _) | (with_reducible refine Kd.qtA ?_)))
                         (case side2 => exact HC0.out)
                         rintro e w54 ⟨rfl, hb⟩
                         refine ⟨_, rfl, ?_⟩
                         have n0_ := Aside0.mk (Kd.qW (by (with_reducible repeat (first | apply Kd.qG | apply Kd.qH | apply Kd.qI)); exact HO_8.out) hb)
                         have n1_ := Aside0.mk (Kd.qW (by (with_reducible repeat (first | apply Kd.qG | apply Kd.qH | apply Kd.qI)); exact HO_15.out) hb)
                         have n2_ := Aside0.mk (Kd.qW (by (with_reducible repeat (first | apply Kd.qG | apply Kd.qH | apply Kd.qI)); exact HO_18.out) hb)
                         have n3_ := Aside0.mk (Kd.qW (by (with_reducible repeat (first | apply Kd.qG | apply Kd.qH | apply Kd.qI)); exact HO_30.out) hb)
                         have n4_ := Aside0.mk (qK bl hb)
                         clear HO_8
                         clear HO_15
                         clear HO_18
                         clear HO_30
                         clear HB
                         have HO_8 := n0_
                         have HO_15 := n1_
                         have HO_18 := n2_
                         have HO_30 := n3_
                         have HB := n4_
                         clear n0_ n1_ n2_ n3_ n4_
                         (try clear hb)
                         (try clear hb2)
                         (try clear hk)
                         (try clear hi)
                         refine hK.out _ _ ⟨((HB.out.cell (World.block_lt_of_cell? w _ hw287_0)).trans hw287_0), ((HB.out.cell (World.block_lt_of_cell? w _ hw287_1)).trans hw287_1), ((HB.out.cell (World.block_lt_of_cell? w _ hw288_0)).trans hw288_0), ((HB.out.cell (World.block_lt_of_cell? w _ hw288_1)).trans hw288_1)⟩ (fun hHeld => ?_)
                         clear hK K
                         refine norm_ (a' := ?_) ?_ ?_
                         rotate_left
                         ·show Act.put _ (some 68) _ = _
                          simp only [Act.put, List.setIfInBounds_toArray, List.set_cons_zero, List.set_cons_succ, i64_w, i32_w]
                          rfl
                         refine pS (i := 17) (N := some 12) #[true, true, true, true, true, true, true, true, true, true, true, true, true, true, true, true, true, true] HT_ ?_
                         refine done_ (qvA HT_.out (by kernel_rfl)) ?_
                         have p292 : 0 ≤ (t291 : Int) := of_decide_eq_true (by first | (with_reducible assumption) | assumption)
                         have q292 : t291 < (x18_3.length : Int) := of_decide_eq_true (by first | (with_reducible assumption) | assumption)
                         obtain ⟨ad292, e292, hx292_0⟩ := Kd.qCA (Kd.qQ HO_18.out).2.2 t291 p292 q292
                         obtain rfl : (⟨go25, 0, none⟩ : Addr) = ad292 := (by injection e292)
                         (first | simp only [ql] at hx292_0 | simp only [qfA] at hx292_0 | simp only [Addr.add, Nat.zero_add] at hx292_0 | skip)
                         replace p292 := eq_true p292
                         replace q292 := eq_true q292
                         try go_wp2
                         (try simp only [← hl15_3, ← hl18_3, ← hl30_3])
                         go_roundg k3
                         case measure => have := HK1.out; have := HK2.out; have := HK3.out; omega
                         case rel => exact ⟨(x8_3), (x15_3), (x18_3), (x30_3), (wrap64 (x49_3 + 1)), (by first | rfl | (simp; done) | (simp [*]; done)), H', ⟨by have := HK1.out; have := HK2.out; have := HK3.out; omega⟩, ⟨by (try simp only [hl18_1]); (try simp only [hl15_2]); (try simp only [hl18_2]); (try simp only [hl30_2]); (try simp only [hl15_3]); (try simp only [hl18_3]); (try simp only [hl30_3]); (with_reducible repeat (first | apply Kd.qG | apply Kd.qH | apply Kd.qI)); exact HO_8.out⟩, ⟨by (try simp only [hl18_1]); (try simp only [hl15_2]); (try simp only [hl18_2]); (try simp only [hl30_2]); (try simp only [hl15_3]); (try simp only [hl18_3]); (try simp only [hl30_3]); (with_reducible repeat (first | apply Kd.qG | apply Kd.qH | apply Kd.qI)); exact HO_15.out⟩, ⟨by (try simp only [hl18_1]); (try simp only [hl15_2]); (try simp only [hl18_2]); (try simp only [hl30_2]); (try simp only [hl15_3]); (try simp only [hl18_3]); (try simp only [hl30_3]); (with_reducible repeat (first | apply Kd.qG | apply Kd.qH | apply Kd.qI)); exact HO_18.out⟩, ⟨by (try simp only [hl18_1]); (try simp only [hl15_2]); (try simp only [hl18_2]); (try simp only [hl30_2]); (try simp only [hl15_3]); (try simp only [hl18_3]); (try simp only [hl30_3]); (with_reducible repeat (first | apply Kd.qG | apply Kd.qH | apply Kd.qI)); exact HO_30.out⟩, ⟨bl⟩⟩
                        ·rw [if_neg c52] at H
                         have c52b0 : decide (0 ≤ (rd x18_3 t291)) = false := decide_eq_false c52
                         clear c52
                         by_cases c55 : (rd x8_2 x9_2) < (x30_3.length : Int)
                         ·rw [if_pos c55] at H
                          have c55b0 : decide ((rd x8_2 x9_2) < (x30_3.length : Int)) = true := decide_eq_true c55
                          (try (have c55b0_hl18_1 := c55b0; simp only [hl18_1] at c55b0_hl18_1))
                          (try (have c55b0_hl15_2 := c55b0; simp only [hl15_2] at c55b0_hl15_2))
                          (try (have c55b0_hl18_2 := c55b0; simp only [hl18_2] at c55b0_hl18_2))
                          (try (have c55b0_hl30_2 := c55b0; simp only [hl30_2] at c55b0_hl30_2))
                          (try (have c55b0_hl15_3 := c55b0; simp only [hl15_3] at c55b0_hl15_3))
                          (try (have c55b0_hl18_3 := c55b0; simp only [hl18_3] at c55b0_hl18_3))
                          (try (have c55b0_hl30_3 := c55b0; simp only [hl30_3] at c55b0_hl30_3))
                          clear c55
                          replace H := Option.bind_eq_some_iff.mp H
                          obtain ⟨⟨t294, t295, t296, t297, t298, t299⟩, A570, H⟩ := H
                          replace H : (if (rd x8_2 x9_2) < (x18_3.length : Int) then (if t291 < (x30_3.length : Int) then (if t291 < (x15_3.length : Int) then (if x8_3.length < 17592186044416 then (qF.l2 k3 l0 (x8_3 ++ [t291]) x9_2 (rd x8_2 x9_2) (x15_3.set (t291 : Int).toNat t299) (x18_3.set (t291 : Int).toNat (wrap64 ((rd x18_3 (rd x8_2 x9_2)) + 1))) (x30_3.set (t291 : Int).toNat (⟨t294, t295, t296, t297, t298, t299⟩ : S53)) (wrap64 (x49_3 + 1))) else (none)) else (none)) else (none)) else (none)) = some (r1, r2) := H
                          have A57 := Aside0.mk A570
                          clear A570
                          by_cases c58 : (rd x8_2 x9_2) < (x18_3.length : Int)
                          ·rw [if_pos c58] at H
                           have c58b0 : decide ((rd x8_2 x9_2) < (x18_3.length : Int)) = true := decide_eq_true c58
                           (try (have c58b0_hl18_1 := c58b0; simp only [hl18_1] at c58b0_hl18_1))
                           (try (have c58b0_hl15_2 := c58b0; simp only [hl15_2] at c58b0_hl15_2))
                           (try (have c58b0_hl18_2 := c58b0; simp only [hl18_2] at c58b0_hl18_2))
                           (try (have c58b0_hl30_2 := c58b0; simp only [hl30_2] at c58b0_hl30_2))
                           (try (have c58b0_hl15_3 := c58b0; simp only [hl15_3] at c58b0_hl15_3))
                           (try (have c58b0_hl18_3 := c58b0; simp only [hl18_3] at c58b0_hl18_3))
                           (try (have c58b0_hl30_3 := c58b0; simp only [hl30_3] at c58b0_hl30_3))
                           clear c58
                           by_cases c59 : t291 < (x30_3.length : Int)
                           ·rw [if_pos c59] at H
                            have c59b0 : decide (t291 < (x30_3.length : Int)) = true := decide_eq_true c59
                            (try (have c59b0_hl18_1 := c59b0; simp only [hl18_1] at c59b0_hl18_1))
                            (try (have c59b0_hl15_2 := c59b0; simp only [hl15_2] at c59b0_hl15_2))
                            (try (have c59b0_hl18_2 := c59b0; simp only [hl18_2] at c59b0_hl18_2))
                            (try (have c59b0_hl30_2 := c59b0; simp only [hl30_2] at c59b0_hl30_2))
                            (try (have c59b0_hl15_3 := c59b0; simp only [hl15_3] at c59b0_hl15_3))
                            (try (have c59b0_hl18_3 := c59b0; simp only [hl18_3] at c59b0_hl18_3))
                            (try (have c59b0_hl30_3 := c59b0; simp only [hl30_3] at c59b0_hl30_3))
                            clear c59
                            obtain ⟨y301, hy301⟩ : ∃ y_ : List (S53), y_ = (x30_3.set (t291 : Int).toNat (⟨t294, t295, t296, t297, t298, t299⟩ : S53)) := ⟨_, rfl⟩
                            replace H : (if t291 < (x15_3.length : Int) then (if x8_3.length < 17592186044416 then (qF.l2 k3 l0 (x8_3 ++ [t291]) x9_2 (rd x8_2 x9_2) (x15_3.set (t291 : Int).toNat t299) (x18_3.set (t291 : Int).toNat (wrap64 ((rd x18_3 (rd x8_2 x9_2)) + 1))) y301 (wrap64 (x49_3 + 1))) else (none)) else (none)) = some (r1, r2) := by first | (rw [hy301]; with_reducible exact H) | (have H2_ := (Option.bind_some _ _).symm.trans H; rw [hy301]; with_reducible exact H2_) | (have H2_ := (Option.bind_some _ _).symm.trans H; with_reducible exact H2_) | with_reducible exact H | (rw [hy301]; exact H) | exact H
                            have Ny301 := Aside0.mk hy301
                            clear hy301
                            obtain ⟨y302, hy302⟩ : ∃ y_ : List Int, y_ = (x18_3.set (t291 : Int).toNat (wrap64 ((rd x18_3 (rd x8_2 x9_2)) + 1))) := ⟨_, rfl⟩
                            replace H : (if t291 < (x15_3.length : Int) then (if x8_3.length < 17592186044416 then (qF.l2 k3 l0 (x8_3 ++ [t291]) x9_2 (rd x8_2 x9_2) (x15_3.set (t291 : Int).toNat t299) y302 y301 (wrap64 (x49_3 + 1))) else (none)) else (none)) = some (r1, r2) := by first | (rw [hy302]; with_reducible exact H) | (have H2_ := (Option.bind_some _ _).symm.trans H; rw [hy302]; with_reducible exact H2_) | (have H2_ := (Option.bind_some _ _).symm.trans H; with_reducible exact H2_) | with_reducible exact H | (rw [hy302]; exact H) | exact H
                            have Ny302 := Aside0.mk hy302
                            clear hy302
                            by_cases c63 : t291 < (x15_3.length : Int)
                            ·rw [if_pos c63] at H
                             have c63b0 : decide (t291 < (x15_3.length : Int)) = true := decide_eq_true c63
                             (try (have c63b0_hl18_1 := c63b0; simp only [hl18_1] at c63b0_hl18_1))
                             (try (have c63b0_hl15_2 := c63b0; simp only [hl15_2] at c63b0_hl15_2))
                             (try (have c63b0_hl18_2 := c63b0; simp only [hl18_2] at c63b0_hl18_2))
                             (try (have c63b0_hl30_2 := c63b0; simp only [hl30_2] at c63b0_hl30_2))
                             (try (have c63b0_hl15_3 := c63b0; simp only [hl15_3] at c63b0_hl15_3))
                             (try (have c63b0_hl18_3 := c63b0; simp only [hl18_3] at c63b0_hl18_3))
                             (try (have c63b0_hl30_3 := c63b0; simp only [hl30_3] at c63b0_hl30_3))
                             clear c63
                             obtain ⟨y304, hy304⟩ : ∃ y_ : List Int, y_ = (x15_3.set (t291 : Int).toNat t299) := ⟨_, rfl⟩
                             replace H : (if x8_3.length < 17592186044416 then (qF.l2 k3 l0 (x8_3 ++ [t291]) x9_2 (rd x8_2 x9_2) y304 y302 y301 (wrap64 (x49_3 + 1))) else (none)) = some (r1, r2) := by first | (rw [hy304]; with_reducible exact H) | (have H2_ := (Option.bind_some _ _).symm.trans H; rw [hy304]; with_reducible exact H2_) | (have H2_ := (Option.bind_some _ _).symm.trans H; with_reducible exact H2_) | with_reducible exact H | (rw [hy304]; exact H) | exact H
                             have Ny304 := Aside0.mk hy304
                             clear hy304
                             by_cases c65 : x8_3.length < 17592186044416
                             ·rw [if_pos c65] at H
                              have LMc65 := Aside0.mk c65
                              clear c65
                              obtain ⟨y305, hy305⟩ : ∃ y_ : List Int, y_ = (x8_3 ++ [t291]) := ⟨_, rfl⟩
                              replace H : (qF.l2 k3 l0 y305 x9_2 (rd x8_2 x9_2) y304 y302 y301 (wrap64 (x49_3 + 1))) = some (r1, r2) := by first | (rw [hy305]; with_reducible exact H) | (have H2_ := (Option.bind_some _ _).symm.trans H; rw [hy305]; with_reducible exact H2_) | (have H2_ := (Option.bind_some _ _).symm.trans H; with_reducible exact H2_) | with_reducible exact H | (rw [hy305]; exact H) | exact H
                              have Ny305 := Aside0.mk hy305
                              clear hy305
                              have H' := Aside0.mk H
                              clear H
                              try go_wp2
                              have n0_ := Aside0.mk (Kd.qI HO_8.out)
                              have n1_ := Aside0.mk (Kd.qI HO_15.out)
                              have n2_ := Aside0.mk (Kd.qI HO_18.out)
                              have n3_ := Aside0.mk (Kd.qI HO_30.out)
                              have n4_ := Aside0.mk (qh HB.out)
                              clear HO_8
                              clear HO_15
                              clear HO_18
                              clear HO_30
                              clear HB
                              have HO_8 := n0_
                              have HO_15 := n1_
                              have HO_18 := n2_
                              have HO_30 := n3_
                              have HB := n4_
                              clear n0_ n1_ n2_ n3_ n4_
                              have p287 : 0 ≤ ((rd x8_2 x9_2) : Int) := of_decide_eq_true (by first | (with_reducible assumption) | assumption)
                              have q287 : (rd x8_2 x9_2) < (l0.length : Int) := of_decide_eq_true (by first | (with_reducible assumption) | assumption)
                              obtain ⟨ad287, e287, hx287_0, hx287_1⟩ := qOC HR0.out (rd x8_2 x9_2) p287 q287
                              have hw287_1 := hx287_1
                              have hw287_0 := hx287_0
                              cases e287
                              replace hx287_0 := (HB.out.cell (World.block_lt_of_cell? w _ hx287_0)).trans hx287_0
                              replace hx287_1 := (HB.out.cell (World.block_lt_of_cell? w _ hx287_1)).trans hx287_1
                              replace p287 := eq_true p287
                              replace q287 := eq_true q287
                              have p288 : 0 ≤ ((rd x8_2 x9_2) : Int) := of_decide_eq_true (by first | (with_reducible assumption) | assumption)
                              have q288 : (rd x8_2 x9_2) < (l0.length : Int) := of_decide_eq_true (by first | (with_reducible assumption) | assumption)
                              obtain ⟨ad288, e288, hx288_0, hx288_1⟩ := qOC HR0.out (rd x8_2 x9_2) p288 q288
                              have hw288_1 := hx288_1
                              have hw288_0 := hx288_0
                              obtain rfl : ad287 = ad288 := (by injection e288)
                              replace hx288_0 := (HB.out.cell (World.block_lt_of_cell? w _ hx288_0)).trans hx288_0
                              replace hx288_1 := (HB.out.cell (World.block_lt_of_cell? w _ hx288_1)).trans hx288_1
                              replace p288 := eq_true p288
                              replace q288 := eq_true q288
                              have p44 : 0 ≤ (x49_3 : Int) := of_decide_eq_true (by first | (with_reducible assumption) | assumption)
                              have q44 : x49_3 < (4 : Int) := of_decide_eq_true (by first | (with_reducible assumption) | assumption)
                              have hx44 := bt_at (⟨#[110, 101, 115, 119]⟩ : ByteArray) x49_3
                              replace p44 := eq_true p44
                              replace q44 := eq_true q44
                              refine qxA (n := 18) (S := fun w' => w'.cell? (ad287.add (((rd x8_2 x9_2)).toNat * 2)) = some (.int .i64 ((qBA l0 (rd x8_2 x9_2)).f0)) ∧ w'.cell? ⟨(ad287.add (((rd x8_2 x9_2)).toNat * 2)).block, (ad287.add (((rd x8_2 x9_2)).toNat * 2)).off + 1, none⟩ = some (.int .i64 ((qBA l0 (rd x8_2 x9_2)).f1)) ∧ w'.cell? (ad287.add (((rd x8_2 x9_2)).toNat * 2)) = some (.int .i64 ((qBA l0 (rd x8_2 x9_2)).f0)) ∧ w'.cell? ⟨(ad287.add (((rd x8_2 x9_2)).toNat * 2)).block, (ad287.add (((rd x8_2 x9_2)).toNat * 2)).off + 1, none⟩ = some (.int .i64 ((qBA l0 (rd x8_2 x9_2)).f1))) (ds := []) #[false, false, false, false, false, false, false, false, false, false, false, false, false, false, false, false, false, false] (by kernel_rfl) rfl rfl ⟨((HB.out.cell (World.block_lt_of_cell? w _ hw287_0)).trans hw287_0), ((HB.out.cell (World.block_lt_of_cell? w _ hw287_1)).trans hw287_1), ((HB.out.cell (World.block_lt_of_cell? w _ hw288_0)).trans hw288_0), ((HB.out.cell (World.block_lt_of_cell? w _ hw288_1)).trans hw288_1)⟩ (fun hHeld => ?_); refine qNA qF.tab16 qF.bits16 (fun HT_ HW_ => ?_)
                              generalize wr.drew = w66 at HO_8 HO_15 HO_18 HO_30 HB hx287_0 hx287_1 hx288_0 hx288_1 hHeld ⊢
                              refine pS (i := 0) (N := some 52) #[true, false, false, false, false, false, false, false, false, false, false, false, false, false, false, false, false, false] HT_ ?_
                              refine pS (i := 1) (N := some 53) #[true, true, false, false, false, false, false, false, false, false, false, false, false, false, false, false, false, false] HT_ ?_
                              refine pS (i := 2) (N := some 54) #[true, true, true, false, false, false, false, false, false, false, false, false, false, false, false, false, false, false] HT_ ?_
                              refine pS (i := 3) (N := some 55) #[true, true, true, true, false, false, false, false, false, false, false, false, false, false, false, false, false, false] HT_ ?_
                              refine pS (i := 4) (N := some 56) #[true, true, true, true, true, false, false, false, false, false, false, false, false, false, false, false, false, false] HT_ ?_
                              refine pS (i := 6) (N := some 58) #[true, true, true, true, true, false, true, false, false, false, false, false, false, false, false, false, false, false] HT_ ?_
                              refine pS (i := 7) (N := some 59) #[true, true, true, true, true, false, true, true, false, false, false, false, false, false, false, false, false, false] HT_ ?_
                              refine pS (i := 8) (N := some 60) #[true, true, true, true, true, false, true, true, true, false, false, false, false, false, false, false, false, false] HT_ ?_
                              refine pS (i := 9) (N := some 61) #[true, true, true, true, true, false, true, true, true, true, false, false, false, false, false, false, false, false] HT_ ?_
                              refine pS (i := 11) (N := some 63) #[true, true, true, true, true, false, true, true, true, true, false, true, false, false, false, false, false, false] HT_ ?_
                              refine tS (i := 5) (N := some 57) #[true, true, true, true, true, true, true, true, true, true, false, true, false, false, false, false, false, false] HT_ HW_ hHeld ?_
                              refine tS (i := 10) (N := some 62) #[true, true, true, true, true, true, true, true, true, true, true, true, false, false, false, false, false, false] HT_ HW_ hHeld ?_
                              refine tS (i := 12) (N := some 64) #[true, true, true, true, true, true, true, true, true, true, true, true, true, false, false, false, false, false] HT_ HW_ hHeld ?_
                              refine one_ (i := 13) (N := some 65) #[true, true, true, true, true, true, true, true, true, true, true, true, true, true, false, false, false, false] rfl rfl (qjA HT_.out (by kernel_rfl)) (by decide) (fun K hK => ?_)
                              refine goes_ Tryz.func56 (by kernel_rfl) rfl #[.int .i64 ((qBA l0 (rd x8_2 x9_2)).f0), .int .i64 ((qBA l0 (rd x8_2 x9_2)).f1), .int .u8 (bt (⟨#[110, 101, 115, 119]⟩ : ByteArray) x49_3)] (by rfl) rfl rfl (by (try simp only [List.map_toArray, List.map_cons, List.map_nil]); first | done | rfl | (simp only [List.length_drop, List.length_take]; rfl)) ?_
                              with_reducible refine (qCB.calls ((qBA l0 (rd x8_2 x9_2)).f0) ((qBA l0 (rd x8_2 x9_2)).f1) (bt (⟨#[110, 101, 115, 119]⟩ : ByteArray) x49_3) t289 t290 _ A45.out).mono ?_
                              rintro e w' ⟨rfl, ⟨nd, rfl⟩⟩
                              refine ⟨_, rfl, ?_⟩
                              refine hK.out _ _ ⟨((HB.out.cell (World.block_lt_of_cell? w _ hw287_0)).trans hw287_0), ((HB.out.cell (World.block_lt_of_cell? w _ hw287_1)).trans hw287_1), ((HB.out.cell (World.block_lt_of_cell? w _ hw288_0)).trans hw288_0), ((HB.out.cell (World.block_lt_of_cell? w _ hw288_1)).trans hw288_1)⟩ (fun hHeld => ?_)
                              clear hK K
                              refine norm_ (a' := ?_) ?_ ?_
                              rotate_left
                              ·show Act.put _ (some 65) _ = _
                               simp only [Act.put, List.setIfInBounds_toArray, List.set_cons_zero, List.set_cons_succ, i64_w, i32_w]
                               rfl
                              refine pS (i := 14) (N := some 66) #[true, true, true, true, true, true, true, true, true, true, true, true, true, true, true, false, false, false] HT_ ?_
                              refine pS (i := 15) (N := some 67) #[true, true, true, true, true, true, true, true, true, true, true, true, true, true, true, true, false, false] HT_ ?_
                              refine one_ (i := 16) (N := some 68) #[true, true, true, true, true, true, true, true, true, true, true, true, true, true, true, true, true, false] rfl rfl (qjA HT_.out (by kernel_rfl)) (by decide) (fun K hK => ?_)
                              refine goes_ Tryz.func55 (by kernel_rfl) rfl #[.slice (some ad287) l0.length c0, .int .i64 t289, .int .i64 t290] (by rfl) rfl rfl (by (try simp only [List.map_toArray, List.map_cons, List.map_nil]); first | done | rfl | (simp only [List.length_drop, List.length_take]; rfl)) ?_
                              with_reducible refine (qLA.calls k3 _ _ l0 t289 t290 t291 _ ?side1 ?side2 A46.out).mono ?_
                              (case side1 => repeat (first | exact (Kd.qiA HR0.out bl) | (with_reducible refine Kd.qcA ?_ _) | (with_reducible refine Kd.qbA ?_ _) | (with_reducible refine Kd.qtA ?_)))
                              (case side2 => exact HC0.out)
                              rintro e w67 ⟨rfl, hb⟩
                              refine ⟨_, rfl, ?_⟩
                              have n0_ := Aside0.mk (Kd.qW (by (with_reducible repeat (first | apply Kd.qG | apply Kd.qH | apply Kd.qI)); exact HO_8.out) hb)
                              have n1_ := Aside0.mk (Kd.qW (by (with_reducible repeat (first | apply Kd.qG | apply Kd.qH | apply Kd.qI)); exact HO_15.out) hb)
                              have n2_ := Aside0.mk (Kd.qW (by (with_reducible repeat (first | apply Kd.qG | apply Kd.qH | apply Kd.qI)); exact HO_18.out) hb)
                              have n3_ := Aside0.mk (Kd.qW (by (with_reducible repeat (first | apply Kd.qG | apply Kd.qH | apply Kd.qI)); exact HO_30.out) hb)
                              have n4_ := Aside0.mk (qK bl hb)
                              clear HO_8
                              clear HO_15
                              clear HO_18
                              clear HO_30
                              clear HB
                              have HO_8 := n0_
                              have HO_15 := n1_
                              have HO_18 := n2_
                              have HO_30 := n3_
                              have HB := n4_
                              clear n0_ n1_ n2_ n3_ n4_
                              (try clear hb)
                              (try clear hb2)
                              (try clear hk)
                              (try clear hi)
                              refine hK.out _ _ ⟨((HB.out.cell (World.block_lt_of_cell? w _ hw287_0)).trans hw287_0), ((HB.out.cell (World.block_lt_of_cell? w _ hw287_1)).trans hw287_1), ((HB.out.cell (World.block_lt_of_cell? w _ hw288_0)).trans hw288_0), ((HB.out.cell (World.block_lt_of_cell? w _ hw288_1)).trans hw288_1)⟩ (fun hHeld => ?_)
                              clear hK K
                              refine norm_ (a' := ?_) ?_ ?_
                              rotate_left
                              ·show Act.put _ (some 68) _ = _
                               simp only [Act.put, List.setIfInBounds_toArray, List.set_cons_zero, List.set_cons_succ, i64_w, i32_w]
                               rfl
                              refine pS (i := 17) (N := some 12) #[true, true, true, true, true, true, true, true, true, true, true, true, true, true, true, true, true, true] HT_ ?_
                              refine done_ (qvA HT_.out (by kernel_rfl)) ?_
                              have p292 : 0 ≤ (t291 : Int) := of_decide_eq_true (by first | (with_reducible assumption) | assumption)
                              have q292 : t291 < (x18_3.length : Int) := of_decide_eq_true (by first | (with_reducible assumption) | assumption)
                              obtain ⟨ad292, e292, hx292_0⟩ := Kd.qCA (Kd.qQ HO_18.out).2.2 t291 p292 q292
                              obtain rfl : (⟨go25, 0, none⟩ : Addr) = ad292 := (by injection e292)
                              (first | simp only [ql] at hx292_0 | simp only [qfA] at hx292_0 | simp only [Addr.add, Nat.zero_add] at hx292_0 | skip)
                              replace p292 := eq_true p292
                              replace q292 := eq_true q292
                              try go_wp2
                              have n0_ := Aside0.mk (Kd.qI HO_8.out)
                              have n1_ := Aside0.mk (Kd.qI HO_15.out)
                              have n2_ := Aside0.mk (Kd.qI HO_18.out)
                              have n3_ := Aside0.mk (Kd.qI HO_30.out)
                              have n4_ := Aside0.mk (qh HB.out)
                              clear HO_8
                              clear HO_15
                              clear HO_18
                              clear HO_30
                              clear HB
                              have HO_8 := n0_
                              have HO_15 := n1_
                              have HO_18 := n2_
                              have HO_30 := n3_
                              have HB := n4_
                              clear n0_ n1_ n2_ n3_ n4_
                              have p293 : 0 ≤ ((rd x8_2 x9_2) : Int) := of_decide_eq_true (by first | (with_reducible assumption) | assumption)
                              have q293 : (rd x8_2 x9_2) < (x30_3.length : Int) := of_decide_eq_true (by first | (with_reducible assumption) | assumption)
                              obtain ⟨ad293, e293, hx293_0, hx293_1, hx293_2, hx293_3, hx293_4, hx293_5⟩ := qqC (Kd.qQ HO_30.out).2.2 (rd x8_2 x9_2) p293 q293
                              obtain rfl : (⟨go21, 0, none⟩ : Addr) = ad293 := (by injection e293)
                              (first | simp only [ql] at hx293_0 | simp only [qfA] at hx293_0 | simp only [Addr.add, Nat.zero_add] at hx293_0 | skip)
                              (first | simp only [ql] at hx293_1 | simp only [qfA] at hx293_1 | simp only [Addr.add, Nat.zero_add] at hx293_1 | skip)
                              (first | simp only [ql] at hx293_2 | simp only [qfA] at hx293_2 | simp only [Addr.add, Nat.zero_add] at hx293_2 | skip)
                              (first | simp only [ql] at hx293_3 | simp only [qfA] at hx293_3 | simp only [Addr.add, Nat.zero_add] at hx293_3 | skip)
                              (first | simp only [ql] at hx293_4 | simp only [qfA] at hx293_4 | simp only [Addr.add, Nat.zero_add] at hx293_4 | skip)
                              (first | simp only [ql] at hx293_5 | simp only [qfA] at hx293_5 | simp only [Addr.add, Nat.zero_add] at hx293_5 | skip)
                              replace p293 := eq_true p293
                              replace q293 := eq_true q293
                              have p56 : 0 ≤ (x49_3 : Int) := of_decide_eq_true (by first | (with_reducible assumption) | assumption)
                              have q56 : x49_3 < (4 : Int) := of_decide_eq_true (by first | (with_reducible assumption) | assumption)
                              have hx56 := bt_at (⟨#[110, 101, 115, 119]⟩ : ByteArray) x49_3
                              replace p56 := eq_true p56
                              replace q56 := eq_true q56
                              have p300 : 0 ≤ ((rd x8_2 x9_2) : Int) := of_decide_eq_true (by first | (with_reducible assumption) | assumption)
                              have q300 : (rd x8_2 x9_2) < (x18_3.length : Int) := of_decide_eq_true (by first | (with_reducible assumption) | assumption)
                              obtain ⟨ad300, e300, hx300_0⟩ := Kd.qCA (Kd.qQ HO_18.out).2.2 (rd x8_2 x9_2) p300 q300
                              obtain rfl : (⟨go25, 0, none⟩ : Addr) = ad300 := (by injection e300)
                              (first | simp only [ql] at hx300_0 | simp only [qfA] at hx300_0 | simp only [Addr.add, Nat.zero_add] at hx300_0 | skip)
                              replace p300 := eq_true p300
                              replace q300 := eq_true q300
                              refine qxA (n := 20) (S := fun w' => w'.cell? ⟨go21, ((rd x8_2 x9_2)).toNat * 6, none⟩ = some (.int .i64 ((qZ x30_3 (rd x8_2 x9_2)).f0)) ∧ w'.cell? ⟨go21, ((rd x8_2 x9_2)).toNat * 6 + 1, none⟩ = some (.int .i64 ((qZ x30_3 (rd x8_2 x9_2)).f1)) ∧ w'.cell? ⟨go21, ((rd x8_2 x9_2)).toNat * 6 + 2, none⟩ = some (.int .i64 ((qZ x30_3 (rd x8_2 x9_2)).f2)) ∧ w'.cell? ⟨go21, ((rd x8_2 x9_2)).toNat * 6 + 3, none⟩ = some (.int .i64 ((qZ x30_3 (rd x8_2 x9_2)).f3)) ∧ w'.cell? ⟨go21, ((rd x8_2 x9_2)).toNat * 6 + 4, none⟩ = some (.int .i64 ((qZ x30_3 (rd x8_2 x9_2)).f4)) ∧ w'.cell? ⟨go21, ((rd x8_2 x9_2)).toNat * 6 + 5, none⟩ = some (.int .i64 ((qZ x30_3 (rd x8_2 x9_2)).f5)) ∧ w'.cell? ⟨go25, ((rd x8_2 x9_2)).toNat, none⟩ = some (.int .i64 (rd x18_3 (rd x8_2 x9_2)))) (ds := [17, 19]) #[false, false, false, false, false, false, false, false, false, false, false, false, false, false, false, false, false, false, false, false] (by kernel_rfl) rfl rfl ⟨hx293_0, hx293_1, hx293_2, hx293_3, hx293_4, hx293_5, hx300_0⟩ (fun hHeld => ?_); refine qNA qF.tab18 qF.bits18 (fun HT_ HW_ => ?_)
                              generalize w67.drew = w68 at HO_8 HO_15 HO_18 HO_30 HB hx293_0 hx293_1 hx293_2 hx293_3 hx293_4 hx293_5 hx300_0 hHeld ⊢
                              refine pS (i := 0) (N := some 78) #[true, false, false, false, false, false, false, false, false, false, false, false, false, false, false, false, false, false, false, false] HT_ ?_
                              refine pS (i := 1) (N := some 79) #[true, true, false, false, false, false, false, false, false, false, false, false, false, false, false, false, false, false, false, false] HT_ ?_
                              refine pS (i := 2) (N := some 80) #[true, true, true, false, false, false, false, false, false, false, false, false, false, false, false, false, false, false, false, false] HT_ ?_
                              refine pS (i := 3) (N := some 81) #[true, true, true, true, false, false, false, false, false, false, false, false, false, false, false, false, false, false, false, false] HT_ ?_
                              refine pS (i := 4) (N := some 82) #[true, true, true, true, true, false, false, false, false, false, false, false, false, false, false, false, false, false, false, false] HT_ ?_
                              refine pS (i := 5) (N := some 83) #[true, true, true, true, true, true, false, false, false, false, false, false, false, false, false, false, false, false, false, false] HT_ ?_
                              refine pS (i := 6) (N := some 84) #[true, true, true, true, true, true, true, false, false, false, false, false, false, false, false, false, false, false, false, false] HT_ ?_
                              refine pS (i := 8) (N := some 86) #[true, true, true, true, true, true, true, false, true, false, false, false, false, false, false, false, false, false, false, false] HT_ ?_
                              refine pS (i := 11) (N := some 89) #[true, true, true, true, true, true, true, false, true, false, false, true, false, false, false, false, false, false, false, false] HT_ ?_
                              refine pS (i := 12) (N := some 90) #[true, true, true, true, true, true, true, false, true, false, false, true, true, false, false, false, false, false, false, false] HT_ ?_
                              refine pS (i := 13) (N := some 91) #[true, true, true, true, true, true, true, false, true, false, false, true, true, true, false, false, false, false, false, false] HT_ ?_
                              refine tS (i := 7) (N := some 85) #[true, true, true, true, true, true, true, true, true, false, false, true, true, true, false, false, false, false, false, false] HT_ HW_ hHeld ?_
                              refine tS (i := 9) (N := some 87) #[true, true, true, true, true, true, true, true, true, true, false, true, true, true, false, false, false, false, false, false] HT_ HW_ hHeld ?_
                              refine tS (i := 14) (N := some 92) #[true, true, true, true, true, true, true, true, true, true, false, true, true, true, true, false, false, false, false, false] HT_ HW_ hHeld ?_
                              refine pS (i := 15) (N := some 93) #[true, true, true, true, true, true, true, true, true, true, false, true, true, true, true, true, false, false, false, false] HT_ ?_
                              refine one_ (i := 10) (N := some 88) #[true, true, true, true, true, true, true, true, true, true, true, true, true, true, true, true, false, false, false, false] rfl rfl (qjA HT_.out (by kernel_rfl)) (by decide) (fun K hK => ?_)
                              refine goes_ Tryz.func57 (by kernel_rfl) rfl #[.agg #[.int .i64 ((qZ x30_3 (rd x8_2 x9_2)).f0), .int .i64 ((qZ x30_3 (rd x8_2 x9_2)).f1), .int .i64 ((qZ x30_3 (rd x8_2 x9_2)).f2), .int .i64 ((qZ x30_3 (rd x8_2 x9_2)).f3), .int .i64 ((qZ x30_3 (rd x8_2 x9_2)).f4), .int .i64 ((qZ x30_3 (rd x8_2 x9_2)).f5)], .int .u8 (bt (⟨#[110, 101, 115, 119]⟩ : ByteArray) x49_3)] (by rfl) rfl rfl (by (try simp only [List.map_toArray, List.map_cons, List.map_nil]); first | done | rfl | (simp only [List.length_drop, List.length_take]; rfl)) ?_
                              with_reducible refine (qPA.calls ((qZ x30_3 (rd x8_2 x9_2)).f0) ((qZ x30_3 (rd x8_2 x9_2)).f1) ((qZ x30_3 (rd x8_2 x9_2)).f2) ((qZ x30_3 (rd x8_2 x9_2)).f3) ((qZ x30_3 (rd x8_2 x9_2)).f4) ((qZ x30_3 (rd x8_2 x9_2)).f5) (bt (⟨#[110, 101, 115, 119]⟩ : ByteArray) x49_3) t294 t295 t296 t297 t298 t299 _ A57.out).mono ?_
                              rintro e w69 ⟨rfl, hb⟩
                              have HS0_ := (hb.cell (World.block_lt_of_cell? _ _ (hHeld.1))).trans (hHeld.1)
                              have HS1_ := (hb.cell (World.block_lt_of_cell? _ _ (hHeld.2.1))).trans (hHeld.2.1)
                              have HS2_ := (hb.cell (World.block_lt_of_cell? _ _ (hHeld.2.2.1))).trans (hHeld.2.2.1)
                              have HS3_ := (hb.cell (World.block_lt_of_cell? _ _ (hHeld.2.2.2.1))).trans (hHeld.2.2.2.1)
                              have HS4_ := (hb.cell (World.block_lt_of_cell? _ _ (hHeld.2.2.2.2.1))).trans (hHeld.2.2.2.2.1)
                              have HS5_ := (hb.cell (World.block_lt_of_cell? _ _ (hHeld.2.2.2.2.2.1))).trans (hHeld.2.2.2.2.2.1)
                              have HS6_ := (hb.cell (World.block_lt_of_cell? _ _ (hHeld.2.2.2.2.2.2))).trans (hHeld.2.2.2.2.2.2)
                              refine ⟨_, rfl, ?_⟩
                              have n0_ := Aside0.mk (Kd.qW (by (with_reducible repeat (first | apply Kd.qG | apply Kd.qH | apply Kd.qI)); exact HO_8.out) hb)
                              have n1_ := Aside0.mk (Kd.qW (by (with_reducible repeat (first | apply Kd.qG | apply Kd.qH | apply Kd.qI)); exact HO_15.out) hb)
                              have n2_ := Aside0.mk (Kd.qW (by (with_reducible repeat (first | apply Kd.qG | apply Kd.qH | apply Kd.qI)); exact HO_18.out) hb)
                              have n3_ := Aside0.mk (Kd.qW (by (with_reducible repeat (first | apply Kd.qG | apply Kd.qH | apply Kd.qI)); exact HO_30.out) hb)
                              have n4_ := Aside0.mk (qK bl hb)
                              clear HO_8
                              clear HO_15
                              clear HO_18
                              clear HO_30
                              clear HB
                              have HO_8 := n0_
                              have HO_15 := n1_
                              have HO_18 := n2_
                              have HO_30 := n3_
                              have HB := n4_
                              clear n0_ n1_ n2_ n3_ n4_
                              (try clear hb)
                              (try clear hb2)
                              (try clear hk)
                              (try clear hi)
                              have p60 : 0 ≤ (t291 : Int) := of_decide_eq_true (by first | (with_reducible assumption) | assumption)
                              have q60 : (t291 : Int) < ((x30_3.length : Int) : Int) := of_decide_eq_true (by first | (with_reducible assumption) | assumption)
                              obtain ⟨ce60, hcl60, hM60, hcc60, hfr60⟩ := Kd.qEC HO_30.out z53 (t291 : Int) p60 q60
                              obtain rfl := qBB hM60
                              have hx60_0 : World.cell? _ ⟨go21, (t291 : Int).toNat * 6, none⟩ = some (.int .i64 ((qZ x30_3 t291).f0)) := hcc60 0 _ rfl
                              have hx60_1 : World.cell? _ ⟨go21, (t291 : Int).toNat * 6 + 1, none⟩ = some (.int .i64 ((qZ x30_3 t291).f1)) := hcc60 1 _ rfl
                              have hx60_2 : World.cell? _ ⟨go21, (t291 : Int).toNat * 6 + 2, none⟩ = some (.int .i64 ((qZ x30_3 t291).f2)) := hcc60 2 _ rfl
                              have hx60_3 : World.cell? _ ⟨go21, (t291 : Int).toNat * 6 + 3, none⟩ = some (.int .i64 ((qZ x30_3 t291).f3)) := hcc60 3 _ rfl
                              have hx60_4 : World.cell? _ ⟨go21, (t291 : Int).toNat * 6 + 4, none⟩ = some (.int .i64 ((qZ x30_3 t291).f4)) := hcc60 4 _ rfl
                              have hx60_5 : World.cell? _ ⟨go21, (t291 : Int).toNat * 6 + 5, none⟩ = some (.int .i64 ((qZ x30_3 t291).f5)) := hcc60 5 _ rfl
                              have hf60_0 : World.frozen? _ ⟨go21, (t291 : Int).toNat * 6, none⟩ = false := hfr60 0
                              have hf60_1 : World.frozen? _ ⟨go21, (t291 : Int).toNat * 6 + 1, none⟩ = false := hfr60 1
                              have hf60_2 : World.frozen? _ ⟨go21, (t291 : Int).toNat * 6 + 2, none⟩ = false := hfr60 2
                              have hf60_3 : World.frozen? _ ⟨go21, (t291 : Int).toNat * 6 + 3, none⟩ = false := hfr60 3
                              have hf60_4 : World.frozen? _ ⟨go21, (t291 : Int).toNat * 6 + 4, none⟩ = false := hfr60 4
                              have hf60_5 : World.frozen? _ ⟨go21, (t291 : Int).toNat * 6 + 5, none⟩ = false := hfr60 5
                              clear hcl60 hcc60 hfr60 hM60
                              replace p60 := eq_true p60
                              replace q60 := eq_true q60
                              obtain ⟨ce70, hcl70, hM70, hcc70, hfr70⟩ := Kd.qEC (Kd.qHB (Kd.qHB (Kd.qHB HO_30.out (Kd.qEA HO_8.out) (by decide)) (Kd.qEA HO_15.out) (by decide)) (Kd.qEA HO_18.out) (by decide)) z53 (t291 : Int) (of_decide_eq_true (by first | (with_reducible assumption) | assumption)) (by have h_ : (t291 : Int) < ((x30_3.length : Int) : Int) := of_decide_eq_true (by first | (with_reducible assumption) | assumption); first | exact h_ | (have e_ := (Kd.qQ HO_30.out).1; omega) | simpa using h_)
                              obtain rfl := qBB hM70
                              have HP70 := (Kd.R_seg (Kd.qHB (Kd.qHB (Kd.qHB HO_30.out (Kd.qEA HO_8.out) (by decide)) (Kd.qEA HO_15.out) (by decide)) (Kd.qEA HO_18.out) (by decide)) (t291 : Int) (of_decide_eq_true (by first | (with_reducible assumption) | assumption)) (by have h_ : (t291 : Int) < ((x30_3.length : Int) : Int) := of_decide_eq_true (by first | (with_reducible assumption) | assumption); first | exact h_ | (have e_ := (Kd.qQ HO_30.out).1; omega) | simpa using h_) (seg := [.int .i64 t294, .int .i64 t295, .int .i64 t296, .int .i64 t297, .int .i64 t298, .int .i64 t299]) (j := 0) hcl70 hcc70 (show 6 ≤ 6 from by decide) (x' := (⟨t294, t295, t296, t297, t298, t299⟩ : S53)) (qLC _ _ _ (⟨t294, t295, t296, t297, t298, t299⟩ : S53) ) (fun _ hk => hk)).1
                              rw [← Ny301.out] at HP70
                              have HQ70 := Aside0.mk HP70
                              clear hcl70 hcc70 hfr70 hM70 HP70
                              have p61 : 0 ≤ (t291 : Int) := of_decide_eq_true (by first | (with_reducible assumption) | assumption)
                              have q61 : (t291 : Int) < ((x18_3.length : Int) : Int) := of_decide_eq_true (by first | (with_reducible assumption) | assumption)
                              obtain ⟨hx61_0, hf61_0⟩ := Kd.qhA 0 (Kd.R_far (p := ⟨go21, (t291 : Int).toNat * 6 + 5, none⟩) (Kd.R_far (p := ⟨go21, (t291 : Int).toNat * 6 + 4, none⟩) (Kd.R_far (p := ⟨go21, (t291 : Int).toNat * 6 + 3, none⟩) (Kd.R_far (p := ⟨go21, (t291 : Int).toNat * 6 + 2, none⟩) (Kd.R_far (p := ⟨go21, (t291 : Int).toNat * 6 + 1, none⟩) (Kd.R_far (p := ⟨go21, (t291 : Int).toNat * 6, none⟩) (Kd.qXA HO_18.out (by first | exact GG21.out | exact (Kd.qEA HO_30.out go21 rfl).choose_spec) (by decide)) (fun _ hk => hk.2) (.int .i64 t294)) (fun _ hk => hk.2) (.int .i64 t295)) (fun _ hk => hk.2) (.int .i64 t296)) (fun _ hk => hk.2) (.int .i64 t297)) (fun _ hk => hk.2) (.int .i64 t298)) (fun _ hk => hk.2) (.int .i64 t299)) (t291 : Int) p61 q61
                              replace p61 := eq_true p61
                              replace q61 := eq_true q61
                              have HP71 := Kd.qrC (Kd.R_far (p := ⟨go21, (t291 : Int).toNat * 6 + 5, none⟩) (Kd.R_far (p := ⟨go21, (t291 : Int).toNat * 6 + 4, none⟩) (Kd.R_far (p := ⟨go21, (t291 : Int).toNat * 6 + 3, none⟩) (Kd.R_far (p := ⟨go21, (t291 : Int).toNat * 6 + 2, none⟩) (Kd.R_far (p := ⟨go21, (t291 : Int).toNat * 6 + 1, none⟩) (Kd.R_far (p := ⟨go21, (t291 : Int).toNat * 6, none⟩) (Kd.qXA HO_18.out (by first | exact GG21.out | exact (Kd.qEA HO_30.out go21 rfl).choose_spec) (by decide)) (fun _ hk => hk.2) (.int .i64 t294)) (fun _ hk => hk.2) (.int .i64 t295)) (fun _ hk => hk.2) (.int .i64 t296)) (fun _ hk => hk.2) (.int .i64 t297)) (fun _ hk => hk.2) (.int .i64 t298)) (fun _ hk => hk.2) (.int .i64 t299)) (t291 : Int) (wrap64 ((rd x18_3 (rd x8_2 x9_2)) + 1))
                              rw [← Ny302.out] at HP71
                              have HQ71 := Aside0.mk HP71
                              clear HP71
                              refine hK.out _ _ ⟨HS0_, HS1_, HS2_, HS3_, HS4_, HS5_, HS6_⟩ (fun hHeld => ?_)
                              clear hK K
                              refine norm_ (a' := ?_) ?_ ?_
                              rotate_left
                              ·show Act.put _ (some 88) _ = _
                               simp only [Act.put, List.setIfInBounds_toArray, List.set_cons_zero, List.set_cons_succ, i64_w, i32_w]
                               rfl
                              refine pS (i := 16) (N := some 94) #[true, true, true, true, true, true, true, true, true, true, true, true, true, true, true, true, true, false, false, false] HT_ ?_
                              refine last_ (i := 17) (N := none) #[true, true, true, true, true, true, true, true, true, true, true, true, true, true, true, true, true, true, false, false] rfl rfl (qjA HT_.out (by kernel_rfl)) (by decide) (fun K hK => ?_)
                              refine skip_ (w1 := ?_) (by rfl) rfl ?_ ?_
                              rotate_left
                              ·go_simp
                               rfl
                              refine hK.out _ _ ?_
                              clear hK K
                              generalize hWS : ((((((w69.setCell ⟨go21, (t291 : Int).toNat * 6, none⟩ (.int .i64 t294)).setCell ⟨go21, (t291 : Int).toNat * 6 + 1, none⟩ (.int .i64 t295)).setCell ⟨go21, (t291 : Int).toNat * 6 + 2, none⟩ (.int .i64 t296)).setCell ⟨go21, (t291 : Int).toNat * 6 + 3, none⟩ (.int .i64 t297)).setCell ⟨go21, (t291 : Int).toNat * 6 + 4, none⟩ (.int .i64 t298)).setCell ⟨go21, (t291 : Int).toNat * 6 + 5, none⟩ (.int .i64 t299)) = wS at hx61_0 hf61_0 ⊢
                              have HWS := Aside0.mk hWS
                              clear hWS
                              refine pS (i := 18) (N := some 95) #[true, true, true, true, true, true, true, true, true, true, true, true, true, true, true, true, true, true, true, false] HT_ ?_
                              refine last_ (i := 19) (N := none) #[true, true, true, true, true, true, true, true, true, true, true, true, true, true, true, true, true, true, true, true] rfl rfl (qjA HT_.out (by kernel_rfl)) (by decide) (fun K hK => ?_)
                              refine skip_ (w1 := ?_) (by rfl) rfl ?_ ?_
                              rotate_left
                              ·go_simp
                               rfl
                              refine hK.out _ _ ?_
                              clear hK K
                              have hWS := HWS.out
                              clear HWS
                              subst hWS
                              refine done_ (qvA HT_.out (by kernel_rfl)) ?_
                              have n0_ : Aside0 (Kd.R (Kd.int .i64) 3 (((((((w69.setCell ⟨go21, (t291 : Int).toNat * 6, none⟩ (.int .i64 t294)).setCell ⟨go21, (t291 : Int).toNat * 6 + 1, none⟩ (.int .i64 t295)).setCell ⟨go21, (t291 : Int).toNat * 6 + 2, none⟩ (.int .i64 t296)).setCell ⟨go21, (t291 : Int).toNat * 6 + 3, none⟩ (.int .i64 t297)).setCell ⟨go21, (t291 : Int).toNat * 6 + 4, none⟩ (.int .i64 t298)).setCell ⟨go21, (t291 : Int).toNat * 6 + 5, none⟩ (.int .i64 t299)).setCell ⟨go25, (t291 : Int).toNat, none⟩ (.int .i64 (wrap64 ((rd x18_3 (rd x8_2 x9_2)) + 1)))) w.heap.size (fun k_ => some k_ ≠ (.slice (some ⟨go23, 0, none⟩) x15_3.length co23 : Value).ownBlock ∧ some k_ ≠ (.slice (some ⟨go25, 0, none⟩) x18_3.length co10 : Value).ownBlock) u8 x8_3) := ⟨by (with_reducible repeat (first | apply Kd.qG | apply Kd.qH | apply Kd.qI)); exact Kd.qf (Kd.R_far (p := ⟨go25, (t291 : Int).toNat, none⟩) (Kd.R_far (p := ⟨go21, (t291 : Int).toNat * 6 + 5, none⟩) (Kd.R_far (p := ⟨go21, (t291 : Int).toNat * 6 + 4, none⟩) (Kd.R_far (p := ⟨go21, (t291 : Int).toNat * 6 + 3, none⟩) (Kd.R_far (p := ⟨go21, (t291 : Int).toNat * 6 + 2, none⟩) (Kd.R_far (p := ⟨go21, (t291 : Int).toNat * 6 + 1, none⟩) (Kd.R_far (p := ⟨go21, (t291 : Int).toNat * 6, none⟩) (Kd.qf (Kd.qXA HO_8.out (by first | exact GG21.out | exact (Kd.qEA HO_30.out go21 rfl).choose_spec) (by decide)) (fun k_ hk => (⟨hk, fun e_ => hk.1.2 (by rw [e_]; rfl)⟩ : _ ∧ k_ ≠ go25))) (fun _ hk => hk.1.2) (.int .i64 t294)) (fun _ hk => hk.1.2) (.int .i64 t295)) (fun _ hk => hk.1.2) (.int .i64 t296)) (fun _ hk => hk.1.2) (.int .i64 t297)) (fun _ hk => hk.1.2) (.int .i64 t298)) (fun _ hk => hk.1.2) (.int .i64 t299)) (fun _ hk => hk.2) (.int .i64 (wrap64 ((rd x18_3 (rd x8_2 x9_2)) + 1)))) (fun _ hk => ⟨hk.1.1.1, hk.1.1.2⟩)⟩
                              have n1_ : Aside0 (Kd.R (Kd.int .i64) 3 (((((((w69.setCell ⟨go21, (t291 : Int).toNat * 6, none⟩ (.int .i64 t294)).setCell ⟨go21, (t291 : Int).toNat * 6 + 1, none⟩ (.int .i64 t295)).setCell ⟨go21, (t291 : Int).toNat * 6 + 2, none⟩ (.int .i64 t296)).setCell ⟨go21, (t291 : Int).toNat * 6 + 3, none⟩ (.int .i64 t297)).setCell ⟨go21, (t291 : Int).toNat * 6 + 4, none⟩ (.int .i64 t298)).setCell ⟨go21, (t291 : Int).toNat * 6 + 5, none⟩ (.int .i64 t299)).setCell ⟨go25, (t291 : Int).toNat, none⟩ (.int .i64 (wrap64 ((rd x18_3 (rd x8_2 x9_2)) + 1)))) w.heap.size (fun k_ => some k_ ≠ (u8 : Value).ownBlock ∧ some k_ ≠ (.slice (some ⟨go25, 0, none⟩) x18_3.length co10 : Value).ownBlock) (.slice (some ⟨go23, 0, none⟩) x15_3.length co23) x15_3) := ⟨by (with_reducible repeat (first | apply Kd.qG | apply Kd.qH | apply Kd.qI)); exact Kd.qf (Kd.R_far (p := ⟨go25, (t291 : Int).toNat, none⟩) (Kd.R_far (p := ⟨go21, (t291 : Int).toNat * 6 + 5, none⟩) (Kd.R_far (p := ⟨go21, (t291 : Int).toNat * 6 + 4, none⟩) (Kd.R_far (p := ⟨go21, (t291 : Int).toNat * 6 + 3, none⟩) (Kd.R_far (p := ⟨go21, (t291 : Int).toNat * 6 + 2, none⟩) (Kd.R_far (p := ⟨go21, (t291 : Int).toNat * 6 + 1, none⟩) (Kd.R_far (p := ⟨go21, (t291 : Int).toNat * 6, none⟩) (Kd.qf (Kd.qXA HO_15.out (by first | exact GG21.out | exact (Kd.qEA HO_30.out go21 rfl).choose_spec) (by decide)) (fun k_ hk => (⟨hk, fun e_ => hk.1.2 (by rw [e_]; rfl)⟩ : _ ∧ k_ ≠ go25))) (fun _ hk => hk.1.2) (.int .i64 t294)) (fun _ hk => hk.1.2) (.int .i64 t295)) (fun _ hk => hk.1.2) (.int .i64 t296)) (fun _ hk => hk.1.2) (.int .i64 t297)) (fun _ hk => hk.1.2) (.int .i64 t298)) (fun _ hk => hk.1.2) (.int .i64 t299)) (fun _ hk => hk.2) (.int .i64 (wrap64 ((rd x18_3 (rd x8_2 x9_2)) + 1)))) (fun _ hk => ⟨hk.1.1.1, hk.1.1.2⟩)⟩
                              have n2_ : Aside0 (Kd.R (Kd.int .i64) 3 (((((((w69.setCell ⟨go21, (t291 : Int).toNat * 6, none⟩ (.int .i64 t294)).setCell ⟨go21, (t291 : Int).toNat * 6 + 1, none⟩ (.int .i64 t295)).setCell ⟨go21, (t291 : Int).toNat * 6 + 2, none⟩ (.int .i64 t296)).setCell ⟨go21, (t291 : Int).toNat * 6 + 3, none⟩ (.int .i64 t297)).setCell ⟨go21, (t291 : Int).toNat * 6 + 4, none⟩ (.int .i64 t298)).setCell ⟨go21, (t291 : Int).toNat * 6 + 5, none⟩ (.int .i64 t299)).setCell ⟨go25, (t291 : Int).toNat, none⟩ (.int .i64 (wrap64 ((rd x18_3 (rd x8_2 x9_2)) + 1)))) w.heap.size (fun k_ => some k_ ≠ (u8 : Value).ownBlock ∧ some k_ ≠ (.slice (some ⟨go23, 0, none⟩) x15_3.length co23 : Value).ownBlock) (.slice (some ⟨go25, 0, none⟩) x18_3.length co10) y302) := ⟨by (with_reducible repeat (first | apply Kd.qG | apply Kd.qH | apply Kd.qI)); exact Kd.qf HQ71.out (fun _ hk => ⟨hk.1.1, hk.1.2⟩)⟩
                              have n3_ : Aside0 (Kd.R k53 53 (((((((w69.setCell ⟨go21, (t291 : Int).toNat * 6, none⟩ (.int .i64 t294)).setCell ⟨go21, (t291 : Int).toNat * 6 + 1, none⟩ (.int .i64 t295)).setCell ⟨go21, (t291 : Int).toNat * 6 + 2, none⟩ (.int .i64 t296)).setCell ⟨go21, (t291 : Int).toNat * 6 + 3, none⟩ (.int .i64 t297)).setCell ⟨go21, (t291 : Int).toNat * 6 + 4, none⟩ (.int .i64 t298)).setCell ⟨go21, (t291 : Int).toNat * 6 + 5, none⟩ (.int .i64 t299)).setCell ⟨go25, (t291 : Int).toNat, none⟩ (.int .i64 (wrap64 ((rd x18_3 (rd x8_2 x9_2)) + 1)))) w.heap.size (fun _ => True) (.slice (some ⟨go21, 0, none⟩) x30_3.length co21) y301) := ⟨by (with_reducible repeat (first | apply Kd.qG | apply Kd.qH | apply Kd.qI)); exact Kd.qf (Kd.R_far (p := ⟨go25, (t291 : Int).toNat, none⟩) (Kd.qf HQ70.out (fun k_ hk => (⟨hk, fun e_ => hk.2 (by rw [e_]; rfl)⟩ : _ ∧ k_ ≠ go25))) (fun _ hk => hk.2) (.int .i64 (wrap64 ((rd x18_3 (rd x8_2 x9_2)) + 1)))) (fun _ hk => trivial)⟩
                              have n4_ : Aside0 (Below w.heap.size w (((((((w69.setCell ⟨go21, (t291 : Int).toNat * 6, none⟩ (.int .i64 t294)).setCell ⟨go21, (t291 : Int).toNat * 6 + 1, none⟩ (.int .i64 t295)).setCell ⟨go21, (t291 : Int).toNat * 6 + 2, none⟩ (.int .i64 t296)).setCell ⟨go21, (t291 : Int).toNat * 6 + 3, none⟩ (.int .i64 t297)).setCell ⟨go21, (t291 : Int).toNat * 6 + 4, none⟩ (.int .i64 t298)).setCell ⟨go21, (t291 : Int).toNat * 6 + 5, none⟩ (.int .i64 t299)).setCell ⟨go25, (t291 : Int).toNat, none⟩ (.int .i64 (wrap64 ((rd x18_3 (rd x8_2 x9_2)) + 1))))) := ⟨by repeat (first | (with_reducible first | exact HB.out | apply qMA | apply qgA | apply qh | refine qe ?_ GB21.out | refine qe ?_ GB21.out | refine qe ?_ GB21.out | refine qe ?_ GB21.out | refine qe ?_ GB21.out | refine qe ?_ GB21.out | refine qe ?_ GB25.out) | exact HB.out)⟩
                              (try clear HO_8)
                              (try clear HO_15)
                              (try clear HO_18)
                              (try clear HO_30)
                              (try clear HB)
                              generalize (((((((w69.setCell ⟨go21, (t291 : Int).toNat * 6, none⟩ (.int .i64 t294)).setCell ⟨go21, (t291 : Int).toNat * 6 + 1, none⟩ (.int .i64 t295)).setCell ⟨go21, (t291 : Int).toNat * 6 + 2, none⟩ (.int .i64 t296)).setCell ⟨go21, (t291 : Int).toNat * 6 + 3, none⟩ (.int .i64 t297)).setCell ⟨go21, (t291 : Int).toNat * 6 + 4, none⟩ (.int .i64 t298)).setCell ⟨go21, (t291 : Int).toNat * 6 + 5, none⟩ (.int .i64 t299)).setCell ⟨go25, (t291 : Int).toNat, none⟩ (.int .i64 (wrap64 ((rd x18_3 (rd x8_2 x9_2)) + 1)))) = w72 at n0_ n1_ n2_ n3_ n4_ ⊢
                              have HO_8 := n0_
                              have HO_15 := n1_
                              have HO_18 := n2_
                              have HO_30 := n3_
                              have HB := n4_
                              clear n0_ n1_ n2_ n3_ n4_
                              have p62 : 0 ≤ (t291 : Int) := of_decide_eq_true (by first | (with_reducible assumption) | assumption)
                              have q62 : (t291 : Int) < ((x30_3.length : Int) : Int) := of_decide_eq_true (by first | (with_reducible assumption) | assumption)
                              have ht_ : (t291 : Int).toNat < x30_3.length := (Int.toNat_lt p62).2 q62
                              obtain ⟨ce_, hcl_, hM_, hcc_, hfr_⟩ := Kd.qEC HO_30.out z53 (t291 : Int) p62 q62
                              obtain rfl := qBB hM_
                              have hv_ : qZ y301 t291 = (⟨t294, t295, t296, t297, t298, t299⟩ : S53) := by rw [Ny301.out]; unfold qZ; rw [List.getD_eq_getElem?_getD, List.getElem?_set_self ht_]; rfl
                              have hx62_5 : World.cell? _ ⟨go21, (t291 : Int).toNat * 6 + 5, none⟩ = some (.int .i64 t299) := (hcc_ 5 _ rfl).trans (congrArg (fun z_ : S53 => some (Value.int .i64 z_.f5)) hv_)
                              clear ht_ hcl_ hM_ hcc_ hfr_ hv_
                              (try clear HS0_)
                              (try clear HS1_)
                              (try clear HS2_)
                              (try clear HS3_)
                              (try clear HS4_)
                              (try clear HS5_)
                              (try clear HS6_)
                              (try clear hHeld)
                              (try clear hx61_0)
                              (try clear hf61_0)
                              replace p62 := eq_true p62
                              replace q62 := eq_true q62
                              have p64 : 0 ≤ (t291 : Int) := of_decide_eq_true (by first | (with_reducible assumption) | assumption)
                              have q64 : (t291 : Int) < ((x15_3.length : Int) : Int) := of_decide_eq_true (by first | (with_reducible assumption) | assumption)
                              obtain ⟨hx64_0, hf64_0⟩ := Kd.qhA 0 HO_15.out (t291 : Int) p64 q64
                              replace p64 := eq_true p64
                              replace q64 := eq_true q64
                              obtain ⟨hy73_, hz73_⟩ := Kd.qhA 0 HO_15.out (t291 : Int) (of_decide_eq_true (by first | (with_reducible assumption) | assumption)) (of_decide_eq_true (by first | (with_reducible assumption) | assumption))
                              have HP73 := Kd.qnB HO_15.out (t291 : Int) t299
                              try go_wp2_with (first | ((with_reducible refine qeA (t := 3) (p := 103) rfl ?_); refine qUA (t := 3) (p := 103) (v := ?vo_w74) (w1 := (w72.setCell ⟨go23, (t291 : Int).toNat, none⟩ (.int .i64 t299))) ?hg ?ho ?hn ?hr ?_; (case ho => rfl); (case hg => rfl); (case hn => rfl); (case hr => first | (go_simp; done) | (go_simp; rfl)); intro w74 hw; have hg : w72.grownBy w74 (some go23) := (by rw [hw]; exact HP73.2); have hp_ : Kd.R (Kd.int .i64) 3 w74 w.heap.size (fun k_ => some k_ ≠ (u8 : Value).ownBlock ∧ some k_ ≠ (.slice (some ⟨go25, 0, none⟩) x18_3.length co10 : Value).ownBlock) (.slice (some ⟨go23, 0, none⟩) x15_3.length co23) y304 := (by rw [hw, Ny304.out]; exact HP73.1); clear HP73; have n0_ := Aside0.mk (Kd.qsA (v := (.slice (some ⟨go23, 0, none⟩) x15_3.length co23)) (v1 := (.slice (some ⟨go23, 0, none⟩) x15_3.length co23)) (ok := (fun k_ => some k_ ≠ (.slice (some ⟨go25, 0, none⟩) x18_3.length co10 : Value).ownBlock)) (by (with_reducible repeat (first | apply Kd.qG | apply Kd.qH | apply Kd.qI)); exact Kd.qf HO_8.out (fun _ hk => ⟨hk.2, hk.1⟩)) hg (.inl rfl)); have n1_ := Aside0.mk (hp_); have n2_ := Aside0.mk (Kd.qsA (v := (.slice (some ⟨go23, 0, none⟩) x15_3.length co23)) (v1 := (.slice (some ⟨go23, 0, none⟩) x15_3.length co23)) (ok := (fun k_ => some k_ ≠ (u8 : Value).ownBlock)) (by (with_reducible repeat (first | apply Kd.qG | apply Kd.qH | apply Kd.qI)); exact HO_18.out) hg (.inl rfl)); have n3_ := Aside0.mk (Kd.qnA (v := (.slice (some ⟨go23, 0, none⟩) x15_3.length co23)) (by (with_reducible repeat (first | apply Kd.qG | apply Kd.qH | apply Kd.qI)); exact HO_30.out) (Kd.qEA HO_15.out) (by decide) hg); have n4_ := Aside0.mk ((by rw [hw]; exact qe (HB.out) GB23.out : Below w.heap.size w w74)); clear HO_8; clear HO_15; clear HO_18; clear HO_30; clear HB; have HO_8 := n0_; have HO_15 := n1_; have HO_18 := n2_; have HO_30 := n3_; have HB := n4_; clear n0_ n1_ n2_ n3_ n4_; clear hg hw hp_) | ((with_reducible refine qSB (b := .append) (xs := #[.tmp 104, .tmp 106]) rfl ?_); at_builtin; refine Kd.qQC (Kd.int .i64) (w0 := w) w.heap.size rfl (.tmp 104) (.tmp 106) 28 3 (.int .i64 0) 8 rfl Tryz.underlying28 info3 rfl (by decide) (by omega) u8 x8_3 t291 [.int .i64 t291] (fun k_ => some k_ ≠ (.slice (some ⟨go23, 0, none⟩) x15_3.length co23 : Value).ownBlock ∧ some k_ ≠ (.slice (some ⟨go25, 0, none⟩) x18_3.length co10 : Value).ownBlock) (fun _ => False) rfl rfl ?aP (fun _ hk => hk.elim) ?aF ?aO ?aB ?aS ?aL ?_; (case aP => exact rfl); (case aB => exact bl); (case aF => exact (fun k_ hk => ⟨Kd.fresh' (Kd.R_lt (by (with_reducible repeat (first | apply Kd.qG | apply Kd.qH | apply Kd.qI)); exact HO_15.out)) k_ hk, Kd.fresh' (Kd.R_lt (by (with_reducible repeat (first | apply Kd.qG | apply Kd.qH | apply Kd.qI)); exact HO_18.out)) k_ hk⟩)); (case aO => exact (by (with_reducible repeat (first | apply Kd.qG | apply Kd.qH | apply Kd.qI)); exact Kd.qf HO_8.out (fun _ hk => ⟨hk.2, hk.1⟩))); (case aS => exact (qa bl)); (case aL => have := LMc65.out; omega); intro v306 w75 ho hb hg hat; rw [← Ny305.out] at ho; have n0_ := Aside0.mk (Kd.qsA (ok := (fun k_ => some k_ ≠ (.slice (some ⟨go25, 0, none⟩) x18_3.length co10 : Value).ownBlock)) (by (with_reducible repeat (first | apply Kd.qG | apply Kd.qH | apply Kd.qI)); exact Kd.qf HO_15.out (fun _ hk => ⟨hk.2, hk.1⟩)) hg hat); have n1_ := Aside0.mk (Kd.qsA (ok := (fun k_ => some k_ ≠ (.slice (some ⟨go23, 0, none⟩) x15_3.length co23 : Value).ownBlock)) (by (with_reducible repeat (first | apply Kd.qG | apply Kd.qH | apply Kd.qI)); exact Kd.qf HO_18.out (fun _ hk => ⟨hk.2, hk.1⟩)) hg hat); have n2_ := Aside0.mk (Kd.qnA (by (with_reducible repeat (first | apply Kd.qG | apply Kd.qH | apply Kd.qI)); exact HO_30.out) (Kd.qEA (by (with_reducible repeat (first | apply Kd.qG | apply Kd.qH | apply Kd.qI)); exact HO_8.out)) (by decide) hg); have n3_ := Aside0.mk (hb); have n4_ := Aside0.mk (ho); clear HO_15; clear HO_18; clear HO_30; clear HB; clear HO_8; have HO_15 := n0_; have HO_18 := n1_; have HO_30 := n2_; have HB := n3_; have HO307 := n4_; clear n0_ n1_ n2_ n3_ n4_; clear ho hb hg hat))
                              (try simp only [← hl15_3, ← hl18_3, ← hl30_3])
                              go_roundg k3
                              case measure => have := HK1.out; have := HK2.out; have := HK3.out; omega
                              case rel => exact ⟨(y305), (y304), (y302), (y301), (wrap64 (x49_3 + 1)), (by first | rfl | (simp; done) | (simp [*]; done)), H', ⟨by have := HK1.out; have := HK2.out; have := HK3.out; omega⟩, ⟨by (try simp only [hl18_1]); (try simp only [hl15_2]); (try simp only [hl18_2]); (try simp only [hl30_2]); (try simp only [hl15_3]); (try simp only [hl18_3]); (try simp only [hl30_3]); (with_reducible repeat (first | apply Kd.qG | apply Kd.qH | apply Kd.qI)); exact HO307.out⟩, ⟨by (try simp only [hl18_1]); (try simp only [hl15_2]); (try simp only [hl18_2]); (try simp only [hl30_2]); (try simp only [hl15_3]); (try simp only [hl18_3]); (try simp only [hl30_3]); (with_reducible repeat (first | apply Kd.qG | apply Kd.qH | apply Kd.qI)); exact Kd.qf HO_15.out (fun _ hk => ⟨hk.2, hk.1⟩)⟩, ⟨by (try simp only [hl18_1]); (try simp only [hl15_2]); (try simp only [hl18_2]); (try simp only [hl30_2]); (try simp only [hl15_3]); (try simp only [hl18_3]); (try simp only [hl30_3]); (with_reducible repeat (first | apply Kd.qG | apply Kd.qH | apply Kd.qI)); exact Kd.qf HO_18.out (fun _ hk => ⟨hk.2, hk.1⟩)⟩, ⟨by (try simp only [hl18_1]); (try simp only [hl15_2]); (try simp only [hl18_2]); (try simp only [hl30_2]); (try simp only [hl15_3]); (try simp only [hl18_3]); (try simp only [hl30_3]); (with_reducible repeat (first | apply Kd.qG | apply Kd.qH | apply Kd.qI)); exact HO_30.out⟩, ⟨bl⟩⟩
                             ·rw [if_neg c65] at H
                              exact absurd H (by simp)
                            ·rw [if_neg c63] at H
                             exact absurd H (by simp)
                           ·rw [if_neg c59] at H
                            exact absurd H (by simp)
                          ·rw [if_neg c58] at H
                           exact absurd H (by simp)
                         ·rw [if_neg c55] at H
                          exact absurd H (by simp)
                       ·rw [if_neg c51] at H
                        exact absurd H (by simp)
                      ·rw [if_neg c50] at H
                       exact absurd H (by simp)
                    ·rw [if_neg c43] at H
                     exact absurd H (by simp)
                   ·rw [if_neg c42] at H
                    exact absurd H (by simp)
                  ·rw [if_neg c41] at H
                   exact absurd H (by simp)
                 ·rw [if_neg c40] at H
                  have c40b0 : decide (x49_3 < 4) = false := decide_eq_false c40
                  clear c40
                  have H' := Aside0.mk H
                  clear H
                  go_wp2
                  (try simp only [← hl15_2, ← hl18_2, ← hl30_2, ← hl15_3, ← hl18_3, ← hl30_3])
                  go_roundg k3
                  case measure => have := HK1.out; have := HK2.out; have := HK3.out; omega
                  case rel => exact ⟨(x8_3), (wrap64 (x9_2 + 1)), (x15_3), (x18_3), (x30_3), (by first | rfl | (simp; done) | (simp [*]; done)), H', ⟨by have := HK1.out; have := HK2.out; have := HK3.out; omega⟩, ⟨by (try simp only [hl18_1]); (try simp only [hl15_2]); (try simp only [hl18_2]); (try simp only [hl30_2]); (try simp only [hl15_3]); (try simp only [hl18_3]); (try simp only [hl30_3]); (with_reducible repeat (first | apply Kd.qG | apply Kd.qH | apply Kd.qI)); exact HO_8.out⟩, ⟨by (try simp only [hl18_1]); (try simp only [hl15_2]); (try simp only [hl18_2]); (try simp only [hl30_2]); (try simp only [hl15_3]); (try simp only [hl18_3]); (try simp only [hl30_3]); (with_reducible repeat (first | apply Kd.qG | apply Kd.qH | apply Kd.qI)); exact HO_15.out⟩, ⟨by (try simp only [hl18_1]); (try simp only [hl15_2]); (try simp only [hl18_2]); (try simp only [hl30_2]); (try simp only [hl15_3]); (try simp only [hl18_3]); (try simp only [hl30_3]); (with_reducible repeat (first | apply Kd.qG | apply Kd.qH | apply Kd.qI)); exact HO_18.out⟩, ⟨by (try simp only [hl18_1]); (try simp only [hl15_2]); (try simp only [hl18_2]); (try simp only [hl30_2]); (try simp only [hl15_3]); (try simp only [hl18_3]); (try simp only [hl30_3]); (with_reducible repeat (first | apply Kd.qG | apply Kd.qH | apply Kd.qI)); exact HO_30.out⟩, ⟨bl⟩⟩
              ·rw [if_neg c38] at H
               exact absurd H (by simp)
             ·rw [if_neg c37] at H
              have c37b0 : decide (x9_2 < (x8_2.length : Int)) = false := decide_eq_false c37
              (try (have c37b0_hl18_1 := c37b0; simp only [hl18_1] at c37b0_hl18_1))
              (try (have c37b0_hl15_2 := c37b0; simp only [hl15_2] at c37b0_hl15_2))
              (try (have c37b0_hl18_2 := c37b0; simp only [hl18_2] at c37b0_hl18_2))
              (try (have c37b0_hl30_2 := c37b0; simp only [hl30_2] at c37b0_hl30_2))
              clear c37
              simp only [Option.some.injEq, Prod.mk.injEq] at H
              obtain ⟨rfl, rfl⟩ := H
              obtain ⟨Ao76, co76, eo76⟩ := Kd.qp HO_8.out
              subst eo76
              go_wp2
              go_ret2
              exact ⟨_, _, by first | rfl | (simp [qN, qM] <;> rfl) | (simp [*, qN, qM] <;> rfl), by (with_reducible repeat (first | apply Kd.qG | apply Kd.qH | apply Kd.qI)); exact Kd.qf HO_15.out (fun _ hk => hk.2), by (with_reducible repeat (first | apply Kd.qG | apply Kd.qH | apply Kd.qI)); exact Kd.qf HO_18.out (fun _ hk => hk.2), bl⟩
          ·rw [if_neg c24] at H
           exact absurd H (by simp)
         ·rw [if_neg c22] at H
          exact absurd H (by simp)
        ·rw [if_neg c20] at H
         exact absurd H (by simp)
       ·rw [if_neg c18] at H
        exact absurd H (by simp)
      ·rw [if_neg c17] at H
       exact absurd H (by simp)
  ·rw [if_neg c3] at H
   exact absurd H (by simp)
 ·rw [if_neg c2] at H
  exact absurd H (by simp)
def qY.l0 : Nat → List Int → Int → Int → Int → Option (Int)
 | 0, _, _, _, _ => none
 | k + 1, x0, x1, x7, x8 => if x8 < x7 then (if 0 ≤ x8 then (if x8 < (x0.length : Int) then (if x1 = (rd x0 x8) then (some x8) else (qY.l0 k x0 x1 x7 (wrap64 (x8 + 1)))) else (none)) else (none)) else (some (-1))
def qY.f (k : Nat) (l0 : List Int) (a1 : Int) : Option (Int) := qY.l0 k l0 a1 (l0.length : Int) 0
set_option maxHeartbeats 8000000 in
set_option maxRecDepth 100000 in
theorem qY.calls (k : Nat) (A0 : Option Addr) (c0 : Nat) (l0 : List Int) (a1 : Int) (r : Int) (w : World) (hr0 : Kd.C (Kd.int .i64) w A0 l0.length l0) (hc0 : l0.length ≤ c0) (h : qY.f k l0 a1 = some r) :
  Calls Tryz.prog 58 #[.slice A0 l0.length c0, .int .i64 a1] w fun e w' => e = .returned (.int .i64 r) ∧ Drawn0 w w' := by
 have HR0 := Aside0.mk hr0
 have HC0 := Aside0.mk hc0
 clear hr0 hc0
 have H : (qY.l0 k l0 a1 (l0.length : Int) 0) = some r := h
 clear h
 have H' := Aside0.mk H
 clear H
 go_enter Tryz.func58, Tryz.ntmps58
 go_wp2
 go_loopg [8] k (fun kq v8 w' => ∃ (x8_1 : Int), v8 = .int .i64 x8_1 ∧ Aside0 (qY.l0 kq l0 a1 (l0.length : Int) x8_1 = some r) ∧ Aside0 (kq ≤ k) ∧ Drawn0 w w')
 case atStart => exact ⟨(0), (by first | rfl | (simp; done) | (simp [*]; done)), H', ⟨Nat.le_refl _⟩, by repeat (first | exact Drawn0.refl _ | apply Drawn0.step)⟩
 case round =>
  clear H'
  try clear p2
  obtain ⟨x8_1, rfl, HA, HK1, ⟨m1, rfl⟩⟩ := hrel
  cases gk with
  | zero => exact absurd HA.out (by simp [qY.l0])
  | succ k1 =>
   have H := HA.out
   clear HA
   simp only [qY.l0] at H
   by_cases c3 : x8_1 < (l0.length : Int)
   ·rw [if_pos c3] at H
    have c3b0 : decide (x8_1 < (l0.length : Int)) = true := decide_eq_true c3
    clear c3
    by_cases c4 : 0 ≤ x8_1
    ·rw [if_pos c4] at H
     have c4b0 : decide (0 ≤ x8_1) = true := decide_eq_true c4
     clear c4
     by_cases c5 : x8_1 < (l0.length : Int)
     ·rw [if_pos c5] at H
      have c5b0 : decide (x8_1 < (l0.length : Int)) = true := decide_eq_true c5
      clear c5
      by_cases c6 : a1 = (rd l0 x8_1)
      ·rw [if_pos c6] at H
       have c6b0 : (a1 == (rd l0 x8_1)) = true := beq_iff_eq.mpr c6
       have c6b1 : (a1 != (rd l0 x8_1)) = false := bne_eq_false_iff_eq.mpr c6
       clear c6
       obtain rfl := Option.some.inj H
       have p308 : 0 ≤ (x8_1 : Int) := of_decide_eq_true (by first | (with_reducible assumption) | assumption)
       have q308 : x8_1 < (l0.length : Int) := of_decide_eq_true (by first | (with_reducible assumption) | assumption)
       obtain ⟨ad308, e308, hx308_0⟩ := Kd.qCA HR0.out x8_1 p308 q308
       cases e308
       replace p308 := eq_true p308
       replace q308 := eq_true q308
       go_wp2
       go_ret
       exact ⟨by first | rfl | (simp; done) | (simp [*]; done), by repeat (first | exact Drawn0.refl _ | apply Drawn0.step)⟩
      ·rw [if_neg c6] at H
       have c6b0 : (a1 == (rd l0 x8_1)) = false := beq_eq_false_iff_ne.mpr c6
       have c6b1 : (a1 != (rd l0 x8_1)) = true := bne_iff_ne.mpr c6
       have H' := Aside0.mk H
       clear H
       have p308 : 0 ≤ (x8_1 : Int) := of_decide_eq_true (by first | (with_reducible assumption) | assumption)
       have q308 : x8_1 < (l0.length : Int) := of_decide_eq_true (by first | (with_reducible assumption) | assumption)
       obtain ⟨ad308, e308, hx308_0⟩ := Kd.qCA HR0.out x8_1 p308 q308
       cases e308
       replace p308 := eq_true p308
       replace q308 := eq_true q308
       go_wp2
       go_roundg k1
       case measure => have := HK1.out; omega
       case rel => exact ⟨(wrap64 (x8_1 + 1)), (by first | rfl | (simp; done) | (simp [*]; done)), H', ⟨by have := HK1.out; omega⟩, by repeat (first | exact Drawn0.refl _ | apply Drawn0.step)⟩
     ·rw [if_neg c5] at H
      exact absurd H (by simp)
    ·rw [if_neg c4] at H
     exact absurd H (by simp)
   ·rw [if_neg c3] at H
    have c3b0 : decide (x8_1 < (l0.length : Int)) = false := decide_eq_false c3
    clear c3
    obtain rfl := Option.some.inj H
    go_wp2
    go_ret
    exact ⟨by first | rfl | (simp; done) | (simp [*]; done), by repeat (first | exact Drawn0.refl _ | apply Drawn0.step)⟩
def qd.f (k : Nat) (l0 : List Int) (a1 : Int) : Option (Bool) := (qY.f k l0 a1).bind fun t309 => (some (decide (t309 ≥ 0)))
set_option maxHeartbeats 8000000 in
set_option maxRecDepth 100000 in
theorem qd.calls (k : Nat) (A0 : Option Addr) (c0 : Nat) (l0 : List Int) (a1 : Int) (r : Bool) (w : World) (hr0 : Kd.C (Kd.int .i64) w A0 l0.length l0) (hc0 : l0.length ≤ c0) (h : qd.f k l0 a1 = some r) :
  Calls Tryz.prog 38 #[.slice A0 l0.length c0, .int .i64 a1] w fun e w' => e = .returned (.bool r) ∧ Drawn0 w w' := by
 have HR0 := Aside0.mk hr0
 have HC0 := Aside0.mk hc0
 clear hr0 hc0
 have H : ((qY.f k l0 a1).bind fun t309 => (some (decide (t309 ≥ 0)))) = some r := h
 clear h
 replace H := Option.bind_eq_some_iff.mp H
 obtain ⟨t309, A30, H⟩ := H
 replace H : (some (decide (t309 ≥ 0))) = some r := H
 have A3 := Aside0.mk A30
 clear A30
 obtain rfl := Option.some.inj H
 go_enter Tryz.func38, Tryz.ntmps38
 go_wp2_with (first | ((with_reducible refine qb (f := 58) rfl ?_); refine qRA (some 7) rfl rfl Tryz.func58 (by kernel_rfl) rfl #[.slice A0 l0.length c0, .int .i64 a1] rfl (by (try simp only [List.map_toArray, List.map_cons, List.map_nil]); first | done | rfl | (simp only [List.length_drop, List.length_take]; rfl)) ?_; (with_reducible refine (qY.calls k _ _ l0 a1 t309 _ ?side1 ?side2 A3.out).mono ?_); (case side1 => repeat (first | exact HR0.out | (with_reducible refine Kd.qcA ?_ _) | (with_reducible refine Kd.qbA ?_ _) | (with_reducible refine Kd.qtA ?_))); (case side2 => exact HC0.out); rintro e w' ⟨rfl, ⟨nd, rfl⟩⟩; refine ⟨_, rfl, ?_⟩))
 go_ret
 exact ⟨by first | rfl | (simp; done) | (simp [*]; done), by repeat (first | exact Drawn0.refl _ | apply Drawn0.step)⟩
end Go.Proofs.YtdncpkppkafkpaaGreatDoor.P
namespace Go.Proofs.YtdncpkppkafkpaaGreatDoor
open Go.RowKit Go.Proofs.YtdncpkppkafkpaaGreatDoor.P Go.Proofs.YtdncpkppkafkpaaGreatDoorW.PrintWords Go.Proofs.YtdncpkppkafkpaaGreatDoorW.PrintLast
set_option linter.unusedVariables false
set_option linter.unusedSimpArgs false
def kinds (l : List Int) : Nat := (Lib.compact (l.mergeSort fun x y => decide (x ≤ y))).length
theorem vals_at {w : World} {base : Nat} {ok : Nat → Prop} {A : Option Addr} {c : Nat} {l : List Int} (h : Kd.R (Kd.int .i64) 3 w base ok (.slice A l.length c) l) : ValsAt w.heap.size w (.slice A l.length c) l := by
 obtain ⟨hok, inner, hown, hr⟩ := h
 have hi := qGC hr
 rcases hown.2 with ⟨hv, hn⟩ | ⟨g, cap, cur, hv, hbase, hheap, hncap, hmax, hsize, htake⟩
 ·exact .inl ⟨hv, List.eq_nil_of_length_eq_zero hn⟩
 ·refine .inr ⟨g, 0, cap, hv, ?_, fun j hj => ?_⟩
  ·rcases Nat.lt_or_ge g w.heap.size with h1 | h1
   ·exact h1
   ·rw [Array.getElem?_eq_none h1] at hheap; cases hheap
  ·have hsz : (Kd.int .i64).sz = 1 := rfl
   rw [hsz, Nat.mul_one] at htake
   have ht : cur.toList.take l.length = l.map (Value.int .i64) := by rw [htake, hi]
   have h1 : cur[j]? = some (Value.int .i64 l[j]) := by
    have : (cur.toList.take l.length)[j]? = some (Value.int .i64 l[j]) := by rw [ht, List.getElem?_map, List.getElem?_eq_getElem hj]; rfl
    rw [List.getElem?_take, if_pos hj] at this
    simpa using this
   simp only [World.cell?, hheap, Nat.zero_add]
   rw [h1]
   simp [hj]
namespace P
def qFA.f (k : Nat) (l0 : List S75) : Option Bool := (qF.f k l0).bind fun b => (qd.f k b.2 (-1)).bind fun t => if t = true then some false else if b.1.length ≤ 1000000 then some (decide (kinds b.1 = 6)) else none
set_option maxHeartbeats 2000000 in
set_option maxRecDepth 100000 in
theorem qFA.calls (k : Nat) (A0 : Option Addr) (c0 : Nat) (l0 : List S75) (r1 : Bool) (w : World) (hr0 : Kd.C k75 w A0 l0.length l0) (hc0 : l0.length ≤ c0) (h : qFA.f k l0 = some r1) :
  Calls Tryz.prog 26 #[.slice A0 l0.length c0] w fun e w' => e = .returned (.bool r1) ∧ Below w.heap.size w w' := by
 unfold qFA.f at h
 replace h := Option.bind_eq_some_iff.mp h
 obtain ⟨⟨ps, fs⟩, hf, h⟩ := h
 replace h := Option.bind_eq_some_iff.mp h
 obtain ⟨t, ht, h⟩ := h
 have HF := Aside0.mk (show qF.f k l0 = some (ps, fs) from hf)
 have HT := Aside0.mk (show qd.f k fs (-1) = some t from ht)
 have HR := Aside0.mk hr0
 have HC := Aside0.mk hc0
 clear hf ht hr0 hc0
 cases t with
 | true =>
  obtain rfl := Option.some.inj (show some false = some r1 from h)
  clear h
  go_enter Tryz.func26, Tryz.ntmps26
  go_wp2_with (first
   | (go_at_call 37; refine (qF.calls k A0 c0 l0 ps fs _ HR.out HC.out HF.out).mono ?_; rintro e w1 ⟨v1, v2, rfl, ho1, ho2, hb1⟩; obtain ⟨A1, c1, e1⟩ := Kd.qp ho1; subst e1; obtain ⟨A2, c2, e2⟩ := Kd.qp ho2; subst e2; have HO2 := Aside0.mk ho2; have HB1 := Aside0.mk hb1; clear ho1 ho2 hb1)
   | (go_at_call 38; refine (qd.calls k A2 c2 fs (-1) true _ (Kd.qQ HO2.out).2.2 (Kd.qQ HO2.out).2.1 HT.out).mono ?_; rintro e w2 ⟨rfl, hb2⟩; have HB2 := Aside0.mk (qSA HB1.out HB1.out.size hb2.below); clear hb2))
  go_ret
  exact ⟨rfl, HB2.out⟩
 | false =>
  replace h : (if ps.length ≤ 1000000 then some (decide (kinds ps = 6)) else none) = some r1 := h
  by_cases hl : ps.length ≤ 1000000
  case neg => rw [if_neg hl] at h; cases h
  rw [if_pos hl] at h
  obtain rfl := Option.some.inj h
  clear h
  have HL := Aside0.mk hl
  clear hl
  have hd : (decide (kinds ps = 6)) = (((Lib.compact (ps.mergeSort fun x y => decide (x ≤ y))).length : Int) == 6) := by
   unfold kinds
   by_cases h6 : (Lib.compact (ps.mergeSort fun x y => decide (x ≤ y))).length = 6
   ·rw [decide_eq_true h6, h6]; rfl
   ·rw [decide_eq_false h6]; symm; rw [beq_eq_false_iff_ne]; omega
  have HD := Aside0.mk hd
  clear hd
  generalize hq : decide (kinds ps = 6) = q at HD ⊢
  clear hq
  go_enter Tryz.func26, Tryz.ntmps26
  go_wp2_with (first
   | (go_at_call 37; refine (qF.calls k A0 c0 l0 ps fs _ HR.out HC.out HF.out).mono ?_; rintro e w1 ⟨v1, v2, rfl, ho1, ho2, hb1⟩; obtain ⟨A1, c1, e1⟩ := Kd.qp ho1; subst e1; obtain ⟨A2, c2, e2⟩ := Kd.qp ho2; subst e2; have HO1 := Aside0.mk ho1; have HO2 := Aside0.mk ho2; have HB1 := Aside0.mk hb1; clear ho1 ho2 hb1)
   | (go_at_call 38; refine (qd.calls k A2 c2 fs (-1) false _ (Kd.qQ HO2.out).2.2 (Kd.qQ HO2.out).2.1 HT.out).mono ?_; rintro e w2 ⟨rfl, hb2⟩; have HO3 := Aside0.mk (Kd.qW HO1.out hb2.below); have HB2 := Aside0.mk (qSA HB1.out HB1.out.size hb2.below); clear hb2 HO1 HO2 HB1)
   | (go_at_call 41; refine (vals_calls A1 ps.length c1 _).mono ?_; rintro e w3 ⟨rfl, ew3⟩; have HV := Aside0.mk (vals_at HO3.out); have HW3 := Aside0.mk ew3; clear ew3)
   | (go_at_call 40; refine (valsSorted.calls w2.heap.size (.slice A1 ps.length c1) ps (by have := HL.out; unfold maxLen; omega) (by have := HL.out; omega) w3 (by rw [HW3.out]; simp) (by rw [HW3.out]; exact (Boxed.new w2 28 (.slice A1 ps.length c1)).cell) (by
      have hbb : Below w2.heap.size w2 w3 := by rw [HW3.out]; exact qMA (Below.refl _ _) _
      rcases HV.out.later hbb with hv | ⟨b, off, cap, e, hb, hc⟩
      ·exact .inl hv
      ·exact .inr ⟨b, off, cap, e, by rw [HW3.out]; simp; omega, hc⟩)).mono ?_; rintro e w4 ⟨v4, rfl, ho4, hb4⟩; have HO4 := Aside0.mk ho4; have HB4 := Aside0.mk hb4; clear ho4 hb4)
   | (go_at_call 39; refine (compactIox.calls (fun _ => True) v4 _ w3 _ HB4.out HO4.out).mono ?_; rintro e w5 ⟨v5, rfl, ho5, hb5, _⟩; obtain ⟨A5, c5, e5⟩ := Kd.qp ho5; subst e5; have HB5 := Aside0.mk hb5; clear ho5 hb5))
  all_goals (try rw [← HD.out])
  go_ret
  have hbb : Below w2.heap.size w2 w3 := by rw [HW3.out]; exact qMA (Below.refl _ _) _
  exact ⟨rfl, qSA (qSA HB2.out HB2.out.size hbb) (qSA HB2.out HB2.out.size hbb).size HB5.out⟩
end P
end Go.Proofs.YtdncpkppkafkpaaGreatDoor
namespace Go.Proofs.YtdncpkppkafkpaaGreatDoor
open Go Go.ChangeMaps Go.MapKept
open Go.Maps (Keyed IsMap Tidy)
set_option linter.unusedVariables false
set_option linter.unusedSectionVars false
theorem plainElem_bool_inv {H : Type} {P : Program} {e : TypeId} (he : P.underlying e = some .bool) {v : Value} {z : DataW H × List MemPlace} (h : plainElem P e v = some z) : ∃ x, v = .bool x ∧ z = (.lit (.bool x), []) := by
 unfold plainElem at h
 rw [he] at h
 cases v <;> simp at h
 exact ⟨_, rfl, h.symm⟩
structure MapKit (P : Program) (κ ν : Type) where
 t : TypeId
 k : TypeId
 e : TypeId
 law : Keyed P k
 ht : P.underlying t = some (.map k e)
 okK : κ → Prop
 key : κ → Value
 lit : κ → Lit
 hkey : ∀ x, okK x → keyOf P k (key x) = some (lit x)
 inj : ∀ x y, key x = key y → x = y
 okV : ν → Prop
 val : ν → Value
 dat : ν → DataW Unit
 R : Value → Option (DataW Unit × List MemPlace)
 hval : ∀ v, okV v → R (val v) = some (dat v, [])
 hdat : ∀ v u ps, R u = some (dat v, ps) → u = val v
 zero : ν
 okz : okV zero
 hz : ∀ w, (zeroValue e).run P w = .ok (val zero) w
namespace MapKit
variable {P : Program} {κ ν : Type} [DecidableEq κ] (M : MapKit P κ ν)
def datum : List (κ × ν) → DataW Unit
 | [] => .map []
 | x :: l => (datum l).put (M.lit x.1) (M.dat x.2)
def look (l : List (κ × ν)) (x : κ) : ν := match l.find? fun y => decide (y.1 = x) with | some y => y.2 | none => M.zero
def met (l : List (κ × ν)) (x : κ) : Bool := l.any fun y => decide (y.1 = x)
structure Is (w : World) (b : Nat) (l : List (κ × ν)) : Prop where
 ok : ∀ y ∈ l, M.okK y.1 ∧ M.okV y.2
 own : w.ownsMap P M.k M.R b l.length (M.datum l)
theorem datum_isMap : ∀ l : List (κ × ν), IsMap (M.datum l)
 | [] => Go.Maps.isMap_empty
 | x :: l => (datum_isMap l).put _ _
theorem lit_ne {x y : κ} (hx : M.okK x) (hy : M.okK y) (h : x ≠ y) : M.lit x ≠ M.lit y := fun e =>
 h (M.inj _ _ (M.law.inj (M.hkey x hx) (by rw [M.hkey y hy, e])))
theorem has_datum {x : κ} (hx : M.okK x) : ∀ (l : List (κ × ν)), (∀ y ∈ l, M.okK y.1 ∧ M.okV y.2) → Go.Maps.has (M.datum l) (M.lit x) = met l x
 | [], _ => rfl
 | y :: l, h => by
  have ih := has_datum hx l (fun z hz => h z (List.mem_cons_of_mem _ hz))
  have hy := (h y List.mem_cons_self).1
  unfold met at ih ⊢
  rw [List.any_cons, ← ih]
  by_cases e : y.1 = x
  ·rw [decide_eq_true e, Bool.true_or]
   show Go.Maps.has ((M.datum l).put (M.lit y.1) (M.dat y.2)) (M.lit x) = true
   rw [e]
   exact Go.Maps.has_put_same (M.datum_isMap l) (M.law.key (M.hkey x hx)) _
  ·rw [decide_eq_false e, Bool.false_or]
   exact Go.Maps.has_put_other (M.lit_ne hx hy (fun q => e q.symm)) _
variable {M} {w : World} {b : Nat} {l : List (κ × ν)}
theorem Is.made (w : World) : M.Is (w.alloc (.map #[] 0)) w.heap.size [] := ⟨fun _ h => (List.not_mem_nil h).elim, World.ownsMap_made _ _ _ _⟩
theorem Is.lt (h : M.Is w b l) : b < w.heap.size := h.own.lt
theorem Is.kept {w' : World} {row : Option Nat} (h : M.Is w b l) (hg : w.grownBy w' row) (hne : some b ≠ row) : M.Is w' b l := ⟨h.ok, h.own.kept hg hne⟩
theorem Is.alloc (h : M.Is w b l) (o : Obj) : M.Is (w.alloc o) b l := ⟨h.ok, h.own.alloc o⟩
theorem Is.setCell (h : M.Is w b l) {a : Addr} (ha : b ≠ a.block) (u : Value) : M.Is (w.setCell a u) b l := ⟨h.ok, h.own.setCell ha u⟩
theorem Is.qdB {w' : World} (h : M.Is w b l) (e : w'.heap[b]? = w.heap[b]?) : M.Is w' b l := by
 obtain ⟨es, clock, hb, r⟩ := h.own
 exact ⟨h.ok, es, clock, by rw [e, hb], r⟩
theorem Is.run_put (h : M.Is w b l) (hn : l.length < maxLen) {x : κ} (hx : M.okK x) {v : ν} (hv : M.okV v) : ∃ w', (Instr.mapUpdate M.t (.map (some b)) (M.key x) (M.val v)).run P w = .ok () w' ∧ M.Is w' b ((x, v) :: l) ∧ w.grownBy w' (some b) := by
 obtain ⟨w', hrun, h1, h2⟩ := h.own.update M.law M.ht hn (M.hkey x hx) (M.hval v hv)
 refine ⟨w', hrun, ⟨fun y hy => ?_, h1⟩, h2⟩
 rcases List.mem_cons.1 hy with rfl | hy
 ·exact ⟨hx, hv⟩
 ·exact h.ok y hy
variable {ops : Array Oper} {rest : List Oper} {o : Oper} {a : Act} {Q : Exit → Act → World → Prop}
end MapKit
theorem elem_bool {P : Program} {e : TypeId} (he : P.underlying e = some .bool) : (∀ v : Bool, True → plainElem (H := Unit) P e (.bool v) = some (.lit (.bool v), [])) ∧ ∀ (v : Bool) (u : Value) ps, plainElem (H := Unit) P e u = some (.lit (.bool v), ps) → u = .bool v := by
 refine ⟨fun v _ => plainElem_bool he v, fun v u ps h => ?_⟩
 obtain ⟨x, rfl, hz⟩ := plainElem_bool_inv he h
 simp only [Prod.mk.injEq, DataW.lit.injEq, Lit.bool.injEq] at hz
 rw [hz.1]
end Go.Proofs.YtdncpkppkafkpaaGreatDoor
namespace Go.Proofs.YtdncpkppkafkpaaGreatDoor
open Go.RowKit Go.Proofs.YtdncpkppkafkpaaGreatDoorW.PrintWords Go.Proofs.YtdncpkppkafkpaaGreatDoorW.PrintLast
set_option linter.unusedVariables false
set_option linter.unusedSectionVars false
namespace MapKit
variable {P : Program} {κ ν : Type} [DecidableEq κ] {M : MapKit P κ ν} {w w1 : World} {b : Nat} {l : List (κ × ν)}
theorem Is.below (h : M.Is w b l) (hb : Below w.heap.size w w1) : M.Is w1 b l := h.qdB (hb.block b h.lt)
theorem Is.drewN (h : M.Is w b l) (n : Nat) : M.Is (w.drewN n) b l := h.qdB rfl
theorem Is.drew (h : M.Is w b l) : M.Is w.drew b l := h.qdB rfl
theorem Is.obj (h : M.Is w b l) : ∃ es clock, w.heap[b]? = some (.map es clock) := by
 obtain ⟨es, clock, hb, _⟩ := h.own
 exact ⟨es, clock, hb⟩
theorem Is.off (h : M.Is w b l) {k : Nat} {cells : Array Value} {q : TypeId} (hc : w.heap[k]? = some (.cells cells q (0, 0))) : k ≠ b := by
 rintro rfl
 obtain ⟨es, clock, hb⟩ := h.obj
 rw [hb] at hc
 cases hc
theorem Is.ne (h : M.Is w b l) {α : Type} {d : Kd α} {e base : Nat} {ok : Nat → Prop} {v : Value} {xs : List α} (hR : d.R e w base ok v xs) : some b ≠ v.ownBlock := by
 intro he
 obtain ⟨_, _, _, q, _, cells, hc⟩ := (Kd.qQB hR).1 b he.symm
 exact h.off hc rfl
theorem Is.row (h : M.Is w b l) {α : Type} {d : Kd α} {e base : Nat} {ok : Nat → Prop} {v : Value} {xs : List α} (hR : d.R e w base ok v xs) (hg : w.grownBy w1 (some b)) : d.R e w1 base ok v xs :=
 Kd.qf (Kd.qnC (Kd.qQB hR) (fun k hk hlt => hg.block k hlt (fun e_ => by
  injection e_ with e_
  obtain ⟨_, _, _, q, _, cells, hc⟩ := hk
  exact h.off hc e_))) (fun _ hk => hk.1)
end MapKit
end Go.Proofs.YtdncpkppkafkpaaGreatDoor
namespace Go.Proofs.YtdncpkppkafkpaaGreatDoor
open Go Go.ChangeMaps Go.MapKept
open Go.Maps (Keyed IsMap Tidy)
set_option linter.unusedVariables false
set_option linter.unusedSectionVars false
namespace MapKit
variable {P : Program} {κ ν : Type} [DecidableEq κ] (M : MapKit P κ ν)
def count : List (κ × ν) → Nat
 | [] => 0
 | x :: l => if met l x.1 = true then count l else count l + 1
theorem tidy_datum : ∀ l : List (κ × ν), (∀ y ∈ l, M.okK y.1 ∧ M.okV y.2) → Tidy (M.datum l)
 | [], _ => Go.Maps.tidy_empty
 | x :: l, h => (tidy_datum l (fun z hz => h z (List.mem_cons_of_mem _ hz))).put (M.law.key (M.hkey x.1 (h x List.mem_cons_self).1)) _
theorem size_datum : ∀ l : List (κ × ν), (∀ y ∈ l, M.okK y.1 ∧ M.okV y.2) → Go.Maps.size (M.datum l) = count l
 | [], _ => rfl
 | x :: l, h => by
  have hl : ∀ y ∈ l, M.okK y.1 ∧ M.okV y.2 := fun z hz => h z (List.mem_cons_of_mem _ hz)
  have ih := size_datum l hl
  show Go.Maps.size ((M.datum l).put (M.lit x.1) (M.dat x.2)) = _
  rw [Go.Maps.size_put (tidy_datum M l hl), M.has_datum (h x List.mem_cons_self).1 l hl, ih, count]
variable {M}
theorem Is.run_len {w : World} {b : Nat} {l : List (κ × ν)} (h : M.Is w b l) (ty : TypeId) : (Builtin.len_ #[M.t] ty #[.map (some b)]).run P w = .ok (.int .i64 (count l)) w := by
 have := h.own.len M.ht ty
 rw [size_datum M l h.ok] at this
 exact this
end MapKit
end Go.Proofs.YtdncpkppkafkpaaGreatDoor
namespace Go.Proofs.YtdncpkppkafkpaaGreatDoor
open Go Go.ChangeMaps Go.RowKit Go.Proofs.YtdncpkppkafkpaaGreatDoor.P
set_option linter.unusedVariables false
set_option linter.unusedSimpArgs false
theorem keyI (n : Int) (h : (Lit.int .i64 n).wf = true) : keyOf Tryz.prog 3 (.int .i64 n) = some (.int .i64 n) := by
 rw [keyOf_int Tryz.underlying3]
 unfold mapKey
 rw [Tryz.underlying3]
 simp only [h, and_self, if_true]
noncomputable def mapI : MapKit Tryz.prog Int Bool where
 t := 72
 k := 3
 e := 4
 law := Go.Maps.int_keyed Tryz.underlying3
 ht := Tryz.underlying72
 okK := fun n => (Lit.int .i64 n).wf = true
 key := .int .i64
 lit := .int .i64
 hkey := keyI
 inj := fun x y h => by injection h
 okV := fun _ => True
 val := .bool
 dat := fun v => .lit (.bool v)
 R := plainElem Tryz.prog 4
 hval := (elem_bool Tryz.underlying4).1
 hdat := (elem_bool Tryz.underlying4).2
 zero := false
 okz := trivial
 hz := Tryz.zeroValue4
end Go.Proofs.YtdncpkppkafkpaaGreatDoor
namespace Go.Proofs
open Go.Shelf
def Tryz.lays156_ren : Go.Shelf.Ren := ⟨fun | 156 => 19 | 165 => 28 | 166 => 29 | 169 => 30 | 240 => 45 | 241 => 46 | 276 => 66 | 277 => 67 | n => n, fun | 31 => 46 | 9 => 9 | 3 => 3 | 4 => 4 | 0 => 0 | 20 => 20 | 72 => 61 | 76 => 65 | 70 => 59 | 37 => 25 | 75 => 64 | 127 => 86 | 164 => 104 | 5 => 5 | 80 => 67 | n => n, fun | n => n⟩
theorem Tryz.lays156 : Go.Proofs.Lays.n156 Tryz.prog Tryz.lays156_ren := {
 mixed := by kernel_rfl
 f156 := Tryz.func19.trans (congrArg some (by kernel_rfl))
 f165 := Tryz.func28.trans (congrArg some (by kernel_rfl))
 f166 := Tryz.func29.trans (congrArg some (by kernel_rfl))
 f169 := Tryz.func30.trans (congrArg some (by kernel_rfl))
 f240 := Tryz.func45.trans (congrArg some (by kernel_rfl))
 f241 := Tryz.func46.trans (congrArg some (by kernel_rfl))
 f276 := Tryz.func66.trans (congrArg some (by kernel_rfl))
 f277 := Tryz.func67.trans (congrArg some (by kernel_rfl))
 t0 := Tryz.underlying0
 a0 := Tryz.isAgg0
 z0 := Tryz.sizeOf0
 v0 := Tryz.zeroValue0
 t3 := Tryz.underlying3
 a3 := Tryz.isAgg3
 z3 := Tryz.sizeOf3
 v3 := Tryz.zeroValue3
 t4 := Tryz.underlying4
 a4 := Tryz.isAgg4
 z4 := Tryz.sizeOf4
 v4 := Tryz.zeroValue4
 t9 := Tryz.underlying9
 a9 := Tryz.isAgg9
 z9 := Tryz.sizeOf9
 v9 := Tryz.zeroValue9
 t20 := Tryz.underlying20
 a20 := Tryz.isAgg20
 z20 := Tryz.sizeOf20
 v20 := Tryz.zeroValue20
 t31 := Tryz.underlying46
 a31 := Tryz.isAgg46
 z31 := Tryz.sizeOf46
 v31 := Tryz.zeroValue46
 t37 := Tryz.underlying25
 a37 := Tryz.isAgg25
 z37 := Tryz.sizeOf25
 v37 := Tryz.zeroValue25
 t70 := Tryz.underlying59
 a70 := Tryz.isAgg59
 z70 := Tryz.sizeOf59
 v70 := Tryz.zeroValue59
 t72 := Tryz.underlying61
 a72 := Tryz.isAgg61
 z72 := Tryz.sizeOf61
 v72 := Tryz.zeroValue61
 t75 := Tryz.underlying64
 a75 := Tryz.isAgg64
 z75 := Tryz.sizeOf64
 v75 := Tryz.zeroValue64
 t76 := Tryz.underlying65
 a76 := Tryz.isAgg65
 z76 := Tryz.sizeOf65
 v76 := Tryz.zeroValue65
 t127 := Tryz.underlying86
 a127 := Tryz.isAgg86
 z127 := Tryz.sizeOf86
 v127 := Tryz.zeroValue86
 t164 := Tryz.underlying104
 a164 := Tryz.isAgg104
 z164 := Tryz.sizeOf104
 v164 := Tryz.zeroValue104 }
theorem Tryz.Builder_Extra_156 : Builder.Extra Tryz.prog Tryz.lays156_ren := {
 sizeBuilder := by kernel_rfl
 liesBuilder := by kernel_rfl
 t5 := Tryz.underlying5
 a5 := Tryz.isAgg5
 z5 := Tryz.sizeOf5
 v5 := Tryz.zeroValue5
 infoByte := by kernel_rfl
 cellsByte := by kernel_rfl
 sizeByte := by kernel_rfl
 neB5 := by decide }
open Go.RowKit in
theorem Tryz.strings_Join (bk o c : Nat) (xs : List ByteArray) (sep : ByteArray) (w : World) (hcells : ∀ (j : Nat) x, xs[j]? = some x → w.cell? ⟨bk, o + j, none⟩ = some (.string x)) (hbk : bk < w.heap.size) (hN : xs.length ≤ 140737488355328) (hcap : xs.length ≤ c) (hlen : (Lib.join (xs.map (·.data.toList)) sep.data.toList).length ≤ 140737488355328) :
  Calls Tryz.prog 19 #[.slice (some ⟨bk, o, none⟩) xs.length c, .string sep] w fun e w' => e = .returned (.string ⟨(Lib.join (xs.map (·.data.toList)) sep.data.toList).toArray⟩) ∧ Below w.heap.size w w' := Any.strings_Join Tryz.lays156 Tryz.Builder_Extra_156 bk o c xs sep w hcells hbk hN hcap hlen
def Tryz.lays146_ren : Go.Shelf.Ren := ⟨fun | 146 => 17 | 221 => 27 | 268 => 42 | 138 => 43 | 143 => 44 | 195 => 62 | 197 => 63 | 218 => 64 | 219 => 65 | 260 => 75 | 217 => 76 | 225 => 77 | 224 => 78 | 267 => 79 | 266 => 93 | 314 => 94 | n => n, fun | 9 => 9 | 31 => 46 | 3 => 3 | 4 => 4 | 0 => 0 | 105 => 101 | 21 => 21 | 5 => 5 | 46 => 112 | 119 => 128 | 139 => 131 | 138 => 130 | 146 => 132 | 51 => 125 | n => n, fun | 1 => 0 | 3 => 1 | 4 => 2 | n => n⟩
theorem Tryz.lays146 : Go.Proofs.Lays.n146 Tryz.prog Tryz.lays146_ren := {
 mixed := by kernel_rfl
 f138 := Tryz.func43.trans (congrArg some (by kernel_rfl))
 f143 := Tryz.func44.trans (congrArg some (by kernel_rfl))
 f146 := Tryz.func17.trans (congrArg some (by kernel_rfl))
 f195 := Tryz.func62.trans (congrArg some (by kernel_rfl))
 f197 := Tryz.func63.trans (congrArg some (by kernel_rfl))
 f217 := Tryz.func76.trans (congrArg some (by kernel_rfl))
 f218 := Tryz.func64.trans (congrArg some (by kernel_rfl))
 f219 := Tryz.func65.trans (congrArg some (by kernel_rfl))
 f221 := Tryz.func27.trans (congrArg some (by kernel_rfl))
 f224 := Tryz.func78.trans (congrArg some (by kernel_rfl))
 f225 := Tryz.func77.trans (congrArg some (by kernel_rfl))
 f260 := Tryz.func75.trans (congrArg some (by kernel_rfl))
 f266 := Tryz.func93.trans (congrArg some (by kernel_rfl))
 f267 := Tryz.func79.trans (congrArg some (by kernel_rfl))
 f268 := Tryz.func42.trans (congrArg some (by kernel_rfl))
 f314 := Tryz.func94.trans (congrArg some (by kernel_rfl))
 t0 := Tryz.underlying0
 a0 := Tryz.isAgg0
 z0 := Tryz.sizeOf0
 v0 := Tryz.zeroValue0
 t3 := Tryz.underlying3
 a3 := Tryz.isAgg3
 z3 := Tryz.sizeOf3
 v3 := Tryz.zeroValue3
 t4 := Tryz.underlying4
 a4 := Tryz.isAgg4
 z4 := Tryz.sizeOf4
 v4 := Tryz.zeroValue4
 t5 := Tryz.underlying5
 a5 := Tryz.isAgg5
 z5 := Tryz.sizeOf5
 v5 := Tryz.zeroValue5
 t9 := Tryz.underlying9
 a9 := Tryz.isAgg9
 z9 := Tryz.sizeOf9
 v9 := Tryz.zeroValue9
 t21 := Tryz.underlying21
 a21 := Tryz.isAgg21
 z21 := Tryz.sizeOf21
 v21 := Tryz.zeroValue21
 t31 := Tryz.underlying46
 a31 := Tryz.isAgg46
 z31 := Tryz.sizeOf46
 v31 := Tryz.zeroValue46
 t46 := Tryz.underlying112
 a46 := Tryz.isAgg112
 z46 := Tryz.sizeOf112
 v46 := Tryz.zeroValue112
 t51 := Tryz.underlying125
 a51 := Tryz.isAgg125
 z51 := Tryz.sizeOf125
 v51 := Tryz.zeroValue125
 t105 := Tryz.underlying101
 a105 := Tryz.isAgg101
 z105 := Tryz.sizeOf101
 v105 := Tryz.zeroValue101
 t119 := Tryz.underlying128
 a119 := Tryz.isAgg128
 z119 := Tryz.sizeOf128
 t138 := Tryz.underlying130
 a138 := Tryz.isAgg130
 z138 := Tryz.sizeOf130
 v138 := Tryz.zeroValue130
 t139 := Tryz.underlying131
 a139 := Tryz.isAgg131
 z139 := Tryz.sizeOf131
 v139 := Tryz.zeroValue131
 t146 := Tryz.underlying132
 a146 := Tryz.isAgg132
 z146 := Tryz.sizeOf132
 v146 := Tryz.zeroValue132
 g1 := by kernel_rfl
 g3 := by kernel_rfl
 g4 := by kernel_rfl }
open Go.RowKit Go.Lib in
theorem Tryz.strings_Split (s sep : ByteArray) (m : Int) (w : World) (hs : s.size < 4294967281) (hm : w.cell? ⟨0, 0, none⟩ = some (.int .i64 m)) (h1 : 1 ≤ sep.size) :
  Calls Tryz.prog 17 #[.string s, .string sep] w fun e w' =>
   e = .returned (.slice (some ⟨w.heap.size, 0, none⟩) (Lib.countB s sep + 1) (Lib.countB s sep + 1)) ∧ w' = w.alloc (.cells ((Lib.splitB sep 0 (Lib.countB s sep) s).map Value.string).toArray 9) := Any.strings_Split Tryz.lays146 (by kernel_rfl) s sep m w hs hm h1
def Tryz.lays160_ren : Go.Shelf.Ren := ⟨fun | 160 => 34 | 232 => 48 | 231 => 47 | 227 => 49 | 234 => 51 | 233 => 50 | 236 => 53 | 235 => 52 | 228 => 68 | 271 => 70 | 151 => 69 | 197 => 63 | 120 => 81 | 152 => 80 | 260 => 75 | 137 => 95 | 119 => 96 | 224 => 78 | 225 => 77 | 217 => 76 | 266 => 93 | n => n, fun | 9 => 9 | 4 => 4 | 3 => 3 | 5 => 5 | 117 => 90 | 116 => 89 | 0 => 0 | 124 => 93 | 21 => 21 | 105 => 101 | 46 => 112 | 119 => 128 | 139 => 131 | 138 => 130 | n => n, fun | 3 => 1 | 4 => 2 | n => n⟩
theorem Tryz.lays160 : Go.Proofs.Lays.n160 Tryz.prog Tryz.lays160_ren := {
 mixed := by kernel_rfl
 f119 := Tryz.func96.trans (congrArg some (by kernel_rfl))
 f120 := Tryz.func81.trans (congrArg some (by kernel_rfl))
 f137 := Tryz.func95.trans (congrArg some (by kernel_rfl))
 f151 := Tryz.func69.trans (congrArg some (by kernel_rfl))
 f152 := Tryz.func80.trans (congrArg some (by kernel_rfl))
 f160 := Tryz.func34.trans (congrArg some (by kernel_rfl))
 f197 := Tryz.func63.trans (congrArg some (by kernel_rfl))
 f217 := Tryz.func76.trans (congrArg some (by kernel_rfl))
 f224 := Tryz.func78.trans (congrArg some (by kernel_rfl))
 f225 := Tryz.func77.trans (congrArg some (by kernel_rfl))
 f227 := Tryz.func49.trans (congrArg some (by kernel_rfl))
 f228 := Tryz.func68.trans (congrArg some (by kernel_rfl))
 f231 := Tryz.func47.trans (congrArg some (by kernel_rfl))
 f232 := Tryz.func48.trans (congrArg some (by kernel_rfl))
 f233 := Tryz.func50.trans (congrArg some (by kernel_rfl))
 f234 := Tryz.func51.trans (congrArg some (by kernel_rfl))
 f235 := Tryz.func52.trans (congrArg some (by kernel_rfl))
 f236 := Tryz.func53.trans (congrArg some (by kernel_rfl))
 f260 := Tryz.func75.trans (congrArg some (by kernel_rfl))
 f266 := Tryz.func93.trans (congrArg some (by kernel_rfl))
 f271 := Tryz.func70.trans (congrArg some (by kernel_rfl))
 t0 := Tryz.underlying0
 a0 := Tryz.isAgg0
 z0 := Tryz.sizeOf0
 v0 := Tryz.zeroValue0
 t3 := Tryz.underlying3
 a3 := Tryz.isAgg3
 z3 := Tryz.sizeOf3
 v3 := Tryz.zeroValue3
 t4 := Tryz.underlying4
 a4 := Tryz.isAgg4
 z4 := Tryz.sizeOf4
 v4 := Tryz.zeroValue4
 t5 := Tryz.underlying5
 a5 := Tryz.isAgg5
 z5 := Tryz.sizeOf5
 v5 := Tryz.zeroValue5
 t9 := Tryz.underlying9
 a9 := Tryz.isAgg9
 z9 := Tryz.sizeOf9
 v9 := Tryz.zeroValue9
 t21 := Tryz.underlying21
 a21 := Tryz.isAgg21
 z21 := Tryz.sizeOf21
 v21 := Tryz.zeroValue21
 t46 := Tryz.underlying112
 a46 := Tryz.isAgg112
 z46 := Tryz.sizeOf112
 v46 := Tryz.zeroValue112
 t105 := Tryz.underlying101
 a105 := Tryz.isAgg101
 z105 := Tryz.sizeOf101
 v105 := Tryz.zeroValue101
 t116 := Tryz.underlying89
 a116 := Tryz.isAgg89
 z116 := Tryz.sizeOf89
 t117 := Tryz.underlying90
 a117 := Tryz.isAgg90
 z117 := Tryz.sizeOf90
 v117 := Tryz.zeroValue90
 t119 := Tryz.underlying128
 a119 := Tryz.isAgg128
 z119 := Tryz.sizeOf128
 t124 := Tryz.underlying93
 a124 := Tryz.isAgg93
 z124 := Tryz.sizeOf93
 v124 := Tryz.zeroValue93
 t138 := Tryz.underlying130
 a138 := Tryz.isAgg130
 z138 := Tryz.sizeOf130
 v138 := Tryz.zeroValue130
 t139 := Tryz.underlying131
 a139 := Tryz.isAgg131
 z139 := Tryz.sizeOf131
 v139 := Tryz.zeroValue131
 g3 := by kernel_rfl
 g4 := by kernel_rfl }
end Go.Proofs
namespace Go.Proofs.YtdncpkppkafkpaaGreatDoor
open Go.RowKit Go.Proofs.YtdncpkppkafkpaaGreatDoorW.PrintWords Go.Proofs.YtdncpkppkafkpaaGreatDoorW.PrintLast
set_option linter.unusedVariables false
set_option linter.unusedSimpArgs false
def strings_Split.f (a0 a1 : ByteArray) : Option (List ByteArray) := if a0.size < 4294967281 ∧ 1 ≤ a1.size then some (Lib.splitB a1 0 (Lib.countB a0 a1) a0) else none
theorem strings_Split.calls (a0 a1 : ByteArray) (r : List ByteArray) (w : World) (hL : Laid w) (h : strings_Split.f a0 a1 = some r) :
  Calls Tryz.prog 17 #[.string a0, .string a1] w fun e w' => ∃ v0_ : Value, e = .returned v0_ ∧ Kd.R Kd.string 9 w' w.heap.size (fun _ => True) v0_ r ∧ Below w.heap.size w w' := by
 unfold strings_Split.f at h
 split at h
 ·rename_i hs
  obtain rfl := Option.some.inj h
  obtain ⟨m, hm⟩ := hL
  have hlen := Lib.splitB_all a1 hs.2 0 _ a0 rfl
  have hle := Lib.countB_le a1 hs.2 a0.size a0 (Nat.le_refl _)
  refine (Tryz.strings_Split a0 a1 m w hs.1 hm hs.2).mono fun e w' ⟨h1, h2⟩ => ⟨_, h1, ?_, ?_⟩
  ·subst h2
   generalize Lib.splitB a1 0 (Lib.countB a0 a1) a0 = l at *
   rw [← hlen]
   refine Kd.R_of_own ⟨by rw [qwB, Nat.mul_one], .inr ⟨w.heap.size, l.length, (l.map Value.string).toArray, rfl, Nat.le_refl _, ?_, Nat.le_refl _, ?_, ?_, ?_⟩⟩ (fun _ _ => trivial)
   ·exact blk_new _ _
   ·unfold maxLen; omega
   ·simp
   ·simp only [encs, Nat.mul_one]
    rw [List.take_of_length_le (by simp)]
  ·subst h2
   exact qMA (Below.refl _ _) _
 ·cases h
def qlA.f (a0 a1 : ByteArray) : Option ByteArray := if a0.size ≤ 9223372036854775807 ∧ a1.size < 4294967281 ∧ (a1.data.toList.all fun b => decide (b.toNat < 128)) = true then some ⟨(Lib.trimS a0.data.toList a1.data.toList).toArray⟩ else none
theorem qlA.calls (a0 a1 : ByteArray) (r : ByteArray) (w : World) (h : qlA.f a0 a1 = some r) :
  Calls Tryz.prog 34 #[.string a0, .string a1] w fun e w' => e = .returned (.string r) ∧ Below w.heap.size w w' := by
 unfold qlA.f at h
 split at h
 ·rename_i hs
  obtain rfl := Option.some.inj h
  exact Any.strings_Trim_laid Tryz.lays160 (by kernel_rfl) a0 a1 w hs.1 hs.2.1 (ascii_of_all hs.2.2)
 ·cases h
theorem Ev.at_ {α : Type} {g : Nat → Option α} {r : α} (n : Nat) (h : ∀ k, g (k + n) = some r) : Ev g r := ⟨n, fun k hk => by
 obtain ⟨m, rfl⟩ : ∃ m, k = m + n := ⟨k - n, by omega⟩
 exact h m⟩
theorem Ev.pos {α : Type} {c : Prop} [Decidable c] {g f : Nat → Option α} {r : α} (hc : c) (h : Ev g r) : Ev (fun k => if c then g k else f k) r := h.congr fun k => if_pos hc
theorem Ev.neg {α : Type} {c : Prop} [Decidable c] {g f : Nat → Option α} {r : α} (hc : ¬ c) (h : Ev f r) : Ev (fun k => if c then g k else f k) r := h.congr fun k => if_neg hc
theorem Ev.some_ {α : Type} {a r : α} (h : a = r) : Ev (fun _ => some a) r := ⟨0, fun _ _ => by rw [h]⟩
theorem Ev.bindc {α β : Type} {o : Option α} {f : Nat → α → Option β} {a : α} {r : β} (h : o = some a) (k : Ev (fun n => f n a) r) : Ev (fun n => o.bind (f n)) r := k.congr fun n => by rw [h]; rfl
theorem w64 {i : Int} (h0 : -9223372036854775808 ≤ i) (h1 : i ≤ 9223372036854775807) : wrap64 i = i := by unfold wrap64; omega
def sp (c : UInt8) : List UInt8 → List UInt8 × List (List UInt8)
 | [] => ([], [])
 | b :: r => if b = c then ([], (sp c r).1 :: (sp c r).2) else (b :: (sp c r).1, (sp c r).2)
theorem splitK_sp (c : UInt8) (l : List UInt8) : Lib.splitK [c] 0 (Lib.count l [c]) l = (sp c l).1 :: (sp c l).2 := by
 induction l with
 | nil =>
  have : Lib.count [] [c] = 0 := by rw [Lib.count_one]; rfl
  rw [this]; rfl
 | cons b l ih =>
  by_cases h : b = c
  ·subst h
   have hix : Lib.index (b :: l) [b] = 0 := by rw [Lib.index]; simp [List.isPrefixOf]
   rw [Lib.count_cons_eq, show 1 + Lib.count l [b] = Lib.count l [b] + 1 by omega, Lib.splitK, hix]
   simp only [sp, if_true]
   rw [if_neg (by decide), ← ih]
   rfl
  ·have hp : ([c] : List UInt8).isPrefixOf (b :: l) = false := by simp [List.isPrefixOf, Ne.symm h]
   have hix : Lib.index (b :: l) [c] = if Lib.index l [c] == -1 then -1 else Lib.index l [c] + 1 := by rw [Lib.index, hp]; simp
   rw [Lib.count_cons_ne b c l h]
   simp only [sp, if_neg h]
   by_cases hm : Lib.index l [c] = -1
   ·have h0 : Lib.count l [c] = 0 := Lib.count_miss hm
    rw [h0] at ih ⊢
    simp only [Lib.splitK] at ih ⊢
    injection ih with e1 e2
    rw [← e1, ← e2]
   ·have hge := Lib.index_ge l [c]
    obtain ⟨j, hj⟩ : ∃ j : Nat, Lib.index l [c] = j := ⟨(Lib.index l [c]).toNat, by omega⟩
    have hc := Lib.count_hit (sub := [c]) (by simp) hj
    obtain ⟨k, hk⟩ : ∃ k, Lib.count l [c] = k + 1 := ⟨Lib.count l [c] - 1, by omega⟩
    rw [hk] at ih ⊢
    have hne : ¬ ((j : Int) == -1) = true := by intro e; have := beq_iff_eq.1 e; omega
    have hne' : ¬ ((j : Int) + 1 == -1) = true := by intro e; have := beq_iff_eq.1 e; omega
    rw [Lib.splitK, hj, if_neg hne] at ih
    rw [Lib.splitK, hix, hj, if_neg hne, if_neg hne']
    have e1 : ((j : Int) + 1).toNat = j + 1 := by omega
    rw [e1]
    simp only [Int.toNat_natCast, Nat.add_zero, List.length_singleton] at ih ⊢
    injection ih with i1 i2
    rw [← i1, ← i2]
    rfl
theorem split_sp (a : ByteArray) (c : UInt8) : (Lib.splitB ⟨#[c]⟩ 0 (Lib.countB a ⟨#[c]⟩) a).map (·.data.toList) = (sp c a.data.toList).1 :: (sp c a.data.toList).2 := by
 rw [Lib.splitB_data]
 exact splitK_sp c a.data.toList
theorem qSC (c : UInt8) (l : List UInt8) : l.length = (sp c l).1.length + ((sp c l).2.map List.length).sum + (sp c l).2.length := by
 induction l with
 | nil => rfl
 | cons b l ih =>
  by_cases h : b = c
  ·simp only [sp, if_pos h, List.length_cons, List.length_nil, List.map_cons, List.sum_cons]; omega
  ·simp only [sp, if_neg h, List.length_cons]; omega
theorem sp_all (c : UInt8) (p : UInt8 → Bool) (l : List UInt8) (hp : p c = false) : ((sp c l).1.all p && (sp c l).2.all (·.all p)) = l.all fun b => b == c || p b := by
 induction l with
 | nil => rfl
 | cons b l ih =>
  by_cases h : b = c
  ·subst h
   simp only [sp, if_true, List.all_nil, Bool.true_and, List.all_cons, ih, beq_self_eq_true, Bool.true_or]
  ·have : (b == c) = false := by simpa using h
   simp only [sp, if_neg h, List.all_cons, Bool.and_assoc, ih, this, Bool.false_or]
theorem qFB {p : UInt8 → Bool} {e : UInt8} (he : p e = false) : ∀ l : List UInt8, e ∈ l → e ∈ l.dropWhile p
 | [], h => h
 | b :: l, h => by
  rw [List.dropWhile_cons]
  split
  ·rename_i hb
   rcases List.mem_cons.1 h with rfl | h
   ·rw [he] at hb; cases hb
   ·exact qFB he l h
  ·exact h
theorem dropWhile_all {p : UInt8 → Bool} : ∀ l : List UInt8, l.all p = true → l.dropWhile p = []
 | [], _ => rfl
 | b :: l, h => by
  rw [List.all_cons, Bool.and_eq_true] at h
  rw [List.dropWhile_cons, if_pos h.1]
  exact dropWhile_all l h.2
theorem trimS_nil (l cs : List UInt8) : (Lib.trimS l cs = []) ↔ l.all (cs.contains ·) = true := by
 unfold Lib.trimS Lib.trimLeftS Lib.trimRightS
 constructor
 ·intro h
  rw [List.all_eq_true]
  intro e he
  cases hc : cs.contains e with
  | true => rfl
  | false =>
   have h1 := qFB (p := (cs.contains ·)) (e := e) hc l.reverse (by simpa using he)
   have h2 := qFB (p := (cs.contains ·)) (e := e) hc (l.reverse.dropWhile (cs.contains ·)).reverse (by simpa using h1)
   rw [h] at h2; cases h2
 ·intro h
  rw [dropWhile_all l.reverse (by rw [List.all_reverse]; exact h)]
  rfl
end Go.Proofs.YtdncpkppkafkpaaGreatDoor
namespace Go.Proofs.YtdncpkppkafkpaaGreatDoor.P
open Go.RowKit Go.Proofs.YtdncpkppkafkpaaGreatDoorW.PrintWords Go.Proofs.YtdncpkppkafkpaaGreatDoorW.PrintLast Go.Proofs.YtdncpkppkafkpaaGreatDoorW.PrintMore
attribute [local go_sem] qw qu qHA qGA qj qi qv qt
set_option linter.unusedVariables false
set_option linter.unusedSimpArgs false
def qqA.f (a0 : Int) : Option (Bool) := if a0 ≥ 48 then (some (decide (a0 ≤ 57))) else (some false)
set_option maxHeartbeats 8000000 in
set_option maxRecDepth 100000 in
theorem qqA.calls (a0 : Int) (r : Bool) (w : World) (h : qqA.f a0 = some r) :
  Calls Tryz.prog 35 #[.int .u8 a0] w fun e w' => e = .returned (.bool r) ∧ Drawn0 w w' := by
 have H : (if a0 ≥ 48 then (some (decide (a0 ≤ 57))) else (some false)) = some r := h
 clear h
 by_cases c2 : a0 ≥ 48
 ·rw [if_pos c2] at H
  have c2b0 : decide (48 ≤ a0) = true := decide_eq_true c2
  clear c2
  obtain rfl := Option.some.inj H
  go_enter Tryz.func35, Tryz.ntmps35
  go_wp2
  go_ret
  exact ⟨by first | rfl | (simp; done) | (simp [*]; done), by repeat (first | exact Drawn0.refl _ | apply Drawn0.step)⟩
 ·rw [if_neg c2] at H
  have c2b0 : decide (48 ≤ a0) = false := decide_eq_false c2
  clear c2
  obtain rfl := Option.some.inj H
  go_enter Tryz.func35, Tryz.ntmps35
  go_wp2
  go_ret
  exact ⟨by first | rfl | (simp; done) | (simp [*]; done), by repeat (first | exact Drawn0.refl _ | apply Drawn0.step)⟩
def qQA.f (k : Nat) (l0 : List (S75)) : Option (Bool) := (qF.f k l0).bind fun bt310 => ((qd.f k bt310.2 (-1)).bind fun t316 => (some (!t316)))
set_option maxHeartbeats 8000000 in
set_option maxRecDepth 100000 in
theorem qQA.calls (k : Nat) (A0 : Option Addr) (c0 : Nat) (l0 : List (S75)) (r : Bool) (w : World) (hr0 : Kd.C k75 w A0 l0.length l0) (hc0 : l0.length ≤ c0) (h : qQA.f k l0 = some r) :
  Calls Tryz.prog 36 #[.slice A0 l0.length c0] w fun e w' => e = .returned (.bool r) ∧ Below w.heap.size w w' := by
 have HR0 := Aside0.mk hr0
 have HC0 := Aside0.mk hc0
 clear hr0 hc0
 have HB := Aside0.mk (Below.refl w.heap.size w)
 have H : ((qF.f k l0).bind fun bt310 => ((qd.f k bt310.2 (-1)).bind fun t316 => (some (!t316)))) = some r := h
 clear h
 replace H := Option.bind_eq_some_iff.mp H
 obtain ⟨⟨t310, t311⟩, A20, H⟩ := H
 replace H : ((qd.f k t311 (-1)).bind fun t316 => (some (!t316))) = some r := H
 have A2 := Aside0.mk A20
 clear A20
 replace H := Option.bind_eq_some_iff.mp H
 obtain ⟨t316, A30, H⟩ := H
 replace H : (some (!t316)) = some r := H
 have A3 := Aside0.mk A30
 clear A30
 obtain rfl := Option.some.inj H
 go_enter Tryz.func36, Tryz.ntmps36
 go_wp2_with (first | ((with_reducible refine qb (f := 37) rfl ?_); refine qRA (some 7) rfl rfl Tryz.func37 (by kernel_rfl) rfl #[.slice A0 l0.length c0] rfl (by (try simp only [List.map_toArray, List.map_cons, List.map_nil]); first | done | rfl | (simp only [List.length_drop, List.length_take]; rfl)) ?_; (with_reducible refine (qF.calls k _ _ l0 t310 t311 _ ?side1 ?side2 A2.out).mono ?_); (case side1 => repeat (first | exact HR0.out | (with_reducible refine Kd.qcA ?_ _) | (with_reducible refine Kd.qbA ?_ _) | (with_reducible refine Kd.qtA ?_))); (case side2 => exact HC0.out); rintro e w4 ⟨v312, v314, rfl, ho0, ho1, hb⟩; refine ⟨_, rfl, ?_⟩; have n0_ := Aside0.mk (Kd.qAA ho0 (qa bl)); have n1_ := Aside0.mk (Kd.qAA ho1 (qa bl)); have n2_ := Aside0.mk (qK bl hb); clear HB; have HO313 := n0_; have HO315 := n1_; have HB := n2_; clear n0_ n1_ n2_; (try clear hb); (try clear hb2); (try clear hk); (try clear hi); (try clear ho0); (try clear ho1); obtain ⟨Ao5, co5, eo5⟩ := Kd.qp HO315.out; subst eo5) | ((with_reducible refine qb (f := 38) rfl ?_); refine qRA (some 11) rfl rfl Tryz.func38 (by kernel_rfl) rfl #[.slice Ao5 t311.length co5, .int .i64 (-1)] rfl (by (try simp only [List.map_toArray, List.map_cons, List.map_nil]); first | done | rfl | (simp only [List.length_drop, List.length_take]; rfl)) ?_; (with_reducible refine (qd.calls k _ _ t311 (-1) t316 _ ?side1 ?side2 A3.out).mono ?_); (case side1 => repeat (first | exact (Kd.qQ HO315.out).2.2 | (with_reducible refine Kd.qcA ?_ _) | (with_reducible refine Kd.qbA ?_ _) | (with_reducible refine Kd.qtA ?_))); (case side2 => exact (Kd.qQ HO315.out).2.1); rintro e w' ⟨rfl, ⟨nd, rfl⟩⟩; refine ⟨_, rfl, ?_⟩))
 go_ret
 exact ⟨by first | rfl | (simp [qN, qM] <;> rfl) | (simp [*, qN, qM] <;> rfl), bl⟩
end Go.Proofs.YtdncpkppkafkpaaGreatDoor.P
namespace Go.Proofs.YtdncpkppkafkpaaGreatDoor
open Go.RowKit Go.Proofs.YtdncpkppkafkpaaGreatDoor.P Go.Proofs.YtdncpkppkafkpaaGreatDoorW.PrintWords Go.Proofs.YtdncpkppkafkpaaGreatDoorW.PrintLast
set_option linter.unusedVariables false
set_option linter.unusedSimpArgs false
abbrev CC := S75
structure Sx where
 cs : List CC
 ds : List Int
 ms : List (Int × Bool)
def isDg (c : UInt8) : Bool := decide (48 ≤ c.toNat) && decide (c.toNat ≤ 57)
def sixByte (y x : Nat) (c : UInt8) (s : Sx) : Option Sx := if c = 46 then some s else if isDg c = true then (if s.cs.length = 6 then none else some ⟨s.cs ++ [⟨(x : Int), (y : Int)⟩], s.ds ++ [((c.toNat : Int) - 48)], ((x : Int), true) :: s.ms⟩) else none
def sixRow (y : Nat) : Nat → List UInt8 → Sx → Option Sx
 | _, [], s => some s
 | x, c :: r, s => (sixByte y x c s).bind (sixRow y (x + 1) r)
def isDots (r : ByteArray) : Bool := r.data.toList.all (fun c => c == 46)
def sixRows (wd : Nat) : Nat → List ByteArray → Sx → Option Sx
 | _, [], s => some s
 | y, r :: l, s => if r.size = wd then (if isDots r = true then none else (sixRow y 0 r.data.toList s).bind (sixRows wd (y + 1) l)) else none
def sixFin (k wd : Nat) : Option Sx → Option (List CC × List Int × Bool)
 | none => some ([], [], false)
 | some s => if s.cs.length = 6 then (if MapKit.count s.ms = wd then (qQA.f k s.cs).bind fun t => some (if t = true then (s.cs, s.ds, true) else ([], [], false)) else some ([], [], false)) else some ([], [], false)
def rowsOf6 (a : ByteArray) : List ByteArray := Lib.splitB ⟨#[47]⟩ 0 (Lib.countB a ⟨#[47]⟩) a
def sixAll (a : ByteArray) : Option Sx := sixRows ((rowsOf6 a).headD ByteArray.empty).size 0 (rowsOf6 a) ⟨[], [], []⟩
structure SixOk (s : Sx) : Prop where
 cs : s.cs.length ≤ 6
 ds : s.ds.length = s.cs.length
 ms : s.ms.length = s.cs.length
theorem SixOk.start : SixOk ⟨[], [], []⟩ := ⟨by simp, rfl, rfl⟩
theorem SixOk.add {s : Sx} (h : SixOk s) (hn : s.cs.length ≠ 6) (c : CC) (d : Int) (x : Int) : SixOk ⟨s.cs ++ [c], s.ds ++ [d], (x, true) :: s.ms⟩ := by
 have h1 := h.cs; have h2 := h.ds; have h3 := h.ms
 exact ⟨by simp; omega, by simp; omega, by simp; omega⟩
theorem six_trim (r u : ByteArray) (h : qlA.f r ⟨#[46]⟩ = some u) : (u = ⟨#[]⟩) ↔ isDots r = true := by
 unfold qlA.f at h
 split at h
 ·obtain rfl := Option.some.inj h
  have e : (Lib.trimS r.data.toList [46] = []) ↔ r.data.toList.all (([46] : List UInt8).contains ·) = true := trimS_nil _ _
  unfold isDots
  have e2 : (fun c : UInt8 => c == 46) = (([46] : List UInt8).contains ·) := by funext c; by_cases h : c = 46 <;> simp [h]
  rw [e2, ← e]
  constructor
  ·intro h
   have := congrArg (fun x : ByteArray => x.data.toList) h
   simpa using this
  ·intro h
   show (⟨(Lib.trimS r.data.toList [46]).toArray⟩ : ByteArray) = _
   rw [h]
 ·cases h
theorem split_size (a : ByteArray) : ∀ r ∈ rowsOf6 a, r.size ≤ a.size := by
 intro r hr
 have h := split_sp a 47
 have hl := qSC 47 a.data.toList
 have hd : a.data.toList.length = a.size := by rw [Array.length_toList]; rfl
 have hr2 : r.data.toList ∈ (sp 47 a.data.toList).1 :: (sp 47 a.data.toList).2 := by
  rw [← h]
  exact List.mem_map.2 ⟨r, hr, rfl⟩
 have hrl : r.data.toList.length = r.size := by rw [Array.length_toList]; rfl
 rcases List.mem_cons.1 hr2 with e | e
 ·rw [← e] at hl
  omega
 ·have : r.data.toList.length ≤ ((sp 47 a.data.toList).2.map List.length).sum := by
   generalize (sp 47 a.data.toList).2 = L at e
   clear hl h hr2
   induction L with
   | nil => cases e
   | cons b L ih =>
    rcases List.mem_cons.1 e with e | e
    ·rw [e]; simp
    ·have := ih e; simp; omega
  omega
theorem qRC (a : ByteArray) : (rowsOf6 a).length = Lib.countB a ⟨#[47]⟩ + 1 := by
 have := Lib.splitB_all ⟨#[47]⟩ (by decide) 0 _ a rfl
 exact this
theorem qoB {α : Type} {d : Kd α} {e base : Nat} {ok : Nat → Prop} {W w1 : World} {u : Value} {xs : List α} (h : d.R e W base ok u xs) (hg : W.grownBy w1 none) : d.R e w1 base ok u xs :=
 Kd.qf (Kd.qnC (Kd.qQB h) (fun k hk hlt => hg.block k hlt (by simp))) (fun _ hk => hk.1)
theorem dg_eq (c : UInt8) : qqA.f (c.toNat : Int) = some (isDg c) := by
 unfold qqA.f isDg
 by_cases h : 48 ≤ c.toNat
 ·rw [if_pos (by omega), decide_eq_true h, Bool.true_and]
  congr 1
  exact decide_eq_decide.2 (by omega)
 ·rw [if_neg (by omega), decide_eq_false h, Bool.false_and]
namespace P
def qGB.f (k : Nat) (a0 : ByteArray) : Option (List CC × List Int × Bool) := if a0.size < 4294967281 then sixFin k ((rowsOf6 a0).headD ByteArray.empty).size (sixAll a0) else none
end P
end Go.Proofs.YtdncpkppkafkpaaGreatDoor
