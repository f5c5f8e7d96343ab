/- The program's PlanTo returns what the reference's returns, for all texts and dice and goals (the law lets longer texts and lists by). No further condition. -/
import Derived.Test.YthhiiceligjleaaGreatDoorKFnExactPlanTo2
import Derived.Deep.MidRow
import Derived.Lib.SlBuf
import Derived.Maps.OwnSet
import Derived.DeepKeys4
import Derived.Shelf.SlGeneric
import Derived.Shelf.Small.Strs
import Derived.Shelf.Strings.Search1
import Derived.Ground.NamesProg
import Derived.Shelf.Strings.Split
import Derived.Shelf.Strings.Count
import Derived.Shelf.Strings.SlTrimAscii
import Derived.Test.YthhiiceligjleaaGreatDoorProg
import Derived.Lib.Strings
import Derived.Lib.SplitLaws

namespace Go.Proofs.YthhiiceligjleaaGreatDoor.P
open Go.RowKit Go.Proofs.YthhiiceligjleaaGreatDoorW.PrintWords Go.Proofs.YthhiiceligjleaaGreatDoorW.PrintLast Go.Proofs.YthhiiceligjleaaGreatDoorW.PrintMore
attribute [local go_sem] ql qj qu qt qd qc qk qi
set_option linter.unusedVariables false
set_option linter.unusedSimpArgs false
def qaA.f : Nat → Int → Option (ByteArray)
 | 0, _ => none
 | k + 1, a0 => if a0 < 10 then (some (strOfNums (([(wrap64 (48 + a0)) % 256] : List Int)))) else ((qaA.f k (wrap64 (Int.tdiv a0 10))).bind fun t303 => ((some (([(wrap64 (48 + (Int.tmod a0 10))) % 256] : List Int) : List Int)).bind fun y304 => (if t303.size + (strOfNums y304).size ≤ 9223372036854775807 then (some (t303 ++ (strOfNums y304))) else (none))))
def qaA.T3 : Bool × List (List Nat × List Nat) := (true, [([], []), ([0], [0]), ([1], [1]), ([], []), ([3], [3]), ([4], [4]), ([5], [5]), ([6], [6]), ([7], [7]), ([2, 8], [2, 8]), ([9, 2, 0, 1, 2, 3, 4, 5, 6, 7, 8, 9], [9])])
def qaA.B3 : List Nat := [0, 1, 3, 0, 8, 24, 56, 120, 248, 511, 1023]
theorem qaA.tab3 : rtab .any (opsOf Tryz.f66 3) = qaA.T3 := by kernel_rfl
theorem qaA.bits3 : waitsOk qaA.T3.2 qaA.B3 = true := by kernel_rfl
set_option maxHeartbeats 8000000 in
set_option maxRecDepth 100000 in
theorem qaA.calls (k : Nat) : ∀ (a0 : Int) (r : ByteArray) (w : World) (h : qaA.f k a0 = some r),
  Calls Tryz.prog 66 #[.int .i64 a0] w fun e w' => e = .returned (.string r) ∧ Below w.heap.size w w' := by
 induction k using Nat.strongRecOn with
 | _ k ih =>
 intro a0 r w h
 cases k with
 | zero => exact absurd h (by simp [qaA.f])
 | succ k =>
 simp only [qaA.f] at h
 have HB := aM (Below.refl w.heap.size w)
 have H : (if a0 < 10 then (some (strOfNums (([(wrap64 (48 + a0)) % 256] : List Int)))) else ((qaA.f k (wrap64 (Int.tdiv a0 10))).bind fun t303 => ((some (([(wrap64 (48 + (Int.tmod a0 10))) % 256] : List Int) : List Int)).bind fun y304 => (if t303.size + (strOfNums y304).size ≤ 9223372036854775807 then (some (t303 ++ (strOfNums y304))) else (none))))) = some r := h
 clear h
 by_cases c2 : a0 < 10
 ·rw [if_pos c2] at H
  have c2b0 := decide_eq_true c2
  clear c2
  obtain ⟨y300, hy300⟩ : ∃ y_ : List Int, y_ = (([(wrap64 (48 + a0)) % 256] : List Int)) := ⟨_, rfl⟩
  replace H : (some (strOfNums y300)) = some r := by first | (rw [hy300]; with_reducible exact H) | (have H2_ := (Option.bind_some _ _).symm.trans H; rw [hy300]; with_reducible exact H2_) | (have H2_ := (Option.bind_some _ _).symm.trans H; with_reducible exact H2_) | with_reducible exact H | (rw [hy300]; exact H) | exact H
  have Ny300 := aM hy300
  clear hy300
  obtain rfl := Option.some.inj H
  go_enter Tryz.func66, Tryz.ntmps66
  go_wp2_with (first | ((with_reducible refine qJ (N := 8) rfl ?_); refine Kd.R_lit (Kd.int .u8) _ 5 ?hg (N := 8) ?hd (xs := ([(wrap64 (48 + a0)) % 256] : List Int)) (inner := [.int .u8 ((wrap64 (48 + a0)) % 256)]) (ok := fun _ => True) (okp := fun _ => True) ?hr ?hp (fun _ hk => hk) trivial (Below.refl _ _) (Nat.le_refl _) (by simp) ?_; (case hd => rfl); (case hg => rfl); (case hr => exact gS); (case hp => exact (Reps.one (show Kd.M (Kd.int .u8) _ _ _ ((wrap64 (48 + a0)) % 256) [.int .u8 ((wrap64 (48 + a0)) % 256)] from rfl) (Reps.none _ _))); intro v301 w3 ho4 hb hg_ hnew_; clear hg_ hnew_; (first | rw [← Ny300.out] at ho4 | (simp only [Int.reduceToNat] at ho4; rw [← Ny300.out] at ho4)); have HO302 := aM (Kd.qAA ho4 (qL bl)); replace HB := aM (qB bl hb); clear hb ho4; have hcv5 := qQC (P := Tryz.prog) Tryz.underlying38 Tryz.underlying5 Tryz.underlying9 (Kd.qYC HO302.out)))
  go_ret
  exact ⟨sR, bl⟩
 ·rw [if_neg c2] at H
  have c2b0 := decide_eq_false c2
  clear c2
  replace H := bO H
  obtain ⟨t303, A6, H⟩ := H
  replace H := bS H
  obtain ⟨y304, Ny304, H⟩ := H
  by_cases c7 : t303.size + (strOfNums y304).size ≤ 9223372036854775807
  ·rw [if_pos c7] at H
   have c7b0 := eq_true c7
   have c7b1 := decide_eq_true c7
   try have c7b2 : (9223372036854775807 < t303.size + (strOfNums y304).size) = False := eq_false (Nat.not_lt.2 c7)
   obtain rfl := Option.some.inj H
   go_enter Tryz.func66, Tryz.ntmps66
   try go_wp2
   replace HB := aM (qx HB.out)
   refine qOB (n := 11) (S := fun w' => True) (ds := []) #[false, false, false, false, false, false, false, false, false, false, false] (by kernel_rfl) rfl rfl trivial (fun hHeld => ?_); refine qSA qaA.tab3 qaA.bits3 (fun HT_ HW_ => ?_)
   generalize w.drew = w8 at HB hHeld ⊢
   refine pS (i := 0) (N := some 10) #[true, false, false, false, false, false, false, false, false, false, false] HT_ ?_
   refine pS (i := 1) (N := some 11) #[true, true, false, false, false, false, false, false, false, false, false] HT_ ?_
   refine pS (i := 3) (N := some 13) #[true, true, false, true, false, false, false, false, false, false, false] HT_ ?_
   refine pS (i := 4) (N := some 14) #[true, true, false, true, true, false, false, false, false, false, false] HT_ ?_
   refine pS (i := 5) (N := some 15) #[true, true, false, true, true, true, false, false, false, false, false] HT_ ?_
   refine pS (i := 6) (N := some 16) #[true, true, false, true, true, true, true, false, false, false, false] HT_ ?_
   refine join_ (σ := Value) 2 #[true, true, true, true, true, true, true, true, true, false, false] (fun s_ => [(12, .string t303), (17, s_), (18, .string (strOfNums y304))]) (fun s_ w' => (Kd.R (Kd.int .u8) 5 w' w.heap.size (fun _ => True) s_ y304) ∧ (Below w.heap.size w w')) ?_ ?_
   rotate_left
   ·intro hCont
    refine two_ (i := 2) (j := 7) (Ni := some 12) (Nj := some 17) #[true, true, true, true, true, true, true, false, false, false, false] #[true, true, false, true, true, true, true, true, false, false, false] rfl rfl rfl rfl (qED HT_.out (by kernel_rfl)) (by decide) (by decide) (fun K hK => ?_) (fun K hK => ?_)
    ·skip
     refine goes_ Tryz.func66 (by kernel_rfl) rfl #[.int .i64 (wrap64 (Int.tdiv a0 10))] (by rfl) rfl rfl gA ?_
     with_reducible refine (ih k (by omega) (wrap64 (Int.tdiv a0 10)) t303 _ A6.out).mono ?_
     rintro e w9 ⟨rfl, hb⟩
     refine ⟨_, rfl, ?_⟩
     replace HB := aM (qB bl hb); (try clear hb); (try clear hb2); (try clear hk); (try clear hi)
     refine hK.out _ _ trivial (fun hHeld => ?_)
     clear hK K
     refine norm_ (a' := ?_) ?_ ?_
     rotate_left
     ·show Act.put _ (some 12) _ = _
      simp only [Act.put, List.setIfInBounds_toArray, List.set_cons_zero, List.set_cons_succ, i64_w, i32_w]
      rfl
     refine one_ (i := 7) (N := some 17) #[true, true, true, true, true, true, true, true, false, false, false] rfl rfl (qdA HT_.out (by kernel_rfl)) (by decide) (fun K hK => ?_)
     refine Kd.quA (Kd.int .u8) _ 5 ?hg (N := 17) ?hd (xs := ([(wrap64 (48 + (Int.tmod a0 10))) % 256] : List Int)) (inner := [.int .u8 ((wrap64 (48 + (Int.tmod a0 10))) % 256)]) (ok := fun _ => True) (okp := fun _ => True) ?hr ?hp (fun _ hk => hk) trivial (Below.refl _ _) (Nat.le_refl _) (by simp) ?_; (case hd => rfl); (case hg => rfl); (case hr => exact gS); (case hp => exact (Reps.one (show Kd.M (Kd.int .u8) _ _ _ ((wrap64 (48 + (Int.tmod a0 10))) % 256) [.int .u8 ((wrap64 (48 + (Int.tmod a0 10))) % 256)] from rfl) (Reps.none _ _)))
     intro v305 w10 ho11 hb hg_ hnew_
     clear hg_ hnew_
     (first | rw [← Ny304.out] at ho11 | (simp only [Int.reduceToNat] at ho11; rw [← Ny304.out] at ho11))
     have HO306 := aM (Kd.qAA ho11 (qL bl))
     replace HB := aM (qB bl hb)
     clear hb ho11
     refine hK.out _ _ trivial (fun hHeld => ?_)
     clear hK K
     refine norm_ (a' := ?_) ?_ ?_
     rotate_left
     ·show Act.put _ (some 17) _ = _
      simp only [Act.put, List.setIfInBounds_toArray, List.set_cons_zero, List.set_cons_succ, i64_w, i32_w]
      rfl
     refine one_ (i := 8) (N := some 18) #[true, true, true, true, true, true, true, true, true, false, false] rfl rfl (qdA HT_.out (by kernel_rfl)) (by decide) (fun K hK => ?_)
     have hcv12 := qQC (P := Tryz.prog) Tryz.underlying38 Tryz.underlying5 Tryz.underlying9 (Kd.qYC HO306.out)
     refine qdB (w1 := ?_) (v := ?_) (by rfl) rfl ?_ ?_
     rotate_left 2
     ·go_simp
      constructor
      ·rfl
      ·rfl
     clear hcv12
     refine hK.out _ _ trivial (fun hHeld => ?_)
     clear hK K
     refine norm_ (a' := ?_) ?_ ?_
     rotate_left
     ·show Act.put _ (some 18) _ = _
      simp only [Act.put, List.setIfInBounds_toArray, List.set_cons_zero, List.set_cons_succ, i64_w, i32_w]
      rfl
     exact norm_ (by simp only [putAll, Act.put, List.setIfInBounds_toArray, List.set_cons_zero, List.set_cons_succ]) (hCont (v305) _ ⟨(rR HO306), bl⟩)
    ·skip
     refine Kd.quA (Kd.int .u8) _ 5 ?hg (N := 17) ?hd (xs := ([(wrap64 (48 + (Int.tmod a0 10))) % 256] : List Int)) (inner := [.int .u8 ((wrap64 (48 + (Int.tmod a0 10))) % 256)]) (ok := fun _ => True) (okp := fun _ => True) ?hr ?hp (fun _ hk => hk) trivial (Below.refl _ _) (Nat.le_refl _) (by simp) ?_; (case hd => rfl); (case hg => rfl); (case hr => exact gS); (case hp => exact (Reps.one (show Kd.M (Kd.int .u8) _ _ _ ((wrap64 (48 + (Int.tmod a0 10))) % 256) [.int .u8 ((wrap64 (48 + (Int.tmod a0 10))) % 256)] from rfl) (Reps.none _ _)))
     intro v305 w9 ho10 hb hg_ hnew_
     clear hg_ hnew_
     (first | rw [← Ny304.out] at ho10 | (simp only [Int.reduceToNat] at ho10; rw [← Ny304.out] at ho10))
     have HO306 := aM (Kd.qAA ho10 (qL bl))
     replace HB := aM (qB bl hb)
     clear hb ho10
     refine hK.out _ _ trivial (fun hHeld => ?_)
     clear hK K
     refine norm_ (a' := ?_) ?_ ?_
     rotate_left
     ·show Act.put _ (some 17) _ = _
      simp only [Act.put, List.setIfInBounds_toArray, List.set_cons_zero, List.set_cons_succ, i64_w, i32_w]
      rfl
     refine two_ (i := 2) (j := 8) (Ni := some 12) (Nj := some 18) #[true, true, true, true, true, true, true, true, false, false, false] #[true, true, false, true, true, true, true, true, true, false, false] rfl rfl rfl rfl (qED HT_.out (by kernel_rfl)) (by decide) (by decide) (fun K hK => ?_) (fun K hK => ?_)
     ·skip
      refine goes_ Tryz.func66 (by kernel_rfl) rfl #[.int .i64 (wrap64 (Int.tdiv a0 10))] (by rfl) rfl rfl gA ?_
      with_reducible refine (ih k (by omega) (wrap64 (Int.tdiv a0 10)) t303 _ A6.out).mono ?_
      rintro e w11 ⟨rfl, hb⟩
      refine ⟨_, rfl, ?_⟩
      replace HO306 := aM (Kd.qZ (rR HO306) hb)
      replace HB := aM (qB bl hb); (try clear hb); (try clear hb2); (try clear hk); (try clear hi)
      refine hK.out _ _ trivial (fun hHeld => ?_)
      clear hK K
      refine norm_ (a' := ?_) ?_ ?_
      rotate_left
      ·show Act.put _ (some 12) _ = _
       simp only [Act.put, List.setIfInBounds_toArray, List.set_cons_zero, List.set_cons_succ, i64_w, i32_w]
       rfl
      refine one_ (i := 8) (N := some 18) #[true, true, true, true, true, true, true, true, true, false, false] rfl rfl (qdA HT_.out (by kernel_rfl)) (by decide) (fun K hK => ?_)
      have hcv12 := qQC (P := Tryz.prog) Tryz.underlying38 Tryz.underlying5 Tryz.underlying9 (Kd.qYC HO306.out)
      refine qdB (w1 := ?_) (v := ?_) (by rfl) rfl ?_ ?_
      rotate_left 2
      ·go_simp
       constructor
       ·rfl
       ·rfl
      clear hcv12
      refine hK.out _ _ trivial (fun hHeld => ?_)
      clear hK K
      refine norm_ (a' := ?_) ?_ ?_
      rotate_left
      ·show Act.put _ (some 18) _ = _
       simp only [Act.put, List.setIfInBounds_toArray, List.set_cons_zero, List.set_cons_succ, i64_w, i32_w]
       rfl
      exact norm_ (by simp only [putAll, Act.put, List.setIfInBounds_toArray, List.set_cons_zero, List.set_cons_succ]) (hCont (v305) _ ⟨(rR HO306), bl⟩)
     ·skip
      have hcv11 := qQC (P := Tryz.prog) Tryz.underlying38 Tryz.underlying5 Tryz.underlying9 (Kd.qYC HO306.out)
      refine qdB (w1 := ?_) (v := ?_) (by rfl) rfl ?_ ?_
      rotate_left 2
      ·go_simp
       constructor
       ·rfl
       ·rfl
      clear hcv11
      refine hK.out _ _ trivial (fun hHeld => ?_)
      clear hK K
      refine norm_ (a' := ?_) ?_ ?_
      rotate_left
      ·show Act.put _ (some 18) _ = _
       simp only [Act.put, List.setIfInBounds_toArray, List.set_cons_zero, List.set_cons_succ, i64_w, i32_w]
       rfl
      refine one_ (i := 2) (N := some 12) #[true, true, true, true, true, true, true, true, true, false, false] rfl rfl (qdA HT_.out (by kernel_rfl)) (by decide) (fun K hK => ?_)
      refine goes_ Tryz.func66 (by kernel_rfl) rfl #[.int .i64 (wrap64 (Int.tdiv a0 10))] (by rfl) rfl rfl gA ?_
      with_reducible refine (ih k (by omega) (wrap64 (Int.tdiv a0 10)) t303 _ A6.out).mono ?_
      rintro e w12 ⟨rfl, hb⟩
      refine ⟨_, rfl, ?_⟩
      replace HO306 := aM (Kd.qZ (rR HO306) hb)
      replace HB := aM (qB bl hb); (try clear hb); (try clear hb2); (try clear hk); (try clear hi)
      refine hK.out _ _ trivial (fun hHeld => ?_)
      clear hK K
      refine norm_ (a' := ?_) ?_ ?_
      rotate_left
      ·show Act.put _ (some 12) _ = _
       simp only [Act.put, List.setIfInBounds_toArray, List.set_cons_zero, List.set_cons_succ, i64_w, i32_w]
       rfl
      exact norm_ (by simp only [putAll, Act.put, List.setIfInBounds_toArray, List.set_cons_zero, List.set_cons_succ]) (hCont (v305) _ ⟨(rR HO306), bl⟩)
   rintro v305 w13 ⟨h0_, h1_⟩
   have n0_ : Aside0 (Kd.R (Kd.int .u8) 5 w13 w.heap.size (fun _ => True) v305 y304) := ⟨h0_⟩
   have n1_ : Aside0 (Below w.heap.size w w13) := ⟨h1_⟩
   clear HB h0_ h1_
   have HO306 := n0_
   have HB := n1_
   clear n0_ n1_
   have hHeld := trivial
   refine norm_ (a' := ?_) ?_ ?_
   rotate_left
   ·simp only [putAll, Act.put, List.setIfInBounds_toArray, List.set_cons_zero, List.set_cons_succ]
    rfl
   refine pS (i := 9) (N := some 19) #[true, true, true, true, true, true, true, true, true, true, false] HT_ ?_
   refine pS (i := 10) (N := some 2) #[true, true, true, true, true, true, true, true, true, true, true] HT_ ?_
   refine done_ (qDB HT_.out (by kernel_rfl)) ?_
   try go_wp2
   go_ret
   exact ⟨sR, bl⟩
  ·rw [if_neg c7] at H
   exact absurd H (by simp)
def qjB.f (k : Nat) (a0 : Int) (a1 : Int) : Option (ByteArray) := (qaA.f k a0).bind fun t307 => ((qsA.f).bind fun t308 => (if 0 ≤ a1 then (if a1 ≤ (wrap64 (a1 + 1)) then (if (wrap64 (a1 + 1)) ≤ (t308.size : Int) then (if t307.size + (t308.extract (a1 : Int).toNat ((wrap64 (a1 + 1)) : Int).toNat).size ≤ 9223372036854775807 then (some (t307 ++ (t308.extract (a1 : Int).toNat ((wrap64 (a1 + 1)) : Int).toNat))) else (none)) else (none)) else (none)) else (none)))
set_option maxHeartbeats 8000000 in
set_option maxRecDepth 100000 in
theorem qjB.calls (k : Nat) (a0 : Int) (a1 : Int) (r : ByteArray) (w : World) (h : qjB.f k a0 a1 = some r) :
  Calls Tryz.prog 48 #[.int .i64 a0, .int .i64 a1] w fun e w' => e = .returned (.string r) ∧ Below w.heap.size w w' := by
 have HB := aM (Below.refl w.heap.size w)
 have H : ((qaA.f k a0).bind fun t307 => ((qsA.f).bind fun t308 => (if 0 ≤ a1 then (if a1 ≤ (wrap64 (a1 + 1)) then (if (wrap64 (a1 + 1)) ≤ (t308.size : Int) then (if t307.size + (t308.extract (a1 : Int).toNat ((wrap64 (a1 + 1)) : Int).toNat).size ≤ 9223372036854775807 then (some (t307 ++ (t308.extract (a1 : Int).toNat ((wrap64 (a1 + 1)) : Int).toNat))) else (none)) else (none)) else (none)) else (none)))) = some r := h
 clear h
 replace H := bO H
 obtain ⟨t307, A3, H⟩ := H
 replace H := bO H
 obtain ⟨t308, A4, H⟩ := H
 by_cases c5 : 0 ≤ a1
 ·rw [if_pos c5] at H
  have c5b0 := eq_true c5
  have c5b1 := decide_eq_true c5
  clear c5
  by_cases c6 : a1 ≤ (wrap64 (a1 + 1))
  ·rw [if_pos c6] at H
   have c6b0 := eq_true c6
   have c6b1 := decide_eq_true c6
   by_cases c7 : (wrap64 (a1 + 1)) ≤ (t308.size : Int)
   ·rw [if_pos c7] at H
    have c7b0 := eq_true c7
    have c7b1 := decide_eq_true c7
    by_cases c8 : t307.size + (t308.extract (a1 : Int).toNat ((wrap64 (a1 + 1)) : Int).toNat).size ≤ 9223372036854775807
    ·rw [if_pos c8] at H
     have c8b0 := eq_true c8
     have c8b1 := decide_eq_true c8
     try have c8b2 : (9223372036854775807 < t307.size + (t308.extract (a1 : Int).toNat ((wrap64 (a1 + 1)) : Int).toNat).size) = False := eq_false (Nat.not_lt.2 c8)
     obtain rfl := Option.some.inj H
     go_enter Tryz.func48, Tryz.ntmps48
     go_wp2_with (first | ((with_reducible refine qF (f := 66) rfl ?_); refine qn (some 6) rfl rfl Tryz.func66 (by kernel_rfl) rfl #[.int .i64 a0] rfl gA ?_; (with_reducible refine (qaA.calls k a0 t307 _ A3.out).mono ?_); rintro e w9 ⟨rfl, hb⟩; refine ⟨_, rfl, ?_⟩; replace HB := aM (qB bl hb); (try clear hb); (try clear hb2); (try clear hk); (try clear hi)) | ((with_reducible refine qF (f := 67) rfl ?_); refine qn (some 7) rfl rfl Tryz.func67 (by kernel_rfl) rfl #[] rfl gA ?_; (with_reducible refine (qsA.calls  t308 _ A4.out).mono ?_); rintro e w' ⟨rfl, ⟨nd, rfl⟩⟩; refine ⟨_, rfl, ?_⟩))
     go_ret
     exact ⟨sR, bl⟩
    ·rw [if_neg c8] at H
     exact absurd H (by simp)
   ·rw [if_neg c7] at H
    exact absurd H (by simp)
  ·rw [if_neg c6] at H
   exact absurd H (by simp)
 ·rw [if_neg c5] at H
  exact absurd H (by simp)
mutual
def qP.l0 : Nat → List (S53) → List (List Int) → Int → Int → Int → Int → Int → List Int → Option ((List (S48)) × Bool)
 | 0, _, _, _, _, _, _, _, _ => none
 | k + 1, x1, x6, x7, x21, x22, x310000, x310001, x310002 => if x22 < x21 then (if 0 ≤ x22 then (if x22 < (x1.length : Int) then ((qXA.f k x310000 x310001 x310002 ((qA x1 x22).f0) ((qA x1 x22).f1) ((qA x1 x22).f2.f0) ((qA x1 x22).f2.f1) ((qA x1 x22).f2.f2) ((qA x1 x22).f2.f3) ((qA x1 x22).f2.f4) ((qA x1 x22).f2.f5)).bind fun t312 => (if x6.length < 5864062014805 then (qP.l0 k x1 (x6 ++ [t312]) (wrap64 (x7 * (wrap64 ((x310002.length : Int) * 24)))) x21 (wrap64 (x22 + 1)) x310000 x310001 x310002) else (none))) else (none)) else (none)) else (if 0 ≤ x7 then (if (x7 : Int).toNat ≤ 281474976710656 then ((some (List.replicate (x7 : Int).toNat false : List Bool)).bind fun y318 => ((qy.f k x310000 x310001 x310002 x6 x1).bind fun t321 => (if 0 ≤ t321 then (if t321 < (y318.length : Int) then (qP.l1 k x1 x6 (([(⟨x1, (-1), (⟨#[]⟩ : ByteArray)⟩ : S48)] : List (S48))) 0 (y318.set (t321 : Int).toNat true) x310000 x310001 x310002) else (none)) else (none)))) else (none)) else (none))
def qP.l1 : Nat → List (S53) → List (List Int) → List (S48) → Int → List Bool → Int → Int → List Int → Option ((List (S48)) × Bool)
 | 0, _, _, _, _, _, _, _, _ => none
 | k + 1, x1, x6, x11, x12, x40, x310000, x310001, x310002 => if x12 < (x11.length : Int) then (qP.l2 k x1 x6 x11 x12 x40 (x1.length : Int) 0 x310000 x310001 x310002) else (some (x11, true))
def qP.l2 : Nat → List (S53) → List (List Int) → List (S48) → Int → List Bool → Int → Int → Int → Int → List Int → Option ((List (S48)) × Bool)
 | 0, _, _, _, _, _, _, _, _, _, _ => none
 | k + 1, x1, x6, x11, x12, x40, x57, x58, x310000, x310001, x310002 => if x58 < x57 then (qP.l3 k x1 x6 x11 x12 x58 0 x40 x57 x58 x310000 x310001 x310002) else (qP.l1 k x1 x6 x11 (wrap64 (x12 + 1)) x40 x310000 x310001 x310002)
def qP.l3 : Nat → List (S53) → List (List Int) → List (S48) → Int → Int → Int → List Bool → Int → Int → Int → Int → List Int → Option ((List (S48)) × Bool)
 | 0, _, _, _, _, _, _, _, _, _, _, _, _ => none
 | k + 1, x1, x6, x11, x12, x13, x14, x40, x57, x58, x310000, x310001, x310002 => if x14 < 4 then (if 0 ≤ x12 then (if x12 < (x11.length : Int) then ((qQA.f k x310000 x310001 x310002 ((qKA x11 x12).f0) x13 x14).bind fun bt327 => (if bt327.2 = true then ((qy.f k x310000 x310001 x310002 x6 bt327.1).bind fun t331 => (if 0 ≤ t331 then (if t331 < (x40.length : Int) then (qP.j4 k x1 x6 x40 x11 x12 x13 x14 bt327.1 x57 x58 (rdOf false x40 t331) x310000 x310001 x310002) else (none)) else (none))) else (qP.j4 k x1 x6 x40 x11 x12 x13 x14 bt327.1 x57 x58 true x310000 x310001 x310002))) else (none)) else (none)) else (qP.l2 k x1 x6 x11 x12 x40 x57 (wrap64 (x58 + 1)) x310000 x310001 x310002)
def qP.j4 : Nat → List (S53) → List (List Int) → List Bool → List (S48) → Int → Int → Int → List (S53) → Int → Int → Bool → Int → Int → List Int → Option ((List (S48)) × Bool)
 | 0, _, _, _, _, _, _, _, _, _, _, _, _, _, _ => none
 | k + 1, x1, x6, x10, x11, x12, x13, x14, x15, x57, x58, x87, x310000, x310001, x310002 => if x87 = true then (qP.l3 k x1 x6 x11 x12 x13 (wrap64 (x14 + 1)) x10 x57 x58 x310000 x310001 x310002) else (if (x11.length : Int) = 6000 then (some (([] : List (S48)), false)) else ((qy.f k x310000 x310001 x310002 x6 x15).bind fun t333 => (if 0 ≤ t333 then (if t333 < (x10.length : Int) then ((qjB.f k x13 x14).bind fun t335 => (if x11.length < 2932031007402 then (qP.l3 k x1 x6 (x11 ++ [(⟨x15, x12, t335⟩ : S48)]) x12 x13 (wrap64 (x14 + 1)) (x10.set (t333 : Int).toNat true) x57 x58 x310000 x310001 x310002) else (none))) else (none)) else (none))))
end
def qP.f (k : Nat) (a0_0 : Int) (a0_1 : Int) (l0_2 : List Int) (l1 : List (S53)) : Option ((List (S48)) × Bool) := if (l1.length : Int) > 2 then (some (([] : List (S48)), false)) else (qP.l0 k l1 ([] : List (List Int)) 1 (l1.length : Int) 0 a0_0 a0_1 l0_2)
def qP.T23 : Bool × List (List Nat × List Nat) := (true, [([], []), ([], []), ([], []), ([1, 2], [1, 2]), ([3], [3]), ([4], [4]), ([], []), ([], []), ([0, 5, 6, 7], [0, 5, 6, 7]), ([8], [8]), ([9], [9]), ([9], [9]), ([10, 8, 0, 1, 2, 3, 4, 5, 6, 7, 8, 9, 10], [10]), ([11, 12, 0, 1, 2, 3, 4, 5, 6, 7, 8, 9, 10, 11, 12], [11])])
def qP.B23 : List Nat := [0, 0, 0, 6, 14, 30, 0, 0, 255, 511, 1023, 1023, 2047, 8191]
theorem qP.tab23 : rtab .any (opsOf Tryz.f20 23) = qP.T23 := by kernel_rfl
theorem qP.bits23 : waitsOk qP.T23.2 qP.B23 = true := by kernel_rfl
set_option maxHeartbeats 8000000 in
set_option maxRecDepth 100000 in
theorem qP.calls (k : Nat) (a0_0 : Int) (a0_1 : Int) (A0_2 : Option Addr) (c0_2 : Nat) (l0_2 : List Int) (P1_ : Nat → Prop) (A1 : Option Addr) (c1 : Nat) (l1 : List (S53)) (r1 : List (S48)) (r2 : Bool) (w : World) (hr0_2 : Kd.C (Kd.int .u8) w A0_2 l0_2.length l0_2) (hc0_2 : l0_2.length ≤ c0_2) (hs1 : Kd.V k53 53 w w.heap.size (fun k_ => P1_ k_) (.slice A1 l1.length c1) l1) (h : qP.f k a0_0 a0_1 l0_2 l1 = some (r1, r2)) :
  Calls Tryz.prog 20 #[.agg #[.int .i64 a0_0, .int .i64 a0_1, .slice A0_2 l0_2.length c0_2], .slice A1 l1.length c1] w fun e w' => ∃ v0_ : Value, e = .returned (.tuple #[v0_, .bool r2]) ∧ Kd.N k48 48 w' w.heap.size (fun k_ => (P1_ k_ ∨ w.heap.size ≤ k_)) v0_ r1 ∧ Below w.heap.size w w' := by
 have hu40 := Tryz.underlying40
 have hu53 := Tryz.underlying53
 have hu48 := Tryz.underlying48
 have HR0_2 := aM hr0_2
 have HC0_2 := aM hc0_2
 clear hr0_2 hc0_2
 have HO1 := aM (show Kd.V k53 53 w w.heap.size (fun k_ => (P1_ k_ ∨ w.heap.size ≤ k_)) (.slice A1 l1.length c1) l1 from Kd.qhB hs1 (fun k_ hk => .inl hk))
 have HB := aM (Below.refl w.heap.size w)
 have H : (if (l1.length : Int) > 2 then (some (([] : List (S48)), false)) else (qP.l0 k l1 ([] : List (List Int)) 1 (l1.length : Int) 0 a0_0 a0_1 l0_2)) = some (r1, r2) := h
 clear h
 by_cases c3 : (l1.length : Int) > 2
 ·rw [if_pos c3] at H
  have c3b0 := decide_eq_true c3
  have c3b1 : decide (2 < l1.length) = true := decide_eq_true (by omega)
  clear c3
  simp only [Option.some.injEq, Prod.mk.injEq] at H
  obtain ⟨rfl, rfl⟩ := H
  go_enter Tryz.func20, Tryz.ntmps20
  go_wp2_with (first | ((with_reducible refine qJ (N := 2) rfl ?_); refine qI ?hg (N := 2) ?hd (cs := #[.int .i64 a0_0, .int .i64 a0_1, .slice A0_2 l0_2.length c0_2]) (t := 40) ?hr ?_; (case hd => rfl); (case hg => rfl); (case hr => exact gS); intro gb309 hg w4 hbox hb; have BK309 := aM (hbox); have GW309 := aM ((gg hg)); have GE309 := aM ((gg hg)); replace HO1 := aM (Kd.qKC (Kd.qvC (rV HO1) gb309 (Nat.le_of_eq hg.symm)) hb); replace HB := aM (qB bl hb); clear hb hbox hg))
  go_ret2
  exact ⟨_, sR, nK, bl⟩
 ·rw [if_neg c3] at H
  have c3b0 := decide_eq_false c3
  have c3b1 : decide (2 < l1.length) = false := decide_eq_false (by omega)
  clear c3
  have H' := aM H
  clear H
  go_enter Tryz.func20, Tryz.ntmps20
  go_wp2_with (first | ((with_reducible refine qJ (N := 2) rfl ?_); refine qI ?hg (N := 2) ?hd (cs := #[.int .i64 a0_0, .int .i64 a0_1, .slice A0_2 l0_2.length c0_2]) (t := 40) ?hr ?_; (case hd => rfl); (case hg => rfl); (case hr => exact gS); intro gb309 hg w5 hbox hb; have BK309 := aM (hbox); have GW309 := aM ((gg hg)); have GE309 := aM ((gg hg)); replace HO1 := aM (Kd.qKC (Kd.qvC (rV HO1) gb309 (Nat.le_of_eq hg.symm)) hb); replace HB := aM (qB bl hb); clear hb hbox hg))
  go_loopg [6, 7, 22] k (fun kq v6 v7 v22 w' => ∃ (x6_1 : List (List Int)) (x7_1 : Int) (x22_1 : Int), v7 = .int .i64 x7_1 ∧ v22 = .int .i64 x22_1 ∧ Aside0 (qP.l0 kq l1 x6_1 x7_1 (l1.length : Int) x22_1 a0_0 a0_1 l0_2 = some (r1, r2)) ∧ Aside0 (kq ≤ k) ∧ Aside0 (Kd.V k53 53 w' w.heap.size (fun k_ => (P1_ k_ ∨ w.heap.size ≤ k_) ∧ some k_ ≠ (v6 : Value).ownBlock ∧ k_ ≠ gb309) (.slice A1 l1.length c1) l1) ∧ Aside0 (Kd.N (Kd.slice 3 (Kd.int .i64)) 69 w' w.heap.size (fun k_ => (P1_ k_ ∨ w.heap.size ≤ k_) ∧ k_ ≠ gb309) v6 x6_1) ∧ Aside0 (w'.heap[gb309]? = some (.cells #[.int .i64 a0_0, .int .i64 a0_1, (.slice A0_2 l0_2.length c0_2)] 40 (0, 0))) ∧ Aside0 (Below w.heap.size w w'))
  case atStart => exact ⟨(([] : List (List Int))), (1), (0), sD, sD, H', ⟨Nat.le_refl _⟩, ⟨by (with_reducible repeat (first | apply Kd.qUB | apply Kd.qTB | apply Kd.qqB)); exact Kd.qhB HO1.out (fun _ hk => ⟨hk.1, ⟨(by simp [Value.ownBlock]), hk.2⟩⟩)⟩, ⟨nK⟩, ⟨rB BK309⟩, ⟨bl⟩⟩
  case round =>
   clear H'; (try clear c1); (try clear c2); (try clear p2); (try clear c3); (try clear c3b0); (try clear c3b1)
   obtain ⟨x6_1, x7_1, x22_1, rfl, rfl, HA, HK1, HO_1, HO_6, BK309, HB⟩ := hrel
   cases gk with
   | zero => exact absurd HA.out (by simp [qP.l0])
   | succ k1 =>
    have H := HA.out
    clear HA
    simp only [qP.l0] at H
    by_cases c6 : x22_1 < (l1.length : Int)
    ·rw [if_pos c6] at H
     have c6b0 := decide_eq_true c6
     clear c6
     by_cases c7 : 0 ≤ x22_1
     ·rw [if_pos c7] at H
      have c7b0 := decide_eq_true c7
      clear c7
      by_cases c8 : x22_1 < (l1.length : Int)
      ·rw [if_pos c8] at H
       have c8b0 := decide_eq_true c8
       clear c8
       replace H := bO H
       obtain ⟨t312, A9, H⟩ := H
       by_cases c10 : x6_1.length < 5864062014805
       ·rw [if_pos c10] at H
        have LMc10 := aM c10
        clear c10
        obtain ⟨y315, hy315⟩ : ∃ y_ : List (List Int), y_ = (x6_1 ++ [t312]) := ⟨_, rfl⟩
        replace H : (qP.l0 k1 l1 y315 (wrap64 (x7_1 * (wrap64 ((l0_2.length : Int) * 24)))) (l1.length : Int) (wrap64 (x22_1 + 1)) a0_0 a0_1 l0_2) = some (r1, r2) := by first | (rw [hy315]; with_reducible exact H) | (have H2_ := (Option.bind_some _ _).symm.trans H; rw [hy315]; with_reducible exact H2_) | (have H2_ := (Option.bind_some _ _).symm.trans H; with_reducible exact H2_) | with_reducible exact H | (rw [hy315]; exact H) | exact H
        have Ny315 := aM hy315
        clear hy315
        have H' := aM H
        clear H
        have p310 : 0 ≤ (x22_1 : Int) := of_decide_eq_true am
        have q310 : x22_1 < (l1.length : Int) := of_decide_eq_true am
        obtain ⟨ad310, e310, hx310_0, hx310_1, hx310_2, hx310_3, hx310_4, hx310_5, hx310_6, hx310_7⟩ := qGB (Kd.qcC HO_1.out).2.2 x22_1 p310 q310
        cases e310
        replace p310 := eq_true p310
        replace q310 := eq_true q310
        go_wp2_with (first | ((with_reducible refine qJ (N := 9) rfl ?_); refine qI ?hg (N := 9) ?hd (cs := #[.int .i64 0, .int .i64 0, .int .i64 0, .int .i64 0, .int .i64 0, .int .i64 0, .int .i64 0, .int .i64 0]) (t := 53) ?hr ?_; (case hd => rfl); (case hg => rfl); (case hr => exact gS); intro gb311 hg w11 hbox hb; have BK311 := aM (hbox); have GW311 := aM ((gg hg)); have GE311 := aM ((gg hg)); have NB309_311 := aM ((nl BK309 hg)); have NB311_309 := aM ((nr BK309 hg)); replace HO_1 := aM (Kd.qKC (Kd.qvC (rV HO_1) gb311 (Nat.le_of_eq hg.symm)) hb); replace HO_6 := aM (Kd.qmB (Kd.qcD (rN HO_6) gb311 (Nat.le_of_eq hg.symm)) hb); replace BK309 := aM (bb BK309 hb); replace HB := aM (qB bl hb); clear hb hbox hg; have hnb12 := NB311_309.out; have hnc12 := NB309_311.out; (refine cb8 BK311 ?_; intro hcz13_0 hcz13_1 hcz13_2 hcz13_3 hcz13_4 hcz13_5 hcz13_6 hcz13_7); (refine cz8 BK311 ?_; intro hfz13_0 hfz13_1 hfz13_2 hfz13_3 hfz13_4 hfz13_5 hfz13_6 hfz13_7); (refine cb3 BK309 ?_; intro hcz14_0 hcz14_1 hcz14_2); (refine cz3 BK309 ?_; intro hfz14_0 hfz14_1 hfz14_2)) | ((with_reducible refine qF (f := 45) rfl ?_); refine qn (some 29) rfl rfl Tryz.func45 (by kernel_rfl) rfl #[.agg #[.int .i64 a0_0, .int .i64 a0_1, .slice A0_2 l0_2.length c0_2], .agg #[.int .i64 ((qA l1 x22_1).f0), .int .i64 ((qA l1 x22_1).f1), .int .i64 ((qA l1 x22_1).f2.f0), .int .i64 ((qA l1 x22_1).f2.f1), .int .i64 ((qA l1 x22_1).f2.f2), .int .i64 ((qA l1 x22_1).f2.f3), .int .i64 ((qA l1 x22_1).f2.f4), .int .i64 ((qA l1 x22_1).f2.f5)]] rfl gA ?_; (with_reducible refine (qXA.calls k1 a0_0 a0_1 _ _ l0_2 ((qA l1 x22_1).f0) ((qA l1 x22_1).f1) ((qA l1 x22_1).f2.f0) ((qA l1 x22_1).f2.f1) ((qA l1 x22_1).f2.f2) ((qA l1 x22_1).f2.f3) ((qA l1 x22_1).f2.f4) ((qA l1 x22_1).f2.f5) t312 _ ?side1 ?side2 A9.out).mono ?_); (case side1 => exact Kd.qY HR0_2.out bl); (case side2 => exact HC0_2.out); rintro e w15 ⟨v313, rfl, ho0, hb⟩; refine ⟨_, rfl, ?_⟩; have HO314 := aM (Kd.qAA (Kd.qhE (M := fun k_ => (w.heap.size ≤ k_)) ho0 (qL bl) (fun k_ h_ => h_)) (qL bl)); replace HO_1 := aM (Kd.qMD (by (with_reducible repeat (first | apply Kd.qUB | apply Kd.qTB | apply Kd.qqB)); exact (Kd.qhB (Kd.V_far (p := ⟨gb311, 7, none⟩) (Kd.V_far (p := ⟨gb311, 6, none⟩) (Kd.V_far (p := ⟨gb311, 5, none⟩) (Kd.V_far (p := ⟨gb311, 4, none⟩) (Kd.V_far (p := ⟨gb311, 3, none⟩) (Kd.V_far (p := ⟨gb311, 2, none⟩) (Kd.V_far (p := ⟨gb311, 1, none⟩) (Kd.V_far (p := ⟨gb311, 0, none⟩) (Kd.qhB HO_1.out (fun k_ hk => (⟨hk, hk.2⟩ : _ ∧ k_ ≠ gb311))) (fun _ hk => hk.2) (.int .i64 ((qA l1 x22_1).f0))) (fun _ hk => hk.2) (.int .i64 ((qA l1 x22_1).f1))) (fun _ hk => hk.2) (.int .i64 ((qA l1 x22_1).f2.f0))) (fun _ hk => hk.2) (.int .i64 ((qA l1 x22_1).f2.f1))) (fun _ hk => hk.2) (.int .i64 ((qA l1 x22_1).f2.f2))) (fun _ hk => hk.2) (.int .i64 ((qA l1 x22_1).f2.f3))) (fun _ hk => hk.2) (.int .i64 ((qA l1 x22_1).f2.f4))) (fun _ hk => hk.2) (.int .i64 ((qA l1 x22_1).f2.f5))) (fun _ h_ => h_.1))) (Kd.qMA ho0) hb); replace HO_6 := aM (Kd.qND (by (with_reducible repeat (first | apply Kd.qrA | apply Kd.qqA | apply Kd.qEB)); exact (Kd.qLB (Kd.N_far (p := ⟨gb311, 7, none⟩) (Kd.N_far (p := ⟨gb311, 6, none⟩) (Kd.N_far (p := ⟨gb311, 5, none⟩) (Kd.N_far (p := ⟨gb311, 4, none⟩) (Kd.N_far (p := ⟨gb311, 3, none⟩) (Kd.N_far (p := ⟨gb311, 2, none⟩) (Kd.N_far (p := ⟨gb311, 1, none⟩) (Kd.N_far (p := ⟨gb311, 0, none⟩) (Kd.qLB HO_6.out (fun k_ hk => (⟨hk, hk.2⟩ : _ ∧ k_ ≠ gb311))) (fun _ hk => hk.2) (.int .i64 ((qA l1 x22_1).f0))) (fun _ hk => hk.2) (.int .i64 ((qA l1 x22_1).f1))) (fun _ hk => hk.2) (.int .i64 ((qA l1 x22_1).f2.f0))) (fun _ hk => hk.2) (.int .i64 ((qA l1 x22_1).f2.f1))) (fun _ hk => hk.2) (.int .i64 ((qA l1 x22_1).f2.f2))) (fun _ hk => hk.2) (.int .i64 ((qA l1 x22_1).f2.f3))) (fun _ hk => hk.2) (.int .i64 ((qA l1 x22_1).f2.f4))) (fun _ hk => hk.2) (.int .i64 ((qA l1 x22_1).f2.f5))) (fun _ h_ => h_.1))) (Kd.qMA ho0) hb); replace BK309 := aM (qDA (g := gb309) (o := .cells #[.int .i64 a0_0, .int .i64 a0_1, .slice A0_2 l0_2.length c0_2] 40 (0, 0)) (bF BK309 NB309_311) hb); replace BK311 := aM (qDA (g := gb311) (o := .cells #[.int .i64 ((qA l1 x22_1).f0), .int .i64 ((qA l1 x22_1).f1), .int .i64 ((qA l1 x22_1).f2.f0), .int .i64 ((qA l1 x22_1).f2.f1), .int .i64 ((qA l1 x22_1).f2.f2), .int .i64 ((qA l1 x22_1).f2.f3), .int .i64 ((qA l1 x22_1).f2.f4), .int .i64 ((qA l1 x22_1).f2.f5)] 53 (0, 0)) (by (with_reducible repeat (first | refine qH ?_ _ | refine qE ?_ | refine qG ?_ _)); exact bP8 BK311) hb); replace HB := aM (qB bl hb); (try clear hb); (try clear hb2); (try clear hk); (try clear hi); (try clear ho0); obtain ⟨Ao17, co17, eo17⟩ := Kd.qFA HO314.out; subst eo17) | ((with_reducible refine qBB (b := .append) (xs := #[.tmp 26, .tmp 30]) rfl ?_); at_builtin; refine Kd.N_append (Kd.slice 3 (Kd.int .i64)) (w0 := w) w.heap.size rfl (.tmp 26) (.tmp 30) 32 69 (.slice none 0 0) 24 rfl Tryz.underlying32 info69 rfl (by decide) (by omega) u6 x6_1 t312 [.slice Ao17 t312.length co17] (fun k_ => (P1_ k_ ∨ w.heap.size ≤ k_) ∧ k_ ≠ gb309 ∧ k_ ≠ gb311) (fun k_ => ((fun k_ => (P1_ k_ ∨ w.heap.size ≤ k_) ∧ k_ ≠ gb309 ∧ k_ ≠ gb311)) k_ ∧ some k_ ≠ (u6 : Value).ownBlock) rfl rfl ?aP (fun _ hk => hk) ?aF ?aO ?aB ?aS ?aL ?_; (case aP => exact (Kd.FK_slice_mk (Kd.qM (Kd.qa (ok' := (fun k_ => ((fun k_ => (P1_ k_ ∨ w.heap.size ≤ k_) ∧ k_ ≠ gb309 ∧ k_ ≠ gb311)) k_ ∧ some k_ ≠ (u6 : Value).ownBlock)) (Kd.qAB (Kd.qAB (Kd.qAC (HO314.out) (Kd.qDD HO_6.out) (by decide)) BK309.out (by decide)) BK311.out (by decide)) (fun k_ hk => ⟨⟨(.inr (hk.1.1.1.1)), ⟨hk.1.2, hk.2⟩⟩, hk.1.1.2⟩))).2.1 (Kd.R_F (Kd.qa (ok' := (fun k_ => ((fun k_ => (P1_ k_ ∨ w.heap.size ≤ k_) ∧ k_ ≠ gb309 ∧ k_ ≠ gb311)) k_ ∧ some k_ ≠ (u6 : Value).ownBlock)) (Kd.qAB (Kd.qAB (Kd.qAC (HO314.out) (Kd.qDD HO_6.out) (by decide)) BK309.out (by decide)) BK311.out (by decide)) (fun k_ hk => ⟨⟨(.inr (hk.1.1.1.1)), ⟨hk.1.2, hk.2⟩⟩, hk.1.1.2⟩))))); (case aB => exact bl); (case aF => exact (fun k_ hk => ⟨(.inr (Nat.le_trans (qL bl) hk)), Kd.freshB (rB BK309) k_ hk, Kd.freshB (rB BK311) k_ hk⟩)); (case aO => exact (by (with_reducible repeat (first | apply Kd.qrA | apply Kd.qqA | apply Kd.qEB)); exact Kd.qLB HO_6.out (fun _ hk => ⟨hk.1.1.1, ⟨hk.1.1.2, hk.1.2⟩⟩))); (case aS => exact (qL bl)); (case aL => have := LMc10.out; omega); intro v316 w16 ho hb hg hat; rw [← Ny315.out] at ho; have HO317 := aM (ho); replace HO_1 := aM (Kd.qaD (ok := (fun k_ => (P1_ k_ ∨ w.heap.size ≤ k_) ∧ some k_ ≠ (.slice Ao17 t312.length co17 : Value).ownBlock ∧ k_ ≠ gb309 ∧ k_ ≠ gb311)) (by (with_reducible repeat (first | apply Kd.qUB | apply Kd.qTB | apply Kd.qqB)); exact Kd.qhB HO_1.out (fun _ hk => ⟨⟨hk.1.1.1, ⟨hk.2, ⟨hk.1.1.2.2, hk.1.2⟩⟩⟩, hk.1.1.2.1⟩)) hg hat); replace BK309 := aM (qp (rB BK309) hg (Kd.N_ne HO_6.out BK309.out (by decide))); replace BK311 := aM (qp (rB BK311) hg (Kd.N_ne HO_6.out BK311.out (by decide))); replace HB := aM (hb); clear HO_6; clear HO314; clear ho hb hg hat; (refine cb3 BK309 ?_; intro hcz18_0 hcz18_1 hcz18_2); (refine cz3 BK309 ?_; intro hfz18_0 hfz18_1 hfz18_2)))
        go_roundg k1
        case measure => have := HK1.out; omega
        case rel => exact ⟨(y315), (wrap64 (x7_1 * (wrap64 ((l0_2.length : Int) * 24)))), (wrap64 (x22_1 + 1)), sD, sD, H', ⟨by have := HK1.out; omega⟩, ⟨by (with_reducible repeat (first | apply Kd.qUB | apply Kd.qTB | apply Kd.qqB)); exact Kd.qhB HO_1.out (fun _ hk => ⟨hk.1.1, ⟨hk.2, hk.1.2.2.1⟩⟩)⟩, ⟨by (with_reducible repeat (first | apply Kd.qrA | apply Kd.qqA | apply Kd.qEB)); exact Kd.qLB HO317.out (fun _ hk => ⟨hk.1, hk.2.1⟩)⟩, ⟨rB BK309⟩, ⟨bl⟩⟩
       ·rw [if_neg c10] at H
        exact absurd H (by simp)
      ·rw [if_neg c8] at H
       exact absurd H (by simp)
     ·rw [if_neg c7] at H
      exact absurd H (by simp)
    ·rw [if_neg c6] at H
     have c6b0 := decide_eq_false c6
     clear c6
     by_cases c19 : 0 ≤ x7_1
     ·rw [if_pos c19] at H
      have c19b0 := eq_true c19
      have c19b1 := decide_eq_true c19
      clear c19
      by_cases c20 : (x7_1 : Int).toNat ≤ 281474976710656
      ·rw [if_pos c20] at H
       have c20b0 := eq_true c20
       have c20b1 := decide_eq_true c20
       clear c20
       replace H := bS H
       obtain ⟨y318, Ny318, H⟩ := H
       replace H := bO H
       obtain ⟨t321, A21, H⟩ := H
       by_cases c22 : 0 ≤ t321
       ·rw [if_pos c22] at H
        have c22b0 := decide_eq_true c22
        clear c22
        by_cases c23 : t321 < (y318.length : Int)
        ·rw [if_pos c23] at H
         have c23b0 := decide_eq_true c23
         clear c23
         obtain ⟨y322, hy322⟩ : ∃ y_ : List Bool, y_ = (y318.set (t321 : Int).toNat true) := ⟨_, rfl⟩
         replace H : (qP.l1 k1 l1 x6_1 (([(⟨l1, (-1), (⟨#[]⟩ : ByteArray)⟩ : S48)] : List (S48))) 0 y322 a0_0 a0_1 l0_2) = some (r1, r2) := by first | (rw [hy322]; with_reducible exact H) | (have H2_ := (Option.bind_some _ _).symm.trans H; rw [hy322]; with_reducible exact H2_) | (have H2_ := (Option.bind_some _ _).symm.trans H; with_reducible exact H2_) | with_reducible exact H | (rw [hy322]; exact H) | exact H
         have Ny322 := aM hy322
         clear hy322
         obtain ⟨y323, hy323⟩ : ∃ y_ : List (S48), y_ = (([(⟨l1, (-1), (⟨#[]⟩ : ByteArray)⟩ : S48)] : List (S48))) := ⟨_, rfl⟩
         replace H : (qP.l1 k1 l1 x6_1 y323 0 y322 a0_0 a0_1 l0_2) = some (r1, r2) := by first | (rw [hy323]; with_reducible exact H) | (have H2_ := (Option.bind_some _ _).symm.trans H; rw [hy323]; with_reducible exact H2_) | (have H2_ := (Option.bind_some _ _).symm.trans H; with_reducible exact H2_) | with_reducible exact H | (rw [hy323]; exact H) | exact H
         have Ny323 := aM hy323
         clear hy323
         have H' := aM H
         clear H
         go_wp2_with (first | ((with_reducible refine qJ (N := 40) rfl ?_); refine Kd.R_make Kd.bool _ 4 rfl (N := 40) rfl 83 _ _ rfl x7_1 rfl rfl Tryz.underlying83 (.bool false) 1 info4 rfl (by decide) (by omega) false (ok := fun _ => True) (okp := fun _ => True) rfl (fun _ hk => hk) trivial (of_decide_eq_true am) (Nat.le_trans (Nat.mul_le_mul_right _ (of_decide_eq_true am : x7_1.toNat ≤ 281474976710656)) (by omega)) (Below.refl _ _) (Nat.le_refl _) ?_; intro v319 w25 ho26 hb hg_ hnew_; clear hg_ hnew_; (first | rw [← Ny318.out] at ho26 | (simp only [Int.reduceToNat] at ho26; rw [← Ny318.out] at ho26)); have HO320 := aM (Kd.qAA (Kd.qhE (M := fun k_ => (w.heap.size ≤ k_)) ho26 (qL bl) (fun k_ h_ => h_)) (qL bl)); replace HO_1 := aM (Kd.qMD (rV HO_1) (Kd.qMA ho26) hb); replace HO_6 := aM (Kd.qND (rN HO_6) (Kd.qMA ho26) hb); replace BK309 := aM (bb BK309 hb); replace HB := aM (qB bl hb); clear hb ho26; (refine cb3 BK309 ?_; intro hcz27_0 hcz27_1 hcz27_2); (refine cz3 BK309 ?_; intro hfz27_0 hfz27_1 hfz27_2); obtain ⟨Ao28, co28, eo28⟩ := Kd.qsD HO_6.out; subst eo28) | ((with_reducible refine qF (f := 46) rfl ?_); refine qn (some 45) rfl rfl Tryz.func46 (by kernel_rfl) rfl #[.agg #[.int .i64 a0_0, .int .i64 a0_1, .slice A0_2 l0_2.length c0_2], .slice Ao28 x6_1.length co28, .slice A1 l1.length c1] rfl gA ?_; (with_reducible refine (qy.calls k1 a0_0 a0_1 _ _ l0_2 _ _ x6_1 _ _ l1 t321 _ ?side1 ?side2 ?side3 ?side4 ?side5 ?side6 A21.out).mono ?_); (case side1 => repeat (first | exact (Kd.qY HR0_2.out HB.out) | (with_reducible refine Kd.qS ?_ _) | (with_reducible refine Kd.qR ?_ _) | (with_reducible refine Kd.qe ?_))); (case side2 => exact HC0_2.out); (case side3 => repeat (first | exact (Kd.qFB HO_6.out).2.2 | (with_reducible refine Kd.qS ?_ _) | (with_reducible refine Kd.qR ?_ _) | (with_reducible refine Kd.qe ?_))); (case side4 => exact (Kd.qFB HO_6.out).2.1); (case side5 => repeat (first | exact (Kd.qcC HO_1.out).2.2 | (with_reducible refine Kd.qS ?_ _) | (with_reducible refine Kd.qR ?_ _) | (with_reducible refine Kd.qe ?_))); (case side6 => exact (Kd.qcC HO_1.out).2.1); rintro e w29 ⟨rfl, hb⟩; refine ⟨_, rfl, ?_⟩; replace HO_1 := aM (Kd.qKC (rV HO_1) hb); replace HO_6 := aM (Kd.qmB (rN HO_6) hb); replace HO320 := aM (Kd.qZ (rR HO320) hb); replace BK309 := aM (bb BK309 hb); replace HB := aM (qB bl hb); (try clear hb); (try clear hb2); (try clear hk); (try clear hi); have p24 : 0 ≤ (t321 : Int) := of_decide_eq_true am; have q24 : (t321 : Int) < ((y318.length : Int) : Int) := of_decide_eq_true am; obtain ⟨go24, co24, eo24, gb24, gl24, cl24, HG24⟩ := Kd.qdE HO320.out (by omega); (first | cases eo24 | (injection eo24 with ea_ en_ ec_; (first | subst ea_ | (injection ea_ with ea_; subst ea_)); subst ec_; clear en_)); have GB24 := aM gb24; have GG24 := aM HG24; clear gb24 gl24 HG24; obtain ⟨hx24_0, hf24_0⟩ := Kd.qNE false HO320.out (t321 : Int) p24 q24; replace p24 := eq_true p24; replace q24 := eq_true q24; have n_ := aM (Kd.qa (ok' := (fun k_ => (w.heap.size ≤ k_))) HO320.out (fun k_ hk => hk.1)); clear HO320; have HO320 := n_; clear n_; obtain ⟨hy30_, hz30_⟩ := Kd.qNE false HO320.out (t321 : Int) (of_decide_eq_true am) (of_decide_eq_true am); have HP30 := Kd.R_putg HO320.out (t321 : Int) true) | ((with_reducible refine qBC (t := 4) (p := 46) rfl ?_); refine qEC (t := 4) (p := 46) (v := ?vo_w31) (w1 := (w29.setCell ⟨go24, (t321 : Int).toNat, none⟩ (.bool true))) ?hg ?ho ?hn ?hr ?_; (case ho => rfl); (case hg => rfl); (case hn => rfl); (case hr => exact gS); intro w31 hw; have hg : w29.grownBy w31 (some go24) := (by rw [hw]; exact HP30.2); have hp_ : Kd.R Kd.bool 4 w31 w.heap.size (fun k_ => (w.heap.size ≤ k_)) (.slice (some ⟨go24, 0, none⟩) y318.length co24) y322 := (by rw [hw, Ny322.out]; exact HP30.1); clear HP30; replace HO_1 := aM (Kd.qaD (v := (.slice (some ⟨go24, 0, none⟩) y318.length co24)) (v1 := (.slice (some ⟨go24, 0, none⟩) y318.length co24)) (ok := (fun k_ => (P1_ k_ ∨ w.heap.size ≤ k_) ∧ some k_ ≠ (.slice Ao28 x6_1.length co28 : Value).ownBlock ∧ k_ ≠ gb309)) (rV HO_1) hg (.inl rfl)); replace HO_6 := aM (Kd.qdD (v := (.slice (some ⟨go24, 0, none⟩) y318.length co24)) (v1 := (.slice (some ⟨go24, 0, none⟩) y318.length co24)) (ok := (fun k_ => (P1_ k_ ∨ w.heap.size ≤ k_) ∧ k_ ≠ gb309)) (rN HO_6) hg (.inl rfl)); replace BK309 := aM (qp (rB BK309) hg (Kd.R_ne HO320.out BK309.out (by decide))); replace HO320 := aM (hp_); replace HB := aM ((by rw [hw]; exact qEA (HB.out) GB24.out : Below w.heap.size w w31)); clear hg hw hp_) | ((with_reducible refine qJ (N := 49) rfl ?_); refine Kd.N_lit k48 _ 48 ?hg (N' := 49) ?hd (xs := ([(⟨l1, (-1), (⟨#[]⟩ : ByteArray)⟩ : S48)] : List (S48))) (inner := [.slice A1 l1.length c1, .int .i64 (-1), .string (⟨#[]⟩ : ByteArray)]) (ok := (fun k_ => (P1_ k_ ∨ w.heap.size ≤ k_) ∧ some k_ ≠ (.slice Ao28 x6_1.length co28 : Value).ownBlock ∧ some k_ ≠ (.slice (some ⟨go24, 0, none⟩) y318.length co24 : Value).ownBlock ∧ k_ ≠ gb309)) (okp := (fun k_ => (P1_ k_ ∨ w.heap.size ≤ k_) ∧ some k_ ≠ (.slice Ao28 x6_1.length co28 : Value).ownBlock ∧ some k_ ≠ (.slice (some ⟨go24, 0, none⟩) y318.length co24 : Value).ownBlock ∧ k_ ≠ gb309)) ?hr ?hp (fun _ hk => hk) ((show ∀ k_, w31.heap.size ≤ k_ → (fun k_ => (P1_ k_ ∨ w.heap.size ≤ k_) ∧ some k_ ≠ (.slice Ao28 x6_1.length co28 : Value).ownBlock ∧ some k_ ≠ (.slice (some ⟨go24, 0, none⟩) y318.length co24 : Value).ownBlock ∧ k_ ≠ gb309) k_ from fun k_ hk => ⟨(.inr (Nat.le_trans (qL bl) hk)), Kd.fresh' (Kd.N_lt (rN HO_6)) k_ hk, Kd.fresh' (Kd.R_lt (rR HO320)) k_ hk, Kd.freshB (rB BK309) k_ hk⟩) _ (Nat.le_refl _)) (Below.refl _ _) (Nat.le_refl _) (by simp) ?_; (case hd => rfl); (case hg => rfl); (case hr => exact gS); (case hp => exact (Reps.c3 (show Kd.FK k48 _ _ (⟨l1, (-1), (⟨#[]⟩ : ByteArray)⟩ : S48) [.slice A1 l1.length c1, .int .i64 (-1), .string (⟨#[]⟩ : ByteArray)] from (k48_mkF _ _ (⟨l1, (-1), (⟨#[]⟩ : ByteArray)⟩ : S48) (Kd.qcC (Kd.qhB (ok' := (fun k_ => (P1_ k_ ∨ w.heap.size ≤ k_) ∧ some k_ ≠ (.slice Ao28 x6_1.length co28 : Value).ownBlock ∧ some k_ ≠ (.slice (some ⟨go24, 0, none⟩) y318.length co24 : Value).ownBlock ∧ k_ ≠ gb309)) (HO_1.out) (fun k_ hk => ⟨hk.1.1, ⟨hk.1.2.1, ⟨hk.2, hk.1.2.2⟩⟩⟩))).2.1 (Kd.V_F (Kd.qhB (ok' := (fun k_ => (P1_ k_ ∨ w.heap.size ≤ k_) ∧ some k_ ≠ (.slice Ao28 x6_1.length co28 : Value).ownBlock ∧ some k_ ≠ (.slice (some ⟨go24, 0, none⟩) y318.length co24 : Value).ownBlock ∧ k_ ≠ gb309)) (HO_1.out) (fun k_ hk => ⟨hk.1.1, ⟨hk.1.2.1, ⟨hk.2, hk.1.2.2⟩⟩⟩))))) (Reps.none _ _))); intro v324 w32 ho33 hb hg_ hnew_; clear hg_ hnew_; (first | rw [← Ny323.out] at ho33 | (simp only [Int.reduceToNat] at ho33; rw [← Ny323.out] at ho33)); have HO325 := aM (Kd.qXE ho33 (qL bl)); replace HO_1 := aM (Kd.qMD (rV HO_1) (Kd.N_base ho33) hb); replace HO_6 := aM (Kd.qND (rN HO_6) (Kd.N_base ho33) hb); replace HO320 := aM (Kd.qZ (rR HO320) hb); replace BK309 := aM (bb BK309 hb); replace HB := aM (qB bl hb); clear hb ho33))
         go_loopg [11, 12] k1 (fun kq v11 v12 w' => ∃ (x11_2 : List (S48)) (x12_2 : Int) (x40_2 : List Bool), v12 = .int .i64 x12_2 ∧ Aside0 (qP.l1 kq l1 x6_1 x11_2 x12_2 x40_2 a0_0 a0_1 l0_2 = some (r1, r2)) ∧ Aside0 (kq ≤ k1) ∧ Aside0 (Kd.V k53 53 w' w.heap.size (fun k_ => (P1_ k_ ∨ w.heap.size ≤ k_) ∧ some k_ ≠ ((.slice Ao28 x6_1.length co28) : Value).ownBlock ∧ some k_ ≠ (v11 : Value).ownBlock ∧ some k_ ≠ ((.slice (some ⟨go24, 0, none⟩) y318.length co24) : Value).ownBlock ∧ k_ ≠ gb309) (.slice A1 l1.length c1) l1) ∧ Aside0 (Kd.N (Kd.slice 3 (Kd.int .i64)) 69 w' w.heap.size (fun k_ => (P1_ k_ ∨ w.heap.size ≤ k_) ∧ some k_ ≠ (v11 : Value).ownBlock ∧ some k_ ≠ ((.slice (some ⟨go24, 0, none⟩) y318.length co24) : Value).ownBlock ∧ k_ ≠ gb309) (.slice Ao28 x6_1.length co28) x6_1) ∧ Aside0 (Kd.N k48 48 w' w.heap.size (fun k_ => (P1_ k_ ∨ w.heap.size ≤ k_) ∧ some k_ ≠ ((.slice Ao28 x6_1.length co28) : Value).ownBlock ∧ some k_ ≠ ((.slice (some ⟨go24, 0, none⟩) y318.length co24) : Value).ownBlock ∧ k_ ≠ gb309) v11 x11_2) ∧ Aside0 (Kd.R Kd.bool 4 w' w.heap.size (fun k_ => (w.heap.size ≤ k_)) (.slice (some ⟨go24, 0, none⟩) y318.length co24) x40_2) ∧ Aside0 (w'.heap[gb309]? = some (.cells #[.int .i64 a0_0, .int .i64 a0_1, (.slice A0_2 l0_2.length c0_2)] 40 (0, 0))) ∧ Aside0 (Below w.heap.size w w'))
         case atStart => exact ⟨(y323), (0), (y322), sD, H', ⟨Nat.le_refl _⟩, ⟨by (with_reducible repeat (first | apply Kd.qUB | apply Kd.qTB | apply Kd.qqB)); exact Kd.qhB HO_1.out (fun _ hk => ⟨hk.1.1.1, ⟨hk.1.1.2.1, ⟨hk.2, ⟨hk.1.2, hk.1.1.2.2⟩⟩⟩⟩)⟩, ⟨by (with_reducible repeat (first | apply Kd.qrA | apply Kd.qqA | apply Kd.qEB)); exact Kd.qLB HO_6.out (fun _ hk => ⟨hk.1.1.1, ⟨hk.2, ⟨hk.1.2, hk.1.1.2⟩⟩⟩)⟩, ⟨rN HO325⟩, ⟨rR HO320⟩, ⟨rB BK309⟩, ⟨bl⟩⟩
         case round =>
          clear H'; (try clear c1); (try clear c2); (try clear p2); (try clear q2); (try clear hx2); (try clear hf2); (try clear c3); (try clear c3b0); (try clear c3b1); (try clear p3); (try clear q3); (try clear hx3); (try clear c4); (try clear c6); (try clear c6b0); (try clear p6); (try clear c7); (try clear c7b0); (try clear c8); (try clear c8b0); (try clear c10); (try clear c12); (try clear c19); (try clear c19b0); (try clear c19b1); (try clear c20); (try clear c20b0); (try clear c20b1); (try clear c22); (try clear c22b0); (try clear c23); (try clear c23b0); (try clear p24); (try clear q24); (try clear hx24); (try clear hf24); (try clear p31); (try clear q31); (try clear hx31); (try clear hcz13_0); (try clear hcz13_1); (try clear hcz13_2); (try clear hcz13_3); (try clear hcz13_4); (try clear hcz13_5); (try clear hcz13_6); (try clear hcz13_7); (try clear hcz14_0); (try clear hcz14_1); (try clear hcz14_2); (try clear hcz18_0); (try clear hcz18_1); (try clear hcz18_2); (try clear hcz27_0); (try clear hcz27_1); (try clear hcz27_2); (try clear hfz13_0); (try clear hfz13_1); (try clear hfz13_2); (try clear hfz13_3); (try clear hfz13_4); (try clear hfz13_5); (try clear hfz13_6); (try clear hfz13_7); (try clear hfz14_0); (try clear hfz14_1); (try clear hfz14_2); (try clear hfz18_0); (try clear hfz18_1); (try clear hfz18_2); (try clear hfz27_0); (try clear hfz27_1); (try clear hfz27_2); (try clear hx24_0); (try clear hx310_0); (try clear hx310_1); (try clear hx310_2); (try clear hx310_3); (try clear hx310_4); (try clear hx310_5); (try clear hx310_6); (try clear hx310_7); (try clear p2); (try clear p24); (try clear p310); (try clear q24); (try clear q310)
          obtain ⟨x11_2, x12_2, x40_2, rfl, HA, HK2, HO_1, HO_6, HO_11, HO_40, BK309, HB⟩ := hrel
          have hl40_2 := (Kd.qM HO_40.out).1
          rw [hl40_2] at HO_40
          (try simp only [hl40_2])
          (try simp only [hl40_2] at BK309)
          (try simp only [hl40_2] at HO_1)
          (try simp only [hl40_2] at HO_6)
          (try simp only [hl40_2] at HO_11)
          cases gk with
          | zero => exact absurd HA.out (by simp [qP.l1])
          | succ k2 =>
           have H := HA.out
           clear HA
           simp only [qP.l1] at H
           by_cases c34 : x12_2 < (x11_2.length : Int)
           ·rw [if_pos c34] at H
            have c34b0 := decide_eq_true c34
            (try (have c34b0_hl40_2 := c34b0; simp only [hl40_2] at c34b0_hl40_2))
            clear c34
            have H' := aM H
            clear H
            obtain ⟨Ao35, co35, eo35⟩ := Kd.qsD HO_11.out
            subst eo35
            go_wp2
            go_loopg [11, 58] k2 (fun kq v11 v58 w' => ∃ (x11_3 : List (S48)) (x40_3 : List Bool) (x58_3 : Int), v58 = .int .i64 x58_3 ∧ Aside0 (qP.l2 kq l1 x6_1 x11_3 x12_2 x40_3 (l1.length : Int) x58_3 a0_0 a0_1 l0_2 = some (r1, r2)) ∧ Aside0 (kq ≤ k2) ∧ Aside0 (Kd.V k53 53 w' w.heap.size (fun k_ => (P1_ k_ ∨ w.heap.size ≤ k_) ∧ some k_ ≠ ((.slice Ao28 x6_1.length co28) : Value).ownBlock ∧ some k_ ≠ (v11 : Value).ownBlock ∧ some k_ ≠ ((.slice (some ⟨go24, 0, none⟩) x40_2.length co24) : Value).ownBlock ∧ k_ ≠ gb309) (.slice A1 l1.length c1) l1) ∧ Aside0 (Kd.N (Kd.slice 3 (Kd.int .i64)) 69 w' w.heap.size (fun k_ => (P1_ k_ ∨ w.heap.size ≤ k_) ∧ some k_ ≠ (v11 : Value).ownBlock ∧ some k_ ≠ ((.slice (some ⟨go24, 0, none⟩) x40_2.length co24) : Value).ownBlock ∧ k_ ≠ gb309) (.slice Ao28 x6_1.length co28) x6_1) ∧ Aside0 (Kd.N k48 48 w' w.heap.size (fun k_ => (P1_ k_ ∨ w.heap.size ≤ k_) ∧ some k_ ≠ ((.slice Ao28 x6_1.length co28) : Value).ownBlock ∧ some k_ ≠ ((.slice (some ⟨go24, 0, none⟩) x40_2.length co24) : Value).ownBlock ∧ k_ ≠ gb309) v11 x11_3) ∧ Aside0 (Kd.R Kd.bool 4 w' w.heap.size (fun k_ => (w.heap.size ≤ k_)) (.slice (some ⟨go24, 0, none⟩) x40_2.length co24) x40_3) ∧ Aside0 (w'.heap[gb309]? = some (.cells #[.int .i64 a0_0, .int .i64 a0_1, (.slice A0_2 l0_2.length c0_2)] 40 (0, 0))) ∧ Aside0 (Below w.heap.size w w'))
            case atStart => exact ⟨(x11_2), (x40_2), (0), sD, H', ⟨Nat.le_refl _⟩, ⟨by (try simp only [hl40_2]); (with_reducible repeat (first | apply Kd.qUB | apply Kd.qTB | apply Kd.qqB)); exact HO_1.out⟩, ⟨by (try simp only [hl40_2]); (with_reducible repeat (first | apply Kd.qrA | apply Kd.qqA | apply Kd.qEB)); exact HO_6.out⟩, ⟨by (try simp only [hl40_2]); (with_reducible repeat (first | apply Kd.qrA | apply Kd.qqA | apply Kd.qEB)); exact HO_11.out⟩, ⟨by (try simp only [hl40_2]); (with_reducible repeat (first | apply Kd.qQ | apply Kd.qU | apply Kd.qV)); exact HO_40.out⟩, ⟨by (try simp only [hl40_2]); (with_reducible repeat (first | refine qH ?_ _ | refine qE ?_ | refine qG ?_ _)); exact BK309.out⟩, ⟨bl⟩⟩
            case round =>
             clear H'; (try clear c1); (try clear c2); (try clear p2); (try clear q2); (try clear hx2); (try clear hf2); (try clear c3); (try clear c3b0); (try clear c3b1); (try clear p3); (try clear q3); (try clear hx3); (try clear c4); (try clear c6); (try clear c6b0); (try clear p6); (try clear c7); (try clear c7b0); (try clear c8); (try clear c8b0); (try clear c10); (try clear c12); (try clear c19); (try clear c19b0); (try clear c19b1); (try clear c20); (try clear c20b0); (try clear c20b1); (try clear c22); (try clear c22b0); (try clear c23); (try clear c23b0); (try clear p24); (try clear q24); (try clear hx24); (try clear hf24); (try clear p31); (try clear q31); (try clear hx31); (try clear c34); (try clear c34b0); (try clear hcz13_0); (try clear hcz13_1); (try clear hcz13_2); (try clear hcz13_3); (try clear hcz13_4); (try clear hcz13_5); (try clear hcz13_6); (try clear hcz13_7); (try clear hcz14_0); (try clear hcz14_1); (try clear hcz14_2); (try clear hcz18_0); (try clear hcz18_1); (try clear hcz18_2); (try clear hcz27_0); (try clear hcz27_1); (try clear hcz27_2); (try clear hfz13_0); (try clear hfz13_1); (try clear hfz13_2); (try clear hfz13_3); (try clear hfz13_4); (try clear hfz13_5); (try clear hfz13_6); (try clear hfz13_7); (try clear hfz14_0); (try clear hfz14_1); (try clear hfz14_2); (try clear hfz18_0); (try clear hfz18_1); (try clear hfz18_2); (try clear hfz27_0); (try clear hfz27_1); (try clear hfz27_2); (try clear hx24_0); (try clear hx310_0); (try clear hx310_1); (try clear hx310_2); (try clear hx310_3); (try clear hx310_4); (try clear hx310_5); (try clear hx310_6); (try clear hx310_7); (try clear p2); (try clear p24); (try clear p3); (try clear p31); (try clear p310); (try clear p6); (try clear q2); (try clear q24); (try clear q3); (try clear q31); (try clear q310)
             obtain ⟨x11_3, x40_3, x58_3, rfl, HA, HK3, HO_1, HO_6, HO_11, HO_40, BK309, HB⟩ := hrel
             have hl40_3 := (Kd.qM HO_40.out).1
             rw [hl40_3] at HO_40
             (try simp only [hl40_3])
             (try simp only [hl40_3] at BK309)
             (try simp only [hl40_3] at HO_1)
             (try simp only [hl40_3] at HO_6)
             (try simp only [hl40_3] at HO_11)
             cases gk with
             | zero => exact absurd HA.out (by simp [qP.l2])
             | succ k3 =>
              have H := HA.out
              clear HA
              simp only [qP.l2] at H
              by_cases c36 : x58_3 < (l1.length : Int)
              ·rw [if_pos c36] at H
               have c36b0 := decide_eq_true c36
               (try (have c36b0_hl40_2 := c36b0; simp only [hl40_2] at c36b0_hl40_2))
               (try (have c36b0_hl40_3 := c36b0; simp only [hl40_3] at c36b0_hl40_3))
               clear c36
               have H' := aM H
               clear H
               go_wp2
               go_loopg [11, 14] k3 (fun kq v11 v14 w' => ∃ (x11_4 : List (S48)) (x14_4 : Int) (x40_4 : List Bool), v14 = .int .i64 x14_4 ∧ Aside0 (qP.l3 kq l1 x6_1 x11_4 x12_2 x58_3 x14_4 x40_4 (l1.length : Int) x58_3 a0_0 a0_1 l0_2 = some (r1, r2)) ∧ Aside0 (kq ≤ k3) ∧ Aside0 (Kd.V k53 53 w' w.heap.size (fun k_ => (P1_ k_ ∨ w.heap.size ≤ k_) ∧ some k_ ≠ ((.slice Ao28 x6_1.length co28) : Value).ownBlock ∧ some k_ ≠ (v11 : Value).ownBlock ∧ some k_ ≠ ((.slice (some ⟨go24, 0, none⟩) x40_3.length co24) : Value).ownBlock ∧ k_ ≠ gb309) (.slice A1 l1.length c1) l1) ∧ Aside0 (Kd.N (Kd.slice 3 (Kd.int .i64)) 69 w' w.heap.size (fun k_ => (P1_ k_ ∨ w.heap.size ≤ k_) ∧ some k_ ≠ (v11 : Value).ownBlock ∧ some k_ ≠ ((.slice (some ⟨go24, 0, none⟩) x40_3.length co24) : Value).ownBlock ∧ k_ ≠ gb309) (.slice Ao28 x6_1.length co28) x6_1) ∧ Aside0 (Kd.N k48 48 w' w.heap.size (fun k_ => (P1_ k_ ∨ w.heap.size ≤ k_) ∧ some k_ ≠ ((.slice Ao28 x6_1.length co28) : Value).ownBlock ∧ some k_ ≠ ((.slice (some ⟨go24, 0, none⟩) x40_3.length co24) : Value).ownBlock ∧ k_ ≠ gb309) v11 x11_4) ∧ Aside0 (Kd.R Kd.bool 4 w' w.heap.size (fun k_ => (w.heap.size ≤ k_)) (.slice (some ⟨go24, 0, none⟩) x40_3.length co24) x40_4) ∧ Aside0 (w'.heap[gb309]? = some (.cells #[.int .i64 a0_0, .int .i64 a0_1, (.slice A0_2 l0_2.length c0_2)] 40 (0, 0))) ∧ Aside0 (Below w.heap.size w w'))
               case atStart => exact ⟨(x11_3), (0), (x40_3), sD, H', ⟨Nat.le_refl _⟩, ⟨by (try simp only [hl40_2]); (try simp only [hl40_3]); (with_reducible repeat (first | apply Kd.qUB | apply Kd.qTB | apply Kd.qqB)); exact HO_1.out⟩, ⟨by (try simp only [hl40_2]); (try simp only [hl40_3]); (with_reducible repeat (first | apply Kd.qrA | apply Kd.qqA | apply Kd.qEB)); exact HO_6.out⟩, ⟨by (try simp only [hl40_2]); (try simp only [hl40_3]); (with_reducible repeat (first | apply Kd.qrA | apply Kd.qqA | apply Kd.qEB)); exact HO_11.out⟩, ⟨by (try simp only [hl40_2]); (try simp only [hl40_3]); (with_reducible repeat (first | apply Kd.qQ | apply Kd.qU | apply Kd.qV)); exact HO_40.out⟩, ⟨by (try simp only [hl40_2]); (try simp only [hl40_3]); (with_reducible repeat (first | refine qH ?_ _ | refine qE ?_ | refine qG ?_ _)); exact BK309.out⟩, ⟨bl⟩⟩
               case round =>
                clear H'; (try clear c1); (try clear c2); (try clear p2); (try clear q2); (try clear hx2); (try clear hf2); (try clear c3); (try clear c3b0); (try clear c3b1); (try clear p3); (try clear q3); (try clear hx3); (try clear c4); (try clear c6); (try clear c6b0); (try clear p6); (try clear c7); (try clear c7b0); (try clear c8); (try clear c8b0); (try clear c10); (try clear c12); (try clear c19); (try clear c19b0); (try clear c19b1); (try clear c20); (try clear c20b0); (try clear c20b1); (try clear c22); (try clear c22b0); (try clear c23); (try clear c23b0); (try clear p24); (try clear q24); (try clear hx24); (try clear hf24); (try clear p31); (try clear q31); (try clear hx31); (try clear c34); (try clear c34b0); (try clear c36); (try clear c36b0); (try clear hcz13_0); (try clear hcz13_1); (try clear hcz13_2); (try clear hcz13_3); (try clear hcz13_4); (try clear hcz13_5); (try clear hcz13_6); (try clear hcz13_7); (try clear hcz14_0); (try clear hcz14_1); (try clear hcz14_2); (try clear hcz18_0); (try clear hcz18_1); (try clear hcz18_2); (try clear hcz27_0); (try clear hcz27_1); (try clear hcz27_2); (try clear hfz13_0); (try clear hfz13_1); (try clear hfz13_2); (try clear hfz13_3); (try clear hfz13_4); (try clear hfz13_5); (try clear hfz13_6); (try clear hfz13_7); (try clear hfz14_0); (try clear hfz14_1); (try clear hfz14_2); (try clear hfz18_0); (try clear hfz18_1); (try clear hfz18_2); (try clear hfz27_0); (try clear hfz27_1); (try clear hfz27_2); (try clear hx24_0); (try clear hx310_0); (try clear hx310_1); (try clear hx310_2); (try clear hx310_3); (try clear hx310_4); (try clear hx310_5); (try clear hx310_6); (try clear hx310_7); (try clear p2); (try clear p24); (try clear p3); (try clear p31); (try clear p310); (try clear p6); (try clear q2); (try clear q24); (try clear q3); (try clear q31); (try clear q310)
                obtain ⟨x11_4, x14_4, x40_4, rfl, HA, HK4, HO_1, HO_6, HO_11, HO_40, BK309, HB⟩ := hrel
                have hl40_4 := (Kd.qM HO_40.out).1
                rw [hl40_4] at HO_40
                (try simp only [hl40_4])
                (try simp only [hl40_4] at BK309)
                (try simp only [hl40_4] at HO_1)
                (try simp only [hl40_4] at HO_6)
                (try simp only [hl40_4] at HO_11)
                cases gk with
                | zero => exact absurd HA.out (by simp [qP.l3])
                | succ k4 =>
                 have H := HA.out
                 clear HA
                 simp only [qP.l3] at H
                 by_cases c37 : x14_4 < 4
                 ·rw [if_pos c37] at H
                  have c37b0 := decide_eq_true c37
                  clear c37
                  by_cases c38 : 0 ≤ x12_2
                  ·rw [if_pos c38] at H
                   have c38b0 := decide_eq_true c38
                   clear c38
                   by_cases c39 : x12_2 < (x11_4.length : Int)
                   ·rw [if_pos c39] at H
                    have c39b0 := decide_eq_true c39
                    (try (have c39b0_hl40_2 := c39b0; simp only [hl40_2] at c39b0_hl40_2))
                    (try (have c39b0_hl40_3 := c39b0; simp only [hl40_3] at c39b0_hl40_3))
                    (try (have c39b0_hl40_4 := c39b0; simp only [hl40_4] at c39b0_hl40_4))
                    clear c39
                    replace H := bO H
                    obtain ⟨⟨t327, t330⟩, A40, H⟩ := H
                    dsimp only at H A40
                    have HC41 := aM H
                    clear H
                    try go_wp2
                    replace HO_1 := aM (Kd.qqB HO_1.out)
                    replace HO_6 := aM (Kd.qEB HO_6.out)
                    replace HO_11 := aM (Kd.qEB HO_11.out)
                    replace HO_40 := aM (Kd.qV HO_40.out)
                    replace BK309 := aM (qE BK309.out)
                    replace HB := aM (qx HB.out)
                    obtain ⟨Ao43, co43, eo43⟩ := Kd.qsD HO_11.out
                    (first | subst eo43 | (injection eo43 with f1_ f2_ f3_; have f4_ := f1_.symm; have f5_ := f3_.symm; clear f1_ f2_ f3_; subst f4_; subst f5_))
                    have p326 : 0 ≤ (x12_2 : Int) := of_decide_eq_true am
                    have q326 : x12_2 < (x11_4.length : Int) := of_decide_eq_true am
                    obtain ⟨ad326, A326_0, c326_0, e326, hx326_0, hx326_1, hx326_2, hl326_0, hi326_0⟩ := qXD (Kd.qFB HO_11.out).2.2 x12_2 p326 q326
                    cases e326
                    obtain ⟨ce326, hce326, hMe326, hcc326⟩ := Kd.N_get HO_11.out z48 x12_2 p326 (by first | exact q326 | exact of_decide_eq_true am | (have e_ := (Kd.qFB HO_11.out).1; omega))
                    obtain ⟨ua326_0, uc326_0, rfl, ul326_0, ge326_0⟩ := qKD hMe326
                    have hv326_0 := hcc326 0 _ rfl
                    rw [Nat.add_zero] at hv326_0
                    replace hv326_0 := Option.some.inj (hv326_0.symm.trans hx326_0)
                    injection hv326_0 with hva_ hvn_ hvc_
                    rw [hva_] at ge326_0
                    rw [hvc_] at ul326_0
                    have HL326_0 := aM (show Kd.V k53 53 _ w.heap.size _ _ ((qKA x11_4 x12_2).f0) from Kd.V_mk ul326_0 ge326_0)
                    clear hva_ hvn_ hvc_ ge326_0 ul326_0 hcc326 hce326
                    have HR326_0 := aM hi326_0
                    have HC326_0 := aM hl326_0
                    clear hi326_0 hl326_0
                    replace p326 := eq_true p326
                    replace q326 := eq_true q326
                    refine qOB (n := 14) (S := fun w' => w'.cell? ⟨gb309, 0, none⟩ = some (.int .i64 a0_0) ∧ w'.cell? ⟨gb309, 1, none⟩ = some (.int .i64 a0_1) ∧ w'.cell? ⟨gb309, 2, none⟩ = some (.slice A0_2 l0_2.length c0_2) ∧ w'.cell? (ad326.add ((x12_2).toNat * 3)) = some (.slice A326_0 ((qKA x11_4 x12_2).f0).length c326_0) ∧ w'.cell? ⟨(ad326.add ((x12_2).toNat * 3)).block, (ad326.add ((x12_2).toNat * 3)).off + 1, none⟩ = some (.int .i64 ((qKA x11_4 x12_2).f1)) ∧ w'.cell? ⟨(ad326.add ((x12_2).toNat * 3)).block, (ad326.add ((x12_2).toNat * 3)).off + 2, none⟩ = some (.string ((qKA x11_4 x12_2).f2))) (ds := []) #[false, false, false, false, false, false, false, false, false, false, false, false, false, false] (by kernel_rfl) rfl rfl ⟨bc BK309 0, bc BK309 1, bc BK309 2, hx326_0, hx326_1, hx326_2⟩ (fun hHeld => ?_); refine qSA qP.tab23 qP.bits23 (fun HT_ HW_ => ?_)
                    generalize wr.drew = w42 at HO_1 HO_6 HO_11 HO_40 BK309 HB HL326_0 HR326_0 hx326_0 hx326_1 hx326_2 hHeld ⊢
                    refine pS (i := 1) (N := some 67) #[false, true, false, false, false, false, false, false, false, false, false, false, false, false] HT_ ?_
                    refine pS (i := 2) (N := some 68) #[false, true, true, false, false, false, false, false, false, false, false, false, false, false] HT_ ?_
                    refine pS (i := 3) (N := some 69) #[false, true, true, true, false, false, false, false, false, false, false, false, false, false] HT_ ?_
                    refine pS (i := 4) (N := some 70) #[false, true, true, true, true, false, false, false, false, false, false, false, false, false] HT_ ?_
                    refine pS (i := 6) (N := some 72) #[false, true, true, true, true, false, true, false, false, false, false, false, false, false] HT_ ?_
                    refine pS (i := 7) (N := some 73) #[false, true, true, true, true, false, true, true, false, false, false, false, false, false] HT_ ?_
                    refine tS (i := 0) (N := some 66) #[true, true, true, true, true, false, true, true, false, false, false, false, false, false] HT_ HW_ hHeld ?_
                    refine tS (i := 5) (N := some 71) #[true, true, true, true, true, true, true, true, false, false, false, false, false, false] HT_ HW_ hHeld ?_
                    refine one_ (i := 8) (N := some 74) #[true, true, true, true, true, true, true, true, true, false, false, false, false, false] rfl rfl (qdA HT_.out (by kernel_rfl)) (by decide) (fun K hK => ?_)
                    refine goes_ Tryz.func47 (by kernel_rfl) rfl #[.agg #[.int .i64 a0_0, .int .i64 a0_1, .slice A0_2 l0_2.length c0_2], .slice A326_0 ((qKA x11_4 x12_2).f0).length c326_0, .int .i64 x58_3, .int .i64 x14_4] (by rfl) rfl rfl gA ?_
                    with_reducible refine (qQA.calls k4 a0_0 a0_1 _ _ l0_2 _ _ ((qKA x11_4 x12_2).f0) x58_3 x14_4 t327 t330 _ ?side1 ?side2 ?side3 ?side4 A40.out).mono ?_
                    (case side1 => repeat (first | exact (Kd.qY HR0_2.out HB.out) | (with_reducible refine Kd.qS ?_ _) | (with_reducible refine Kd.qR ?_ _) | (with_reducible refine Kd.qe ?_)))
                    (case side2 => exact HC0_2.out)
                    (case side3 => repeat (first | exact (by repeat (first | (with_reducible exact HR326_0.out) | (with_reducible refine Kd.qS ?_ _) | (with_reducible refine Kd.qR ?_ _) | (with_reducible refine Kd.qe ?_) | exact HR326_0.out)) | (with_reducible refine Kd.qS ?_ _) | (with_reducible refine Kd.qR ?_ _) | (with_reducible refine Kd.qe ?_)))
                    (case side4 => exact HC326_0.out)
                    rintro e w44 ⟨v328, rfl, ho0, hb⟩
                    have HS3_ := (hb.cell (World.block_lt_of_cell? _ _ (hHeld.2.2.2.1))).trans (hHeld.2.2.2.1)
                    have HS4_ := (hb.cell (World.block_lt_of_cell? _ _ (hHeld.2.2.2.2.1))).trans (hHeld.2.2.2.2.1)
                    have HS5_ := (hb.cell (World.block_lt_of_cell? _ _ (hHeld.2.2.2.2.2))).trans (hHeld.2.2.2.2.2)
                    refine ⟨_, rfl, ?_⟩
                    have HO329 := aM (Kd.qAA (Kd.qhE (M := fun k_ => (w.heap.size ≤ k_)) ho0 (qL bl) (fun k_ h_ => h_)) (qL bl))
                    replace HO_1 := aM (Kd.qMD (rV HO_1) (Kd.qMA ho0) hb)
                    replace HO_6 := aM (Kd.qND (rN HO_6) (Kd.qMA ho0) hb)
                    replace HO_11 := aM (Kd.qND (rN HO_11) (Kd.qMA ho0) hb)
                    replace HO_40 := aM (Kd.qZ (rR HO_40) hb)
                    replace HL326_0 := aM (Kd.qMD (rV HL326_0) (Kd.qMA ho0) hb)
                    replace BK309 := aM (bb BK309 hb)
                    replace HR326_0 := aM (Kd.qY (by repeat (first | (with_reducible exact HR326_0.out) | (with_reducible refine Kd.qS ?_ _) | (with_reducible refine Kd.qR ?_ _) | (with_reducible refine Kd.qe ?_) | exact HR326_0.out)) hb)
                    replace HB := aM (qB bl hb); (try clear hb); (try clear hb2); (try clear hk); (try clear hi); (try clear ho0)
                    refine hK.out _ _ ⟨bc BK309 0, bc BK309 1, bc BK309 2, HS3_, HS4_, HS5_⟩ (fun hHeld => ?_)
                    clear hK K
                    refine norm_ (a' := ?_) ?_ ?_
                    rotate_left
                    ·show Act.put _ (some 74) _ = _
                     simp only [Act.put, List.setIfInBounds_toArray, List.set_cons_zero, List.set_cons_succ, i64_w, i32_w]
                     rfl
                    refine pS (i := 9) (N := some 65) #[true, true, true, true, true, true, true, true, true, true, false, false, false, false] HT_ ?_
                    refine pS (i := 10) (N := some 75) #[true, true, true, true, true, true, true, true, true, true, true, false, false, false] HT_ ?_
                    refine pS (i := 11) (N := some 76) #[true, true, true, true, true, true, true, true, true, true, true, true, false, false] HT_ ?_
                    refine pS (i := 12) (N := some 15) #[true, true, true, true, true, true, true, true, true, true, true, true, true, false] HT_ ?_
                    refine pS (i := 13) (N := some 16) #[true, true, true, true, true, true, true, true, true, true, true, true, true, true] HT_ ?_
                    refine done_ (qDB HT_.out (by kernel_rfl)) ?_
                    go_upto_region 24 with (fail)
                    go_cut [87] (fun v87 wc => ∃ (kq : Nat) (x87_40 : Bool), v87 = .bool x87_40 ∧ Aside0 (qP.j4 kq l1 x6_1 x40_4 x11_4 x12_2 x58_3 x14_4 t327 (l1.length : Int) x58_3 x87_40 a0_0 a0_1 l0_2 = some (r1, r2)) ∧ Aside0 (kq ≤ k4) ∧ Aside0 (Kd.V k53 53 wc w.heap.size (fun k_ => (P1_ k_ ∨ w.heap.size ≤ k_) ∧ some k_ ≠ ((.slice Ao28 x6_1.length co28) : Value).ownBlock ∧ some k_ ≠ ((.slice (some ⟨go24, 0, none⟩) x40_4.length co24) : Value).ownBlock ∧ some k_ ≠ ((.slice (some ad326) x11_4.length co43) : Value).ownBlock ∧ some k_ ≠ (v328 : Value).ownBlock ∧ k_ ≠ gb309) (.slice A1 l1.length c1) l1) ∧ Aside0 (Kd.N (Kd.slice 3 (Kd.int .i64)) 69 wc w.heap.size (fun k_ => (P1_ k_ ∨ w.heap.size ≤ k_) ∧ some k_ ≠ ((.slice (some ⟨go24, 0, none⟩) x40_4.length co24) : Value).ownBlock ∧ some k_ ≠ ((.slice (some ad326) x11_4.length co43) : Value).ownBlock ∧ some k_ ≠ (v328 : Value).ownBlock ∧ k_ ≠ gb309) (.slice Ao28 x6_1.length co28) x6_1) ∧ Aside0 (Kd.R Kd.bool 4 wc w.heap.size (fun k_ => (w.heap.size ≤ k_)) (.slice (some ⟨go24, 0, none⟩) x40_4.length co24) x40_4) ∧ Aside0 (Kd.N k48 48 wc w.heap.size (fun k_ => (P1_ k_ ∨ w.heap.size ≤ k_) ∧ some k_ ≠ ((.slice Ao28 x6_1.length co28) : Value).ownBlock ∧ some k_ ≠ ((.slice (some ⟨go24, 0, none⟩) x40_4.length co24) : Value).ownBlock ∧ some k_ ≠ (v328 : Value).ownBlock ∧ k_ ≠ gb309) (.slice (some ad326) x11_4.length co43) x11_4) ∧ Aside0 (Kd.R k53 53 wc w.heap.size (fun k_ => (w.heap.size ≤ k_)) v328 t327) ∧ Aside0 (wc.heap[gb309]? = some (.cells #[.int .i64 a0_0, .int .i64 a0_1, (.slice A0_2 l0_2.length c0_2)] 40 (0, 0))) ∧ Aside0 (Kd.C k53 wc A326_0 ((qKA x11_4 x12_2).f0).length ((qKA x11_4 x12_2).f0)) ∧ Aside0 (Below w.heap.size w wc))
                    case first =>
                     have H := HC41.out
                     clear HC41
                     by_cases c45 : t330 = true
                     ·subst c45
                      replace H := iT H
                      replace H := bO H
                      obtain ⟨t331, A46, H⟩ := H
                      by_cases c47 : 0 ≤ t331
                      ·rw [if_pos c47] at H
                       have c47b0 := decide_eq_true c47
                       clear c47
                       (first | rw [c47b0] | (simp only [i64_w, i32_w]; rw [c47b0]) | skip)
                       by_cases c48 : t331 < (x40_4.length : Int)
                       ·rw [if_pos c48] at H
                        have c48b0 := decide_eq_true c48
                        (try (have c48b0_hl40_2 := c48b0; simp only [hl40_2] at c48b0_hl40_2))
                        (try (have c48b0_hl40_3 := c48b0; simp only [hl40_3] at c48b0_hl40_3))
                        (try (have c48b0_hl40_4 := c48b0; simp only [hl40_4] at c48b0_hl40_4))
                        clear c48
                        have H' := aM H
                        clear H
                        (refine cb3 BK309 ?_; intro hcz49_0 hcz49_1 hcz49_2)
                        (refine cz3 BK309 ?_; intro hfz49_0 hfz49_1 hfz49_2)
                        obtain ⟨Ao50, co50, eo50⟩ := Kd.qFA HO329.out
                        subst eo50
                        go_wp2_with (first | (go_at_call 46; (with_reducible refine (qy.calls k4 a0_0 a0_1 _ _ l0_2 _ _ x6_1 _ _ t327 t331 _ ?side1 ?side2 ?side3 ?side4 ?side5 ?side6 A46.out).mono ?_); (case side1 => repeat (first | exact (Kd.qY HR0_2.out HB.out) | (with_reducible refine Kd.qS ?_ _) | (with_reducible refine Kd.qR ?_ _) | (with_reducible refine Kd.qe ?_))); (case side2 => exact HC0_2.out); (case side3 => repeat (first | exact (Kd.qFB HO_6.out).2.2 | (with_reducible refine Kd.qS ?_ _) | (with_reducible refine Kd.qR ?_ _) | (with_reducible refine Kd.qe ?_))); (case side4 => exact (Kd.qFB HO_6.out).2.1); (case side5 => repeat (first | exact (Kd.qM HO329.out).2.2 | (with_reducible refine Kd.qS ?_ _) | (with_reducible refine Kd.qR ?_ _) | (with_reducible refine Kd.qe ?_))); (case side6 => exact (Kd.qM HO329.out).2.1); rintro e w51 ⟨rfl, hb⟩; replace HO_1 := aM (Kd.qKC (rV HO_1) hb); replace HO_6 := aM (Kd.qmB (rN HO_6) hb); replace HO_11 := aM (Kd.qmB (rN HO_11) hb); replace HO_40 := aM (Kd.qZ (rR HO_40) hb); replace HL326_0 := aM (Kd.qKC (rV HL326_0) hb); replace HO329 := aM (Kd.qZ (rR HO329) hb); replace BK309 := aM (bb BK309 hb); replace HR326_0 := aM (Kd.qY (by repeat (first | (with_reducible exact HR326_0.out) | (with_reducible refine Kd.qS ?_ _) | (with_reducible refine Kd.qR ?_ _) | (with_reducible refine Kd.qe ?_) | exact HR326_0.out)) hb); replace HB := aM (qB bl hb); (try clear hb); (try clear hb2); (try clear hk); (try clear hi); have p332 : 0 ≤ (t331 : Int) := of_decide_eq_true am; have q332 : t331 < (x40_4.length : Int) := of_decide_eq_true am; obtain ⟨ad332, e332, hx332_0⟩ := Kd.at_bool (Kd.qM HO_40.out).2.2 t331 p332 q332; obtain rfl : (⟨go24, 0, none⟩ : Addr) = ad332 := (by injection e332); (first | simp only [qqD] at hx332_0 | simp only [add_at] at hx332_0 | simp only [Addr.add, Nat.zero_add] at hx332_0 | skip); replace p332 := eq_true p332; replace q332 := eq_true q332))
                        go_meet
                        case rel => exact ⟨_, (rdOf false x40_4 t331), sD, H', ⟨by have := HK1.out; have := HK2.out; have := HK3.out; have := HK4.out; first | omega | exact Nat.le_refl _⟩, ⟨by (try simp only [hl40_2]); (try simp only [hl40_3]); (try simp only [hl40_4]); (with_reducible repeat (first | apply Kd.qUB | apply Kd.qTB | apply Kd.qqB)); exact Kd.qhB HO_1.out (fun _ hk => ⟨hk.1.1, ⟨hk.1.2.1, ⟨hk.1.2.2.2.1, ⟨hk.1.2.2.1, ⟨hk.2, hk.1.2.2.2.2⟩⟩⟩⟩⟩)⟩, ⟨by (try simp only [hl40_2]); (try simp only [hl40_3]); (try simp only [hl40_4]); (with_reducible repeat (first | apply Kd.qrA | apply Kd.qqA | apply Kd.qEB)); exact Kd.qLB HO_6.out (fun _ hk => ⟨hk.1.1, ⟨hk.1.2.2.1, ⟨hk.1.2.1, ⟨hk.2, hk.1.2.2.2⟩⟩⟩⟩)⟩, ⟨by (try simp only [hl40_2]); (try simp only [hl40_3]); (try simp only [hl40_4]); (with_reducible repeat (first | apply Kd.qQ | apply Kd.qU | apply Kd.qV)); exact HO_40.out⟩, ⟨by (try simp only [hl40_2]); (try simp only [hl40_3]); (try simp only [hl40_4]); (with_reducible repeat (first | apply Kd.qrA | apply Kd.qqA | apply Kd.qEB)); exact Kd.qLB HO_11.out (fun _ hk => ⟨hk.1.1, ⟨hk.1.2.1, ⟨hk.1.2.2.1, ⟨hk.2, hk.1.2.2.2⟩⟩⟩⟩)⟩, ⟨by (try simp only [hl40_2]); (try simp only [hl40_3]); (try simp only [hl40_4]); (with_reducible repeat (first | apply Kd.qQ | apply Kd.qU | apply Kd.qV)); exact Kd.qa HO329.out (fun _ hk => hk.1)⟩, ⟨by (try simp only [hl40_2]); (try simp only [hl40_3]); (try simp only [hl40_4]); (with_reducible repeat (first | refine qH ?_ _ | refine qE ?_ | refine qG ?_ _)); exact BK309.out⟩, ⟨by repeat (first | (with_reducible exact HR326_0.out) | (with_reducible refine Kd.qS ?_ _) | (with_reducible refine Kd.qR ?_ _) | (with_reducible refine Kd.qe ?_) | exact HR326_0.out)⟩, ⟨bl⟩⟩
                       ·rw [if_neg c48] at H
                        exact absurd H (by simp)
                      ·rw [if_neg c47] at H
                       exact absurd H (by simp)
                     ·replace c45 := Bool.eq_false_iff.mpr c45
                      subst c45
                      replace H := iF H
                      have H' := aM H
                      clear H
                      go_wp2
                      go_meet
                      case rel => exact ⟨_, (true), sD, H', ⟨by have := HK1.out; have := HK2.out; have := HK3.out; have := HK4.out; first | omega | exact Nat.le_refl _⟩, ⟨by (try simp only [hl40_2]); (try simp only [hl40_3]); (try simp only [hl40_4]); (with_reducible repeat (first | apply Kd.qUB | apply Kd.qTB | apply Kd.qqB)); exact Kd.qhB HO_1.out (fun _ hk => ⟨hk.1.1, ⟨hk.1.2.1, ⟨hk.1.2.2.2.1, ⟨hk.1.2.2.1, ⟨hk.2, hk.1.2.2.2.2⟩⟩⟩⟩⟩)⟩, ⟨by (try simp only [hl40_2]); (try simp only [hl40_3]); (try simp only [hl40_4]); (with_reducible repeat (first | apply Kd.qrA | apply Kd.qqA | apply Kd.qEB)); exact Kd.qLB HO_6.out (fun _ hk => ⟨hk.1.1, ⟨hk.1.2.2.1, ⟨hk.1.2.1, ⟨hk.2, hk.1.2.2.2⟩⟩⟩⟩)⟩, ⟨by (try simp only [hl40_2]); (try simp only [hl40_3]); (try simp only [hl40_4]); (with_reducible repeat (first | apply Kd.qQ | apply Kd.qU | apply Kd.qV)); exact HO_40.out⟩, ⟨by (try simp only [hl40_2]); (try simp only [hl40_3]); (try simp only [hl40_4]); (with_reducible repeat (first | apply Kd.qrA | apply Kd.qqA | apply Kd.qEB)); exact Kd.qLB HO_11.out (fun _ hk => ⟨hk.1.1, ⟨hk.1.2.1, ⟨hk.1.2.2.1, ⟨hk.2, hk.1.2.2.2⟩⟩⟩⟩)⟩, ⟨by (try simp only [hl40_2]); (try simp only [hl40_3]); (try simp only [hl40_4]); (with_reducible repeat (first | apply Kd.qQ | apply Kd.qU | apply Kd.qV)); exact Kd.qa HO329.out (fun _ hk => hk.1)⟩, ⟨by (try simp only [hl40_2]); (try simp only [hl40_3]); (try simp only [hl40_4]); (with_reducible repeat (first | refine qH ?_ _ | refine qE ?_ | refine qG ?_ _)); exact BK309.out⟩, ⟨by repeat (first | (with_reducible exact HR326_0.out) | (with_reducible refine Kd.qS ?_ _) | (with_reducible refine Kd.qR ?_ _) | (with_reducible refine Kd.qe ?_) | exact HR326_0.out)⟩, ⟨bl⟩⟩
                    case rest =>
                     clear HC41; (try clear c1); (try clear c2); (try clear p2); (try clear q2); (try clear hx2); (try clear hf2); (try clear c3); (try clear c3b0); (try clear c3b1); (try clear p3); (try clear q3); (try clear hx3); (try clear c4); (try clear c6); (try clear c6b0); (try clear p6); (try clear c7); (try clear c7b0); (try clear c8); (try clear c8b0); (try clear c10); (try clear c12); (try clear c19); (try clear c19b0); (try clear c19b1); (try clear c20); (try clear c20b0); (try clear c20b1); (try clear c22); (try clear c22b0); (try clear c23); (try clear c23b0); (try clear p24); (try clear q24); (try clear hx24); (try clear hf24); (try clear p31); (try clear q31); (try clear hx31); (try clear c32); (try clear p32); (try clear q32); (try clear hx32); (try clear p33); (try clear q33); (try clear hx33); (try clear c34); (try clear c34b0); (try clear c36); (try clear c36b0); (try clear c37); (try clear c37b0); (try clear c38); (try clear c38b0); (try clear c39); (try clear c39b0); (try clear c45); (try clear c47); (try clear c47b0); (try clear c48); (try clear c48b0); (try clear hcz13_0); (try clear hcz13_1); (try clear hcz13_2); (try clear hcz13_3); (try clear hcz13_4); (try clear hcz13_5); (try clear hcz13_6); (try clear hcz13_7); (try clear hcz14_0); (try clear hcz14_1); (try clear hcz14_2); (try clear hcz18_0); (try clear hcz18_1); (try clear hcz18_2); (try clear hcz27_0); (try clear hcz27_1); (try clear hcz27_2); (try clear hcz49_0); (try clear hcz49_1); (try clear hcz49_2); (try clear hfz13_0); (try clear hfz13_1); (try clear hfz13_2); (try clear hfz13_3); (try clear hfz13_4); (try clear hfz13_5); (try clear hfz13_6); (try clear hfz13_7); (try clear hfz14_0); (try clear hfz14_1); (try clear hfz14_2); (try clear hfz18_0); (try clear hfz18_1); (try clear hfz18_2); (try clear hfz27_0); (try clear hfz27_1); (try clear hfz27_2); (try clear hfz49_0); (try clear hfz49_1); (try clear hfz49_2); (try clear hx24_0); (try clear hx310_0); (try clear hx310_1); (try clear hx310_2); (try clear hx310_3); (try clear hx310_4); (try clear hx310_5); (try clear hx310_6); (try clear hx310_7); (try clear hx326_0); (try clear hx326_1); (try clear hx326_2); (try clear hx332_0); (try clear p2); (try clear p24); (try clear p3); (try clear p31); (try clear p310); (try clear p326); (try clear p332); (try clear p6); (try clear q2); (try clear q24); (try clear q3); (try clear q31); (try clear q310); (try clear q326); (try clear q332)
                     obtain ⟨kq, x87_40, rfl, HA, HJ40, HO_1, HO_6, HO_10, HO_11, HO_15, BK309, HR326_0, HB⟩ := hcut
                     cases kq with
                     | zero => exact absurd HA.out (by simp [qP.j4])
                     | succ kj40 =>
                      have H := HA.out
                      clear HA
                      simp only [qP.j4] at H
                      by_cases c52 : x87_40 = true
                      ·subst c52
                       replace H := iT H
                       have H' := aM H
                       clear H
                       go_wp2
                       (try simp only [← hl40_4])
                       go_roundg kj40
                       case measure => have := HK1.out; have := HK2.out; have := HK3.out; have := HK4.out; have := HJ40.out; omega
                       case rel => exact ⟨(x11_4), (wrap64 (x14_4 + 1)), (x40_4), sD, H', ⟨by have := HK1.out; have := HK2.out; have := HK3.out; have := HK4.out; have := HJ40.out; omega⟩, ⟨by (try simp only [hl40_2]); (try simp only [hl40_3]); (try simp only [hl40_4]); (with_reducible repeat (first | apply Kd.qUB | apply Kd.qTB | apply Kd.qqB)); exact Kd.qhB HO_1.out (fun _ hk => ⟨hk.1, ⟨hk.2.1, ⟨hk.2.2.2.1, ⟨hk.2.2.1, hk.2.2.2.2.2⟩⟩⟩⟩)⟩, ⟨by (try simp only [hl40_2]); (try simp only [hl40_3]); (try simp only [hl40_4]); (with_reducible repeat (first | apply Kd.qrA | apply Kd.qqA | apply Kd.qEB)); exact Kd.qLB HO_6.out (fun _ hk => ⟨hk.1, ⟨hk.2.2.1, ⟨hk.2.1, hk.2.2.2.2⟩⟩⟩)⟩, ⟨by (try simp only [hl40_2]); (try simp only [hl40_3]); (try simp only [hl40_4]); (with_reducible repeat (first | apply Kd.qrA | apply Kd.qqA | apply Kd.qEB)); exact Kd.qLB HO_11.out (fun _ hk => ⟨hk.1, ⟨hk.2.1, ⟨hk.2.2.1, hk.2.2.2.2⟩⟩⟩)⟩, ⟨by (try simp only [hl40_2]); (try simp only [hl40_3]); (try simp only [hl40_4]); (with_reducible repeat (first | apply Kd.qQ | apply Kd.qU | apply Kd.qV)); exact HO_10.out⟩, ⟨by (try simp only [hl40_2]); (try simp only [hl40_3]); (try simp only [hl40_4]); (with_reducible repeat (first | refine qH ?_ _ | refine qE ?_ | refine qG ?_ _)); exact BK309.out⟩, ⟨bl⟩⟩
                      ·replace c52 := Bool.eq_false_iff.mpr c52
                       subst c52
                       replace H := iF H
                       by_cases c53 : (x11_4.length : Int) = 6000
                       ·rw [if_pos c53] at H
                        have c53b0 := beq_iff_eq.mpr c53
                        have c53b1 := bne_eq_false_iff_eq.mpr c53
                        clear c53
                        simp only [Option.some.injEq, Prod.mk.injEq] at H
                        obtain ⟨rfl, rfl⟩ := H
                        go_wp2
                        go_ret2
                        exact ⟨_, sR, nK, bl⟩
                       ·rw [if_neg c53] at H
                        have c53b0 := beq_eq_false_iff_ne.mpr c53
                        have c53b1 := bne_iff_ne.mpr c53
                        replace H := bO H
                        obtain ⟨t333, A54, H⟩ := H
                        by_cases c55 : 0 ≤ t333
                        ·rw [if_pos c55] at H
                         have c55b0 := decide_eq_true c55
                         clear c55
                         by_cases c56 : t333 < (x40_4.length : Int)
                         ·rw [if_pos c56] at H
                          have c56b0 := decide_eq_true c56
                          (try (have c56b0_hl40_2 := c56b0; simp only [hl40_2] at c56b0_hl40_2))
                          (try (have c56b0_hl40_3 := c56b0; simp only [hl40_3] at c56b0_hl40_3))
                          (try (have c56b0_hl40_4 := c56b0; simp only [hl40_4] at c56b0_hl40_4))
                          clear c56
                          obtain ⟨y334, hy334⟩ : ∃ y_ : List Bool, y_ = (x40_4.set (t333 : Int).toNat true) := ⟨_, rfl⟩
                          replace H : ((qjB.f kj40 x58_3 x14_4).bind fun t335 => (if x11_4.length < 2932031007402 then (qP.l3 kj40 l1 x6_1 (x11_4 ++ [(⟨t327, x12_2, t335⟩ : S48)]) x12_2 x58_3 (wrap64 (x14_4 + 1)) y334 (l1.length : Int) x58_3 a0_0 a0_1 l0_2) else (none))) = some (r1, r2) := by first | (rw [hy334]; with_reducible exact H) | (have H2_ := (Option.bind_some _ _).symm.trans H; rw [hy334]; with_reducible exact H2_) | (have H2_ := (Option.bind_some _ _).symm.trans H; with_reducible exact H2_) | with_reducible exact H | (rw [hy334]; exact H) | exact H
                          have Ny334 := aM hy334
                          clear hy334
                          replace H := bO H
                          obtain ⟨t335, A58, H⟩ := H
                          by_cases c59 : x11_4.length < 2932031007402
                          ·rw [if_pos c59] at H
                           have LMc59 := aM c59
                           clear c59
                           obtain ⟨y336, hy336⟩ : ∃ y_ : List (S48), y_ = (x11_4 ++ [(⟨t327, x12_2, t335⟩ : S48)]) := ⟨_, rfl⟩
                           replace H : (qP.l3 kj40 l1 x6_1 y336 x12_2 x58_3 (wrap64 (x14_4 + 1)) y334 (l1.length : Int) x58_3 a0_0 a0_1 l0_2) = some (r1, r2) := by first | (rw [hy336]; with_reducible exact H) | (have H2_ := (Option.bind_some _ _).symm.trans H; rw [hy336]; with_reducible exact H2_) | (have H2_ := (Option.bind_some _ _).symm.trans H; with_reducible exact H2_) | with_reducible exact H | (rw [hy336]; exact H) | exact H
                           have Ny336 := aM hy336
                           clear hy336
                           have H' := aM H
                           clear H
                           (refine cb3 BK309 ?_; intro _ _ _)
                           (refine cz3 BK309 ?_; intro _ _ _)
                           obtain ⟨Ao61, co61, eo61⟩ := Kd.qFA HO_15.out
                           subst eo61
                           go_wp2_with (first | ((with_reducible refine qF (f := 46) rfl ?_); refine qn (some 95) rfl rfl Tryz.func46 (by kernel_rfl) rfl #[.agg #[.int .i64 a0_0, .int .i64 a0_1, .slice A0_2 l0_2.length c0_2], .slice Ao28 x6_1.length co28, .slice Ao61 t327.length co61] rfl gA ?_; (with_reducible refine (qy.calls kj40 a0_0 a0_1 _ _ l0_2 _ _ x6_1 _ _ t327 t333 _ ?side1 ?side2 ?side3 ?side4 ?side5 ?side6 A54.out).mono ?_); (case side1 => repeat (first | exact (Kd.qY HR0_2.out HB.out) | (with_reducible refine Kd.qS ?_ _) | (with_reducible refine Kd.qR ?_ _) | (with_reducible refine Kd.qe ?_))); (case side2 => exact HC0_2.out); (case side3 => repeat (first | exact (Kd.qFB HO_6.out).2.2 | (with_reducible refine Kd.qS ?_ _) | (with_reducible refine Kd.qR ?_ _) | (with_reducible refine Kd.qe ?_))); (case side4 => exact (Kd.qFB HO_6.out).2.1); (case side5 => repeat (first | exact (Kd.qM HO_15.out).2.2 | (with_reducible refine Kd.qS ?_ _) | (with_reducible refine Kd.qR ?_ _) | (with_reducible refine Kd.qe ?_))); (case side6 => exact (Kd.qM HO_15.out).2.1); rintro e w62 ⟨rfl, hb⟩; refine ⟨_, rfl, ?_⟩; replace HO_1 := aM (Kd.qKC (rV HO_1) hb); replace HO_6 := aM (Kd.qmB (rN HO_6) hb); replace HO_10 := aM (Kd.qZ (rR HO_10) hb); replace HO_11 := aM (Kd.qmB (rN HO_11) hb); replace HO_15 := aM (Kd.qZ (rR HO_15) hb); replace BK309 := aM (bb BK309 hb); replace HR326_0 := aM (Kd.qY (by repeat (first | (with_reducible exact HR326_0.out) | (with_reducible refine Kd.qS ?_ _) | (with_reducible refine Kd.qR ?_ _) | (with_reducible refine Kd.qe ?_) | exact HR326_0.out)) hb); replace HB := aM (qB bl hb); (try clear hb); (try clear hb2); (try clear hk); (try clear hi); have p57 : 0 ≤ (t333 : Int) := of_decide_eq_true am; have q57 : (t333 : Int) < ((x40_4.length : Int) : Int) := of_decide_eq_true am; obtain ⟨hx57_0, hf57_0⟩ := Kd.qNE false HO_10.out (t333 : Int) p57 q57; replace p57 := eq_true p57; replace q57 := eq_true q57; obtain ⟨hy63_, hz63_⟩ := Kd.qNE false HO_10.out (t333 : Int) (of_decide_eq_true am) (of_decide_eq_true am); have HP63 := Kd.R_putg HO_10.out (t333 : Int) true) | ((with_reducible refine qBC (t := 4) (p := 96) rfl ?_); refine qEC (t := 4) (p := 96) (v := ?vo_w64) (w1 := (w62.setCell ⟨go24, (t333 : Int).toNat, none⟩ (.bool true))) ?hg ?ho ?hn ?hr ?_; (case ho => rfl); (case hg => rfl); (case hn => rfl); (case hr => exact gS); intro w64 hw; have hg : w62.grownBy w64 (some go24) := (by rw [hw]; exact HP63.2); have hp_ : Kd.R Kd.bool 4 w64 w.heap.size (fun k_ => (w.heap.size ≤ k_)) (.slice (some ⟨go24, 0, none⟩) x40_4.length co24) y334 := (by rw [hw, Ny334.out]; exact HP63.1); clear HP63; replace HO_1 := aM (Kd.qaD (v := (.slice (some ⟨go24, 0, none⟩) x40_4.length co24)) (v1 := (.slice (some ⟨go24, 0, none⟩) x40_4.length co24)) (ok := (fun k_ => (P1_ k_ ∨ w.heap.size ≤ k_) ∧ some k_ ≠ (.slice Ao28 x6_1.length co28 : Value).ownBlock ∧ some k_ ≠ (.slice (some ad326) x11_4.length co43 : Value).ownBlock ∧ some k_ ≠ (.slice Ao61 t327.length co61 : Value).ownBlock ∧ k_ ≠ gb309)) (by (with_reducible repeat (first | apply Kd.qUB | apply Kd.qTB | apply Kd.qqB)); exact Kd.qhB HO_1.out (fun _ hk => ⟨⟨hk.1, ⟨hk.2.1, ⟨hk.2.2.2.1, ⟨hk.2.2.2.2.1, hk.2.2.2.2.2⟩⟩⟩⟩, hk.2.2.1⟩)) hg (.inl rfl)); replace HO_6 := aM (Kd.qdD (v := (.slice (some ⟨go24, 0, none⟩) x40_4.length co24)) (v1 := (.slice (some ⟨go24, 0, none⟩) x40_4.length co24)) (ok := (fun k_ => (P1_ k_ ∨ w.heap.size ≤ k_) ∧ some k_ ≠ (.slice (some ad326) x11_4.length co43 : Value).ownBlock ∧ some k_ ≠ (.slice Ao61 t327.length co61 : Value).ownBlock ∧ k_ ≠ gb309)) (by (with_reducible repeat (first | apply Kd.qrA | apply Kd.qqA | apply Kd.qEB)); exact Kd.qLB HO_6.out (fun _ hk => ⟨⟨hk.1, ⟨hk.2.2.1, ⟨hk.2.2.2.1, hk.2.2.2.2⟩⟩⟩, hk.2.1⟩)) hg (.inl rfl)); replace HO_11 := aM (Kd.qdD (v := (.slice (some ⟨go24, 0, none⟩) x40_4.length co24)) (v1 := (.slice (some ⟨go24, 0, none⟩) x40_4.length co24)) (ok := (fun k_ => (P1_ k_ ∨ w.heap.size ≤ k_) ∧ some k_ ≠ (.slice Ao28 x6_1.length co28 : Value).ownBlock ∧ some k_ ≠ (.slice Ao61 t327.length co61 : Value).ownBlock ∧ k_ ≠ gb309)) (by (with_reducible repeat (first | apply Kd.qrA | apply Kd.qqA | apply Kd.qEB)); exact Kd.qLB HO_11.out (fun _ hk => ⟨⟨hk.1, ⟨hk.2.1, ⟨hk.2.2.2.1, hk.2.2.2.2⟩⟩⟩, hk.2.2.1⟩)) hg (.inl rfl)); replace HO_15 := aM (Kd.qWB (v := (.slice (some ⟨go24, 0, none⟩) x40_4.length co24)) (rR HO_15) (Kd.qKB HO_10.out) (by decide) hg); replace BK309 := aM (qp (rB BK309) hg (Kd.R_ne HO_10.out BK309.out (by decide))); replace HO_10 := aM (hp_); replace HB := aM ((by rw [hw]; exact qEA (HB.out) GB24.out : Below w.heap.size w w64)); clear hg hw hp_) | ((with_reducible refine qF (f := 48) rfl ?_); refine qn (some 102) rfl rfl Tryz.func48 (by kernel_rfl) rfl #[.int .i64 x58_3, .int .i64 x14_4] rfl gA ?_; (with_reducible refine (qjB.calls kj40 x58_3 x14_4 t335 _ A58.out).mono ?_); rintro e w65 ⟨rfl, hb⟩; refine ⟨_, rfl, ?_⟩; replace HO_1 := aM (Kd.qKC (rV HO_1) hb); replace HO_6 := aM (Kd.qmB (rN HO_6) hb); replace HO_10 := aM (Kd.qZ (rR HO_10) hb); replace HO_11 := aM (Kd.qmB (rN HO_11) hb); replace HO_15 := aM (Kd.qZ (rR HO_15) hb); replace BK309 := aM (bb BK309 hb); replace HB := aM (qB bl hb); (try clear hb); (try clear hb2); (try clear hk); (try clear hi)) | ((with_reducible refine qBB (b := .append) (xs := #[.tmp 97, .tmp 104]) rfl ?_); at_builtin; refine Kd.N_append k48 (w0 := w) w.heap.size rfl (.tmp 97) (.tmp 104) 44 48 (.agg #[(.slice none 0 0), (.int .i64 0), (.string ⟨#[]⟩)]) 48 rfl Tryz.underlying44 info48 rfl (by decide) (by omega) (.slice (some ad326) x11_4.length co43) x11_4 (⟨t327, x12_2, t335⟩ : S48) [.slice Ao61 t327.length co61, .int .i64 x12_2, .string t335] (fun k_ => (P1_ k_ ∨ w.heap.size ≤ k_) ∧ some k_ ≠ (.slice Ao28 x6_1.length co28 : Value).ownBlock ∧ some k_ ≠ (.slice (some ⟨go24, 0, none⟩) x40_4.length co24 : Value).ownBlock ∧ k_ ≠ gb309) (fun k_ => ((fun k_ => (P1_ k_ ∨ w.heap.size ≤ k_) ∧ some k_ ≠ (.slice Ao28 x6_1.length co28 : Value).ownBlock ∧ some k_ ≠ (.slice (some ⟨go24, 0, none⟩) x40_4.length co24 : Value).ownBlock ∧ k_ ≠ gb309)) k_ ∧ some k_ ≠ (.slice (some ad326) x11_4.length co43 : Value).ownBlock) rfl rfl ?aP (fun _ hk => hk) ?aF ?aO ?aB ?aS ?aL ?_; (case aP => exact (k48_mkF _ _ (⟨t327, x12_2, t335⟩ : S48) (Kd.qM (Kd.qa (ok' := (fun k_ => ((fun k_ => (P1_ k_ ∨ w.heap.size ≤ k_) ∧ some k_ ≠ (.slice Ao28 x6_1.length co28 : Value).ownBlock ∧ some k_ ≠ (.slice (some ⟨go24, 0, none⟩) x40_4.length co24 : Value).ownBlock ∧ k_ ≠ gb309)) k_ ∧ some k_ ≠ (.slice (some ad326) x11_4.length co43 : Value).ownBlock)) (Kd.qAB (Kd.qAC (Kd.qAC (Kd.qAC (HO_15.out) (Kd.qDD HO_6.out) (by decide)) (Kd.qKB HO_10.out) (by decide)) (Kd.qDD HO_11.out) (by decide)) BK309.out (by decide)) (fun k_ hk => ⟨⟨(.inr (hk.1.1.1.1)), ⟨hk.1.1.1.2, ⟨hk.1.1.2, hk.2⟩⟩⟩, hk.1.2⟩))).2.1 (Kd.R_F (Kd.qa (ok' := (fun k_ => ((fun k_ => (P1_ k_ ∨ w.heap.size ≤ k_) ∧ some k_ ≠ (.slice Ao28 x6_1.length co28 : Value).ownBlock ∧ some k_ ≠ (.slice (some ⟨go24, 0, none⟩) x40_4.length co24 : Value).ownBlock ∧ k_ ≠ gb309)) k_ ∧ some k_ ≠ (.slice (some ad326) x11_4.length co43 : Value).ownBlock)) (Kd.qAB (Kd.qAC (Kd.qAC (Kd.qAC (HO_15.out) (Kd.qDD HO_6.out) (by decide)) (Kd.qKB HO_10.out) (by decide)) (Kd.qDD HO_11.out) (by decide)) BK309.out (by decide)) (fun k_ hk => ⟨⟨(.inr (hk.1.1.1.1)), ⟨hk.1.1.1.2, ⟨hk.1.1.2, hk.2⟩⟩⟩, hk.1.2⟩))))); (case aB => exact bl); (case aF => exact (fun k_ hk => ⟨(.inr (Nat.le_trans (qL bl) hk)), Kd.fresh' (Kd.N_lt (rN HO_6)) k_ hk, Kd.fresh' (Kd.R_lt (rR HO_10)) k_ hk, Kd.freshB (rB BK309) k_ hk⟩)); (case aO => exact (by (with_reducible repeat (first | apply Kd.qrA | apply Kd.qqA | apply Kd.qEB)); exact Kd.qLB HO_11.out (fun _ hk => ⟨hk.1.1, ⟨hk.1.2.1, ⟨hk.2, hk.1.2.2.2⟩⟩⟩))); (case aS => exact (qL bl)); (case aL => have := LMc59.out; omega); intro v337 w66 ho hb hg hat; rw [← Ny336.out] at ho; have HO338 := aM (ho); replace HO_1 := aM (Kd.qaD (ok := (fun k_ => (P1_ k_ ∨ w.heap.size ≤ k_) ∧ some k_ ≠ (.slice Ao28 x6_1.length co28 : Value).ownBlock ∧ some k_ ≠ (.slice (some ⟨go24, 0, none⟩) x40_4.length co24 : Value).ownBlock ∧ some k_ ≠ (.slice Ao61 t327.length co61 : Value).ownBlock ∧ k_ ≠ gb309)) (by (with_reducible repeat (first | apply Kd.qUB | apply Kd.qTB | apply Kd.qqB)); exact Kd.qhB HO_1.out (fun _ hk => ⟨⟨hk.1.1, ⟨hk.1.2.1, ⟨hk.2, ⟨hk.1.2.2.2.1, hk.1.2.2.2.2⟩⟩⟩⟩, hk.1.2.2.1⟩)) hg hat); replace HO_6 := aM (Kd.qdD (ok := (fun k_ => (P1_ k_ ∨ w.heap.size ≤ k_) ∧ some k_ ≠ (.slice (some ⟨go24, 0, none⟩) x40_4.length co24 : Value).ownBlock ∧ some k_ ≠ (.slice Ao61 t327.length co61 : Value).ownBlock ∧ k_ ≠ gb309)) (by (with_reducible repeat (first | apply Kd.qrA | apply Kd.qqA | apply Kd.qEB)); exact Kd.qLB HO_6.out (fun _ hk => ⟨⟨hk.1.1, ⟨hk.2, ⟨hk.1.2.2.1, hk.1.2.2.2⟩⟩⟩, hk.1.2.1⟩)) hg hat); replace HO_10 := aM (Kd.qWB (rR HO_10) (Kd.qDD (rN HO_11)) (by decide) hg); replace BK309 := aM (qp (rB BK309) hg (Kd.N_ne HO_11.out BK309.out (by decide))); replace HB := aM (hb); clear HO_11; clear HO_15; clear ho hb hg hat))
                           (try simp only [← hl40_4])
                           go_roundg kj40
                           case measure => have := HK1.out; have := HK2.out; have := HK3.out; have := HK4.out; have := HJ40.out; omega
                           case rel => exact ⟨(y336), (wrap64 (x14_4 + 1)), (y334), sD, H', ⟨by have := HK1.out; have := HK2.out; have := HK3.out; have := HK4.out; have := HJ40.out; omega⟩, ⟨by (try simp only [hl40_2]); (try simp only [hl40_3]); (try simp only [hl40_4]); (with_reducible repeat (first | apply Kd.qUB | apply Kd.qTB | apply Kd.qqB)); exact Kd.qhB HO_1.out (fun _ hk => ⟨hk.1.1, ⟨hk.1.2.1, ⟨hk.2, ⟨hk.1.2.2.1, hk.1.2.2.2.2⟩⟩⟩⟩)⟩, ⟨by (try simp only [hl40_2]); (try simp only [hl40_3]); (try simp only [hl40_4]); (with_reducible repeat (first | apply Kd.qrA | apply Kd.qqA | apply Kd.qEB)); exact Kd.qLB HO_6.out (fun _ hk => ⟨hk.1.1, ⟨hk.2, ⟨hk.1.2.1, hk.1.2.2.2⟩⟩⟩)⟩, ⟨by (try simp only [hl40_2]); (try simp only [hl40_3]); (try simp only [hl40_4]); (with_reducible repeat (first | apply Kd.qrA | apply Kd.qqA | apply Kd.qEB)); exact HO338.out⟩, ⟨by (try simp only [hl40_2]); (try simp only [hl40_3]); (try simp only [hl40_4]); (with_reducible repeat (first | apply Kd.qQ | apply Kd.qU | apply Kd.qV)); exact HO_10.out⟩, ⟨by (try simp only [hl40_2]); (try simp only [hl40_3]); (try simp only [hl40_4]); (with_reducible repeat (first | refine qH ?_ _ | refine qE ?_ | refine qG ?_ _)); exact BK309.out⟩, ⟨bl⟩⟩
                          ·rw [if_neg c59] at H
                           exact absurd H (by simp)
                         ·rw [if_neg c56] at H
                          exact absurd H (by simp)
                        ·rw [if_neg c55] at H
                         exact absurd H (by simp)
                   ·rw [if_neg c39] at H
                    exact absurd H (by simp)
                  ·rw [if_neg c38] at H
                   exact absurd H (by simp)
                 ·rw [if_neg c37] at H
                  have c37b0 := decide_eq_false c37
                  clear c37
                  have H' := aM H
                  clear H
                  go_wp2
                  (try simp only [← hl40_3, ← hl40_4])
                  go_roundg k4
                  case measure => have := HK1.out; have := HK2.out; have := HK3.out; have := HK4.out; omega
                  case rel => exact ⟨(x11_4), (x40_4), (wrap64 (x58_3 + 1)), sD, H', ⟨by have := HK1.out; have := HK2.out; have := HK3.out; have := HK4.out; omega⟩, ⟨by (try simp only [hl40_2]); (try simp only [hl40_3]); (try simp only [hl40_4]); (with_reducible repeat (first | apply Kd.qUB | apply Kd.qTB | apply Kd.qqB)); exact HO_1.out⟩, ⟨by (try simp only [hl40_2]); (try simp only [hl40_3]); (try simp only [hl40_4]); (with_reducible repeat (first | apply Kd.qrA | apply Kd.qqA | apply Kd.qEB)); exact HO_6.out⟩, ⟨by (try simp only [hl40_2]); (try simp only [hl40_3]); (try simp only [hl40_4]); (with_reducible repeat (first | apply Kd.qrA | apply Kd.qqA | apply Kd.qEB)); exact HO_11.out⟩, ⟨by (try simp only [hl40_2]); (try simp only [hl40_3]); (try simp only [hl40_4]); (with_reducible repeat (first | apply Kd.qQ | apply Kd.qU | apply Kd.qV)); exact HO_40.out⟩, ⟨by (try simp only [hl40_2]); (try simp only [hl40_3]); (try simp only [hl40_4]); (with_reducible repeat (first | refine qH ?_ _ | refine qE ?_ | refine qG ?_ _)); exact BK309.out⟩, ⟨bl⟩⟩
              ·rw [if_neg c36] at H
               have c36b0 := decide_eq_false c36
               (try (have c36b0_hl40_2 := c36b0; simp only [hl40_2] at c36b0_hl40_2))
               (try (have c36b0_hl40_3 := c36b0; simp only [hl40_3] at c36b0_hl40_3))
               clear c36
               have H' := aM H
               clear H
               go_wp2
               (try simp only [← hl40_2, ← hl40_3])
               go_roundg k3
               case measure => have := HK1.out; have := HK2.out; have := HK3.out; omega
               case rel => exact ⟨(x11_3), (wrap64 (x12_2 + 1)), (x40_3), sD, H', ⟨by have := HK1.out; have := HK2.out; have := HK3.out; omega⟩, ⟨by (try simp only [hl40_2]); (try simp only [hl40_3]); (with_reducible repeat (first | apply Kd.qUB | apply Kd.qTB | apply Kd.qqB)); exact HO_1.out⟩, ⟨by (try simp only [hl40_2]); (try simp only [hl40_3]); (with_reducible repeat (first | apply Kd.qrA | apply Kd.qqA | apply Kd.qEB)); exact HO_6.out⟩, ⟨by (try simp only [hl40_2]); (try simp only [hl40_3]); (with_reducible repeat (first | apply Kd.qrA | apply Kd.qqA | apply Kd.qEB)); exact HO_11.out⟩, ⟨by (try simp only [hl40_2]); (try simp only [hl40_3]); (with_reducible repeat (first | apply Kd.qQ | apply Kd.qU | apply Kd.qV)); exact HO_40.out⟩, ⟨by (try simp only [hl40_2]); (try simp only [hl40_3]); (with_reducible repeat (first | refine qH ?_ _ | refine qE ?_ | refine qG ?_ _)); exact BK309.out⟩, ⟨bl⟩⟩
           ·rw [if_neg c34] at H
            have c34b0 := decide_eq_false c34
            (try (have c34b0_hl40_2 := c34b0; simp only [hl40_2] at c34b0_hl40_2))
            clear c34
            simp only [Option.some.injEq, Prod.mk.injEq] at H
            obtain ⟨rfl, rfl⟩ := H
            obtain ⟨Ao67, co67, eo67⟩ := Kd.qsD HO_11.out
            subst eo67
            go_wp2
            go_ret2
            exact ⟨_, sR, by (with_reducible repeat (first | apply Kd.qrA | apply Kd.qqA | apply Kd.qEB)); exact Kd.qLB HO_11.out (fun _ hk => hk.1), bl⟩
        ·rw [if_neg c23] at H
         exact absurd H (by simp)
       ·rw [if_neg c22] at H
        exact absurd H (by simp)
      ·rw [if_neg c20] at H
       exact absurd H (by simp)
     ·rw [if_neg c19] at H
      exact absurd H (by simp)
theorem eqA53 (d : Nat) (w : World) (x0 y0 : Int) (x1 y1 : Int) (x2 y2 : Int) (x3 y3 : Int) (x4 y4 : Int) (x5 y5 : Int) (x6 y6 : Int) (x7 y7 : Int) :
  (Op.equalIn (d + 3) 53 (.agg #[.int .i64 x0, .int .i64 x1, .int .i64 x2, .int .i64 x3, .int .i64 x4, .int .i64 x5, .int .i64 x6, .int .i64 x7]) (.agg #[.int .i64 y0, .int .i64 y1, .int .i64 y2, .int .i64 y3, .int .i64 y4, .int .i64 y5, .int .i64 y6, .int .i64 y7])).run Tryz.prog w = .ok (x0 == y0 && (x1 == y1 && ((x2 == y2 && (x3 == y3 && (x4 == y4 && (x5 == y5 && (x6 == y6 && (x7 == y7))))))))) w := by
 refine eqA_of Tryz.underlying53 (by kernel_rfl) ?_
 refine qaC (by rfl) (by go_simp; rfl) (by go_simp; rfl) (by go_simp) ?_
 refine qaC (by rfl) (by go_simp; rfl) (by go_simp; rfl) (by go_simp) ?_
 exact eqf_last (by rfl) (by go_simp) (by go_simp) (eqA51 (d + 0) w _ _ _ _ _ _ _ _ _ _ _ _)
end Go.Proofs.YthhiiceligjleaaGreatDoor.P
namespace Go.Proofs.YthhiiceligjleaaGreatDoor.P
open Go.RowKit Go.Proofs.YthhiiceligjleaaGreatDoorW.PrintWords Go.Proofs.YthhiiceligjleaaGreatDoorW.PrintLast Go.Proofs.YthhiiceligjleaaGreatDoorW.PrintMore
attribute [local go_sem] ql qj qu qt qd qc qk qi
set_option linter.unusedVariables false
set_option linter.unusedSimpArgs false
attribute [local go_sem high] eqA53
def qBA.l0 : Nat → List (S53) → List (S53) → Int → Int → Option (Bool)
 | 0, _, _, _, _ => none
 | k + 1, x0, x1, x7, x8 => if x8 < x7 then (if 0 ≤ x8 then (if x8 < (x0.length : Int) then (if x8 < (x1.length : Int) then (if (!(((qA x0 x8).f0) == ((qA x1 x8).f0)) || (!(((qA x0 x8).f1) == ((qA x1 x8).f1)) || ((!(((qA x0 x8).f2.f0) == ((qA x1 x8).f2.f0)) || (!(((qA x0 x8).f2.f1) == ((qA x1 x8).f2.f1)) || (!(((qA x0 x8).f2.f2) == ((qA x1 x8).f2.f2)) || (!(((qA x0 x8).f2.f3) == ((qA x1 x8).f2.f3)) || (!(((qA x0 x8).f2.f4) == ((qA x1 x8).f2.f4)) || (!(((qA x0 x8).f2.f5) == ((qA x1 x8).f2.f5))))))))))) = true then (some false) else (qBA.l0 k x0 x1 x7 (wrap64 (x8 + 1)))) else (none)) else (none)) else (none)) else (some ((x0.length : Int) == (x1.length : Int)))
def qBA.f (k : Nat) (l0 : List (S53)) (l1 : List (S53)) : Option (Bool) := qBA.l0 k l0 l1 (l0.length : Int) 0
set_option maxHeartbeats 8000000 in
set_option maxRecDepth 100000 in
theorem qBA.calls (k : Nat) (A0 : Option Addr) (c0 : Nat) (l0 : List (S53)) (A1 : Option Addr) (c1 : Nat) (l1 : List (S53)) (r : Bool) (w : World) (hr0 : Kd.C k53 w A0 l0.length l0) (hc0 : l0.length ≤ c0) (hr1 : Kd.C k53 w A1 l1.length l1) (hc1 : l1.length ≤ c1) (h : qBA.f k l0 l1 = some r) :
  Calls Tryz.prog 21 #[.slice A0 l0.length c0, .slice A1 l1.length c1] w fun e w' => e = .returned (.bool r) ∧ Drawn0 w w' := by
 have hu53 := Tryz.underlying53
 have HR0 := aM hr0
 have HC0 := aM hc0
 clear hr0 hc0
 have HR1 := aM hr1
 have HC1 := aM hc1
 clear hr1 hc1
 have H : (qBA.l0 k l0 l1 (l0.length : Int) 0) = some r := h
 clear h
 have H' := aM H
 clear H
 go_enter Tryz.func21, Tryz.ntmps21
 go_wp2
 repeat (go_quiet (fail); try go_wp2)
 go_loopg [8] k (fun kq v8 w' => ∃ (x8_1 : Int), v8 = .int .i64 x8_1 ∧ Aside0 (qBA.l0 kq l0 l1 (l0.length : Int) x8_1 = some r) ∧ Aside0 (kq ≤ k) ∧ Drawn0 w w')
 case atStart => exact ⟨(0), sD, H', ⟨Nat.le_refl _⟩, dR⟩
 case round =>
  clear H'; (try clear c1); (try clear c2); (try clear p2)
  obtain ⟨x8_1, rfl, HA, HK1, ⟨m1, rfl⟩⟩ := hrel
  cases gk with
  | zero => exact absurd HA.out (by simp [qBA.l0])
  | succ k1 =>
   have H := HA.out
   clear HA
   simp only [qBA.l0] at H
   by_cases c3 : x8_1 < (l0.length : Int)
   ·rw [if_pos c3] at H
    have c3b0 := decide_eq_true c3
    clear c3
    by_cases c4 : 0 ≤ x8_1
    ·rw [if_pos c4] at H
     have c4b0 := decide_eq_true c4
     clear c4
     by_cases c5 : x8_1 < (l0.length : Int)
     ·rw [if_pos c5] at H
      have c5b0 := decide_eq_true c5
      clear c5
      by_cases c6 : x8_1 < (l1.length : Int)
      ·rw [if_pos c6] at H
       have c6b0 := decide_eq_true c6
       clear c6
       by_cases c7 : (!(((qA l0 x8_1).f0) == ((qA l1 x8_1).f0)) || (!(((qA l0 x8_1).f1) == ((qA l1 x8_1).f1)) || ((!(((qA l0 x8_1).f2.f0) == ((qA l1 x8_1).f2.f0)) || (!(((qA l0 x8_1).f2.f1) == ((qA l1 x8_1).f2.f1)) || (!(((qA l0 x8_1).f2.f2) == ((qA l1 x8_1).f2.f2)) || (!(((qA l0 x8_1).f2.f3) == ((qA l1 x8_1).f2.f3)) || (!(((qA l0 x8_1).f2.f4) == ((qA l1 x8_1).f2.f4)) || (!(((qA l0 x8_1).f2.f5) == ((qA l1 x8_1).f2.f5))))))))))) = true
       ·rw [if_pos c7] at H
        have c7b0 : (!(((qA l0 x8_1).f0) == ((qA l1 x8_1).f0)) || (!(((qA l0 x8_1).f1) == ((qA l1 x8_1).f1)) || ((!(((qA l0 x8_1).f2.f0) == ((qA l1 x8_1).f2.f0)) || (!(((qA l0 x8_1).f2.f1) == ((qA l1 x8_1).f2.f1)) || (!(((qA l0 x8_1).f2.f2) == ((qA l1 x8_1).f2.f2)) || (!(((qA l0 x8_1).f2.f3) == ((qA l1 x8_1).f2.f3)) || (!(((qA l0 x8_1).f2.f4) == ((qA l1 x8_1).f2.f4)) || (!(((qA l0 x8_1).f2.f5) == ((qA l1 x8_1).f2.f5))))))))))) = true := c7
        clear c7
        obtain rfl := Option.some.inj H
        have p339 : 0 ≤ (x8_1 : Int) := of_decide_eq_true am
        have q339 : x8_1 < (l0.length : Int) := of_decide_eq_true am
        obtain ⟨ad339, e339, hx339_0, hx339_1, hx339_2, hx339_3, hx339_4, hx339_5, hx339_6, hx339_7⟩ := qGB HR0.out x8_1 p339 q339
        cases e339
        replace p339 := eq_true p339
        replace q339 := eq_true q339
        have p340 : 0 ≤ (x8_1 : Int) := of_decide_eq_true am
        have q340 : x8_1 < (l1.length : Int) := of_decide_eq_true am
        obtain ⟨ad340, e340, hx340_0, hx340_1, hx340_2, hx340_3, hx340_4, hx340_5, hx340_6, hx340_7⟩ := qGB HR1.out x8_1 p340 q340
        cases e340
        replace p340 := eq_true p340
        replace q340 := eq_true q340
        go_wp2
        repeat (go_quiet (fail); try go_wp2)
        go_ret
        exact ⟨by first | rfl | (simp; done) | (simp [*]; done), dR⟩
       ·rw [if_neg c7] at H
        have c7b0 : (!(((qA l0 x8_1).f0) == ((qA l1 x8_1).f0)) || (!(((qA l0 x8_1).f1) == ((qA l1 x8_1).f1)) || ((!(((qA l0 x8_1).f2.f0) == ((qA l1 x8_1).f2.f0)) || (!(((qA l0 x8_1).f2.f1) == ((qA l1 x8_1).f2.f1)) || (!(((qA l0 x8_1).f2.f2) == ((qA l1 x8_1).f2.f2)) || (!(((qA l0 x8_1).f2.f3) == ((qA l1 x8_1).f2.f3)) || (!(((qA l0 x8_1).f2.f4) == ((qA l1 x8_1).f2.f4)) || (!(((qA l0 x8_1).f2.f5) == ((qA l1 x8_1).f2.f5))))))))))) = false := by simpa using c7
        clear c7
        have H' := aM H
        clear H
        have p339 : 0 ≤ (x8_1 : Int) := of_decide_eq_true am
        have q339 : x8_1 < (l0.length : Int) := of_decide_eq_true am
        obtain ⟨ad339, e339, hx339_0, hx339_1, hx339_2, hx339_3, hx339_4, hx339_5, hx339_6, hx339_7⟩ := qGB HR0.out x8_1 p339 q339
        cases e339
        replace p339 := eq_true p339
        replace q339 := eq_true q339
        have p340 : 0 ≤ (x8_1 : Int) := of_decide_eq_true am
        have q340 : x8_1 < (l1.length : Int) := of_decide_eq_true am
        obtain ⟨ad340, e340, hx340_0, hx340_1, hx340_2, hx340_3, hx340_4, hx340_5, hx340_6, hx340_7⟩ := qGB HR1.out x8_1 p340 q340
        cases e340
        replace p340 := eq_true p340
        replace q340 := eq_true q340
        go_wp2
        repeat (go_quiet (fail); try go_wp2)
        go_roundg k1
        case measure => have := HK1.out; omega
        case rel => exact ⟨(wrap64 (x8_1 + 1)), sD, H', ⟨by have := HK1.out; omega⟩, dR⟩
      ·rw [if_neg c6] at H
       exact absurd H (by simp)
     ·rw [if_neg c5] at H
      exact absurd H (by simp)
    ·rw [if_neg c4] at H
     exact absurd H (by simp)
   ·rw [if_neg c3] at H
    have c3b0 := decide_eq_false c3
    clear c3
    obtain rfl := Option.some.inj H
    go_wp2
    repeat (go_quiet (fail); try go_wp2)
    go_ret
    exact ⟨by first | rfl | (simp; done) | (simp [*]; done), dR⟩
end Go.Proofs.YthhiiceligjleaaGreatDoor.P
namespace Go.Proofs.YthhiiceligjleaaGreatDoor.P
open Go.RowKit Go.Proofs.YthhiiceligjleaaGreatDoorW.PrintWords Go.Proofs.YthhiiceligjleaaGreatDoorW.PrintLast Go.Proofs.YthhiiceligjleaaGreatDoorW.PrintMore
attribute [local go_sem] ql qj qu qt qd qc qk qi
set_option linter.unusedVariables false
set_option linter.unusedSimpArgs false
def qkA.l0 : Nat → ByteArray → Int → Option (Int)
 | 0, _, _ => none
 | k + 1, x0, x3 => if x3 < 4 then ((qsA.f).bind fun t341 => (if 0 ≤ x3 then (if x3 ≤ (wrap64 (x3 + 1)) then (if (wrap64 (x3 + 1)) ≤ (t341.size : Int) then (if x0.toList = (t341.extract (x3 : Int).toNat ((wrap64 (x3 + 1)) : Int).toNat).toList then (some x3) else (qkA.l0 k x0 (wrap64 (x3 + 1)))) else (none)) else (none)) else (none))) else (some (-1))
def qkA.f (k : Nat) (a0 : ByteArray) : Option (Int) := qkA.l0 k a0 0
set_option maxHeartbeats 8000000 in
set_option maxRecDepth 100000 in
theorem qkA.calls (k : Nat) (a0 : ByteArray) (r : Int) (w : World) (h : qkA.f k a0 = some r) :
  Calls Tryz.prog 68 #[.string a0] w fun e w' => e = .returned (.int .i64 r) ∧ Drawn0 w w' := by
 have H : (qkA.l0 k a0 0) = some r := h
 clear h
 have H' := aM H
 clear H
 go_enter Tryz.func68, Tryz.ntmps68
 go_wp2
 go_loopg [3] k (fun kq v3 w' => ∃ (x3_1 : Int), v3 = .int .i64 x3_1 ∧ Aside0 (qkA.l0 kq a0 x3_1 = some r) ∧ Aside0 (kq ≤ k) ∧ Drawn0 w w')
 case atStart => exact ⟨(0), sD, H', ⟨Nat.le_refl _⟩, dR⟩
 case round =>
  clear H'
  obtain ⟨x3_1, rfl, HA, HK1, ⟨m1, rfl⟩⟩ := hrel
  cases gk with
  | zero => exact absurd HA.out (by simp [qkA.l0])
  | succ k1 =>
   have H := HA.out
   clear HA
   simp only [qkA.l0] at H
   by_cases c2 : x3_1 < 4
   ·rw [if_pos c2] at H
    have c2b0 := decide_eq_true c2
    clear c2
    replace H := bO H
    obtain ⟨t341, A3, H⟩ := H
    by_cases c4 : 0 ≤ x3_1
    ·rw [if_pos c4] at H
     have c4b0 := eq_true c4
     have c4b1 := decide_eq_true c4
     clear c4
     by_cases c5 : x3_1 ≤ (wrap64 (x3_1 + 1))
     ·rw [if_pos c5] at H
      have c5b0 := eq_true c5
      have c5b1 := decide_eq_true c5
      by_cases c6 : (wrap64 (x3_1 + 1)) ≤ (t341.size : Int)
      ·rw [if_pos c6] at H
       have c6b0 := eq_true c6
       have c6b1 := decide_eq_true c6
       by_cases c7 : a0.toList = (t341.extract (x3_1 : Int).toNat ((wrap64 (x3_1 + 1)) : Int).toNat).toList
       ·rw [if_pos c7] at H
        have c7b0 := beq_iff_eq.mpr c7
        have c7b1 := bne_eq_false_iff_eq.mpr c7
        clear c7
        obtain rfl := Option.some.inj H
        go_wp2_with (first | ((with_reducible refine qF (f := 67) rfl ?_); refine qn (some 9) rfl rfl Tryz.func67 (by kernel_rfl) rfl #[] rfl gA ?_; (with_reducible refine (qsA.calls  t341 _ A3.out).mono ?_); rintro e w' ⟨rfl, ⟨nd, rfl⟩⟩; refine ⟨_, rfl, ?_⟩))
        go_ret
        exact ⟨by first | rfl | (simp; done) | (simp [*]; done), dR⟩
       ·rw [if_neg c7] at H
        have c7b0 := beq_eq_false_iff_ne.mpr c7
        have c7b1 := bne_iff_ne.mpr c7
        have H' := aM H
        clear H
        go_wp2_with (first | ((with_reducible refine qF (f := 67) rfl ?_); refine qn (some 9) rfl rfl Tryz.func67 (by kernel_rfl) rfl #[] rfl gA ?_; (with_reducible refine (qsA.calls  t341 _ A3.out).mono ?_); rintro e w' ⟨rfl, ⟨nd, rfl⟩⟩; refine ⟨_, rfl, ?_⟩))
        go_roundg k1
        case measure => have := HK1.out; omega
        case rel => exact ⟨(wrap64 (x3_1 + 1)), sD, H', ⟨by have := HK1.out; omega⟩, dR⟩
      ·rw [if_neg c6] at H
       exact absurd H (by simp)
     ·rw [if_neg c5] at H
      exact absurd H (by simp)
    ·rw [if_neg c4] at H
     exact absurd H (by simp)
   ·rw [if_neg c2] at H
    have c2b0 := decide_eq_false c2
    clear c2
    obtain rfl := Option.some.inj H
    go_wp2
    go_ret
    exact ⟨by first | rfl | (simp; done) | (simp [*]; done), dR⟩
mutual
def qCA.j0 : Nat → ByteArray → Bool → Option (Bool)
 | 0, _, _ => none
 | k + 1, x0, x12 => if x12 = true then (some false) else (qCA.l0 k x0 0)
def qCA.l0 : Nat → ByteArray → Int → Option (Bool)
 | 0, _, _ => none
 | k + 1, x0, x3 => if x3 < (x0.size : Int) then (if 0 ≤ x3 then (if (bt x0 x3) < 48 then (some false) else (if (bt x0 x3) ≥ 51 then (some false) else (if 0 ≤ (wrap64 (x3 + 1)) then (if (wrap64 (x3 + 1)) ≤ (wrap64 (x3 + 2)) then (if (wrap64 (x3 + 2)) ≤ (x0.size : Int) then ((qkA.f k (x0.extract ((wrap64 (x3 + 1)) : Int).toNat ((wrap64 (x3 + 2)) : Int).toNat)).bind fun t342 => (if t342 < 0 then (some false) else (qCA.l0 k x0 (wrap64 (x3 + 2))))) else (none)) else (none)) else (none)))) else (none)) else (some true)
end
def qCA.f (k : Nat) (a0 : ByteArray) : Option (Bool) := if ((a0.size : Int) % 2) = 0 then (qCA.j0 k a0 (decide ((a0.size : Int) > 120))) else (qCA.j0 k a0 true)
set_option maxHeartbeats 8000000 in
set_option maxRecDepth 100000 in
theorem qCA.calls (k : Nat) (a0 : ByteArray) (r : Bool) (w : World) (h : qCA.f k a0 = some r) :
  Calls Tryz.prog 49 #[.string a0] w fun e w' => e = .returned (.bool r) ∧ Drawn0 w w' := by
 have H : (if ((a0.size : Int) % 2) = 0 then (qCA.j0 k a0 (decide ((a0.size : Int) > 120))) else (qCA.j0 k a0 true)) = some r := h
 clear h
 have HC2 := aM H
 clear H
 go_enter Tryz.func49, Tryz.ntmps49
 go_upto_region 1 with (fail)
 go_cut [12] (fun v12 wc => ∃ (kq : Nat) (x12_1 : Bool), v12 = .bool x12_1 ∧ Aside0 (qCA.j0 kq a0 x12_1 = some r) ∧ Aside0 (kq ≤ k) ∧ Drawn0 w wc)
 case first =>
  have H := HC2.out
  clear HC2
  by_cases c3 : ((a0.size : Int) % 2) = 0
  ·rw [if_pos c3] at H
   have c3b0 := beq_iff_eq.mpr c3
   have c3b1 := bne_eq_false_iff_eq.mpr c3
   clear c3
   (first | rw [c3b0] | (simp only [i64_w, i32_w]; rw [c3b0]) | skip)
   have H' := aM H
   clear H
   go_wp2
   go_meet
   case rel => exact ⟨_, (decide ((a0.size : Int) > 120)), sD, H', ⟨by first | omega | exact Nat.le_refl _⟩, dR⟩
  ·rw [if_neg c3] at H
   have c3b0 := beq_eq_false_iff_ne.mpr c3
   have c3b1 := bne_iff_ne.mpr c3
   (first | rw [c3b0] | (simp only [i64_w, i32_w]; rw [c3b0]) | skip)
   have H' := aM H
   clear H
   go_wp2
   go_meet
   case rel => exact ⟨_, (true), sD, H', ⟨by first | omega | exact Nat.le_refl _⟩, dR⟩
 case rest =>
  clear HC2; (try clear p2); (try clear c3); (try clear c3b0); (try clear c3b1)
  obtain ⟨kq, x12_1, rfl, HA, HJ1, ⟨mc1, rfl⟩⟩ := hcut
  cases kq with
  | zero => exact absurd HA.out (by simp [qCA.j0])
  | succ kj1 =>
   have H := HA.out
   clear HA
   simp only [qCA.j0] at H
   by_cases c4 : x12_1 = true
   ·subst c4
    replace H := iT H
    obtain rfl := Option.some.inj H
    go_wp2
    go_ret
    exact ⟨by first | rfl | (simp; done) | (simp [*]; done), dR⟩
   ·replace c4 := Bool.eq_false_iff.mpr c4
    subst c4
    replace H := iF H
    have H' := aM H
    clear H
    go_wp2
    go_loopg [3] kj1 (fun kq v3 w' => ∃ (x3_2 : Int), v3 = .int .i64 x3_2 ∧ Aside0 (qCA.l0 kq a0 x3_2 = some r) ∧ Aside0 (kq ≤ kj1) ∧ Drawn0 w w')
    case atStart => exact ⟨(0), sD, H', ⟨Nat.le_refl _⟩, dR⟩
    case round =>
     clear H'; (try clear c1); (try clear p2); (try clear c3); (try clear c3b0); (try clear c3b1); (try clear c4); (try clear p2)
     obtain ⟨x3_2, rfl, HA, HK2, ⟨m2, rfl⟩⟩ := hrel
     cases gk with
     | zero => exact absurd HA.out (by simp [qCA.l0])
     | succ k2 =>
      have H := HA.out
      clear HA
      simp only [qCA.l0] at H
      by_cases c5 : x3_2 < (a0.size : Int)
      ·rw [if_pos c5] at H
       have c5b0 := decide_eq_true c5
       clear c5
       by_cases c6 : 0 ≤ x3_2
       ·rw [if_pos c6] at H
        have c6b0 := decide_eq_true c6
        clear c6
        by_cases c8 : (bt a0 x3_2) < 48
        ·rw [if_pos c8] at H
         have c8b0 := decide_eq_true c8
         clear c8
         obtain rfl := Option.some.inj H
         have p7 : 0 ≤ (x3_2 : Int) := of_decide_eq_true am
         have q7 : x3_2 < (a0.size : Int) := of_decide_eq_true am
         have hx7 := bt_at a0 x3_2
         replace p7 := eq_true p7
         replace q7 := eq_true q7
         go_wp2
         go_ret
         exact ⟨by first | rfl | (simp; done) | (simp [*]; done), dR⟩
        ·rw [if_neg c8] at H
         have c8b0 := decide_eq_false c8
         clear c8
         by_cases c10 : (bt a0 x3_2) ≥ 51
         ·rw [if_pos c10] at H
          have c10b0 := decide_eq_true c10
          clear c10
          obtain rfl := Option.some.inj H
          have p7 : 0 ≤ (x3_2 : Int) := of_decide_eq_true am
          have q7 : x3_2 < (a0.size : Int) := of_decide_eq_true am
          have hx7 := bt_at a0 x3_2
          replace p7 := eq_true p7
          replace q7 := eq_true q7
          have p9 : 0 ≤ (x3_2 : Int) := of_decide_eq_true am
          have q9 : x3_2 < (a0.size : Int) := of_decide_eq_true am
          have hx9 := bt_at a0 x3_2
          replace p9 := eq_true p9
          replace q9 := eq_true q9
          go_wp2
          go_ret
          exact ⟨by first | rfl | (simp; done) | (simp [*]; done), dR⟩
         ·rw [if_neg c10] at H
          have c10b0 := decide_eq_false c10
          clear c10
          obtain ⟨ji11, hji11⟩ : ∃ j_ : Int, (wrap64 (x3_2 + 1)) = j_ := ⟨_, rfl⟩
          replace H : (if 0 ≤ (ji11) then (if (ji11) ≤ (wrap64 (x3_2 + 2)) then (if (wrap64 (x3_2 + 2)) ≤ (a0.size : Int) then ((qkA.f k2 (a0.extract ((ji11) : Int).toNat ((wrap64 (x3_2 + 2)) : Int).toNat)).bind fun t342 => (if t342 < 0 then (some false) else (qCA.l0 k2 a0 (wrap64 (x3_2 + 2))))) else (none)) else (none)) else (none)) = some r := by first | (rw [hji11] at H; exact H) | (simp only [hji11] at H ⊢; exact H)
          have hji11w : (IntKind.i64.wrap (x3_2 + 1)) = ji11 := (i64_w _).trans hji11
          by_cases c12 : 0 ≤ (ji11)
          ·rw [if_pos c12] at H
           have c12b0 := eq_true c12
           have c12b1 := decide_eq_true c12
           clear c12
           by_cases c13 : (ji11) ≤ (wrap64 (x3_2 + 2))
           ·rw [if_pos c13] at H
            have c13b0 := eq_true c13
            have c13b1 := decide_eq_true c13
            by_cases c14 : (wrap64 (x3_2 + 2)) ≤ (a0.size : Int)
            ·rw [if_pos c14] at H
             have c14b0 := eq_true c14
             have c14b1 := decide_eq_true c14
             replace H := bO H
             obtain ⟨t342, A15, H⟩ := H
             by_cases c16 : t342 < 0
             ·rw [if_pos c16] at H
              have c16b0 := decide_eq_true c16
              clear c16
              obtain rfl := Option.some.inj H
              have p7 : 0 ≤ (x3_2 : Int) := of_decide_eq_true am
              have q7 : x3_2 < (a0.size : Int) := of_decide_eq_true am
              have hx7 := bt_at a0 x3_2
              replace p7 := eq_true p7
              replace q7 := eq_true q7
              have p9 : 0 ≤ (x3_2 : Int) := of_decide_eq_true am
              have q9 : x3_2 < (a0.size : Int) := of_decide_eq_true am
              have hx9 := bt_at a0 x3_2
              replace p9 := eq_true p9
              replace q9 := eq_true q9
              go_wp2_with (first | (go_at_call 68; (with_reducible refine (qkA.calls k2 (a0.extract ((ji11) : Int).toNat ((wrap64 (x3_2 + 2)) : Int).toNat) t342 _ A15.out).mono ?_); rintro e w' ⟨rfl, ⟨nd, rfl⟩⟩))
              go_ret
              exact ⟨by first | rfl | (simp; done) | (simp only [← hji11] <;> (first | rfl | simp)) | (simp [*]; done), dR⟩
             ·rw [if_neg c16] at H
              have c16b0 := decide_eq_false c16
              clear c16
              have H' := aM H
              clear H
              have p7 : 0 ≤ (x3_2 : Int) := of_decide_eq_true am
              have q7 : x3_2 < (a0.size : Int) := of_decide_eq_true am
              have hx7 := bt_at a0 x3_2
              replace p7 := eq_true p7
              replace q7 := eq_true q7
              have p9 : 0 ≤ (x3_2 : Int) := of_decide_eq_true am
              have q9 : x3_2 < (a0.size : Int) := of_decide_eq_true am
              have hx9 := bt_at a0 x3_2
              replace p9 := eq_true p9
              replace q9 := eq_true q9
              go_wp2_with (first | (go_at_call 68; (with_reducible refine (qkA.calls k2 (a0.extract ((ji11) : Int).toNat ((wrap64 (x3_2 + 2)) : Int).toNat) t342 _ A15.out).mono ?_); rintro e w' ⟨rfl, ⟨nd, rfl⟩⟩))
              go_roundg k2
              case measure => have := HJ1.out; have := HK2.out; omega
              case rel => exact ⟨(wrap64 (x3_2 + 2)), sD, H', ⟨by have := HJ1.out; have := HK2.out; omega⟩, dR⟩
            ·rw [if_neg c14] at H
             exact absurd H (by simp)
           ·rw [if_neg c13] at H
            exact absurd H (by simp)
          ·rw [if_neg c12] at H
           exact absurd H (by simp)
       ·rw [if_neg c6] at H
        exact absurd H (by simp)
      ·rw [if_neg c5] at H
       have c5b0 := decide_eq_false c5
       clear c5
       obtain rfl := Option.some.inj H
       go_wp2
       go_ret
       exact ⟨by first | rfl | (simp; done) | (simp [*]; done), dR⟩
def qWA.l0 : Nat → List (S48) → Int → ByteArray → Option (ByteArray × Bool)
 | 0, _, _, _ => none
 | k + 1, x0, x1, x6 => if 0 ≤ x1 then (if x1 < (x0.length : Int) then (if ((qKA x0 x1).f1) ≥ 0 then (if ((qKA x0 x1).f2).size + x6.size ≤ 9223372036854775807 then (qWA.l0 k x0 ((qKA x0 x1).f1) (((qKA x0 x1).f2) ++ x6)) else (none)) else ((qCA.f k x6).bind fun t346 => (some (x6, t346)))) else (none)) else (none)
def qWA.f (k : Nat) (l0 : List (S48)) (a1 : Int) : Option (ByteArray × Bool) := qWA.l0 k l0 a1 (⟨#[]⟩ : ByteArray)
set_option maxHeartbeats 8000000 in
set_option maxRecDepth 100000 in
theorem qWA.calls (k : Nat) (A0 : Option Addr) (c0 : Nat) (l0 : List (S48)) (a1 : Int) (r1 : ByteArray) (r2 : Bool) (w : World) (hr0 : Kd.C k48 w A0 l0.length l0) (hc0 : l0.length ≤ c0) (h : qWA.f k l0 a1 = some (r1, r2)) :
  Calls Tryz.prog 22 #[.slice A0 l0.length c0, .int .i64 a1] w fun e w' => e = .returned (.tuple #[.string r1, .bool r2]) ∧ Drawn0 w w' := by
 have HR0 := aM hr0
 have HC0 := aM hc0
 clear hr0 hc0
 have H : (qWA.l0 k l0 a1 (⟨#[]⟩ : ByteArray)) = some (r1, r2) := h
 clear h
 have H' := aM H
 clear H
 go_enter Tryz.func22, Tryz.ntmps22
 go_wp2
 go_loopg [1, 6] k (fun kq v1 v6 w' => ∃ (x1_1 : Int) (x6_1 : ByteArray), v1 = .int .i64 x1_1 ∧ v6 = .string x6_1 ∧ Aside0 (qWA.l0 kq l0 x1_1 x6_1 = some (r1, r2)) ∧ Aside0 (kq ≤ k) ∧ Drawn0 w w')
 case atStart => exact ⟨(a1), ((⟨#[]⟩ : ByteArray)), sD, sD, H', ⟨Nat.le_refl _⟩, dR⟩
 case round =>
  clear H'; (try clear c2); (try clear p2)
  obtain ⟨x1_1, x6_1, rfl, rfl, HA, HK1, ⟨m1, rfl⟩⟩ := hrel
  cases gk with
  | zero => exact absurd HA.out (by simp [qWA.l0])
  | succ k1 =>
   have H := HA.out
   clear HA
   simp only [qWA.l0] at H
   by_cases c3 : 0 ≤ x1_1
   ·rw [if_pos c3] at H
    have c3b0 := decide_eq_true c3
    clear c3
    by_cases c4 : x1_1 < (l0.length : Int)
    ·rw [if_pos c4] at H
     have c4b0 := decide_eq_true c4
     clear c4
     by_cases c5 : ((qKA l0 x1_1).f1) ≥ 0
     ·rw [if_pos c5] at H
      have c5b0 := decide_eq_true c5
      clear c5
      by_cases c6 : ((qKA l0 x1_1).f2).size + x6_1.size ≤ 9223372036854775807
      ·rw [if_pos c6] at H
       have c6b0 := eq_true c6
       have c6b1 := decide_eq_true c6
       try have c6b2 : (9223372036854775807 < ((qKA l0 x1_1).f2).size + x6_1.size) = False := eq_false (Nat.not_lt.2 c6)
       have H' := aM H
       clear H
       have p343 : 0 ≤ (x1_1 : Int) := of_decide_eq_true am
       have q343 : x1_1 < (l0.length : Int) := of_decide_eq_true am
       obtain ⟨ad343, A343_0, c343_0, e343, hx343_0, hx343_1, hx343_2, hl343_0, hi343_0⟩ := qXD HR0.out x1_1 p343 q343
       cases e343
       have HR343_0 := aM hi343_0
       have HC343_0 := aM hl343_0
       clear hi343_0 hl343_0
       replace p343 := eq_true p343
       replace q343 := eq_true q343
       have p344 : 0 ≤ (x1_1 : Int) := of_decide_eq_true am
       have q344 : x1_1 < (l0.length : Int) := of_decide_eq_true am
       obtain ⟨ad344, A344_0, c344_0, e344, hx344_0, hx344_1, hx344_2, hl344_0, hi344_0⟩ := qXD HR0.out x1_1 p344 q344
       obtain rfl : ad343 = ad344 := (by injection e344)
       have HR344_0 := aM hi344_0
       have HC344_0 := aM hl344_0
       clear hi344_0 hl344_0
       replace p344 := eq_true p344
       replace q344 := eq_true q344
       have ea_ := Option.some.inj (hx343_0.symm.trans hx344_0)
       injection ea_ with ea_ en_ ec_
       subst ea_
       subst ec_
       clear en_
       have p345 : 0 ≤ (x1_1 : Int) := of_decide_eq_true am
       have q345 : x1_1 < (l0.length : Int) := of_decide_eq_true am
       obtain ⟨ad345, A345_0, c345_0, e345, hx345_0, hx345_1, hx345_2, hl345_0, hi345_0⟩ := qXD HR0.out x1_1 p345 q345
       obtain rfl : ad343 = ad345 := (by injection e345)
       have HR345_0 := aM hi345_0
       have HC345_0 := aM hl345_0
       clear hi345_0 hl345_0
       replace p345 := eq_true p345
       replace q345 := eq_true q345
       have ea_ := Option.some.inj (hx343_0.symm.trans hx345_0)
       injection ea_ with ea_ en_ ec_
       subst ea_
       subst ec_
       clear en_
       go_wp2
       go_roundg k1
       case measure => have := HK1.out; omega
       case rel => exact ⟨((qKA l0 x1_1).f1), (((qKA l0 x1_1).f2) ++ x6_1), sD, sD, H', ⟨by have := HK1.out; omega⟩, dR⟩
      ·rw [if_neg c6] at H
       exact absurd H (by simp)
     ·rw [if_neg c5] at H
      have c5b0 := decide_eq_false c5
      clear c5
      replace H := bO H
      obtain ⟨t346, A7, H⟩ := H
      simp only [Option.some.injEq, Prod.mk.injEq] at H
      obtain ⟨rfl, rfl⟩ := H
      have p343 : 0 ≤ (x1_1 : Int) := of_decide_eq_true am
      have q343 : x1_1 < (l0.length : Int) := of_decide_eq_true am
      obtain ⟨ad343, A343_0, c343_0, e343, hx343_0, hx343_1, hx343_2, hl343_0, hi343_0⟩ := qXD HR0.out x1_1 p343 q343
      cases e343
      have HR343_0 := aM hi343_0
      have HC343_0 := aM hl343_0
      clear hi343_0 hl343_0
      replace p343 := eq_true p343
      replace q343 := eq_true q343
      go_wp2_with (first | ((with_reducible refine qF (f := 49) rfl ?_); refine qn (some 27) rfl rfl Tryz.func49 (by kernel_rfl) rfl #[.string x6_1] rfl gA ?_; (with_reducible refine (qCA.calls k1 x6_1 t346 _ A7.out).mono ?_); rintro e w' ⟨rfl, ⟨nd, rfl⟩⟩; refine ⟨_, rfl, ?_⟩))
      go_ret2
      exact ⟨by first | rfl | (simp; done) | (simp [*]; done), dR⟩
    ·rw [if_neg c4] at H
     exact absurd H (by simp)
   ·rw [if_neg c3] at H
    exact absurd H (by simp)
mutual
def qw.j0 : Nat → List (S53) → List (S53) → Bool → Int → Int → List Int → Option (ByteArray × Bool)
 | 0, _, _, _, _, _, _ => none
 | k + 1, x1, x2, x36, x354000, x354001, x354002 => if x36 = true then (some ((⟨#[]⟩ : ByteArray), false)) else ((qP.f k x354000 x354001 x354002 x1).bind fun bt355 => (if bt355.2 = true then (qw.l0 k x2 bt355.1 (bt355.1.length : Int) 0) else (some ((⟨#[]⟩ : ByteArray), false))))
def qw.l0 : Nat → List (S53) → List (S48) → Int → Int → Option (ByteArray × Bool)
 | 0, _, _, _, _ => none
 | k + 1, x2, x41, x46, x47 => if x47 < x46 then (if 0 ≤ x47 then (if x47 < (x41.length : Int) then ((qBA.f k ((qKA x41 x47).f0) x2).bind fun t361 => (if t361 = true then ((qWA.f k x41 x47).bind fun bt362 => (if bt362.2 = true then (some (bt362.1, true)) else (some ((⟨#[]⟩ : ByteArray), false)))) else (qw.l0 k x2 x41 x46 (wrap64 (x47 + 1))))) else (none)) else (none)) else (some ((⟨#[]⟩ : ByteArray), false))
end
def qw.f (k : Nat) (a0 : ByteArray) (l1 : List (S53)) (l2 : List (S53)) : Option (ByteArray × Bool) := (qLA.f k a0 l1).bind fun bt347 => (if bt347.2.2.2 = true then ((qo.f k bt347.1 bt347.2.1 bt347.2.2.1 l2).bind fun t354 => (if t354 = true then (qw.j0 k l1 l2 ((l2.length : Int) != (l1.length : Int)) bt347.1 bt347.2.1 bt347.2.2.1) else (qw.j0 k l1 l2 true bt347.1 bt347.2.1 bt347.2.2.1))) else (qw.j0 k l1 l2 true bt347.1 bt347.2.1 bt347.2.2.1))
set_option maxHeartbeats 8000000 in
set_option maxRecDepth 100000 in
theorem qw.calls (k : Nat) (a0 : ByteArray) (A1 : Option Addr) (c1 : Nat) (l1 : List (S53)) (A2 : Option Addr) (c2 : Nat) (l2 : List (S53)) (r1 : ByteArray) (r2 : Bool) (w : World) (hr1 : Kd.C k53 w A1 l1.length l1) (hc1 : l1.length ≤ c1) (hr2 : Kd.C k53 w A2 l2.length l2) (hc2 : l2.length ≤ c2) (h : qw.f k a0 l1 l2 = some (r1, r2)) :
  Calls Tryz.prog 7 #[.string a0, .slice A1 l1.length c1, .slice A2 l2.length c2] w fun e w' => e = .returned (.tuple #[.string r1, .bool r2]) ∧ Below w.heap.size w w' := by
 have hu40 := Tryz.underlying40
 have hu48 := Tryz.underlying48
 have HR1 := aM hr1
 have HC1 := aM hc1
 clear hr1 hc1
 have HR2 := aM hr2
 have HC2 := aM hc2
 clear hr2 hc2
 have HB := aM (Below.refl w.heap.size w)
 have H : ((qLA.f k a0 l1).bind fun bt347 => (if bt347.2.2.2 = true then ((qo.f k bt347.1 bt347.2.1 bt347.2.2.1 l2).bind fun t354 => (if t354 = true then (qw.j0 k l1 l2 ((l2.length : Int) != (l1.length : Int)) bt347.1 bt347.2.1 bt347.2.2.1) else (qw.j0 k l1 l2 true bt347.1 bt347.2.1 bt347.2.2.1))) else (qw.j0 k l1 l2 true bt347.1 bt347.2.1 bt347.2.2.1))) = some (r1, r2) := h
 clear h
 replace H := bO H
 obtain ⟨⟨t347, t348, t349, t352⟩, A4, H⟩ := H
 dsimp only at H A4
 have HC5 := aM H
 clear H
 go_enter Tryz.func7, Tryz.ntmps7
 go_upto_region 2 with (first | ((with_reducible refine qF (f := 18) rfl ?_); refine qn (some 19) rfl rfl Tryz.func18 (by kernel_rfl) rfl #[.string a0, .slice A1 l1.length c1] rfl gA ?_; (with_reducible refine (qLA.calls k a0 _ _ l1 t347 t348 t349 t352 _ ?side1 ?side2 A4.out).mono ?_); (case side1 => repeat (first | exact HR1.out | (with_reducible refine Kd.qS ?_ _) | (with_reducible refine Kd.qR ?_ _) | (with_reducible refine Kd.qe ?_))); (case side2 => exact HC1.out); rintro e w6 ⟨v350, rfl, ho0, hb⟩; refine ⟨_, rfl, ?_⟩; have HO351 := aM (Kd.qAA ho0 (qL bl)); replace HB := aM (qB bl hb); (try clear hb); (try clear hb2); (try clear hk); (try clear hi); (try clear ho0)) | ((with_reducible refine qJ (N := 8) rfl ?_); (try (refine qpB (by rfl) ?_; dsimp only)); refine qI ?hg (N := 8) ?hd (cs := #[.int .i64 0, .int .i64 0, .slice none 0 0]) (t := 40) ?hr ?_; (case hd => rfl); (case hg => rfl); (case hr => exact gS); intro gb353 hg w7 hbox hb; have BK353 := aM (hbox); have GW353 := aM ((gg hg)); have GE353 := aM ((gg hg)); replace HO351 := aM (Kd.qZ (rR HO351) hb); replace HB := aM (qB bl hb); clear hb hbox hg; (refine cb3 BK353 ?_; intro hcz8_0 hcz8_1 hcz8_2); (refine cz3 BK353 ?_; intro hfz8_0 hfz8_1 hfz8_2); obtain ⟨Ao9, co9, eo9⟩ := Kd.qFA HO351.out; subst eo9))
 (try simp only [Act.put, List.setIfInBounds_toArray, List.set_cons_zero, List.set_cons_succ])
 go_cut [36] (fun v36 wc => ∃ (kq : Nat) (x36_4 : Bool), v36 = .bool x36_4 ∧ Aside0 (qw.j0 kq l1 l2 x36_4 t347 t348 t349 = some (r1, r2)) ∧ Aside0 (kq ≤ k) ∧ Aside0 (Kd.R (Kd.int .u8) 5 wc w.heap.size (fun _ => True) (.slice Ao9 t349.length co9) t349) ∧ Aside0 (wc.heap[gb353]? = some (.cells #[.int .i64 t347, .int .i64 t348, (.slice Ao9 t349.length co9)] 40 (0, 0))) ∧ Aside0 (Below w.heap.size w wc))
 case first =>
  have H := HC5.out
  clear HC5
  by_cases c10 : t352 = true
  ·subst c10
   replace H := iT H
   replace H := bO H
   obtain ⟨t354, A11, H⟩ := H
   by_cases c12 : t354 = true
   ·subst c12
    replace H := iT H
    have H' := aM H
    clear H
    (refine cb3 BK353 ?_; intro hcz13_0 hcz13_1 hcz13_2)
    (refine cz3 BK353 ?_; intro hfz13_0 hfz13_1 hfz13_2)
    go_wp2_with (first | (go_at_call 19; (with_reducible refine (qo.calls k t347 t348 _ _ t349 _ _ l2 true _ ?side1 ?side2 ?side3 ?side4 A11.out).mono ?_); (case side1 => refine (Kd.qM (e := 5) (base := w.heap.size) (ok := fun k_ => True) (n := t349.length) (c := co9) ?_).2.2; exact (by (with_reducible repeat (first | apply Kd.qQ | apply Kd.qU | apply Kd.qV)); exact (Kd.qa (Kd.R_far (p := ⟨gb353, 2, none⟩) (Kd.R_far (p := ⟨gb353, 1, none⟩) (Kd.R_far (p := ⟨gb353, 0, none⟩) (Kd.qAB HO351.out BK353.out (by decide)) (fun _ hk => hk.2) (.int .i64 t347)) (fun _ hk => hk.2) (.int .i64 t348)) (fun _ hk => hk.2) (.slice Ao9 t349.length co9)) (fun _ h_ => h_.1)))); (case side2 => exact (Kd.qM HO351.out).2.1); (case side3 => exact Kd.qY HR2.out bl); (case side4 => exact HC2.out); rintro e w14 ⟨rfl, hb⟩; replace HO351 := aM (Kd.qZ (by (with_reducible repeat (first | apply Kd.qQ | apply Kd.qU | apply Kd.qV)); exact (Kd.qa (Kd.R_far (p := ⟨gb353, 2, none⟩) (Kd.R_far (p := ⟨gb353, 1, none⟩) (Kd.R_far (p := ⟨gb353, 0, none⟩) (Kd.qAB HO351.out BK353.out (by decide)) (fun _ hk => hk.2) (.int .i64 t347)) (fun _ hk => hk.2) (.int .i64 t348)) (fun _ hk => hk.2) (.slice Ao9 t349.length co9)) (fun _ h_ => h_.1))) hb); replace BK353 := aM (qDA (g := gb353) (o := .cells #[.int .i64 t347, .int .i64 t348, .slice Ao9 t349.length co9] 40 (0, 0)) (by (with_reducible repeat (first | refine qH ?_ _ | refine qE ?_ | refine qG ?_ _)); exact bP3 BK353) hb); replace HB := aM (qB bl hb); (try clear hb); (try clear hb2); (try clear hk); (try clear hi)))
    go_meet
    case rel => exact ⟨_, (((l2.length : Int) != (l1.length : Int))), sD, H', ⟨by first | omega | exact Nat.le_refl _⟩, ⟨rR HO351⟩, ⟨rB BK353⟩, ⟨bl⟩⟩
   ·replace c12 := Bool.eq_false_iff.mpr c12
    subst c12
    replace H := iF H
    have H' := aM H
    clear H
    (refine cb3 BK353 ?_; intro hcz15_0 hcz15_1 hcz15_2)
    (refine cz3 BK353 ?_; intro hfz15_0 hfz15_1 hfz15_2)
    go_wp2_with (first | (go_at_call 19; (with_reducible refine (qo.calls k t347 t348 _ _ t349 _ _ l2 false _ ?side1 ?side2 ?side3 ?side4 A11.out).mono ?_); (case side1 => refine (Kd.qM (e := 5) (base := w.heap.size) (ok := fun k_ => True) (n := t349.length) (c := co9) ?_).2.2; exact (by (with_reducible repeat (first | apply Kd.qQ | apply Kd.qU | apply Kd.qV)); exact (Kd.qa (Kd.R_far (p := ⟨gb353, 2, none⟩) (Kd.R_far (p := ⟨gb353, 1, none⟩) (Kd.R_far (p := ⟨gb353, 0, none⟩) (Kd.qAB HO351.out BK353.out (by decide)) (fun _ hk => hk.2) (.int .i64 t347)) (fun _ hk => hk.2) (.int .i64 t348)) (fun _ hk => hk.2) (.slice Ao9 t349.length co9)) (fun _ h_ => h_.1)))); (case side2 => exact (Kd.qM HO351.out).2.1); (case side3 => exact Kd.qY HR2.out bl); (case side4 => exact HC2.out); rintro e w16 ⟨rfl, hb⟩; replace HO351 := aM (Kd.qZ (by (with_reducible repeat (first | apply Kd.qQ | apply Kd.qU | apply Kd.qV)); exact (Kd.qa (Kd.R_far (p := ⟨gb353, 2, none⟩) (Kd.R_far (p := ⟨gb353, 1, none⟩) (Kd.R_far (p := ⟨gb353, 0, none⟩) (Kd.qAB HO351.out BK353.out (by decide)) (fun _ hk => hk.2) (.int .i64 t347)) (fun _ hk => hk.2) (.int .i64 t348)) (fun _ hk => hk.2) (.slice Ao9 t349.length co9)) (fun _ h_ => h_.1))) hb); replace BK353 := aM (qDA (g := gb353) (o := .cells #[.int .i64 t347, .int .i64 t348, .slice Ao9 t349.length co9] 40 (0, 0)) (by (with_reducible repeat (first | refine qH ?_ _ | refine qE ?_ | refine qG ?_ _)); exact bP3 BK353) hb); replace HB := aM (qB bl hb); (try clear hb); (try clear hb2); (try clear hk); (try clear hi)))
    go_meet
    case rel => exact ⟨_, (true), sD, H', ⟨by first | omega | exact Nat.le_refl _⟩, ⟨rR HO351⟩, ⟨rB BK353⟩, ⟨bl⟩⟩
  ·replace c10 := Bool.eq_false_iff.mpr c10
   subst c10
   replace H := iF H
   have H' := aM H
   clear H
   go_wp2
   go_meet
   case rel => exact ⟨_, (true), sD, H', ⟨by first | omega | exact Nat.le_refl _⟩, ⟨by (with_reducible repeat (first | apply Kd.qQ | apply Kd.qU | apply Kd.qV)); exact Kd.qa (Kd.R_far (p := ⟨gb353, 2, none⟩) (Kd.R_far (p := ⟨gb353, 1, none⟩) (Kd.R_far (p := ⟨gb353, 0, none⟩) (Kd.qAB HO351.out BK353.out (by decide)) (fun _ hk => hk.2) (.int .i64 t347)) (fun _ hk => hk.2) (.int .i64 t348)) (fun _ hk => hk.2) (.slice Ao9 t349.length co9)) (fun _ hk => trivial)⟩, ⟨by (with_reducible repeat (first | refine qH ?_ _ | refine qE ?_ | refine qG ?_ _)); exact bP3 BK353⟩, ⟨bl⟩⟩
 case rest =>
  clear HC5; (try clear c1); (try clear c2); (try clear p2); (try clear c7); (try clear c10); (try clear c12); (try clear hcz13_0); (try clear hcz13_1); (try clear hcz13_2); (try clear hcz15_0); (try clear hcz15_1); (try clear hcz15_2); (try clear hcz8_0); (try clear hcz8_1); (try clear hcz8_2); (try clear hfz13_0); (try clear hfz13_1); (try clear hfz13_2); (try clear hfz15_0); (try clear hfz15_1); (try clear hfz15_2); (try clear hfz8_0); (try clear hfz8_1); (try clear hfz8_2)
  obtain ⟨kq, x36_4, rfl, HA, HJ4, HO_354002, BK353, HB⟩ := hcut
  cases kq with
  | zero => exact absurd HA.out (by simp [qw.j0])
  | succ kj4 =>
   have H := HA.out
   clear HA
   simp only [qw.j0] at H
   by_cases c17 : x36_4 = true
   ·subst c17
    replace H := iT H
    simp only [Option.some.injEq, Prod.mk.injEq] at H
    obtain ⟨rfl, rfl⟩ := H
    go_wp2
    go_ret2
    exact ⟨sR, bl⟩
   ·replace c17 := Bool.eq_false_iff.mpr c17
    subst c17
    replace H := iF H
    replace H := bO H
    obtain ⟨⟨t355, t358⟩, A18, H⟩ := H
    dsimp only at H A18
    by_cases c19 : t358 = true
    ·subst c19
     replace H := iT H
     have H' := aM H
     clear H
     (refine cb3 BK353 ?_; intro hcz20_0 hcz20_1 hcz20_2)
     (refine cz3 BK353 ?_; intro hfz20_0 hfz20_1 hfz20_2)
     go_wp2_with (first | ((with_reducible refine qF (f := 20) rfl ?_); refine qn (some 40) rfl rfl Tryz.func20 (by kernel_rfl) rfl #[.agg #[.int .i64 t347, .int .i64 t348, .slice Ao9 t349.length co9], .slice A1 l1.length c1] rfl gA ?_; (with_reducible refine (qP.calls kj4 t347 t348 _ _ t349 (fun k_ => k_ < w.heap.size) _ _ l1 t355 true _ ?side1 ?side2 ?side3 A18.out).mono ?_); (case side1 => repeat (first | exact (Kd.qM HO_354002.out).2.2 | (with_reducible refine Kd.qS ?_ _) | (with_reducible refine Kd.qR ?_ _) | (with_reducible refine Kd.qe ?_))); (case side2 => exact (Kd.qM HO_354002.out).2.1); (case side3 => exact Kd.V_mk HC1.out (Kd.qUD (Kd.C_F k53_heap HR1.out) bl)); rintro e w21 ⟨v356, rfl, ho0, hb⟩; refine ⟨_, rfl, ?_⟩; have HO357 := aM (Kd.qXE (Kd.qLB (ok' := fun k_ => some k_ ≠ (.slice Ao9 t349.length co9 : Value).ownBlock ∧ k_ ≠ gb353) ho0 (fun k_ hk_ => ⟨Or.elim hk_ (fun hs_ => fun e_ => Nat.not_le.2 hs_ (Kd.qMA HO_354002.out k_ e_.symm)) (fun hn_ => (Kd.fresh' (Kd.R_lt (rR HO_354002)) k_ hn_)), Or.elim hk_ (fun hs_ => fun e_ => Nat.not_le.2 hs_ (by rw [e_]; exact GW353.out)) (fun hn_ => (Kd.freshB (rB BK353) k_ hn_))⟩)) (qL bl)); replace HO_354002 := aM (Kd.qZ (rR HO_354002) hb); replace BK353 := aM (bb BK353 hb); replace HB := aM (qB bl hb); (try clear hb); (try clear hb2); (try clear hk); (try clear hi); (try clear ho0); obtain ⟨Ao22, co22, eo22⟩ := Kd.qsD HO357.out; subst eo22))
     go_loopg [47] kj4 (fun kq v47 w' => ∃ (x47_2 : Int), v47 = .int .i64 x47_2 ∧ Aside0 (qw.l0 kq l2 t355 (t355.length : Int) x47_2 = some (r1, r2)) ∧ Aside0 (kq ≤ kj4) ∧ Aside0 (Kd.N k48 48 w' w.heap.size (fun k_ => some k_ ≠ ((.slice Ao9 t349.length co9) : Value).ownBlock ∧ k_ ≠ gb353) (.slice Ao22 t355.length co22) t355) ∧ Aside0 (Kd.R (Kd.int .u8) 5 w' w.heap.size (fun _ => True) (.slice Ao9 t349.length co9) t349) ∧ Aside0 (w'.heap[gb353]? = some (.cells #[.int .i64 t347, .int .i64 t348, (.slice Ao9 t349.length co9)] 40 (0, 0))) ∧ Aside0 (Below w.heap.size w w'))
     case atStart => exact ⟨(0), sD, H', ⟨Nat.le_refl _⟩, ⟨rN HO357⟩, ⟨rR HO_354002⟩, ⟨rB BK353⟩, ⟨bl⟩⟩
     case round =>
      clear H'; (try clear c1); (try clear c2); (try clear p2); (try clear c7); (try clear c10); (try clear c12); (try clear c17); (try clear c18); (try clear c19); (try clear c20); (try clear hcz13_0); (try clear hcz13_1); (try clear hcz13_2); (try clear hcz15_0); (try clear hcz15_1); (try clear hcz15_2); (try clear hcz20_0); (try clear hcz20_1); (try clear hcz20_2); (try clear hcz8_0); (try clear hcz8_1); (try clear hcz8_2); (try clear hfz13_0); (try clear hfz13_1); (try clear hfz13_2); (try clear hfz15_0); (try clear hfz15_1); (try clear hfz15_2); (try clear hfz20_0); (try clear hfz20_1); (try clear hfz20_2); (try clear hfz8_0); (try clear hfz8_1); (try clear hfz8_2); (try clear p2)
      obtain ⟨x47_2, rfl, HA, HK2, HO_41, HO_354002, BK353, HB⟩ := hrel
      cases gk with
      | zero => exact absurd HA.out (by simp [qw.l0])
      | succ k2 =>
       have H := HA.out
       clear HA
       simp only [qw.l0] at H
       by_cases c23 : x47_2 < (t355.length : Int)
       ·rw [if_pos c23] at H
        have c23b0 := decide_eq_true c23
        clear c23
        by_cases c24 : 0 ≤ x47_2
        ·rw [if_pos c24] at H
         have c24b0 := decide_eq_true c24
         clear c24
         by_cases c25 : x47_2 < (t355.length : Int)
         ·rw [if_pos c25] at H
          have c25b0 := decide_eq_true c25
          clear c25
          replace H := bO H
          obtain ⟨t361, A26, H⟩ := H
          by_cases c27 : t361 = true
          ·subst c27
           replace H := iT H
           replace H := bO H
           obtain ⟨⟨t362, t363⟩, A28, H⟩ := H
           dsimp only at H A28
           by_cases c29 : t363 = true
           ·subst c29
            replace H := iT H
            simp only [Option.some.injEq, Prod.mk.injEq] at H
            obtain ⟨rfl, rfl⟩ := H
            have p359 : 0 ≤ (x47_2 : Int) := of_decide_eq_true am
            have q359 : x47_2 < (t355.length : Int) := of_decide_eq_true am
            obtain ⟨ad359, A359_0, c359_0, e359, hx359_0, hx359_1, hx359_2, hl359_0, hi359_0⟩ := qXD (Kd.qFB HO_41.out).2.2 x47_2 p359 q359
            cases e359
            obtain ⟨ce359, hce359, hMe359, hcc359⟩ := Kd.N_get HO_41.out z48 x47_2 p359 (by first | exact q359 | exact of_decide_eq_true am | (have e_ := (Kd.qFB HO_41.out).1; omega))
            obtain ⟨ua359_0, uc359_0, rfl, ul359_0, ge359_0⟩ := qKD hMe359
            have hv359_0 := hcc359 0 _ rfl
            rw [Nat.add_zero] at hv359_0
            replace hv359_0 := Option.some.inj (hv359_0.symm.trans hx359_0)
            injection hv359_0 with hva_ hvn_ hvc_
            rw [hva_] at ge359_0
            rw [hvc_] at ul359_0
            have HL359_0 := aM (show Kd.V k53 53 _ w.heap.size _ _ ((qKA t355 x47_2).f0) from Kd.V_mk ul359_0 ge359_0)
            clear hva_ hvn_ hvc_ ge359_0 ul359_0 hcc359 hce359
            have HR359_0 := aM hi359_0
            have HC359_0 := aM hl359_0
            clear hi359_0 hl359_0
            replace p359 := eq_true p359
            replace q359 := eq_true q359
            go_wp2_with (first | ((with_reducible refine qJ (N := 13) rfl ?_); (try (refine qpB (by rfl) ?_; dsimp only)); refine qI ?hg (N := 13) ?hd (cs := #[.slice none 0 0, .int .i64 0, .string (⟨#[]⟩ : ByteArray)]) (t := 48) ?hr ?_; (case hd => rfl); (case hg => rfl); (case hr => exact gS); intro gb360 hg w30 hbox hb; have BK360 := aM (hbox); have GW360 := aM ((gg hg)); have GE360 := aM ((gg hg)); have NB353_360 := aM ((nl BK353 hg)); have NB360_353 := aM ((nr BK353 hg)); replace HO_41 := aM (Kd.qmB (Kd.qcD (rN HO_41) gb360 (Nat.le_of_eq hg.symm)) hb); replace HO_354002 := aM (Kd.qZ (rR HO_354002) hb); replace HL359_0 := aM (Kd.qKC (Kd.qvC (rV HL359_0) gb360 (Nat.le_of_eq hg.symm)) hb); replace BK353 := aM (bb BK353 hb); replace HR359_0 := aM (Kd.qY (by repeat (first | (with_reducible exact HR359_0.out) | (with_reducible refine Kd.qS ?_ _) | (with_reducible refine Kd.qR ?_ _) | (with_reducible refine Kd.qe ?_) | exact HR359_0.out)) hb); replace HB := aM (qB bl hb); clear hb hbox hg; have hnb31 := NB360_353.out; have hnc31 := NB353_360.out; (refine cb3 BK360 ?_; intro _ _ _); (refine cz3 BK360 ?_; intro _ _ _)) | ((with_reducible refine qF (f := 21) rfl ?_); refine qn (some 55) rfl rfl Tryz.func21 (by kernel_rfl) rfl #[.slice A359_0 ((qKA t355 x47_2).f0).length c359_0, .slice A2 l2.length c2] rfl gA ?_; (with_reducible refine (qBA.calls k2 _ _ ((qKA t355 x47_2).f0) _ _ l2 true _ ?side1 ?side2 ?side3 ?side4 A26.out).mono ?_); (case side1 => repeat (first | exact ((Kd.qcC (by (with_reducible repeat (first | apply Kd.qUB | apply Kd.qTB | apply Kd.qqB)); exact (Kd.qhB (Kd.V_far (p := ⟨gb360, 2, none⟩) (Kd.V_far (p := ⟨gb360, 1, none⟩) (Kd.V_far (p := ⟨gb360, 0, none⟩) (Kd.qhB HL359_0.out (fun k_ hk => (⟨hk, hk.2⟩ : _ ∧ k_ ≠ gb360))) (fun _ hk => hk.2) (.slice A359_0 ((qKA t355 x47_2).f0).length c359_0)) (fun _ hk => hk.2) (.int .i64 ((qKA t355 x47_2).f1))) (fun _ hk => hk.2) (.string ((qKA t355 x47_2).f2))) (fun _ h_ => h_.1)))).2.2) | (with_reducible refine Kd.qS ?_ _) | (with_reducible refine Kd.qR ?_ _) | (with_reducible refine Kd.qe ?_))); (case side2 => exact HC359_0.out); (case side3 => exact Kd.qY HR2.out bl); (case side4 => exact HC2.out); rintro e w' ⟨rfl, ⟨nd, rfl⟩⟩; refine ⟨_, rfl, ?_⟩) | ((with_reducible refine qF (f := 22) rfl ?_); refine qn (some 59) rfl rfl Tryz.func22 (by kernel_rfl) rfl #[.slice (some ad359) t355.length co22, .int .i64 x47_2] rfl gA ?_; (with_reducible refine (qWA.calls k2 _ _ t355 x47_2 t362 true _ ?side1 ?side2 A28.out).mono ?_); (case side1 => refine (Kd.qFB (e := 48) (base := w.heap.size) (ok := fun k_ => ((some k_ ≠ (.slice Ao9 t349.length co9 : Value).ownBlock ∧ k_ ≠ gb353) ∧ k_ ≠ gb360)) (n := t355.length) (c := co22) ?_).2.2; exact (by (with_reducible repeat (first | apply Kd.qrA | apply Kd.qqA | apply Kd.qEB)); exact (Kd.qLB (Kd.N_far (p := ⟨gb360, 2, none⟩) (Kd.N_far (p := ⟨gb360, 1, none⟩) (Kd.N_far (p := ⟨gb360, 0, none⟩) (Kd.qLB HO_41.out (fun k_ hk => (⟨hk, hk.2⟩ : _ ∧ k_ ≠ gb360))) (fun _ hk => hk.2) (.slice A359_0 ((qKA t355 x47_2).f0).length c359_0)) (fun _ hk => hk.2) (.int .i64 ((qKA t355 x47_2).f1))) (fun _ hk => hk.2) (.string ((qKA t355 x47_2).f2))) (fun _ h_ => h_.1)))); (case side2 => exact (Kd.qFB HO_41.out).2.1); rintro e w' ⟨rfl, ⟨nd, rfl⟩⟩; refine ⟨_, rfl, ?_⟩))
            go_ret2
            exact ⟨sR, bl⟩
           ·replace c29 := Bool.eq_false_iff.mpr c29
            subst c29
            replace H := iF H
            simp only [Option.some.injEq, Prod.mk.injEq] at H
            obtain ⟨rfl, rfl⟩ := H
            have p359 : 0 ≤ (x47_2 : Int) := of_decide_eq_true am
            have q359 : x47_2 < (t355.length : Int) := of_decide_eq_true am
            obtain ⟨ad359, A359_0, c359_0, e359, hx359_0, hx359_1, hx359_2, hl359_0, hi359_0⟩ := qXD (Kd.qFB HO_41.out).2.2 x47_2 p359 q359
            cases e359
            obtain ⟨ce359, hce359, hMe359, hcc359⟩ := Kd.N_get HO_41.out z48 x47_2 p359 (by first | exact q359 | exact of_decide_eq_true am | (have e_ := (Kd.qFB HO_41.out).1; omega))
            obtain ⟨ua359_0, uc359_0, rfl, ul359_0, ge359_0⟩ := qKD hMe359
            have hv359_0 := hcc359 0 _ rfl
            rw [Nat.add_zero] at hv359_0
            replace hv359_0 := Option.some.inj (hv359_0.symm.trans hx359_0)
            injection hv359_0 with hva_ hvn_ hvc_
            rw [hva_] at ge359_0
            rw [hvc_] at ul359_0
            have HL359_0 := aM (show Kd.V k53 53 _ w.heap.size _ _ ((qKA t355 x47_2).f0) from Kd.V_mk ul359_0 ge359_0)
            clear hva_ hvn_ hvc_ ge359_0 ul359_0 hcc359 hce359
            have HR359_0 := aM hi359_0
            have HC359_0 := aM hl359_0
            clear hi359_0 hl359_0
            replace p359 := eq_true p359
            replace q359 := eq_true q359
            go_wp2_with (first | ((with_reducible refine qJ (N := 13) rfl ?_); (try (refine qpB (by rfl) ?_; dsimp only)); refine qI ?hg (N := 13) ?hd (cs := #[.slice none 0 0, .int .i64 0, .string (⟨#[]⟩ : ByteArray)]) (t := 48) ?hr ?_; (case hd => rfl); (case hg => rfl); (case hr => exact gS); intro gb360 hg w33 hbox hb; have BK360 := aM (hbox); have GW360 := aM ((gg hg)); have GE360 := aM ((gg hg)); have NB353_360 := aM ((nl BK353 hg)); have NB360_353 := aM ((nr BK353 hg)); replace HO_41 := aM (Kd.qmB (Kd.qcD (rN HO_41) gb360 (Nat.le_of_eq hg.symm)) hb); replace HO_354002 := aM (Kd.qZ (rR HO_354002) hb); replace HL359_0 := aM (Kd.qKC (Kd.qvC (rV HL359_0) gb360 (Nat.le_of_eq hg.symm)) hb); replace BK353 := aM (bb BK353 hb); replace HR359_0 := aM (Kd.qY (by repeat (first | (with_reducible exact HR359_0.out) | (with_reducible refine Kd.qS ?_ _) | (with_reducible refine Kd.qR ?_ _) | (with_reducible refine Kd.qe ?_) | exact HR359_0.out)) hb); replace HB := aM (qB bl hb); clear hb hbox hg; have hnb34 := NB360_353.out; have hnc34 := NB353_360.out; (refine cb3 BK360 ?_; intro _ _ _); (refine cz3 BK360 ?_; intro _ _ _)) | ((with_reducible refine qF (f := 21) rfl ?_); refine qn (some 55) rfl rfl Tryz.func21 (by kernel_rfl) rfl #[.slice A359_0 ((qKA t355 x47_2).f0).length c359_0, .slice A2 l2.length c2] rfl gA ?_; (with_reducible refine (qBA.calls k2 _ _ ((qKA t355 x47_2).f0) _ _ l2 true _ ?side1 ?side2 ?side3 ?side4 A26.out).mono ?_); (case side1 => repeat (first | exact ((Kd.qcC (by (with_reducible repeat (first | apply Kd.qUB | apply Kd.qTB | apply Kd.qqB)); exact (Kd.qhB (Kd.V_far (p := ⟨gb360, 2, none⟩) (Kd.V_far (p := ⟨gb360, 1, none⟩) (Kd.V_far (p := ⟨gb360, 0, none⟩) (Kd.qhB HL359_0.out (fun k_ hk => (⟨hk, hk.2⟩ : _ ∧ k_ ≠ gb360))) (fun _ hk => hk.2) (.slice A359_0 ((qKA t355 x47_2).f0).length c359_0)) (fun _ hk => hk.2) (.int .i64 ((qKA t355 x47_2).f1))) (fun _ hk => hk.2) (.string ((qKA t355 x47_2).f2))) (fun _ h_ => h_.1)))).2.2) | (with_reducible refine Kd.qS ?_ _) | (with_reducible refine Kd.qR ?_ _) | (with_reducible refine Kd.qe ?_))); (case side2 => exact HC359_0.out); (case side3 => exact Kd.qY HR2.out bl); (case side4 => exact HC2.out); rintro e w' ⟨rfl, ⟨nd, rfl⟩⟩; refine ⟨_, rfl, ?_⟩) | ((with_reducible refine qF (f := 22) rfl ?_); refine qn (some 59) rfl rfl Tryz.func22 (by kernel_rfl) rfl #[.slice (some ad359) t355.length co22, .int .i64 x47_2] rfl gA ?_; (with_reducible refine (qWA.calls k2 _ _ t355 x47_2 t362 false _ ?side1 ?side2 A28.out).mono ?_); (case side1 => refine (Kd.qFB (e := 48) (base := w.heap.size) (ok := fun k_ => ((some k_ ≠ (.slice Ao9 t349.length co9 : Value).ownBlock ∧ k_ ≠ gb353) ∧ k_ ≠ gb360)) (n := t355.length) (c := co22) ?_).2.2; exact (by (with_reducible repeat (first | apply Kd.qrA | apply Kd.qqA | apply Kd.qEB)); exact (Kd.qLB (Kd.N_far (p := ⟨gb360, 2, none⟩) (Kd.N_far (p := ⟨gb360, 1, none⟩) (Kd.N_far (p := ⟨gb360, 0, none⟩) (Kd.qLB HO_41.out (fun k_ hk => (⟨hk, hk.2⟩ : _ ∧ k_ ≠ gb360))) (fun _ hk => hk.2) (.slice A359_0 ((qKA t355 x47_2).f0).length c359_0)) (fun _ hk => hk.2) (.int .i64 ((qKA t355 x47_2).f1))) (fun _ hk => hk.2) (.string ((qKA t355 x47_2).f2))) (fun _ h_ => h_.1)))); (case side2 => exact (Kd.qFB HO_41.out).2.1); rintro e w' ⟨rfl, ⟨nd, rfl⟩⟩; refine ⟨_, rfl, ?_⟩))
            go_ret2
            exact ⟨sR, bl⟩
          ·replace c27 := Bool.eq_false_iff.mpr c27
           subst c27
           replace H := iF H
           have H' := aM H
           clear H
           have p359 : 0 ≤ (x47_2 : Int) := of_decide_eq_true am
           have q359 : x47_2 < (t355.length : Int) := of_decide_eq_true am
           obtain ⟨ad359, A359_0, c359_0, e359, hx359_0, hx359_1, hx359_2, hl359_0, hi359_0⟩ := qXD (Kd.qFB HO_41.out).2.2 x47_2 p359 q359
           cases e359
           obtain ⟨ce359, hce359, hMe359, hcc359⟩ := Kd.N_get HO_41.out z48 x47_2 p359 (by first | exact q359 | exact of_decide_eq_true am | (have e_ := (Kd.qFB HO_41.out).1; omega))
           obtain ⟨ua359_0, uc359_0, rfl, ul359_0, ge359_0⟩ := qKD hMe359
           have hv359_0 := hcc359 0 _ rfl
           rw [Nat.add_zero] at hv359_0
           replace hv359_0 := Option.some.inj (hv359_0.symm.trans hx359_0)
           injection hv359_0 with hva_ hvn_ hvc_
           rw [hva_] at ge359_0
           rw [hvc_] at ul359_0
           have HL359_0 := aM (show Kd.V k53 53 _ w.heap.size _ _ ((qKA t355 x47_2).f0) from Kd.V_mk ul359_0 ge359_0)
           clear hva_ hvn_ hvc_ ge359_0 ul359_0 hcc359 hce359
           have HR359_0 := aM hi359_0
           have HC359_0 := aM hl359_0
           clear hi359_0 hl359_0
           replace p359 := eq_true p359
           replace q359 := eq_true q359
           go_wp2_with (first | ((with_reducible refine qJ (N := 13) rfl ?_); (try (refine qpB (by rfl) ?_; dsimp only)); refine qI ?hg (N := 13) ?hd (cs := #[.slice none 0 0, .int .i64 0, .string (⟨#[]⟩ : ByteArray)]) (t := 48) ?hr ?_; (case hd => rfl); (case hg => rfl); (case hr => exact gS); intro gb360 hg w36 hbox hb; have BK360 := aM (hbox); have GW360 := aM ((gg hg)); have GE360 := aM ((gg hg)); have NB353_360 := aM ((nl BK353 hg)); have NB360_353 := aM ((nr BK353 hg)); replace HO_41 := aM (Kd.qmB (Kd.qcD (rN HO_41) gb360 (Nat.le_of_eq hg.symm)) hb); replace HO_354002 := aM (Kd.qZ (rR HO_354002) hb); replace HL359_0 := aM (Kd.qKC (Kd.qvC (rV HL359_0) gb360 (Nat.le_of_eq hg.symm)) hb); replace BK353 := aM (bb BK353 hb); replace HR359_0 := aM (Kd.qY (by repeat (first | (with_reducible exact HR359_0.out) | (with_reducible refine Kd.qS ?_ _) | (with_reducible refine Kd.qR ?_ _) | (with_reducible refine Kd.qe ?_) | exact HR359_0.out)) hb); replace HB := aM (qB bl hb); clear hb hbox hg; have hnb37 := NB360_353.out; have hnc37 := NB353_360.out; (refine cb3 BK360 ?_; intro _ _ _); (refine cz3 BK360 ?_; intro _ _ _)) | ((with_reducible refine qF (f := 21) rfl ?_); refine qn (some 55) rfl rfl Tryz.func21 (by kernel_rfl) rfl #[.slice A359_0 ((qKA t355 x47_2).f0).length c359_0, .slice A2 l2.length c2] rfl gA ?_; (with_reducible refine (qBA.calls k2 _ _ ((qKA t355 x47_2).f0) _ _ l2 false _ ?side1 ?side2 ?side3 ?side4 A26.out).mono ?_); (case side1 => repeat (first | exact ((Kd.qcC (by (with_reducible repeat (first | apply Kd.qUB | apply Kd.qTB | apply Kd.qqB)); exact (Kd.qhB (Kd.V_far (p := ⟨gb360, 2, none⟩) (Kd.V_far (p := ⟨gb360, 1, none⟩) (Kd.V_far (p := ⟨gb360, 0, none⟩) (Kd.qhB HL359_0.out (fun k_ hk => (⟨hk, hk.2⟩ : _ ∧ k_ ≠ gb360))) (fun _ hk => hk.2) (.slice A359_0 ((qKA t355 x47_2).f0).length c359_0)) (fun _ hk => hk.2) (.int .i64 ((qKA t355 x47_2).f1))) (fun _ hk => hk.2) (.string ((qKA t355 x47_2).f2))) (fun _ h_ => h_.1)))).2.2) | (with_reducible refine Kd.qS ?_ _) | (with_reducible refine Kd.qR ?_ _) | (with_reducible refine Kd.qe ?_))); (case side2 => exact HC359_0.out); (case side3 => exact Kd.qY HR2.out bl); (case side4 => exact HC2.out); rintro e w' ⟨rfl, ⟨nd, rfl⟩⟩; refine ⟨_, rfl, ?_⟩))
           go_roundg k2
           case measure => have := HJ4.out; have := HK2.out; omega
           case rel => exact ⟨(wrap64 (x47_2 + 1)), sD, H', ⟨by have := HJ4.out; have := HK2.out; omega⟩, ⟨by (with_reducible repeat (first | apply Kd.qrA | apply Kd.qqA | apply Kd.qEB)); exact Kd.qLB (Kd.N_far (p := ⟨gb360, 2, none⟩) (Kd.N_far (p := ⟨gb360, 1, none⟩) (Kd.N_far (p := ⟨gb360, 0, none⟩) (Kd.qLB HO_41.out (fun k_ hk => (⟨hk, hk.2⟩ : _ ∧ k_ ≠ gb360))) (fun _ hk => hk.2) (.slice A359_0 ((qKA t355 x47_2).f0).length c359_0)) (fun _ hk => hk.2) (.int .i64 ((qKA t355 x47_2).f1))) (fun _ hk => hk.2) (.string ((qKA t355 x47_2).f2))) (fun _ hk => ⟨hk.1.1.1, hk.1.1.2⟩)⟩, ⟨by (with_reducible repeat (first | apply Kd.qQ | apply Kd.qU | apply Kd.qV)); exact Kd.qa (Kd.R_far (p := ⟨gb360, 2, none⟩) (Kd.R_far (p := ⟨gb360, 1, none⟩) (Kd.R_far (p := ⟨gb360, 0, none⟩) (Kd.qAB HO_354002.out BK360.out (by decide)) (fun _ hk => hk.2) (.slice A359_0 ((qKA t355 x47_2).f0).length c359_0)) (fun _ hk => hk.2) (.int .i64 ((qKA t355 x47_2).f1))) (fun _ hk => hk.2) (.string ((qKA t355 x47_2).f2))) (fun _ hk => trivial)⟩, ⟨bF BK353 NB353_360⟩, ⟨bl⟩⟩
         ·rw [if_neg c25] at H
          exact absurd H (by simp)
        ·rw [if_neg c24] at H
         exact absurd H (by simp)
       ·rw [if_neg c23] at H
        have c23b0 := decide_eq_false c23
        clear c23
        simp only [Option.some.injEq, Prod.mk.injEq] at H
        obtain ⟨rfl, rfl⟩ := H
        go_wp2
        go_ret2
        exact ⟨sR, bl⟩
    ·replace c19 := Bool.eq_false_iff.mpr c19
     subst c19
     replace H := iF H
     simp only [Option.some.injEq, Prod.mk.injEq] at H
     obtain ⟨rfl, rfl⟩ := H
     (refine cb3 BK353 ?_; intro _ _ _)
     (refine cz3 BK353 ?_; intro _ _ _)
     go_wp2_with (first | ((with_reducible refine qF (f := 20) rfl ?_); refine qn (some 40) rfl rfl Tryz.func20 (by kernel_rfl) rfl #[.agg #[.int .i64 t347, .int .i64 t348, .slice Ao9 t349.length co9], .slice A1 l1.length c1] rfl gA ?_; (with_reducible refine (qP.calls kj4 t347 t348 _ _ t349 (fun k_ => k_ < w.heap.size) _ _ l1 t355 false _ ?side1 ?side2 ?side3 A18.out).mono ?_); (case side1 => repeat (first | exact (Kd.qM HO_354002.out).2.2 | (with_reducible refine Kd.qS ?_ _) | (with_reducible refine Kd.qR ?_ _) | (with_reducible refine Kd.qe ?_))); (case side2 => exact (Kd.qM HO_354002.out).2.1); (case side3 => exact Kd.V_mk HC1.out (Kd.qUD (Kd.C_F k53_heap HR1.out) bl)); rintro e w40 ⟨v356, rfl, ho0, hb⟩; refine ⟨_, rfl, ?_⟩; have HO357 := aM (Kd.qXE (Kd.qLB (ok' := fun k_ => some k_ ≠ (.slice Ao9 t349.length co9 : Value).ownBlock ∧ k_ ≠ gb353) ho0 (fun k_ hk_ => ⟨Or.elim hk_ (fun hs_ => fun e_ => Nat.not_le.2 hs_ (Kd.qMA HO_354002.out k_ e_.symm)) (fun hn_ => (Kd.fresh' (Kd.R_lt (rR HO_354002)) k_ hn_)), Or.elim hk_ (fun hs_ => fun e_ => Nat.not_le.2 hs_ (by rw [e_]; exact GW353.out)) (fun hn_ => (Kd.freshB (rB BK353) k_ hn_))⟩)) (qL bl)); replace HO_354002 := aM (Kd.qZ (rR HO_354002) hb); replace BK353 := aM (bb BK353 hb); replace HB := aM (qB bl hb); (try clear hb); (try clear hb2); (try clear hk); (try clear hi); (try clear ho0)))
     go_ret2
     exact ⟨sR, bl⟩
def qSC.f (a0_0 : Int) (a0_1 : Int) (a0_2 : Int) (a0_3 : Int) (a0_4 : Int) (a0_5 : Int) : Option (Int × Int × Int × Int × Int × Int) := some (a0_0, a0_1, a0_2, a0_3, a0_4, a0_5)
set_option maxHeartbeats 8000000 in
set_option maxRecDepth 100000 in
theorem qSC.calls (a0_0 : Int) (a0_1 : Int) (a0_2 : Int) (a0_3 : Int) (a0_4 : Int) (a0_5 : Int) (r1 : Int) (r2 : Int) (r3 : Int) (r4 : Int) (r5 : Int) (r6 : Int) (w : World) (h : qSC.f a0_0 a0_1 a0_2 a0_3 a0_4 a0_5 = some (r1, r2, r3, r4, r5, r6)) :
  Calls Tryz.prog 50 #[.agg #[.int .i64 a0_0, .int .i64 a0_1, .int .i64 a0_2, .int .i64 a0_3, .int .i64 a0_4, .int .i64 a0_5]] w fun e w' => e = .returned (.agg #[.int .i64 r1, .int .i64 r2, .int .i64 r3, .int .i64 r4, .int .i64 r5, .int .i64 r6]) ∧ Below w.heap.size w w' := by
 have hu55 := Tryz.underlying55
 have hu51 := Tryz.underlying51
 have HB := aM (Below.refl w.heap.size w)
 have H : (some (a0_0, a0_1, a0_2, a0_3, a0_4, a0_5)) = some (r1, r2, r3, r4, r5, r6) := h
 clear h
 simp only [Option.some.injEq, Prod.mk.injEq] at H
 obtain ⟨rfl, rfl, rfl, rfl, rfl, rfl⟩ := H
 go_enter Tryz.func50, Tryz.ntmps50
 go_wp2_with (first | ((with_reducible refine qJ (N := 1) rfl ?_); refine qI ?hg (N := 1) ?hd (cs := #[.int .i64 a0_0, .int .i64 a0_1, .int .i64 a0_2, .int .i64 a0_3, .int .i64 a0_4, .int .i64 a0_5]) (t := 55) ?hr ?_; (case hd => rfl); (case hg => rfl); (case hr => exact gS); intro gb364 hg w2 hbox hb; have BK364 := aM (hbox); have GW364 := aM ((gg hg)); have GE364 := aM ((gg hg)); replace HB := aM (qB bl hb); clear hb hbox hg) | ((with_reducible refine qJ (N := 2) rfl ?_); refine qI ?hg (N := 2) ?hd (cs := #[.int .i64 0, .int .i64 0, .int .i64 0, .int .i64 0, .int .i64 0, .int .i64 0]) (t := 51) ?hr ?_; (case hd => rfl); (case hg => rfl); (case hr => exact gS); intro gb365 hg w3 hbox hb; have BK365 := aM (hbox); have GW365 := aM ((gg hg)); have GE365 := aM ((gg hg)); have NB364_365 := aM ((nl BK364 hg)); have NB365_364 := aM ((nr BK364 hg)); replace BK364 := aM (bb BK364 hb); replace HB := aM (qB bl hb); clear hb hbox hg) | ((with_reducible refine qJ (N := 3) rfl ?_); refine qI ?hg (N := 3) ?hd (cs := #[.int .i64 0, .int .i64 0, .int .i64 0, .int .i64 0, .int .i64 0, .int .i64 0]) (t := 51) ?hr ?_; (case hd => rfl); (case hg => rfl); (case hr => exact gS); intro gb366 hg w4 hbox hb; have BK366 := aM (hbox); have GW366 := aM ((gg hg)); have GE366 := aM ((gg hg)); have NB364_366 := aM ((nl BK364 hg)); have NB366_364 := aM ((nr BK364 hg)); have NB365_366 := aM ((nl BK365 hg)); have NB366_365 := aM ((nr BK365 hg)); replace BK364 := aM (bb BK364 hb); replace BK365 := aM (bb BK365 hb); replace HB := aM (qB bl hb); clear hb hbox hg; have hnb5 := NB364_365.out; have hnc5 := NB365_364.out; have hnb6 := NB364_366.out; have hnc6 := NB366_364.out; (refine cb6 BK364 ?_; intro _ _ _ _ _ _); (refine cz6 BK364 ?_; intro _ _ _ _ _ _); have hnb8 := NB366_365.out; have hnc8 := NB365_366.out; (refine cb6 BK366 ?_; intro _ _ _ _ _ _); (refine cz6 BK366 ?_; intro _ _ _ _ _ _); (refine cb6 BK365 ?_; intro _ _ _ _ _ _); (refine cz6 BK365 ?_; intro _ _ _ _ _ _)))
 refine bodyPost_ret (results_cell_row rfl _ _ gb365 51 #[.int .i64 a0_0, .int .i64 a0_1, .int .i64 a0_2, .int .i64 a0_3, .int .i64 a0_4, .int .i64 a0_5] (0, 0) _ rfl (by (with_reducible repeat (first | refine qH ?_ _ | refine qE ?_ | refine qG ?_ _)); refine qHA (cs := #[.int .i64 a0_0, .int .i64 a0_1, .int .i64 a0_2, .int .i64 a0_3, .int .i64 a0_4, .int .i64 0]) ?_ 5 _ rfl; (with_reducible repeat (first | refine qH ?_ _ | refine qE ?_ | refine qG ?_ _)); refine qHA (cs := #[.int .i64 a0_0, .int .i64 a0_1, .int .i64 a0_2, .int .i64 a0_3, .int .i64 0, .int .i64 0]) ?_ 4 _ rfl; (with_reducible repeat (first | refine qH ?_ _ | refine qE ?_ | refine qG ?_ _)); refine qHA (cs := #[.int .i64 a0_0, .int .i64 a0_1, .int .i64 a0_2, .int .i64 0, .int .i64 0, .int .i64 0]) ?_ 3 _ rfl; (with_reducible repeat (first | refine qH ?_ _ | refine qE ?_ | refine qG ?_ _)); refine qHA (cs := #[.int .i64 a0_0, .int .i64 a0_1, .int .i64 0, .int .i64 0, .int .i64 0, .int .i64 0]) ?_ 2 _ rfl; (with_reducible repeat (first | refine qH ?_ _ | refine qE ?_ | refine qG ?_ _)); refine qHA (cs := #[.int .i64 a0_0, .int .i64 0, .int .i64 0, .int .i64 0, .int .i64 0, .int .i64 0]) ?_ 1 _ rfl; (with_reducible repeat (first | refine qH ?_ _ | refine qE ?_ | refine qG ?_ _)); refine qHA (cs := #[.int .i64 0, .int .i64 0, .int .i64 0, .int .i64 0, .int .i64 0, .int .i64 0]) ?_ 0 _ rfl; (with_reducible repeat (first | refine qH ?_ _ | refine qE ?_ | refine qG ?_ _)); refine qSB ?_ NB365_366.out _; (with_reducible repeat (first | refine qH ?_ _ | refine qE ?_ | refine qG ?_ _)); refine qSB ?_ NB365_366.out _; (with_reducible repeat (first | refine qH ?_ _ | refine qE ?_ | refine qG ?_ _)); refine qSB ?_ NB365_366.out _; (with_reducible repeat (first | refine qH ?_ _ | refine qE ?_ | refine qG ?_ _)); refine qSB ?_ NB365_366.out _; (with_reducible repeat (first | refine qH ?_ _ | refine qE ?_ | refine qG ?_ _)); refine qSB ?_ NB365_366.out _; (with_reducible repeat (first | refine qH ?_ _ | refine qE ?_ | refine qG ?_ _)); refine qSB ?_ NB365_366.out _; (with_reducible repeat (first | refine qH ?_ _ | refine qE ?_ | refine qG ?_ _)); exact BK365.out) Tryz.underlying51 rfl (by kernel_rfl)) rfl ?_
 exact ⟨sR, bl⟩
def qxB.f (a0_0 : Int) (a0_1 : Int) (a0_2 : Int) (a0_3 : Int) (a0_4 : Int) (a0_5 : Int) (a0_6 : Int) (a0_7 : Int) : Option (Int × Int × Int × Int × Int × Int × Int × Int) := (qSC.f a0_2 a0_3 a0_4 a0_5 a0_6 a0_7).bind fun bt370 => (some (a0_0, a0_1, bt370.1, bt370.2.1, bt370.2.2.1, bt370.2.2.2.1, bt370.2.2.2.2.1, bt370.2.2.2.2.2))
set_option maxHeartbeats 8000000 in
set_option maxRecDepth 100000 in
theorem qxB.calls (a0_0 : Int) (a0_1 : Int) (a0_2 : Int) (a0_3 : Int) (a0_4 : Int) (a0_5 : Int) (a0_6 : Int) (a0_7 : Int) (r1 : Int) (r2 : Int) (r3 : Int) (r4 : Int) (r5 : Int) (r6 : Int) (r7 : Int) (r8 : Int) (w : World) (h : qxB.f a0_0 a0_1 a0_2 a0_3 a0_4 a0_5 a0_6 a0_7 = some (r1, r2, r3, r4, r5, r6, r7, r8)) :
  Calls Tryz.prog 23 #[.agg #[.int .i64 a0_0, .int .i64 a0_1, .int .i64 a0_2, .int .i64 a0_3, .int .i64 a0_4, .int .i64 a0_5, .int .i64 a0_6, .int .i64 a0_7]] w fun e w' => e = .returned (.agg #[.int .i64 r1, .int .i64 r2, .int .i64 r3, .int .i64 r4, .int .i64 r5, .int .i64 r6, .int .i64 r7, .int .i64 r8]) ∧ Below w.heap.size w w' := by
 have hu57 := Tryz.underlying57
 have hu53 := Tryz.underlying53
 have hu55 := Tryz.underlying55
 have hu51 := Tryz.underlying51
 have HB := aM (Below.refl w.heap.size w)
 have H : ((qSC.f a0_2 a0_3 a0_4 a0_5 a0_6 a0_7).bind fun bt370 => (some (a0_0, a0_1, bt370.1, bt370.2.1, bt370.2.2.1, bt370.2.2.2.1, bt370.2.2.2.2.1, bt370.2.2.2.2.2))) = some (r1, r2, r3, r4, r5, r6, r7, r8) := h
 clear h
 replace H := bO H
 obtain ⟨⟨t370, t371, t372, t373, t374, t375⟩, A2, H⟩ := H
 dsimp only at H A2
 simp only [Option.some.injEq, Prod.mk.injEq] at H
 obtain ⟨rfl, rfl, rfl, rfl, rfl, rfl, rfl, rfl⟩ := H
 go_enter Tryz.func23, Tryz.ntmps23
 go_wp2_with (first | ((with_reducible refine qJ (N := 1) rfl ?_); refine qI ?hg (N := 1) ?hd (cs := #[.int .i64 a0_0, .int .i64 a0_1, .int .i64 a0_2, .int .i64 a0_3, .int .i64 a0_4, .int .i64 a0_5, .int .i64 a0_6, .int .i64 a0_7]) (t := 57) ?hr ?_; (case hd => rfl); (case hg => rfl); (case hr => exact gS); intro gb367 hg w3 hbox hb; have BK367 := aM (hbox); have GW367 := aM ((gg hg)); have GE367 := aM ((gg hg)); replace HB := aM (qB bl hb); clear hb hbox hg) | ((with_reducible refine qJ (N := 2) rfl ?_); refine qI ?hg (N := 2) ?hd (cs := #[.int .i64 0, .int .i64 0, .int .i64 0, .int .i64 0, .int .i64 0, .int .i64 0, .int .i64 0, .int .i64 0]) (t := 53) ?hr ?_; (case hd => rfl); (case hg => rfl); (case hr => exact gS); intro gb368 hg w4 hbox hb; have BK368 := aM (hbox); have GW368 := aM ((gg hg)); have GE368 := aM ((gg hg)); have NB367_368 := aM ((nl BK367 hg)); have NB368_367 := aM ((nr BK367 hg)); replace BK367 := aM (bb BK367 hb); replace HB := aM (qB bl hb); clear hb hbox hg) | ((with_reducible refine qJ (N := 3) rfl ?_); refine qI ?hg (N := 3) ?hd (cs := #[.int .i64 0, .int .i64 0, .int .i64 0, .int .i64 0, .int .i64 0, .int .i64 0, .int .i64 0, .int .i64 0]) (t := 53) ?hr ?_; (case hd => rfl); (case hg => rfl); (case hr => exact gS); intro gb369 hg w5 hbox hb; have BK369 := aM (hbox); have GW369 := aM ((gg hg)); have GE369 := aM ((gg hg)); have NB367_369 := aM ((nl BK367 hg)); have NB369_367 := aM ((nr BK367 hg)); have NB368_369 := aM ((nl BK368 hg)); have NB369_368 := aM ((nr BK368 hg)); replace BK367 := aM (bb BK367 hb); replace BK368 := aM (bb BK368 hb); replace HB := aM (qB bl hb); clear hb hbox hg; have hnb6 := NB367_368.out; have hnc6 := NB368_367.out; have hnb7 := NB367_369.out; have hnc7 := NB369_367.out; (refine cb8 BK367 ?_; intro _ _ _ _ _ _ _ _); (refine cz8 BK367 ?_; intro _ _ _ _ _ _ _ _); have hnb9 := NB369_368.out; have hnc9 := NB368_369.out; (refine cb8 BK369 ?_; intro _ _ _ _ _ _ _ _); (refine cz8 BK369 ?_; intro _ _ _ _ _ _ _ _)) | ((with_reducible refine qF (f := 50) rfl ?_); refine qn (some 12) rfl rfl Tryz.func50 (by kernel_rfl) rfl #[.agg #[.int .i64 a0_2, .int .i64 a0_3, .int .i64 a0_4, .int .i64 a0_5, .int .i64 a0_6, .int .i64 a0_7]] rfl gA ?_; (with_reducible refine (qSC.calls a0_2 a0_3 a0_4 a0_5 a0_6 a0_7 t370 t371 t372 t373 t374 t375 _ A2.out).mono ?_); rintro e w11 ⟨rfl, hb⟩; refine ⟨_, rfl, ?_⟩; replace BK367 := aM (qDA (g := gb367) (o := .cells #[.int .i64 a0_0, .int .i64 a0_1, .int .i64 a0_2, .int .i64 a0_3, .int .i64 a0_4, .int .i64 a0_5, .int .i64 a0_6, .int .i64 a0_7] 57 (0, 0)) (bF BK367 NB367_369) hb); replace BK368 := aM (qDA (g := gb368) (o := .cells #[.int .i64 0, .int .i64 0, .int .i64 0, .int .i64 0, .int .i64 0, .int .i64 0, .int .i64 0, .int .i64 0] 53 (0, 0)) (bF BK368 NB368_369) hb); replace BK369 := aM (qDA (g := gb369) (o := .cells #[.int .i64 a0_0, .int .i64 a0_1, .int .i64 0, .int .i64 0, .int .i64 0, .int .i64 0, .int .i64 0, .int .i64 0] 53 (0, 0)) (by (with_reducible repeat (first | refine qH ?_ _ | refine qE ?_ | refine qG ?_ _)); refine qHA (cs := #[.int .i64 a0_0, .int .i64 0, .int .i64 0, .int .i64 0, .int .i64 0, .int .i64 0, .int .i64 0, .int .i64 0]) ?_ 1 _ rfl; (with_reducible repeat (first | refine qH ?_ _ | refine qE ?_ | refine qG ?_ _)); refine qHA (cs := #[.int .i64 0, .int .i64 0, .int .i64 0, .int .i64 0, .int .i64 0, .int .i64 0, .int .i64 0, .int .i64 0]) ?_ 0 _ rfl; (with_reducible repeat (first | refine qH ?_ _ | refine qE ?_ | refine qG ?_ _)); exact BK369.out) hb); replace HB := aM (qB bl hb); (try clear hb); (try clear hb2); (try clear hk); (try clear hi); (refine cb8 BK369 ?_; intro _ _ _ _ _ _ _ _); (refine cz8 BK369 ?_; intro _ _ _ _ _ _ _ _); (refine cb8 BK368 ?_; intro _ _ _ _ _ _ _ _); (refine cz8 BK368 ?_; intro _ _ _ _ _ _ _ _)))
 refine bodyPost_ret (results_cell_row rfl _ _ gb368 53 #[.int .i64 a0_0, .int .i64 a0_1, .int .i64 t370, .int .i64 t371, .int .i64 t372, .int .i64 t373, .int .i64 t374, .int .i64 t375] (0, 0) _ rfl (by (with_reducible repeat (first | refine qH ?_ _ | refine qE ?_ | refine qG ?_ _)); refine qHA (cs := #[.int .i64 a0_0, .int .i64 a0_1, .int .i64 t370, .int .i64 t371, .int .i64 t372, .int .i64 t373, .int .i64 t374, .int .i64 0]) ?_ 7 _ rfl; (with_reducible repeat (first | refine qH ?_ _ | refine qE ?_ | refine qG ?_ _)); refine qHA (cs := #[.int .i64 a0_0, .int .i64 a0_1, .int .i64 t370, .int .i64 t371, .int .i64 t372, .int .i64 t373, .int .i64 0, .int .i64 0]) ?_ 6 _ rfl; (with_reducible repeat (first | refine qH ?_ _ | refine qE ?_ | refine qG ?_ _)); refine qHA (cs := #[.int .i64 a0_0, .int .i64 a0_1, .int .i64 t370, .int .i64 t371, .int .i64 t372, .int .i64 0, .int .i64 0, .int .i64 0]) ?_ 5 _ rfl; (with_reducible repeat (first | refine qH ?_ _ | refine qE ?_ | refine qG ?_ _)); refine qHA (cs := #[.int .i64 a0_0, .int .i64 a0_1, .int .i64 t370, .int .i64 t371, .int .i64 0, .int .i64 0, .int .i64 0, .int .i64 0]) ?_ 4 _ rfl; (with_reducible repeat (first | refine qH ?_ _ | refine qE ?_ | refine qG ?_ _)); refine qHA (cs := #[.int .i64 a0_0, .int .i64 a0_1, .int .i64 t370, .int .i64 0, .int .i64 0, .int .i64 0, .int .i64 0, .int .i64 0]) ?_ 3 _ rfl; (with_reducible repeat (first | refine qH ?_ _ | refine qE ?_ | refine qG ?_ _)); refine qHA (cs := #[.int .i64 a0_0, .int .i64 a0_1, .int .i64 0, .int .i64 0, .int .i64 0, .int .i64 0, .int .i64 0, .int .i64 0]) ?_ 2 _ rfl; (with_reducible repeat (first | refine qH ?_ _ | refine qE ?_ | refine qG ?_ _)); refine qHA (cs := #[.int .i64 a0_0, .int .i64 0, .int .i64 0, .int .i64 0, .int .i64 0, .int .i64 0, .int .i64 0, .int .i64 0]) ?_ 1 _ rfl; (with_reducible repeat (first | refine qH ?_ _ | refine qE ?_ | refine qG ?_ _)); refine qHA (cs := #[.int .i64 0, .int .i64 0, .int .i64 0, .int .i64 0, .int .i64 0, .int .i64 0, .int .i64 0, .int .i64 0]) ?_ 0 _ rfl; (with_reducible repeat (first | refine qH ?_ _ | refine qE ?_ | refine qG ?_ _)); refine qSB ?_ NB368_369.out _; (with_reducible repeat (first | refine qH ?_ _ | refine qE ?_ | refine qG ?_ _)); refine qSB ?_ NB368_369.out _; (with_reducible repeat (first | refine qH ?_ _ | refine qE ?_ | refine qG ?_ _)); refine qSB ?_ NB368_369.out _; (with_reducible repeat (first | refine qH ?_ _ | refine qE ?_ | refine qG ?_ _)); refine qSB ?_ NB368_369.out _; (with_reducible repeat (first | refine qH ?_ _ | refine qE ?_ | refine qG ?_ _)); refine qSB ?_ NB368_369.out _; (with_reducible repeat (first | refine qH ?_ _ | refine qE ?_ | refine qG ?_ _)); refine qSB ?_ NB368_369.out _; (with_reducible repeat (first | refine qH ?_ _ | refine qE ?_ | refine qG ?_ _)); exact BK368.out) Tryz.underlying53 rfl (by kernel_rfl)) rfl ?_
 exact ⟨sR, bl⟩
def qf.l0 : Nat → List (S57) → Int → List (S53) → Option ((List (S53)))
 | 0, _, _, _ => none
 | k + 1, x0, x4, x7 => if x4 < (x0.length : Int) then (if 0 ≤ x4 then ((qxB.f ((qyA x0 x4).f0) ((qyA x0 x4).f1) ((qyA x0 x4).f2.f0) ((qyA x0 x4).f2.f1) ((qyA x0 x4).f2.f2) ((qyA x0 x4).f2.f3) ((qyA x0 x4).f2.f4) ((qyA x0 x4).f2.f5)).bind fun bt380 => (if x4 < (x7.length : Int) then (qf.l0 k x0 (wrap64 (x4 + 1)) (x7.set (x4 : Int).toNat (⟨bt380.1, bt380.2.1, (⟨bt380.2.2.1, bt380.2.2.2.1, bt380.2.2.2.2.1, bt380.2.2.2.2.2.1, bt380.2.2.2.2.2.2.1, bt380.2.2.2.2.2.2.2⟩ : S51)⟩ : S53))) else (none))) else (none)) else (some x7)
def qf.f (k : Nat) (l0 : List (S57)) : Option ((List (S53))) := if 0 ≤ (l0.length : Int) then (if ((l0.length : Int) : Int).toNat ≤ 4398046511104 then (qf.l0 k l0 0 (List.replicate ((l0.length : Int) : Int).toNat z53)) else (none)) else (none)
set_option maxHeartbeats 8000000 in
set_option maxRecDepth 100000 in
theorem qf.calls (k : Nat) (A0 : Option Addr) (c0 : Nat) (l0 : List (S57)) (r : List (S53)) (w : World) (hr0 : Kd.C k57 w A0 l0.length l0) (hc0 : l0.length ≤ c0) (h : qf.f k l0 = some r) :
  Calls Tryz.prog 8 #[.slice A0 l0.length c0] w fun e w' => ∃ v0_ : Value, e = .returned (v0_) ∧ Kd.R k53 53 w' w.heap.size (fun _ => True) v0_ r ∧ Below w.heap.size w w' := by
 have hu57 := Tryz.underlying57
 have hu53 := Tryz.underlying53
 have HR0 := aM hr0
 have HC0 := aM hc0
 clear hr0 hc0
 have HB := aM (Below.refl w.heap.size w)
 have H : (if 0 ≤ (l0.length : Int) then (if ((l0.length : Int) : Int).toNat ≤ 4398046511104 then (qf.l0 k l0 0 (List.replicate ((l0.length : Int) : Int).toNat z53)) else (none)) else (none)) = some r := h
 clear h
 by_cases c2 : 0 ≤ (l0.length : Int)
 ·rw [if_pos c2] at H
  have c2b0 := eq_true c2
  have c2b1 := decide_eq_true c2
  clear c2
  by_cases c3 : ((l0.length : Int) : Int).toNat ≤ 4398046511104
  ·rw [if_pos c3] at H
   have c3b0 := eq_true c3
   have c3b1 := decide_eq_true c3
   clear c3
   obtain ⟨y376, hy376⟩ : ∃ y_ : List (S53), y_ = (List.replicate ((l0.length : Int) : Int).toNat z53) := ⟨_, rfl⟩
   replace H : (qf.l0 k l0 0 y376) = some r := by first | (rw [hy376]; with_reducible exact H) | (have H2_ := (Option.bind_some _ _).symm.trans H; rw [hy376]; with_reducible exact H2_) | (have H2_ := (Option.bind_some _ _).symm.trans H; with_reducible exact H2_) | with_reducible exact H | (rw [hy376]; exact H) | exact H
   have Ny376 := aM hy376
   clear hy376
   have H' := aM H
   clear H
   go_enter Tryz.func8, Tryz.ntmps8
   go_wp2_with (first | ((with_reducible refine qJ (N := 7) rfl ?_); refine Kd.R_make k53 _ 53 rfl (N := 7) rfl 26 _ _ rfl (l0.length : Int) rfl rfl Tryz.underlying26 (.agg #[(.int .i64 0), (.int .i64 0), (.int .i64 0), (.int .i64 0), (.int .i64 0), (.int .i64 0), (.int .i64 0), (.int .i64 0)]) 64 info53 rfl (by decide) (by omega) z53 (ok := fun _ => True) (okp := fun _ => True) (qGE _ _ _ z53 ) (fun _ hk => hk) trivial (of_decide_eq_true am) (Nat.le_trans (Nat.mul_le_mul_right _ (of_decide_eq_true am : (l0.length : Int).toNat ≤ 4398046511104)) (by omega)) (Below.refl _ _) (Nat.le_refl _) ?_; intro v377 w4 ho5 hb hg_ hnew_; clear hg_ hnew_; (first | rw [← Ny376.out] at ho5 | (simp only [Int.reduceToNat] at ho5; rw [← Ny376.out] at ho5)); have HO378 := aM (Kd.qAA ho5 (qL bl)); replace HB := aM (qB bl hb); clear hb ho5))
   go_loopg [4] k (fun kq v4 w' => ∃ (x4_1 : Int) (x7_1 : List (S53)), v4 = .int .i64 x4_1 ∧ Aside0 (qf.l0 kq l0 x4_1 x7_1 = some r) ∧ Aside0 (kq ≤ k) ∧ Aside0 (Kd.R k53 53 w' w.heap.size (fun _ => True) v377 x7_1) ∧ Aside0 (Below w.heap.size w w'))
   case atStart => exact ⟨(0), (y376), sD, H', ⟨Nat.le_refl _⟩, ⟨rR HO378⟩, ⟨bl⟩⟩
   case round =>
    clear H'; (try clear c2); (try clear c2b0); (try clear c2b1); (try clear p2); (try clear c3); (try clear c3b0); (try clear c3b1)
    obtain ⟨x4_1, x7_1, rfl, HA, HK1, HO_7, HB⟩ := hrel
    cases gk with
    | zero => exact absurd HA.out (by simp [qf.l0])
    | succ k1 =>
     have H := HA.out
     clear HA
     simp only [qf.l0] at H
     by_cases c6 : x4_1 < (l0.length : Int)
     ·rw [if_pos c6] at H
      have c6b0 := decide_eq_true c6
      clear c6
      by_cases c7 : 0 ≤ x4_1
      ·rw [if_pos c7] at H
       have c7b0 := decide_eq_true c7
       clear c7
       replace H := bO H
       obtain ⟨⟨t380, t381, t382, t383, t384, t385, t386, t387⟩, A8, H⟩ := H
       dsimp only at H A8
       by_cases c9 : x4_1 < (x7_1.length : Int)
       ·rw [if_pos c9] at H
        have c9b0 := decide_eq_true c9
        clear c9
        obtain ⟨y388, hy388⟩ : ∃ y_ : List (S53), y_ = (x7_1.set (x4_1 : Int).toNat (⟨t380, t381, (⟨t382, t383, t384, t385, t386, t387⟩ : S51)⟩ : S53)) := ⟨_, rfl⟩
        replace H : (qf.l0 k1 l0 (wrap64 (x4_1 + 1)) y388) = some r := by first | (rw [hy388]; with_reducible exact H) | (have H2_ := (Option.bind_some _ _).symm.trans H; rw [hy388]; with_reducible exact H2_) | (have H2_ := (Option.bind_some _ _).symm.trans H; with_reducible exact H2_) | with_reducible exact H | (rw [hy388]; exact H) | exact H
        have Ny388 := aM hy388
        clear hy388
        have H' := aM H
        clear H
        have p379 : 0 ≤ (x4_1 : Int) := of_decide_eq_true am
        have q379 : x4_1 < (l0.length : Int) := of_decide_eq_true am
        obtain ⟨ad379, e379, hx379_0, hx379_1, hx379_2, hx379_3, hx379_4, hx379_5, hx379_6, hx379_7⟩ := at_T57 HR0.out x4_1 p379 q379
        cases e379
        replace hx379_0 := (HB.out.cell (World.block_lt_of_cell? w _ hx379_0)).trans hx379_0
        replace hx379_1 := (HB.out.cell (World.block_lt_of_cell? w _ hx379_1)).trans hx379_1
        replace hx379_2 := (HB.out.cell (World.block_lt_of_cell? w _ hx379_2)).trans hx379_2
        replace hx379_3 := (HB.out.cell (World.block_lt_of_cell? w _ hx379_3)).trans hx379_3
        replace hx379_4 := (HB.out.cell (World.block_lt_of_cell? w _ hx379_4)).trans hx379_4
        replace hx379_5 := (HB.out.cell (World.block_lt_of_cell? w _ hx379_5)).trans hx379_5
        replace hx379_6 := (HB.out.cell (World.block_lt_of_cell? w _ hx379_6)).trans hx379_6
        replace hx379_7 := (HB.out.cell (World.block_lt_of_cell? w _ hx379_7)).trans hx379_7
        replace p379 := eq_true p379
        replace q379 := eq_true q379
        go_wp2_with (first | ((with_reducible refine qF (f := 23) rfl ?_); refine qn (some 20) rfl rfl Tryz.func23 (by kernel_rfl) rfl #[.agg #[.int .i64 ((qyA l0 x4_1).f0), .int .i64 ((qyA l0 x4_1).f1), .int .i64 ((qyA l0 x4_1).f2.f0), .int .i64 ((qyA l0 x4_1).f2.f1), .int .i64 ((qyA l0 x4_1).f2.f2), .int .i64 ((qyA l0 x4_1).f2.f3), .int .i64 ((qyA l0 x4_1).f2.f4), .int .i64 ((qyA l0 x4_1).f2.f5)]] rfl gA ?_; (with_reducible refine (qxB.calls ((qyA l0 x4_1).f0) ((qyA l0 x4_1).f1) ((qyA l0 x4_1).f2.f0) ((qyA l0 x4_1).f2.f1) ((qyA l0 x4_1).f2.f2) ((qyA l0 x4_1).f2.f3) ((qyA l0 x4_1).f2.f4) ((qyA l0 x4_1).f2.f5) t380 t381 t382 t383 t384 t385 t386 t387 _ A8.out).mono ?_); rintro e w11 ⟨rfl, hb⟩; refine ⟨_, rfl, ?_⟩; replace HO_7 := aM (Kd.qZ (rR HO_7) hb); replace HB := aM (qB bl hb); (try clear hb); (try clear hb2); (try clear hk); (try clear hi); have p10 : 0 ≤ (x4_1 : Int) := of_decide_eq_true am; have q10 : (x4_1 : Int) < ((x7_1.length : Int) : Int) := of_decide_eq_true am; obtain ⟨go10, co10, eo10, gb10, gl10, cl10, HG10⟩ := Kd.qdE HO_7.out (by omega); (first | cases eo10 | (injection eo10 with ea_ en_ ec_; (first | subst ea_ | (injection ea_ with ea_; subst ea_)); subst ec_; clear en_)); have GB10 := aM gb10; have GG10 := aM HG10; clear gb10 gl10 HG10; obtain ⟨ce10, hcl10, hM10, hcc10, hfr10⟩ := Kd.qrD HO_7.out z53 (x4_1 : Int) p10 q10; obtain rfl := qTC hM10; have hx10_0 : w11.cell? ⟨go10, (x4_1 : Int).toNat * 8, none⟩ = some (.int .i64 ((qA x7_1 x4_1).f0)) := hcc10 0 _ rfl; have hx10_1 : w11.cell? ⟨go10, (x4_1 : Int).toNat * 8 + 1, none⟩ = some (.int .i64 ((qA x7_1 x4_1).f1)) := hcc10 1 _ rfl; have hx10_2 : w11.cell? ⟨go10, (x4_1 : Int).toNat * 8 + 2, none⟩ = some (.int .i64 ((qA x7_1 x4_1).f2.f0)) := hcc10 2 _ rfl; have hx10_3 : w11.cell? ⟨go10, (x4_1 : Int).toNat * 8 + 3, none⟩ = some (.int .i64 ((qA x7_1 x4_1).f2.f1)) := hcc10 3 _ rfl; have hx10_4 : w11.cell? ⟨go10, (x4_1 : Int).toNat * 8 + 4, none⟩ = some (.int .i64 ((qA x7_1 x4_1).f2.f2)) := hcc10 4 _ rfl; have hx10_5 : w11.cell? ⟨go10, (x4_1 : Int).toNat * 8 + 5, none⟩ = some (.int .i64 ((qA x7_1 x4_1).f2.f3)) := hcc10 5 _ rfl; have hx10_6 : w11.cell? ⟨go10, (x4_1 : Int).toNat * 8 + 6, none⟩ = some (.int .i64 ((qA x7_1 x4_1).f2.f4)) := hcc10 6 _ rfl; have hx10_7 : w11.cell? ⟨go10, (x4_1 : Int).toNat * 8 + 7, none⟩ = some (.int .i64 ((qA x7_1 x4_1).f2.f5)) := hcc10 7 _ rfl; have hf10_0 : w11.frozen? ⟨go10, (x4_1 : Int).toNat * 8, none⟩ = false := hfr10 0; have hf10_1 : w11.frozen? ⟨go10, (x4_1 : Int).toNat * 8 + 1, none⟩ = false := hfr10 1; have hf10_2 : w11.frozen? ⟨go10, (x4_1 : Int).toNat * 8 + 2, none⟩ = false := hfr10 2; have hf10_3 : w11.frozen? ⟨go10, (x4_1 : Int).toNat * 8 + 3, none⟩ = false := hfr10 3; have hf10_4 : w11.frozen? ⟨go10, (x4_1 : Int).toNat * 8 + 4, none⟩ = false := hfr10 4; have hf10_5 : w11.frozen? ⟨go10, (x4_1 : Int).toNat * 8 + 5, none⟩ = false := hfr10 5; have hf10_6 : w11.frozen? ⟨go10, (x4_1 : Int).toNat * 8 + 6, none⟩ = false := hfr10 6; have hf10_7 : w11.frozen? ⟨go10, (x4_1 : Int).toNat * 8 + 7, none⟩ = false := hfr10 7; clear hcl10 hcc10 hfr10 hM10; replace p10 := eq_true p10; replace q10 := eq_true q10; have HX12 := aM (show Kd.R k53 53 w11 w.heap.size (fun _ => True) (.slice (some ⟨go10, 0, none⟩) x7_1.length co10) x7_1 from (rR HO_7)); obtain ⟨ce12, hcl12, hM12, hcc12, hfr12⟩ := Kd.qrD HX12.out z53 (x4_1 : Int) (of_decide_eq_true am) (by have h_ : (x4_1 : Int) < ((x7_1.length : Int) : Int) := of_decide_eq_true am; first | exact h_ | (have e_ := (Kd.qM HO_7.out).1; omega) | simpa using h_); obtain rfl := qTC hM12; have HP12 := Kd.R_seg HX12.out (x4_1 : Int) (of_decide_eq_true am) (by have h_ : (x4_1 : Int) < ((x7_1.length : Int) : Int) := of_decide_eq_true am; first | exact h_ | (have e_ := (Kd.qM HO_7.out).1; omega) | simpa using h_) (seg := [.int .i64 t380, .int .i64 t381, .int .i64 t382, .int .i64 t383, .int .i64 t384, .int .i64 t385, .int .i64 t386, .int .i64 t387]) (j := 0) hcl12 hcc12 (show 8 ≤ 8 from by decide) (x' := (⟨t380, t381, (⟨t382, t383, t384, t385, t386, t387⟩ : S51)⟩ : S53)) (qGE _ _ _ (⟨t380, t381, (⟨t382, t383, t384, t385, t386, t387⟩ : S51)⟩ : S53) ) (fun _ hk => hk); have hx12_0 := hcc12 0 _ rfl; (try simp only [show (k53).sz = 8 from rfl, Nat.mul_one, Nat.add_zero] at hx12_0); have hf12_0 := hfr12 0; (try simp only [show (k53).sz = 8 from rfl, Nat.mul_one, Nat.add_zero] at hf12_0); have hx12_1 := hcc12 1 _ rfl; (try simp only [show (k53).sz = 8 from rfl, Nat.mul_one, Nat.add_zero] at hx12_1); have hf12_1 := hfr12 1; (try simp only [show (k53).sz = 8 from rfl, Nat.mul_one, Nat.add_zero] at hf12_1); have hx12_2 := hcc12 2 _ rfl; (try simp only [show (k53).sz = 8 from rfl, Nat.mul_one, Nat.add_zero] at hx12_2); have hf12_2 := hfr12 2; (try simp only [show (k53).sz = 8 from rfl, Nat.mul_one, Nat.add_zero] at hf12_2); have hx12_3 := hcc12 3 _ rfl; (try simp only [show (k53).sz = 8 from rfl, Nat.mul_one, Nat.add_zero] at hx12_3); have hf12_3 := hfr12 3; (try simp only [show (k53).sz = 8 from rfl, Nat.mul_one, Nat.add_zero] at hf12_3); have hx12_4 := hcc12 4 _ rfl; (try simp only [show (k53).sz = 8 from rfl, Nat.mul_one, Nat.add_zero] at hx12_4); have hf12_4 := hfr12 4; (try simp only [show (k53).sz = 8 from rfl, Nat.mul_one, Nat.add_zero] at hf12_4); have hx12_5 := hcc12 5 _ rfl; (try simp only [show (k53).sz = 8 from rfl, Nat.mul_one, Nat.add_zero] at hx12_5); have hf12_5 := hfr12 5; (try simp only [show (k53).sz = 8 from rfl, Nat.mul_one, Nat.add_zero] at hf12_5); have hx12_6 := hcc12 6 _ rfl; (try simp only [show (k53).sz = 8 from rfl, Nat.mul_one, Nat.add_zero] at hx12_6); have hf12_6 := hfr12 6; (try simp only [show (k53).sz = 8 from rfl, Nat.mul_one, Nat.add_zero] at hf12_6); have hx12_7 := hcc12 7 _ rfl; (try simp only [show (k53).sz = 8 from rfl, Nat.mul_one, Nat.add_zero] at hx12_7); have hf12_7 := hfr12 7; (try simp only [show (k53).sz = 8 from rfl, Nat.mul_one, Nat.add_zero] at hf12_7); clear hcl12 hcc12 hfr12 hM12) | ((with_reducible refine qBC (t := 53) (p := 21) rfl ?_); refine qEC (t := 53) (p := 21) (v := ?vo_w13) (w1 := ((((((((w11.setCell ⟨go10, (x4_1 : Int).toNat * 8, none⟩ (.int .i64 t380)).setCell ⟨go10, (x4_1 : Int).toNat * 8 + 1, none⟩ (.int .i64 t381)).setCell ⟨go10, (x4_1 : Int).toNat * 8 + 2, none⟩ (.int .i64 t382)).setCell ⟨go10, (x4_1 : Int).toNat * 8 + 3, none⟩ (.int .i64 t383)).setCell ⟨go10, (x4_1 : Int).toNat * 8 + 4, none⟩ (.int .i64 t384)).setCell ⟨go10, (x4_1 : Int).toNat * 8 + 5, none⟩ (.int .i64 t385)).setCell ⟨go10, (x4_1 : Int).toNat * 8 + 6, none⟩ (.int .i64 t386)).setCell ⟨go10, (x4_1 : Int).toNat * 8 + 7, none⟩ (.int .i64 t387))) ?hg ?ho ?hn ?hr ?_; (case ho => rfl); (case hg => rfl); (case hn => rfl); (case hr => exact gS); intro w13 hw; have hg : w11.grownBy w13 (some go10) := (by rw [hw]; exact HP12.2); have hp_ : Kd.R k53 53 w13 w.heap.size (fun _ => True) (.slice (some ⟨go10, 0, none⟩) x7_1.length co10) y388 := (by rw [hw, Ny388.out]; exact HP12.1); clear HP12; replace HO_7 := aM (hp_); replace HB := aM ((by rw [hw]; exact qEA (qEA (qEA (qEA (qEA (qEA (qEA (qEA (HB.out) GB10.out) GB10.out) GB10.out) GB10.out) GB10.out) GB10.out) GB10.out) GB10.out : Below w.heap.size w w13)); clear hg hw hp_))
        go_roundg k1
        case measure => have := HK1.out; omega
        case rel => exact ⟨(wrap64 (x4_1 + 1)), (y388), sD, H', ⟨by have := HK1.out; omega⟩, ⟨rR HO_7⟩, ⟨bl⟩⟩
       ·rw [if_neg c9] at H
        exact absurd H (by simp)
      ·rw [if_neg c7] at H
       exact absurd H (by simp)
     ·rw [if_neg c6] at H
      have c6b0 := decide_eq_false c6
      clear c6
      obtain rfl := Option.some.inj H
      go_wp2
      go_ret
      exact ⟨_, sR, by (with_reducible repeat (first | apply Kd.qQ | apply Kd.qU | apply Kd.qV)); exact HO_7.out, bl⟩
  ·rw [if_neg c3] at H
   exact absurd H (by simp)
 ·rw [if_neg c2] at H
  exact absurd H (by simp)
def qvB.f (a0_0 : Int) (a0_1 : Int) (a0_2 : Int) (a0_3 : Int) (a0_4 : Int) (a0_5 : Int) (a1_0 : Int) (a1_1 : Int) (a1_2 : Int) (a1_3 : Int) (a1_4 : Int) (a1_5 : Int) : Option (Bool) := if a0_0 = a1_0 then (if a0_1 = a1_1 then (if a0_2 = a1_2 then (if a0_3 = a1_3 then (if a0_4 = a1_4 then (if a0_5 = a1_5 then (some true) else (some false)) else (some false)) else (some false)) else (some false)) else (some false)) else (some false)
set_option maxHeartbeats 8000000 in
set_option maxRecDepth 100000 in
theorem qvB.calls (a0_0 : Int) (a0_1 : Int) (a0_2 : Int) (a0_3 : Int) (a0_4 : Int) (a0_5 : Int) (a1_0 : Int) (a1_1 : Int) (a1_2 : Int) (a1_3 : Int) (a1_4 : Int) (a1_5 : Int) (r : Bool) (w : World) (h : qvB.f a0_0 a0_1 a0_2 a0_3 a0_4 a0_5 a1_0 a1_1 a1_2 a1_3 a1_4 a1_5 = some r) :
  Calls Tryz.prog 56 #[.agg #[.int .i64 a0_0, .int .i64 a0_1, .int .i64 a0_2, .int .i64 a0_3, .int .i64 a0_4, .int .i64 a0_5], .agg #[.int .i64 a1_0, .int .i64 a1_1, .int .i64 a1_2, .int .i64 a1_3, .int .i64 a1_4, .int .i64 a1_5]] w fun e w' => e = .returned (.bool r) ∧ Below w.heap.size w w' := by
 have hu51 := Tryz.underlying51
 have HB := aM (Below.refl w.heap.size w)
 have H : (if a0_0 = a1_0 then (if a0_1 = a1_1 then (if a0_2 = a1_2 then (if a0_3 = a1_3 then (if a0_4 = a1_4 then (if a0_5 = a1_5 then (some true) else (some false)) else (some false)) else (some false)) else (some false)) else (some false)) else (some false)) = some r := h
 clear h
 by_cases c3 : a0_0 = a1_0
 ·rw [if_pos c3] at H
  have c3b0 := beq_iff_eq.mpr c3
  have c3b1 := bne_eq_false_iff_eq.mpr c3
  clear c3
  by_cases c4 : a0_1 = a1_1
  ·rw [if_pos c4] at H
   have c4b0 := beq_iff_eq.mpr c4
   have c4b1 := bne_eq_false_iff_eq.mpr c4
   clear c4
   by_cases c5 : a0_2 = a1_2
   ·rw [if_pos c5] at H
    have c5b0 := beq_iff_eq.mpr c5
    have c5b1 := bne_eq_false_iff_eq.mpr c5
    clear c5
    by_cases c6 : a0_3 = a1_3
    ·rw [if_pos c6] at H
     have c6b0 := beq_iff_eq.mpr c6
     have c6b1 := bne_eq_false_iff_eq.mpr c6
     clear c6
     by_cases c7 : a0_4 = a1_4
     ·rw [if_pos c7] at H
      have c7b0 := beq_iff_eq.mpr c7
      have c7b1 := bne_eq_false_iff_eq.mpr c7
      clear c7
      by_cases c8 : a0_5 = a1_5
      ·rw [if_pos c8] at H
       have c8b0 := beq_iff_eq.mpr c8
       have c8b1 := bne_eq_false_iff_eq.mpr c8
       clear c8
       obtain rfl := Option.some.inj H
       go_enter Tryz.func56, Tryz.ntmps56
       go_wp2_with (first | ((with_reducible refine qJ (N := 2) rfl ?_); refine qI ?hg (N := 2) ?hd (cs := #[.int .i64 a0_0, .int .i64 a0_1, .int .i64 a0_2, .int .i64 a0_3, .int .i64 a0_4, .int .i64 a0_5]) (t := 51) ?hr ?_; (case hd => rfl); (case hg => rfl); (case hr => exact gS); intro gb483 hg w9 hbox hb; have BK483 := aM (hbox); have GW483 := aM ((gg hg)); have GE483 := aM ((gg hg)); replace HB := aM (qB bl hb); clear hb hbox hg) | ((with_reducible refine qJ (N := 3) rfl ?_); refine qI ?hg (N := 3) ?hd (cs := #[.int .i64 a1_0, .int .i64 a1_1, .int .i64 a1_2, .int .i64 a1_3, .int .i64 a1_4, .int .i64 a1_5]) (t := 51) ?hr ?_; (case hd => rfl); (case hg => rfl); (case hr => exact gS); intro gb484 hg w10 hbox hb; have BK484 := aM (hbox); have GW484 := aM ((gg hg)); have GE484 := aM ((gg hg)); have NB483_484 := aM ((nl BK483 hg)); have NB484_483 := aM ((nr BK483 hg)); replace BK483 := aM (bb BK483 hb); replace HB := aM (qB bl hb); clear hb hbox hg; have hnb11 := NB483_484.out; have hnc11 := NB484_483.out; (refine cb6 BK483 ?_; intro _ _ _ _ _ _); (refine cz6 BK483 ?_; intro _ _ _ _ _ _); (refine cb6 BK484 ?_; intro _ _ _ _ _ _); (refine cz6 BK484 ?_; intro _ _ _ _ _ _)))
       go_ret
       exact ⟨sR, bl⟩
      ·rw [if_neg c8] at H
       have c8b0 := beq_eq_false_iff_ne.mpr c8
       have c8b1 := bne_iff_ne.mpr c8
       obtain rfl := Option.some.inj H
       go_enter Tryz.func56, Tryz.ntmps56
       go_wp2_with (first | ((with_reducible refine qJ (N := 2) rfl ?_); refine qI ?hg (N := 2) ?hd (cs := #[.int .i64 a0_0, .int .i64 a0_1, .int .i64 a0_2, .int .i64 a0_3, .int .i64 a0_4, .int .i64 a0_5]) (t := 51) ?hr ?_; (case hd => rfl); (case hg => rfl); (case hr => exact gS); intro gb483 hg w14 hbox hb; have BK483 := aM (hbox); have GW483 := aM ((gg hg)); have GE483 := aM ((gg hg)); replace HB := aM (qB bl hb); clear hb hbox hg) | ((with_reducible refine qJ (N := 3) rfl ?_); refine qI ?hg (N := 3) ?hd (cs := #[.int .i64 a1_0, .int .i64 a1_1, .int .i64 a1_2, .int .i64 a1_3, .int .i64 a1_4, .int .i64 a1_5]) (t := 51) ?hr ?_; (case hd => rfl); (case hg => rfl); (case hr => exact gS); intro gb484 hg w15 hbox hb; have BK484 := aM (hbox); have GW484 := aM ((gg hg)); have GE484 := aM ((gg hg)); have NB483_484 := aM ((nl BK483 hg)); have NB484_483 := aM ((nr BK483 hg)); replace BK483 := aM (bb BK483 hb); replace HB := aM (qB bl hb); clear hb hbox hg; have hnb16 := NB483_484.out; have hnc16 := NB484_483.out; (refine cb6 BK483 ?_; intro _ _ _ _ _ _); (refine cz6 BK483 ?_; intro _ _ _ _ _ _); (refine cb6 BK484 ?_; intro _ _ _ _ _ _); (refine cz6 BK484 ?_; intro _ _ _ _ _ _)))
       go_ret
       exact ⟨sR, bl⟩
     ·rw [if_neg c7] at H
      have c7b0 := beq_eq_false_iff_ne.mpr c7
      have c7b1 := bne_iff_ne.mpr c7
      obtain rfl := Option.some.inj H
      go_enter Tryz.func56, Tryz.ntmps56
      go_wp2_with (first | ((with_reducible refine qJ (N := 2) rfl ?_); refine qI ?hg (N := 2) ?hd (cs := #[.int .i64 a0_0, .int .i64 a0_1, .int .i64 a0_2, .int .i64 a0_3, .int .i64 a0_4, .int .i64 a0_5]) (t := 51) ?hr ?_; (case hd => rfl); (case hg => rfl); (case hr => exact gS); intro gb483 hg w19 hbox hb; have BK483 := aM (hbox); have GW483 := aM ((gg hg)); have GE483 := aM ((gg hg)); replace HB := aM (qB bl hb); clear hb hbox hg) | ((with_reducible refine qJ (N := 3) rfl ?_); refine qI ?hg (N := 3) ?hd (cs := #[.int .i64 a1_0, .int .i64 a1_1, .int .i64 a1_2, .int .i64 a1_3, .int .i64 a1_4, .int .i64 a1_5]) (t := 51) ?hr ?_; (case hd => rfl); (case hg => rfl); (case hr => exact gS); intro gb484 hg w20 hbox hb; have BK484 := aM (hbox); have GW484 := aM ((gg hg)); have GE484 := aM ((gg hg)); have NB483_484 := aM ((nl BK483 hg)); have NB484_483 := aM ((nr BK483 hg)); replace BK483 := aM (bb BK483 hb); replace HB := aM (qB bl hb); clear hb hbox hg; have hnb21 := NB483_484.out; have hnc21 := NB484_483.out; (refine cb6 BK483 ?_; intro _ _ _ _ _ _); (refine cz6 BK483 ?_; intro _ _ _ _ _ _); (refine cb6 BK484 ?_; intro _ _ _ _ _ _); (refine cz6 BK484 ?_; intro _ _ _ _ _ _)))
      go_ret
      exact ⟨sR, bl⟩
    ·rw [if_neg c6] at H
     have c6b0 := beq_eq_false_iff_ne.mpr c6
     have c6b1 := bne_iff_ne.mpr c6
     obtain rfl := Option.some.inj H
     go_enter Tryz.func56, Tryz.ntmps56
     go_wp2_with (first | ((with_reducible refine qJ (N := 2) rfl ?_); refine qI ?hg (N := 2) ?hd (cs := #[.int .i64 a0_0, .int .i64 a0_1, .int .i64 a0_2, .int .i64 a0_3, .int .i64 a0_4, .int .i64 a0_5]) (t := 51) ?hr ?_; (case hd => rfl); (case hg => rfl); (case hr => exact gS); intro gb483 hg w24 hbox hb; have BK483 := aM (hbox); have GW483 := aM ((gg hg)); have GE483 := aM ((gg hg)); replace HB := aM (qB bl hb); clear hb hbox hg) | ((with_reducible refine qJ (N := 3) rfl ?_); refine qI ?hg (N := 3) ?hd (cs := #[.int .i64 a1_0, .int .i64 a1_1, .int .i64 a1_2, .int .i64 a1_3, .int .i64 a1_4, .int .i64 a1_5]) (t := 51) ?hr ?_; (case hd => rfl); (case hg => rfl); (case hr => exact gS); intro gb484 hg w25 hbox hb; have BK484 := aM (hbox); have GW484 := aM ((gg hg)); have GE484 := aM ((gg hg)); have NB483_484 := aM ((nl BK483 hg)); have NB484_483 := aM ((nr BK483 hg)); replace BK483 := aM (bb BK483 hb); replace HB := aM (qB bl hb); clear hb hbox hg; have hnb26 := NB483_484.out; have hnc26 := NB484_483.out; (refine cb6 BK483 ?_; intro _ _ _ _ _ _); (refine cz6 BK483 ?_; intro _ _ _ _ _ _); (refine cb6 BK484 ?_; intro _ _ _ _ _ _); (refine cz6 BK484 ?_; intro _ _ _ _ _ _)))
     go_ret
     exact ⟨sR, bl⟩
   ·rw [if_neg c5] at H
    have c5b0 := beq_eq_false_iff_ne.mpr c5
    have c5b1 := bne_iff_ne.mpr c5
    obtain rfl := Option.some.inj H
    go_enter Tryz.func56, Tryz.ntmps56
    go_wp2_with (first | ((with_reducible refine qJ (N := 2) rfl ?_); refine qI ?hg (N := 2) ?hd (cs := #[.int .i64 a0_0, .int .i64 a0_1, .int .i64 a0_2, .int .i64 a0_3, .int .i64 a0_4, .int .i64 a0_5]) (t := 51) ?hr ?_; (case hd => rfl); (case hg => rfl); (case hr => exact gS); intro gb483 hg w29 hbox hb; have BK483 := aM (hbox); have GW483 := aM ((gg hg)); have GE483 := aM ((gg hg)); replace HB := aM (qB bl hb); clear hb hbox hg) | ((with_reducible refine qJ (N := 3) rfl ?_); refine qI ?hg (N := 3) ?hd (cs := #[.int .i64 a1_0, .int .i64 a1_1, .int .i64 a1_2, .int .i64 a1_3, .int .i64 a1_4, .int .i64 a1_5]) (t := 51) ?hr ?_; (case hd => rfl); (case hg => rfl); (case hr => exact gS); intro gb484 hg w30 hbox hb; have BK484 := aM (hbox); have GW484 := aM ((gg hg)); have GE484 := aM ((gg hg)); have NB483_484 := aM ((nl BK483 hg)); have NB484_483 := aM ((nr BK483 hg)); replace BK483 := aM (bb BK483 hb); replace HB := aM (qB bl hb); clear hb hbox hg; have hnb31 := NB483_484.out; have hnc31 := NB484_483.out; (refine cb6 BK483 ?_; intro _ _ _ _ _ _); (refine cz6 BK483 ?_; intro _ _ _ _ _ _); (refine cb6 BK484 ?_; intro _ _ _ _ _ _); (refine cz6 BK484 ?_; intro _ _ _ _ _ _)))
    go_ret
    exact ⟨sR, bl⟩
  ·rw [if_neg c4] at H
   have c4b0 := beq_eq_false_iff_ne.mpr c4
   have c4b1 := bne_iff_ne.mpr c4
   obtain rfl := Option.some.inj H
   go_enter Tryz.func56, Tryz.ntmps56
   go_wp2_with (first | ((with_reducible refine qJ (N := 2) rfl ?_); refine qI ?hg (N := 2) ?hd (cs := #[.int .i64 a0_0, .int .i64 a0_1, .int .i64 a0_2, .int .i64 a0_3, .int .i64 a0_4, .int .i64 a0_5]) (t := 51) ?hr ?_; (case hd => rfl); (case hg => rfl); (case hr => exact gS); intro gb483 hg w34 hbox hb; have BK483 := aM (hbox); have GW483 := aM ((gg hg)); have GE483 := aM ((gg hg)); replace HB := aM (qB bl hb); clear hb hbox hg) | ((with_reducible refine qJ (N := 3) rfl ?_); refine qI ?hg (N := 3) ?hd (cs := #[.int .i64 a1_0, .int .i64 a1_1, .int .i64 a1_2, .int .i64 a1_3, .int .i64 a1_4, .int .i64 a1_5]) (t := 51) ?hr ?_; (case hd => rfl); (case hg => rfl); (case hr => exact gS); intro gb484 hg w35 hbox hb; have BK484 := aM (hbox); have GW484 := aM ((gg hg)); have GE484 := aM ((gg hg)); have NB483_484 := aM ((nl BK483 hg)); have NB484_483 := aM ((nr BK483 hg)); replace BK483 := aM (bb BK483 hb); replace HB := aM (qB bl hb); clear hb hbox hg; have hnb36 := NB483_484.out; have hnc36 := NB484_483.out; (refine cb6 BK483 ?_; intro _ _ _ _ _ _); (refine cz6 BK483 ?_; intro _ _ _ _ _ _); (refine cb6 BK484 ?_; intro _ _ _ _ _ _); (refine cz6 BK484 ?_; intro _ _ _ _ _ _)))
   go_ret
   exact ⟨sR, bl⟩
 ·rw [if_neg c3] at H
  have c3b0 := beq_eq_false_iff_ne.mpr c3
  have c3b1 := bne_iff_ne.mpr c3
  obtain rfl := Option.some.inj H
  go_enter Tryz.func56, Tryz.ntmps56
  go_wp2_with (first | ((with_reducible refine qJ (N := 2) rfl ?_); refine qI ?hg (N := 2) ?hd (cs := #[.int .i64 a0_0, .int .i64 a0_1, .int .i64 a0_2, .int .i64 a0_3, .int .i64 a0_4, .int .i64 a0_5]) (t := 51) ?hr ?_; (case hd => rfl); (case hg => rfl); (case hr => exact gS); intro gb483 hg w39 hbox hb; have BK483 := aM (hbox); have GW483 := aM ((gg hg)); have GE483 := aM ((gg hg)); replace HB := aM (qB bl hb); clear hb hbox hg) | ((with_reducible refine qJ (N := 3) rfl ?_); refine qI ?hg (N := 3) ?hd (cs := #[.int .i64 a1_0, .int .i64 a1_1, .int .i64 a1_2, .int .i64 a1_3, .int .i64 a1_4, .int .i64 a1_5]) (t := 51) ?hr ?_; (case hd => rfl); (case hg => rfl); (case hr => exact gS); intro gb484 hg w40 hbox hb; have BK484 := aM (hbox); have GW484 := aM ((gg hg)); have GE484 := aM ((gg hg)); have NB483_484 := aM ((nl BK483 hg)); have NB484_483 := aM ((nr BK483 hg)); replace BK483 := aM (bb BK483 hb); replace HB := aM (qB bl hb); clear hb hbox hg; have hnb41 := NB483_484.out; have hnc41 := NB484_483.out; (refine cb6 BK483 ?_; intro _ _ _ _ _ _); (refine cz6 BK483 ?_; intro _ _ _ _ _ _); (refine cb6 BK484 ?_; intro _ _ _ _ _ _); (refine cz6 BK484 ?_; intro _ _ _ _ _ _)))
  go_ret
  exact ⟨sR, bl⟩
def qaB.f (a0_0 : Int) (a0_1 : Int) (a0_2 : Int) (a0_3 : Int) (a0_4 : Int) (a0_5 : Int) (a0_6 : Int) (a0_7 : Int) (a1_0 : Int) (a1_1 : Int) (a1_2 : Int) (a1_3 : Int) (a1_4 : Int) (a1_5 : Int) (a1_6 : Int) (a1_7 : Int) : Option (Bool) := if a0_0 = a1_0 then (if a0_1 = a1_1 then ((qvB.f a0_2 a0_3 a0_4 a0_5 a0_6 a0_7 a1_2 a1_3 a1_4 a1_5 a1_6 a1_7).bind fun t487 => (if t487 = true then (some true) else (some false))) else (some false)) else (some false)
set_option maxHeartbeats 8000000 in
set_option maxRecDepth 100000 in
theorem qaB.calls (a0_0 : Int) (a0_1 : Int) (a0_2 : Int) (a0_3 : Int) (a0_4 : Int) (a0_5 : Int) (a0_6 : Int) (a0_7 : Int) (a1_0 : Int) (a1_1 : Int) (a1_2 : Int) (a1_3 : Int) (a1_4 : Int) (a1_5 : Int) (a1_6 : Int) (a1_7 : Int) (r : Bool) (w : World) (h : qaB.f a0_0 a0_1 a0_2 a0_3 a0_4 a0_5 a0_6 a0_7 a1_0 a1_1 a1_2 a1_3 a1_4 a1_5 a1_6 a1_7 = some r) :
  Calls Tryz.prog 29 #[.agg #[.int .i64 a0_0, .int .i64 a0_1, .int .i64 a0_2, .int .i64 a0_3, .int .i64 a0_4, .int .i64 a0_5, .int .i64 a0_6, .int .i64 a0_7], .agg #[.int .i64 a1_0, .int .i64 a1_1, .int .i64 a1_2, .int .i64 a1_3, .int .i64 a1_4, .int .i64 a1_5, .int .i64 a1_6, .int .i64 a1_7]] w fun e w' => e = .returned (.bool r) ∧ Below w.heap.size w w' := by
 have hu53 := Tryz.underlying53
 have hu51 := Tryz.underlying51
 have HB := aM (Below.refl w.heap.size w)
 have H : (if a0_0 = a1_0 then (if a0_1 = a1_1 then ((qvB.f a0_2 a0_3 a0_4 a0_5 a0_6 a0_7 a1_2 a1_3 a1_4 a1_5 a1_6 a1_7).bind fun t487 => (if t487 = true then (some true) else (some false))) else (some false)) else (some false)) = some r := h
 clear h
 by_cases c3 : a0_0 = a1_0
 ·rw [if_pos c3] at H
  have c3b0 := beq_iff_eq.mpr c3
  have c3b1 := bne_eq_false_iff_eq.mpr c3
  clear c3
  by_cases c4 : a0_1 = a1_1
  ·rw [if_pos c4] at H
   have c4b0 := beq_iff_eq.mpr c4
   have c4b1 := bne_eq_false_iff_eq.mpr c4
   clear c4
   replace H := bO H
   obtain ⟨t487, A5, H⟩ := H
   by_cases c6 : t487 = true
   ·subst c6
    replace H := iT H
    obtain rfl := Option.some.inj H
    go_enter Tryz.func29, Tryz.ntmps29
    go_wp2_with (first | ((with_reducible refine qJ (N := 2) rfl ?_); refine qI ?hg (N := 2) ?hd (cs := #[.int .i64 a0_0, .int .i64 a0_1, .int .i64 a0_2, .int .i64 a0_3, .int .i64 a0_4, .int .i64 a0_5, .int .i64 a0_6, .int .i64 a0_7]) (t := 53) ?hr ?_; (case hd => rfl); (case hg => rfl); (case hr => exact gS); intro gb485 hg w7 hbox hb; have BK485 := aM (hbox); have GW485 := aM ((gg hg)); have GE485 := aM ((gg hg)); replace HB := aM (qB bl hb); clear hb hbox hg) | ((with_reducible refine qJ (N := 3) rfl ?_); refine qI ?hg (N := 3) ?hd (cs := #[.int .i64 a1_0, .int .i64 a1_1, .int .i64 a1_2, .int .i64 a1_3, .int .i64 a1_4, .int .i64 a1_5, .int .i64 a1_6, .int .i64 a1_7]) (t := 53) ?hr ?_; (case hd => rfl); (case hg => rfl); (case hr => exact gS); intro gb486 hg w8 hbox hb; have BK486 := aM (hbox); have GW486 := aM ((gg hg)); have GE486 := aM ((gg hg)); have NB485_486 := aM ((nl BK485 hg)); have NB486_485 := aM ((nr BK485 hg)); replace BK485 := aM (bb BK485 hb); replace HB := aM (qB bl hb); clear hb hbox hg; have hnb9 := NB485_486.out; have hnc9 := NB486_485.out; (refine cb8 BK485 ?_; intro _ _ _ _ _ _ _ _); (refine cz8 BK485 ?_; intro _ _ _ _ _ _ _ _); (refine cb8 BK486 ?_; intro _ _ _ _ _ _ _ _); (refine cz8 BK486 ?_; intro _ _ _ _ _ _ _ _)) | ((with_reducible refine qF (f := 56) rfl ?_); refine qn (some 19) rfl rfl Tryz.func56 (by kernel_rfl) rfl #[.agg #[.int .i64 a0_2, .int .i64 a0_3, .int .i64 a0_4, .int .i64 a0_5, .int .i64 a0_6, .int .i64 a0_7], .agg #[.int .i64 a1_2, .int .i64 a1_3, .int .i64 a1_4, .int .i64 a1_5, .int .i64 a1_6, .int .i64 a1_7]] rfl gA ?_; (with_reducible refine (qvB.calls a0_2 a0_3 a0_4 a0_5 a0_6 a0_7 a1_2 a1_3 a1_4 a1_5 a1_6 a1_7 true _ A5.out).mono ?_); rintro e w12 ⟨rfl, hb⟩; refine ⟨_, rfl, ?_⟩; replace BK485 := aM (bb BK485 hb); replace BK486 := aM (bb BK486 hb); replace HB := aM (qB bl hb); (try clear hb); (try clear hb2); (try clear hk); (try clear hi)))
    go_ret
    exact ⟨sR, bl⟩
   ·replace c6 := Bool.eq_false_iff.mpr c6
    subst c6
    replace H := iF H
    obtain rfl := Option.some.inj H
    go_enter Tryz.func29, Tryz.ntmps29
    go_wp2_with (first | ((with_reducible refine qJ (N := 2) rfl ?_); refine qI ?hg (N := 2) ?hd (cs := #[.int .i64 a0_0, .int .i64 a0_1, .int .i64 a0_2, .int .i64 a0_3, .int .i64 a0_4, .int .i64 a0_5, .int .i64 a0_6, .int .i64 a0_7]) (t := 53) ?hr ?_; (case hd => rfl); (case hg => rfl); (case hr => exact gS); intro gb485 hg w13 hbox hb; have BK485 := aM (hbox); have GW485 := aM ((gg hg)); have GE485 := aM ((gg hg)); replace HB := aM (qB bl hb); clear hb hbox hg) | ((with_reducible refine qJ (N := 3) rfl ?_); refine qI ?hg (N := 3) ?hd (cs := #[.int .i64 a1_0, .int .i64 a1_1, .int .i64 a1_2, .int .i64 a1_3, .int .i64 a1_4, .int .i64 a1_5, .int .i64 a1_6, .int .i64 a1_7]) (t := 53) ?hr ?_; (case hd => rfl); (case hg => rfl); (case hr => exact gS); intro gb486 hg w14 hbox hb; have BK486 := aM (hbox); have GW486 := aM ((gg hg)); have GE486 := aM ((gg hg)); have NB485_486 := aM ((nl BK485 hg)); have NB486_485 := aM ((nr BK485 hg)); replace BK485 := aM (bb BK485 hb); replace HB := aM (qB bl hb); clear hb hbox hg; have hnb15 := NB485_486.out; have hnc15 := NB486_485.out; (refine cb8 BK485 ?_; intro _ _ _ _ _ _ _ _); (refine cz8 BK485 ?_; intro _ _ _ _ _ _ _ _); (refine cb8 BK486 ?_; intro _ _ _ _ _ _ _ _); (refine cz8 BK486 ?_; intro _ _ _ _ _ _ _ _)) | ((with_reducible refine qF (f := 56) rfl ?_); refine qn (some 19) rfl rfl Tryz.func56 (by kernel_rfl) rfl #[.agg #[.int .i64 a0_2, .int .i64 a0_3, .int .i64 a0_4, .int .i64 a0_5, .int .i64 a0_6, .int .i64 a0_7], .agg #[.int .i64 a1_2, .int .i64 a1_3, .int .i64 a1_4, .int .i64 a1_5, .int .i64 a1_6, .int .i64 a1_7]] rfl gA ?_; (with_reducible refine (qvB.calls a0_2 a0_3 a0_4 a0_5 a0_6 a0_7 a1_2 a1_3 a1_4 a1_5 a1_6 a1_7 false _ A5.out).mono ?_); rintro e w18 ⟨rfl, hb⟩; refine ⟨_, rfl, ?_⟩; replace BK485 := aM (bb BK485 hb); replace BK486 := aM (bb BK486 hb); replace HB := aM (qB bl hb); (try clear hb); (try clear hb2); (try clear hk); (try clear hi)))
    go_ret
    exact ⟨sR, bl⟩
  ·rw [if_neg c4] at H
   have c4b0 := beq_eq_false_iff_ne.mpr c4
   have c4b1 := bne_iff_ne.mpr c4
   obtain rfl := Option.some.inj H
   go_enter Tryz.func29, Tryz.ntmps29
   go_wp2_with (first | ((with_reducible refine qJ (N := 2) rfl ?_); refine qI ?hg (N := 2) ?hd (cs := #[.int .i64 a0_0, .int .i64 a0_1, .int .i64 a0_2, .int .i64 a0_3, .int .i64 a0_4, .int .i64 a0_5, .int .i64 a0_6, .int .i64 a0_7]) (t := 53) ?hr ?_; (case hd => rfl); (case hg => rfl); (case hr => exact gS); intro gb485 hg w19 hbox hb; have BK485 := aM (hbox); have GW485 := aM ((gg hg)); have GE485 := aM ((gg hg)); replace HB := aM (qB bl hb); clear hb hbox hg) | ((with_reducible refine qJ (N := 3) rfl ?_); refine qI ?hg (N := 3) ?hd (cs := #[.int .i64 a1_0, .int .i64 a1_1, .int .i64 a1_2, .int .i64 a1_3, .int .i64 a1_4, .int .i64 a1_5, .int .i64 a1_6, .int .i64 a1_7]) (t := 53) ?hr ?_; (case hd => rfl); (case hg => rfl); (case hr => exact gS); intro gb486 hg w20 hbox hb; have BK486 := aM (hbox); have GW486 := aM ((gg hg)); have GE486 := aM ((gg hg)); have NB485_486 := aM ((nl BK485 hg)); have NB486_485 := aM ((nr BK485 hg)); replace BK485 := aM (bb BK485 hb); replace HB := aM (qB bl hb); clear hb hbox hg; have hnb21 := NB485_486.out; have hnc21 := NB486_485.out; (refine cb8 BK485 ?_; intro _ _ _ _ _ _ _ _); (refine cz8 BK485 ?_; intro _ _ _ _ _ _ _ _); (refine cb8 BK486 ?_; intro _ _ _ _ _ _ _ _); (refine cz8 BK486 ?_; intro _ _ _ _ _ _ _ _)))
   go_ret
   exact ⟨sR, bl⟩
 ·rw [if_neg c3] at H
  have c3b0 := beq_eq_false_iff_ne.mpr c3
  have c3b1 := bne_iff_ne.mpr c3
  obtain rfl := Option.some.inj H
  go_enter Tryz.func29, Tryz.ntmps29
  go_wp2_with (first | ((with_reducible refine qJ (N := 2) rfl ?_); refine qI ?hg (N := 2) ?hd (cs := #[.int .i64 a0_0, .int .i64 a0_1, .int .i64 a0_2, .int .i64 a0_3, .int .i64 a0_4, .int .i64 a0_5, .int .i64 a0_6, .int .i64 a0_7]) (t := 53) ?hr ?_; (case hd => rfl); (case hg => rfl); (case hr => exact gS); intro gb485 hg w24 hbox hb; have BK485 := aM (hbox); have GW485 := aM ((gg hg)); have GE485 := aM ((gg hg)); replace HB := aM (qB bl hb); clear hb hbox hg) | ((with_reducible refine qJ (N := 3) rfl ?_); refine qI ?hg (N := 3) ?hd (cs := #[.int .i64 a1_0, .int .i64 a1_1, .int .i64 a1_2, .int .i64 a1_3, .int .i64 a1_4, .int .i64 a1_5, .int .i64 a1_6, .int .i64 a1_7]) (t := 53) ?hr ?_; (case hd => rfl); (case hg => rfl); (case hr => exact gS); intro gb486 hg w25 hbox hb; have BK486 := aM (hbox); have GW486 := aM ((gg hg)); have GE486 := aM ((gg hg)); have NB485_486 := aM ((nl BK485 hg)); have NB486_485 := aM ((nr BK485 hg)); replace BK485 := aM (bb BK485 hb); replace HB := aM (qB bl hb); clear hb hbox hg; have hnb26 := NB485_486.out; have hnc26 := NB486_485.out; (refine cb8 BK485 ?_; intro _ _ _ _ _ _ _ _); (refine cz8 BK485 ?_; intro _ _ _ _ _ _ _ _); (refine cb8 BK486 ?_; intro _ _ _ _ _ _ _ _); (refine cz8 BK486 ?_; intro _ _ _ _ _ _ _ _)))
  go_ret
  exact ⟨sR, bl⟩
def qh.l0 : Nat → List (S53) → List (S53) → Int → Option (Bool)
 | 0, _, _, _ => none
 | k + 1, x0, x1, x5 => if x5 < (x0.length : Int) then (if 0 ≤ x5 then (if x5 < (x1.length : Int) then ((qaB.f ((qA x0 x5).f0) ((qA x0 x5).f1) ((qA x0 x5).f2.f0) ((qA x0 x5).f2.f1) ((qA x0 x5).f2.f2) ((qA x0 x5).f2.f3) ((qA x0 x5).f2.f4) ((qA x0 x5).f2.f5) ((qA x1 x5).f0) ((qA x1 x5).f1) ((qA x1 x5).f2.f0) ((qA x1 x5).f2.f1) ((qA x1 x5).f2.f2) ((qA x1 x5).f2.f3) ((qA x1 x5).f2.f4) ((qA x1 x5).f2.f5)).bind fun t490 => (if t490 = true then (qh.l0 k x0 x1 (wrap64 (x5 + 1))) else (some false))) else (none)) else (none)) else (some true)
def qh.f (k : Nat) (l0 : List (S53)) (l1 : List (S53)) : Option (Bool) := if (l0.length : Int) = (l1.length : Int) then (qh.l0 k l0 l1 0) else (some false)
def qh.T6 : Bool × List (List Nat × List Nat) := (true, [([], []), ([], []), ([0, 1], [0, 1]), ([2], [2]), ([], []), ([], []), ([4, 5], [4, 5]), ([6], [6]), ([3, 7], [3, 7]), ([8], [8])])
def qh.B6 : List Nat := [0, 0, 3, 7, 0, 0, 48, 112, 255, 511]
theorem qh.tab6 : rtab .any (opsOf Tryz.f10 6) = qh.T6 := by kernel_rfl
theorem qh.bits6 : waitsOk qh.T6.2 qh.B6 = true := by kernel_rfl
set_option maxHeartbeats 8000000 in
set_option maxRecDepth 100000 in
theorem qh.calls (k : Nat) (A0 : Option Addr) (c0 : Nat) (l0 : List (S53)) (A1 : Option Addr) (c1 : Nat) (l1 : List (S53)) (r : Bool) (w : World) (hr0 : Kd.C k53 w A0 l0.length l0) (hc0 : l0.length ≤ c0) (hr1 : Kd.C k53 w A1 l1.length l1) (hc1 : l1.length ≤ c1) (h : qh.f k l0 l1 = some r) :
  Calls Tryz.prog 10 #[.slice A0 l0.length c0, .slice A1 l1.length c1] w fun e w' => e = .returned (.bool r) ∧ Below w.heap.size w w' := by
 have hu53 := Tryz.underlying53
 have HR0 := aM hr0
 have HC0 := aM hc0
 clear hr0 hc0
 have HR1 := aM hr1
 have HC1 := aM hc1
 clear hr1 hc1
 have HB := aM (Below.refl w.heap.size w)
 have H : (if (l0.length : Int) = (l1.length : Int) then (qh.l0 k l0 l1 0) else (some false)) = some r := h
 clear h
 by_cases c3 : (l0.length : Int) = (l1.length : Int)
 ·rw [if_pos c3] at H
  have c3b0 := beq_iff_eq.mpr c3
  have c3b1 := bne_eq_false_iff_eq.mpr c3
  have c3b2 : (l0.length == l1.length) = true := by first | simpa using c3 | (simp at c3 ⊢; omega)
  clear c3
  have H' := aM H
  clear H
  go_enter Tryz.func10, Tryz.ntmps10
  go_wp2
  go_loopg [5] k (fun kq v5 w' => ∃ (x5_1 : Int), v5 = .int .i64 x5_1 ∧ Aside0 (qh.l0 kq l0 l1 x5_1 = some r) ∧ Aside0 (kq ≤ k) ∧ Aside0 (Below w.heap.size w w'))
  case atStart => exact ⟨(0), sD, H', ⟨Nat.le_refl _⟩, ⟨bl⟩⟩
  case round =>
   clear H'; (try clear c1); (try clear p2); (try clear c3); (try clear c3b0); (try clear c3b1); (try clear c3b2)
   obtain ⟨x5_1, rfl, HA, HK1, HB⟩ := hrel
   cases gk with
   | zero => exact absurd HA.out (by simp [qh.l0])
   | succ k1 =>
    have H := HA.out
    clear HA
    simp only [qh.l0] at H
    by_cases c4 : x5_1 < (l0.length : Int)
    ·rw [if_pos c4] at H
     have c4b0 := decide_eq_true c4
     clear c4
     by_cases c5 : 0 ≤ x5_1
     ·rw [if_pos c5] at H
      have c5b0 := decide_eq_true c5
      clear c5
      by_cases c6 : x5_1 < (l1.length : Int)
      ·rw [if_pos c6] at H
       have c6b0 := decide_eq_true c6
       clear c6
       replace H := bO H
       obtain ⟨t490, A7, H⟩ := H
       by_cases c8 : t490 = true
       ·subst c8
        replace H := iT H
        have H' := aM H
        clear H
        try go_wp2
        replace HB := aM (qx HB.out)
        have p488 : 0 ≤ (x5_1 : Int) := of_decide_eq_true am
        have q488 : x5_1 < (l0.length : Int) := of_decide_eq_true am
        obtain ⟨ad488, e488, hx488_0, hx488_1, hx488_2, hx488_3, hx488_4, hx488_5, hx488_6, hx488_7⟩ := qGB HR0.out x5_1 p488 q488
        have hw488_7 := hx488_7
        have hw488_6 := hx488_6
        have hw488_5 := hx488_5
        have hw488_4 := hx488_4
        have hw488_3 := hx488_3
        have hw488_2 := hx488_2
        have hw488_1 := hx488_1
        have hw488_0 := hx488_0
        cases e488
        replace hx488_0 := (HB.out.cell (World.block_lt_of_cell? w _ hx488_0)).trans hx488_0
        replace hx488_1 := (HB.out.cell (World.block_lt_of_cell? w _ hx488_1)).trans hx488_1
        replace hx488_2 := (HB.out.cell (World.block_lt_of_cell? w _ hx488_2)).trans hx488_2
        replace hx488_3 := (HB.out.cell (World.block_lt_of_cell? w _ hx488_3)).trans hx488_3
        replace hx488_4 := (HB.out.cell (World.block_lt_of_cell? w _ hx488_4)).trans hx488_4
        replace hx488_5 := (HB.out.cell (World.block_lt_of_cell? w _ hx488_5)).trans hx488_5
        replace hx488_6 := (HB.out.cell (World.block_lt_of_cell? w _ hx488_6)).trans hx488_6
        replace hx488_7 := (HB.out.cell (World.block_lt_of_cell? w _ hx488_7)).trans hx488_7
        replace p488 := eq_true p488
        replace q488 := eq_true q488
        have p489 : 0 ≤ (x5_1 : Int) := of_decide_eq_true am
        have q489 : x5_1 < (l1.length : Int) := of_decide_eq_true am
        obtain ⟨ad489, e489, hx489_0, hx489_1, hx489_2, hx489_3, hx489_4, hx489_5, hx489_6, hx489_7⟩ := qGB HR1.out x5_1 p489 q489
        have hw489_7 := hx489_7
        have hw489_6 := hx489_6
        have hw489_5 := hx489_5
        have hw489_4 := hx489_4
        have hw489_3 := hx489_3
        have hw489_2 := hx489_2
        have hw489_1 := hx489_1
        have hw489_0 := hx489_0
        cases e489
        replace hx489_0 := (HB.out.cell (World.block_lt_of_cell? w _ hx489_0)).trans hx489_0
        replace hx489_1 := (HB.out.cell (World.block_lt_of_cell? w _ hx489_1)).trans hx489_1
        replace hx489_2 := (HB.out.cell (World.block_lt_of_cell? w _ hx489_2)).trans hx489_2
        replace hx489_3 := (HB.out.cell (World.block_lt_of_cell? w _ hx489_3)).trans hx489_3
        replace hx489_4 := (HB.out.cell (World.block_lt_of_cell? w _ hx489_4)).trans hx489_4
        replace hx489_5 := (HB.out.cell (World.block_lt_of_cell? w _ hx489_5)).trans hx489_5
        replace hx489_6 := (HB.out.cell (World.block_lt_of_cell? w _ hx489_6)).trans hx489_6
        replace hx489_7 := (HB.out.cell (World.block_lt_of_cell? w _ hx489_7)).trans hx489_7
        replace p489 := eq_true p489
        replace q489 := eq_true q489
        refine qOB (n := 10) (S := fun w' => w'.cell? (ad488.add ((x5_1).toNat * 8)) = some (.int .i64 ((qA l0 x5_1).f0)) ∧ w'.cell? ⟨(ad488.add ((x5_1).toNat * 8)).block, (ad488.add ((x5_1).toNat * 8)).off + 1, none⟩ = some (.int .i64 ((qA l0 x5_1).f1)) ∧ w'.cell? ⟨(ad488.add ((x5_1).toNat * 8)).block, (ad488.add ((x5_1).toNat * 8)).off + 2, none⟩ = some (.int .i64 ((qA l0 x5_1).f2.f0)) ∧ w'.cell? ⟨(ad488.add ((x5_1).toNat * 8)).block, (ad488.add ((x5_1).toNat * 8)).off + 3, none⟩ = some (.int .i64 ((qA l0 x5_1).f2.f1)) ∧ w'.cell? ⟨(ad488.add ((x5_1).toNat * 8)).block, (ad488.add ((x5_1).toNat * 8)).off + 4, none⟩ = some (.int .i64 ((qA l0 x5_1).f2.f2)) ∧ w'.cell? ⟨(ad488.add ((x5_1).toNat * 8)).block, (ad488.add ((x5_1).toNat * 8)).off + 5, none⟩ = some (.int .i64 ((qA l0 x5_1).f2.f3)) ∧ w'.cell? ⟨(ad488.add ((x5_1).toNat * 8)).block, (ad488.add ((x5_1).toNat * 8)).off + 6, none⟩ = some (.int .i64 ((qA l0 x5_1).f2.f4)) ∧ w'.cell? ⟨(ad488.add ((x5_1).toNat * 8)).block, (ad488.add ((x5_1).toNat * 8)).off + 7, none⟩ = some (.int .i64 ((qA l0 x5_1).f2.f5)) ∧ w'.cell? (ad489.add ((x5_1).toNat * 8)) = some (.int .i64 ((qA l1 x5_1).f0)) ∧ w'.cell? ⟨(ad489.add ((x5_1).toNat * 8)).block, (ad489.add ((x5_1).toNat * 8)).off + 1, none⟩ = some (.int .i64 ((qA l1 x5_1).f1)) ∧ w'.cell? ⟨(ad489.add ((x5_1).toNat * 8)).block, (ad489.add ((x5_1).toNat * 8)).off + 2, none⟩ = some (.int .i64 ((qA l1 x5_1).f2.f0)) ∧ w'.cell? ⟨(ad489.add ((x5_1).toNat * 8)).block, (ad489.add ((x5_1).toNat * 8)).off + 3, none⟩ = some (.int .i64 ((qA l1 x5_1).f2.f1)) ∧ w'.cell? ⟨(ad489.add ((x5_1).toNat * 8)).block, (ad489.add ((x5_1).toNat * 8)).off + 4, none⟩ = some (.int .i64 ((qA l1 x5_1).f2.f2)) ∧ w'.cell? ⟨(ad489.add ((x5_1).toNat * 8)).block, (ad489.add ((x5_1).toNat * 8)).off + 5, none⟩ = some (.int .i64 ((qA l1 x5_1).f2.f3)) ∧ w'.cell? ⟨(ad489.add ((x5_1).toNat * 8)).block, (ad489.add ((x5_1).toNat * 8)).off + 6, none⟩ = some (.int .i64 ((qA l1 x5_1).f2.f4)) ∧ w'.cell? ⟨(ad489.add ((x5_1).toNat * 8)).block, (ad489.add ((x5_1).toNat * 8)).off + 7, none⟩ = some (.int .i64 ((qA l1 x5_1).f2.f5))) (ds := []) #[false, false, false, false, false, false, false, false, false, false] (by kernel_rfl) rfl rfl ⟨(hB HB hw488_0 :), (hB HB hw488_1 :), (hB HB hw488_2 :), (hB HB hw488_3 :), (hB HB hw488_4 :), (hB HB hw488_5 :), (hB HB hw488_6 :), (hB HB hw488_7 :), (hB HB hw489_0 :), (hB HB hw489_1 :), (hB HB hw489_2 :), (hB HB hw489_3 :), (hB HB hw489_4 :), (hB HB hw489_5 :), (hB HB hw489_6 :), (hB HB hw489_7 :)⟩ (fun hHeld => ?_); refine qSA qh.tab6 qh.bits6 (fun HT_ HW_ => ?_)
        generalize wr.drew = w9 at HB hx488_0 hx488_1 hx488_2 hx488_3 hx488_4 hx488_5 hx488_6 hx488_7 hx489_0 hx489_1 hx489_2 hx489_3 hx489_4 hx489_5 hx489_6 hx489_7 hHeld ⊢
        refine pS (i := 0) (N := some 17) #[true, false, false, false, false, false, false, false, false, false] HT_ ?_
        refine pS (i := 1) (N := some 18) #[true, true, false, false, false, false, false, false, false, false] HT_ ?_
        refine pS (i := 2) (N := some 19) #[true, true, true, false, false, false, false, false, false, false] HT_ ?_
        refine pS (i := 4) (N := some 21) #[true, true, true, false, true, false, false, false, false, false] HT_ ?_
        refine pS (i := 5) (N := some 22) #[true, true, true, false, true, true, false, false, false, false] HT_ ?_
        refine pS (i := 6) (N := some 23) #[true, true, true, false, true, true, true, false, false, false] HT_ ?_
        refine tS (i := 3) (N := some 20) #[true, true, true, true, true, true, true, false, false, false] HT_ HW_ hHeld ?_
        refine tS (i := 7) (N := some 24) #[true, true, true, true, true, true, true, true, false, false] HT_ HW_ hHeld ?_
        refine one_ (i := 8) (N := some 25) #[true, true, true, true, true, true, true, true, true, false] rfl rfl (qdA HT_.out (by kernel_rfl)) (by decide) (fun K hK => ?_)
        refine goes_ Tryz.func29 (by kernel_rfl) rfl #[.agg #[.int .i64 ((qA l0 x5_1).f0), .int .i64 ((qA l0 x5_1).f1), .int .i64 ((qA l0 x5_1).f2.f0), .int .i64 ((qA l0 x5_1).f2.f1), .int .i64 ((qA l0 x5_1).f2.f2), .int .i64 ((qA l0 x5_1).f2.f3), .int .i64 ((qA l0 x5_1).f2.f4), .int .i64 ((qA l0 x5_1).f2.f5)], .agg #[.int .i64 ((qA l1 x5_1).f0), .int .i64 ((qA l1 x5_1).f1), .int .i64 ((qA l1 x5_1).f2.f0), .int .i64 ((qA l1 x5_1).f2.f1), .int .i64 ((qA l1 x5_1).f2.f2), .int .i64 ((qA l1 x5_1).f2.f3), .int .i64 ((qA l1 x5_1).f2.f4), .int .i64 ((qA l1 x5_1).f2.f5)]] (by rfl) rfl rfl gA ?_
        with_reducible refine (qaB.calls ((qA l0 x5_1).f0) ((qA l0 x5_1).f1) ((qA l0 x5_1).f2.f0) ((qA l0 x5_1).f2.f1) ((qA l0 x5_1).f2.f2) ((qA l0 x5_1).f2.f3) ((qA l0 x5_1).f2.f4) ((qA l0 x5_1).f2.f5) ((qA l1 x5_1).f0) ((qA l1 x5_1).f1) ((qA l1 x5_1).f2.f0) ((qA l1 x5_1).f2.f1) ((qA l1 x5_1).f2.f2) ((qA l1 x5_1).f2.f3) ((qA l1 x5_1).f2.f4) ((qA l1 x5_1).f2.f5) true _ A7.out).mono ?_
        rintro e w10 ⟨rfl, hb⟩
        refine ⟨_, rfl, ?_⟩
        replace HB := aM (qB bl hb); (try clear hb); (try clear hb2); (try clear hk); (try clear hi)
        refine hK.out _ _ ⟨(hB HB hw488_0 :), (hB HB hw488_1 :), (hB HB hw488_2 :), (hB HB hw488_3 :), (hB HB hw488_4 :), (hB HB hw488_5 :), (hB HB hw488_6 :), (hB HB hw488_7 :), (hB HB hw489_0 :), (hB HB hw489_1 :), (hB HB hw489_2 :), (hB HB hw489_3 :), (hB HB hw489_4 :), (hB HB hw489_5 :), (hB HB hw489_6 :), (hB HB hw489_7 :)⟩ (fun hHeld => ?_)
        clear hK K
        refine norm_ (a' := ?_) ?_ ?_
        rotate_left
        ·show Act.put _ (some 25) _ = _
         simp only [Act.put, List.setIfInBounds_toArray, List.set_cons_zero, List.set_cons_succ, i64_w, i32_w]
         rfl
        refine pS (i := 9) (N := some 26) #[true, true, true, true, true, true, true, true, true, true] HT_ ?_
        refine done_ (qDB HT_.out (by kernel_rfl)) ?_
        try go_wp2
        go_roundg k1
        case measure => have := HK1.out; omega
        case rel => exact ⟨(wrap64 (x5_1 + 1)), sD, H', ⟨by have := HK1.out; omega⟩, ⟨bl⟩⟩
       ·replace c8 := Bool.eq_false_iff.mpr c8
        subst c8
        replace H := iF H
        obtain rfl := Option.some.inj H
        try go_wp2
        replace HB := aM (qx HB.out)
        have p488 : 0 ≤ (x5_1 : Int) := of_decide_eq_true am
        have q488 : x5_1 < (l0.length : Int) := of_decide_eq_true am
        obtain ⟨ad488, e488, hx488_0, hx488_1, hx488_2, hx488_3, hx488_4, hx488_5, hx488_6, hx488_7⟩ := qGB HR0.out x5_1 p488 q488
        have hw488_7 := hx488_7
        have hw488_6 := hx488_6
        have hw488_5 := hx488_5
        have hw488_4 := hx488_4
        have hw488_3 := hx488_3
        have hw488_2 := hx488_2
        have hw488_1 := hx488_1
        have hw488_0 := hx488_0
        cases e488
        replace hx488_0 := (HB.out.cell (World.block_lt_of_cell? w _ hx488_0)).trans hx488_0
        replace hx488_1 := (HB.out.cell (World.block_lt_of_cell? w _ hx488_1)).trans hx488_1
        replace hx488_2 := (HB.out.cell (World.block_lt_of_cell? w _ hx488_2)).trans hx488_2
        replace hx488_3 := (HB.out.cell (World.block_lt_of_cell? w _ hx488_3)).trans hx488_3
        replace hx488_4 := (HB.out.cell (World.block_lt_of_cell? w _ hx488_4)).trans hx488_4
        replace hx488_5 := (HB.out.cell (World.block_lt_of_cell? w _ hx488_5)).trans hx488_5
        replace hx488_6 := (HB.out.cell (World.block_lt_of_cell? w _ hx488_6)).trans hx488_6
        replace hx488_7 := (HB.out.cell (World.block_lt_of_cell? w _ hx488_7)).trans hx488_7
        replace p488 := eq_true p488
        replace q488 := eq_true q488
        have p489 : 0 ≤ (x5_1 : Int) := of_decide_eq_true am
        have q489 : x5_1 < (l1.length : Int) := of_decide_eq_true am
        obtain ⟨ad489, e489, hx489_0, hx489_1, hx489_2, hx489_3, hx489_4, hx489_5, hx489_6, hx489_7⟩ := qGB HR1.out x5_1 p489 q489
        have hw489_7 := hx489_7
        have hw489_6 := hx489_6
        have hw489_5 := hx489_5
        have hw489_4 := hx489_4
        have hw489_3 := hx489_3
        have hw489_2 := hx489_2
        have hw489_1 := hx489_1
        have hw489_0 := hx489_0
        cases e489
        replace hx489_0 := (HB.out.cell (World.block_lt_of_cell? w _ hx489_0)).trans hx489_0
        replace hx489_1 := (HB.out.cell (World.block_lt_of_cell? w _ hx489_1)).trans hx489_1
        replace hx489_2 := (HB.out.cell (World.block_lt_of_cell? w _ hx489_2)).trans hx489_2
        replace hx489_3 := (HB.out.cell (World.block_lt_of_cell? w _ hx489_3)).trans hx489_3
        replace hx489_4 := (HB.out.cell (World.block_lt_of_cell? w _ hx489_4)).trans hx489_4
        replace hx489_5 := (HB.out.cell (World.block_lt_of_cell? w _ hx489_5)).trans hx489_5
        replace hx489_6 := (HB.out.cell (World.block_lt_of_cell? w _ hx489_6)).trans hx489_6
        replace hx489_7 := (HB.out.cell (World.block_lt_of_cell? w _ hx489_7)).trans hx489_7
        replace p489 := eq_true p489
        replace q489 := eq_true q489
        refine qOB (n := 10) (S := fun w' => w'.cell? (ad488.add ((x5_1).toNat * 8)) = some (.int .i64 ((qA l0 x5_1).f0)) ∧ w'.cell? ⟨(ad488.add ((x5_1).toNat * 8)).block, (ad488.add ((x5_1).toNat * 8)).off + 1, none⟩ = some (.int .i64 ((qA l0 x5_1).f1)) ∧ w'.cell? ⟨(ad488.add ((x5_1).toNat * 8)).block, (ad488.add ((x5_1).toNat * 8)).off + 2, none⟩ = some (.int .i64 ((qA l0 x5_1).f2.f0)) ∧ w'.cell? ⟨(ad488.add ((x5_1).toNat * 8)).block, (ad488.add ((x5_1).toNat * 8)).off + 3, none⟩ = some (.int .i64 ((qA l0 x5_1).f2.f1)) ∧ w'.cell? ⟨(ad488.add ((x5_1).toNat * 8)).block, (ad488.add ((x5_1).toNat * 8)).off + 4, none⟩ = some (.int .i64 ((qA l0 x5_1).f2.f2)) ∧ w'.cell? ⟨(ad488.add ((x5_1).toNat * 8)).block, (ad488.add ((x5_1).toNat * 8)).off + 5, none⟩ = some (.int .i64 ((qA l0 x5_1).f2.f3)) ∧ w'.cell? ⟨(ad488.add ((x5_1).toNat * 8)).block, (ad488.add ((x5_1).toNat * 8)).off + 6, none⟩ = some (.int .i64 ((qA l0 x5_1).f2.f4)) ∧ w'.cell? ⟨(ad488.add ((x5_1).toNat * 8)).block, (ad488.add ((x5_1).toNat * 8)).off + 7, none⟩ = some (.int .i64 ((qA l0 x5_1).f2.f5)) ∧ w'.cell? (ad489.add ((x5_1).toNat * 8)) = some (.int .i64 ((qA l1 x5_1).f0)) ∧ w'.cell? ⟨(ad489.add ((x5_1).toNat * 8)).block, (ad489.add ((x5_1).toNat * 8)).off + 1, none⟩ = some (.int .i64 ((qA l1 x5_1).f1)) ∧ w'.cell? ⟨(ad489.add ((x5_1).toNat * 8)).block, (ad489.add ((x5_1).toNat * 8)).off + 2, none⟩ = some (.int .i64 ((qA l1 x5_1).f2.f0)) ∧ w'.cell? ⟨(ad489.add ((x5_1).toNat * 8)).block, (ad489.add ((x5_1).toNat * 8)).off + 3, none⟩ = some (.int .i64 ((qA l1 x5_1).f2.f1)) ∧ w'.cell? ⟨(ad489.add ((x5_1).toNat * 8)).block, (ad489.add ((x5_1).toNat * 8)).off + 4, none⟩ = some (.int .i64 ((qA l1 x5_1).f2.f2)) ∧ w'.cell? ⟨(ad489.add ((x5_1).toNat * 8)).block, (ad489.add ((x5_1).toNat * 8)).off + 5, none⟩ = some (.int .i64 ((qA l1 x5_1).f2.f3)) ∧ w'.cell? ⟨(ad489.add ((x5_1).toNat * 8)).block, (ad489.add ((x5_1).toNat * 8)).off + 6, none⟩ = some (.int .i64 ((qA l1 x5_1).f2.f4)) ∧ w'.cell? ⟨(ad489.add ((x5_1).toNat * 8)).block, (ad489.add ((x5_1).toNat * 8)).off + 7, none⟩ = some (.int .i64 ((qA l1 x5_1).f2.f5))) (ds := []) #[false, false, false, false, false, false, false, false, false, false] (by kernel_rfl) rfl rfl ⟨(hB HB hw488_0 :), (hB HB hw488_1 :), (hB HB hw488_2 :), (hB HB hw488_3 :), (hB HB hw488_4 :), (hB HB hw488_5 :), (hB HB hw488_6 :), (hB HB hw488_7 :), (hB HB hw489_0 :), (hB HB hw489_1 :), (hB HB hw489_2 :), (hB HB hw489_3 :), (hB HB hw489_4 :), (hB HB hw489_5 :), (hB HB hw489_6 :), (hB HB hw489_7 :)⟩ (fun hHeld => ?_); refine qSA qh.tab6 qh.bits6 (fun HT_ HW_ => ?_)
        generalize wr.drew = w11 at HB hx488_0 hx488_1 hx488_2 hx488_3 hx488_4 hx488_5 hx488_6 hx488_7 hx489_0 hx489_1 hx489_2 hx489_3 hx489_4 hx489_5 hx489_6 hx489_7 hHeld ⊢
        refine pS (i := 0) (N := some 17) #[true, false, false, false, false, false, false, false, false, false] HT_ ?_
        refine pS (i := 1) (N := some 18) #[true, true, false, false, false, false, false, false, false, false] HT_ ?_
        refine pS (i := 2) (N := some 19) #[true, true, true, false, false, false, false, false, false, false] HT_ ?_
        refine pS (i := 4) (N := some 21) #[true, true, true, false, true, false, false, false, false, false] HT_ ?_
        refine pS (i := 5) (N := some 22) #[true, true, true, false, true, true, false, false, false, false] HT_ ?_
        refine pS (i := 6) (N := some 23) #[true, true, true, false, true, true, true, false, false, false] HT_ ?_
        refine tS (i := 3) (N := some 20) #[true, true, true, true, true, true, true, false, false, false] HT_ HW_ hHeld ?_
        refine tS (i := 7) (N := some 24) #[true, true, true, true, true, true, true, true, false, false] HT_ HW_ hHeld ?_
        refine one_ (i := 8) (N := some 25) #[true, true, true, true, true, true, true, true, true, false] rfl rfl (qdA HT_.out (by kernel_rfl)) (by decide) (fun K hK => ?_)
        refine goes_ Tryz.func29 (by kernel_rfl) rfl #[.agg #[.int .i64 ((qA l0 x5_1).f0), .int .i64 ((qA l0 x5_1).f1), .int .i64 ((qA l0 x5_1).f2.f0), .int .i64 ((qA l0 x5_1).f2.f1), .int .i64 ((qA l0 x5_1).f2.f2), .int .i64 ((qA l0 x5_1).f2.f3), .int .i64 ((qA l0 x5_1).f2.f4), .int .i64 ((qA l0 x5_1).f2.f5)], .agg #[.int .i64 ((qA l1 x5_1).f0), .int .i64 ((qA l1 x5_1).f1), .int .i64 ((qA l1 x5_1).f2.f0), .int .i64 ((qA l1 x5_1).f2.f1), .int .i64 ((qA l1 x5_1).f2.f2), .int .i64 ((qA l1 x5_1).f2.f3), .int .i64 ((qA l1 x5_1).f2.f4), .int .i64 ((qA l1 x5_1).f2.f5)]] (by rfl) rfl rfl gA ?_
        with_reducible refine (qaB.calls ((qA l0 x5_1).f0) ((qA l0 x5_1).f1) ((qA l0 x5_1).f2.f0) ((qA l0 x5_1).f2.f1) ((qA l0 x5_1).f2.f2) ((qA l0 x5_1).f2.f3) ((qA l0 x5_1).f2.f4) ((qA l0 x5_1).f2.f5) ((qA l1 x5_1).f0) ((qA l1 x5_1).f1) ((qA l1 x5_1).f2.f0) ((qA l1 x5_1).f2.f1) ((qA l1 x5_1).f2.f2) ((qA l1 x5_1).f2.f3) ((qA l1 x5_1).f2.f4) ((qA l1 x5_1).f2.f5) false _ A7.out).mono ?_
        rintro e w12 ⟨rfl, hb⟩
        refine ⟨_, rfl, ?_⟩
        replace HB := aM (qB bl hb); (try clear hb); (try clear hb2); (try clear hk); (try clear hi)
        refine hK.out _ _ ⟨(hB HB hw488_0 :), (hB HB hw488_1 :), (hB HB hw488_2 :), (hB HB hw488_3 :), (hB HB hw488_4 :), (hB HB hw488_5 :), (hB HB hw488_6 :), (hB HB hw488_7 :), (hB HB hw489_0 :), (hB HB hw489_1 :), (hB HB hw489_2 :), (hB HB hw489_3 :), (hB HB hw489_4 :), (hB HB hw489_5 :), (hB HB hw489_6 :), (hB HB hw489_7 :)⟩ (fun hHeld => ?_)
        clear hK K
        refine norm_ (a' := ?_) ?_ ?_
        rotate_left
        ·show Act.put _ (some 25) _ = _
         simp only [Act.put, List.setIfInBounds_toArray, List.set_cons_zero, List.set_cons_succ, i64_w, i32_w]
         rfl
        refine pS (i := 9) (N := some 26) #[true, true, true, true, true, true, true, true, true, true] HT_ ?_
        refine done_ (qDB HT_.out (by kernel_rfl)) ?_
        try go_wp2
        go_ret
        exact ⟨sR, bl⟩
      ·rw [if_neg c6] at H
       exact absurd H (by simp)
     ·rw [if_neg c5] at H
      exact absurd H (by simp)
    ·rw [if_neg c4] at H
     have c4b0 := decide_eq_false c4
     clear c4
     obtain rfl := Option.some.inj H
     go_wp2
     go_ret
     exact ⟨sR, bl⟩
 ·rw [if_neg c3] at H
  have c3b0 := beq_eq_false_iff_ne.mpr c3
  have c3b1 := bne_iff_ne.mpr c3
  have c3b2 : (l0.length == l1.length) = false := by first | simpa using c3 | (simp at c3 ⊢; omega)
  obtain rfl := Option.some.inj H
  go_enter Tryz.func10, Tryz.ntmps10
  go_wp2
  go_ret
  exact ⟨sR, bl⟩
end Go.Proofs.YthhiiceligjleaaGreatDoor.P
namespace Go.Proofs.YthhiiceligjleaaGreatDoor
open Go.RowKit Go.Proofs.YthhiiceligjleaaGreatDoorW.PrintWords Go.Proofs.YthhiiceligjleaaGreatDoorW.PrintLast
set_option linter.unusedVariables false
set_option linter.unusedSimpArgs false
theorem Ev.at_ {α : Type} {g : Nat → Option α} {r : α} (n : Nat) (h : ∀ k, g (k + n) = some r) : Ev g r := ⟨n, fun k hk => by
 obtain ⟨m, rfl⟩ : ∃ m, k = m + n := ⟨k - n, by omega⟩
 exact h m⟩
theorem Ev.pos {α : Type} {c : Prop} [Decidable c] {g f : Nat → Option α} {r : α} (hc : c) (h : Ev g r) : Ev (fun k => if c then g k else f k) r := h.congr fun k => if_pos hc
theorem Ev.neg {α : Type} {c : Prop} [Decidable c] {g f : Nat → Option α} {r : α} (hc : ¬ c) (h : Ev f r) : Ev (fun k => if c then g k else f k) r := h.congr fun k => if_neg hc
theorem Ev.some_ {α : Type} {a r : α} (h : a = r) : Ev (fun _ => some a) r := ⟨0, fun _ _ => by rw [h]⟩
theorem Ev.bindc {α β : Type} {o : Option α} {f : Nat → α → Option β} {a : α} {r : β} (h : o = some a) (k : Ev (fun n => f n a) r) : Ev (fun n => o.bind (f n)) r := k.congr fun n => by rw [h]; rfl
theorem w64 {i : Int} (h0 : -9223372036854775808 ≤ i) (h1 : i ≤ 9223372036854775807) : wrap64 i = i := by unfold wrap64; omega
end Go.Proofs.YthhiiceligjleaaGreatDoor
namespace Go.Proofs.YthhiiceligjleaaGreatDoor
open Go.RowKit Go.Proofs.YthhiiceligjleaaGreatDoor.P Go.Proofs.YthhiiceligjleaaGreatDoorW.PrintWords Go.Proofs.YthhiiceligjleaaGreatDoorW.PrintLast
set_option linter.unusedVariables false
set_option linter.unusedSimpArgs false
abbrev XS := S53
theorem rdXS (l : List XS) (i : Nat) (h : i < l.length) : qA l (i : Int) = l[i] := by
 unfold qA
 rw [Int.toNat_natCast, List.getD_eq_getElem?_getD, List.getElem?_eq_getElem h]; rfl
theorem eqState_rfl (a b c d e f g h : Int) : qaB.f a b c d e f g h a b c d e f g h = some true := by
 unfold qaB.f qvB.f
 simp
theorem eqStateS_loop (a : List XS) (ha : a.length ≤ 140737488355328) (d : Nat) : ∀ i : Nat, i ≤ a.length → a.length - i = d → Ev (fun k => qh.l0 k a a (i : Int)) true := by
 induction d with
 | zero =>
  intro i hi hd
  exact Ev.step (f := fun k => _) (fun k => by rw [qh.l0]) (Ev.neg (by omega) (Ev.now _))
 | succ d ih =>
  intro i hi hd
  refine Ev.step (f := fun k => _) (fun k => by rw [qh.l0]) (Ev.pos (by omega) (Ev.pos (by omega) (Ev.pos (by omega) (Ev.bindc (eqState_rfl _ _ _ _ _ _ _ _) (Ev.pos rfl ?_)))))
  rw [show wrap64 ((i : Int) + 1) = ((i + 1 : Nat) : Int) by unfold wrap64; omega]
  exact ih (i + 1) (by omega) (by omega)
theorem eqStateS_refl (a : List XS) (ha : a.length ≤ 140737488355328) : Ev (fun k => qh.f k a a) true := by
 unfold qh.f
 exact Ev.pos rfl (eqStateS_loop a ha a.length 0 (by omega) (by omega))
abbrev LS := S57
def convS (x : LS) : XS := ⟨x.f0, x.f1, ⟨x.f2.f0, x.f2.f1, x.f2.f2, x.f2.f3, x.f2.f4, x.f2.f5⟩⟩
theorem rdLS (l : List LS) (i : Nat) (h : i < l.length) : qyA l (i : Int) = l[i] := by
 unfold qyA
 rw [Int.toNat_natCast, List.getD_eq_getElem?_getD, List.getElem?_eq_getElem h]; rfl
theorem toStateS_loop (l : List LS) (ha : l.length ≤ 2000000) (d : Nat) : ∀ (i : Nat) (t : List XS), i ≤ l.length → l.length - i = d → t.length = l.length - i →
  Ev (fun k => qf.l0 k l (i : Int) ((l.take i).map convS ++ t)) (l.map convS) := by
 induction d with
 | zero =>
  intro i t hi hd ht
  obtain rfl : i = l.length := by omega
  obtain rfl : t = [] := List.eq_nil_of_length_eq_zero (by omega)
  exact Ev.step (f := fun k => _) (fun k => by rw [qf.l0]) (Ev.neg (by omega) (Ev.some_ (by simp)))
 | succ d ih =>
  intro i t hi hd ht
  have h : i < l.length := by omega
  cases t with
  | nil => simp at ht; omega
  | cons t0 t =>
   refine Ev.step (f := fun k => _) (fun k => by rw [qf.l0]) (Ev.pos (by omega) (Ev.pos (by omega) (Ev.bindc (show qxB.f _ _ _ _ _ _ _ _ = some _ from rfl) (Ev.pos ?_ ?_))))
   ·simp; omega
   ·rw [show wrap64 ((i : Int) + 1) = ((i + 1 : Nat) : Int) by unfold wrap64; omega, rdLS l i h]
    have := ih (i + 1) t (by omega) (by omega) (by simp at ht; omega)
    rw [List.take_succ_eq_append_getElem h, List.map_append, List.append_assoc] at this
    have e : ((l.take i).map convS ++ t0 :: t).set ((i : Int).toNat) (convS l[i]) = (l.take i).map convS ++ ([l[i]].map convS ++ t) := by
     rw [Int.toNat_natCast, List.set_append_right _ _ (by simp; omega)]
     simp [show i - min i l.length = 0 by omega]
    rw [← e] at this
    exact this
theorem toStateS_ev (l : List LS) (ha : l.length ≤ 2000000) : Ev (fun k => qf.f k l) (l.map convS) := by
 unfold qf.f
 refine Ev.pos (by omega) (Ev.pos (by omega) ?_)
 have := toStateS_loop l ha l.length 0 (List.replicate l.length z53) (by omega) (by omega) (by simp)
 simpa using this
end Go.Proofs.YthhiiceligjleaaGreatDoor
namespace Go.Proofs.YthhiiceligjleaaGreatDoor
open Go.RowKit Go.Proofs.YthhiiceligjleaaGreatDoor.P Go.Proofs.YthhiiceligjleaaGreatDoorW.PrintWords Go.Proofs.YthhiiceligjleaaGreatDoorW.PrintLast Go.Proofs.YthhiiceligjleaaGreatDoorW.PrintMore
set_option linter.unusedVariables false
set_option linter.unusedSimpArgs false
def numsX (x : XS) : List Int := [x.f0, x.f1, x.f2.f0, x.f2.f1, x.f2.f2, x.f2.f3, x.f2.f4, x.f2.f5]
def flatS (l : List XS) : List Int := l.flatMap numsX
theorem qRC (x : XS) : (numsX x).length = 8 := rfl
theorem qfB : ∀ l : List XS, (flatS l).length = l.length * 8
 | [] => rfl
 | x :: l => by
  have := qfB l
  unfold flatS at this ⊢
  rw [List.flatMap_cons, List.length_append, this, qRC, List.length_cons]; omega
def keyL (l : List XS) : List Int := flatS l ++ List.replicate (16 - l.length * 8) 0
theorem qoC (l : List XS) (h : l.length ≤ 2) : (keyL l).length = 16 := by
 unfold keyL
 rw [List.length_append, qfB, List.length_replicate]; omega
abbrev kyC (m : List Int) : Array Value := (m.map (Value.int .i64)).toArray
theorem key_is (l : List XS) : flatS l ++ (List.replicate 16 (0 : Int)).drop (flatS l).length = keyL l := by
 unfold keyL
 rw [qfB, List.drop_replicate]
def encK (l : List XS) : Value := .agg (kyC (keyL l))
theorem flatS_get : ∀ (l : List XS) (j : Nat) (x : XS) (i : Nat) (v : Int), l[j]? = some x → (numsX x)[i]? = some v → (flatS l)[j * 8 + i]? = some v
 | [], j, x, i, v, h, _ => by simp at h
 | y :: l, 0, x, i, v, h, hv => by
  injection h with h
  subst h
  have hi := (List.getElem?_eq_some_iff.1 hv).1
  unfold flatS
  rw [List.flatMap_cons, Nat.zero_mul, Nat.zero_add, List.getElem?_append_left hi]
  exact hv
 | y :: l, j + 1, x, i, v, h, hv => by
  have := flatS_get l j x i v h hv
  unfold flatS at this ⊢
  rw [List.flatMap_cons, List.getElem?_append_right (by rw [qRC]; omega), qRC, show (j + 1) * 8 + i - 8 = j * 8 + i by omega]
  exact this
theorem numsX_enc {w : World} {x : XS} {cs : List Value} (h : k53.K w x cs) : cs = (numsX x).map (Value.int .i64) := k53_open h
theorem cells_flat {w : World} {ad : Addr} {l : List XS} (h : Kd.C k53 w (some ad) l.length l) (j : Nat) (v : Value) (hv : ((flatS l).map (Value.int .i64))[j]? = some v) : w.cell? (ad.add j) = some v := by
 have hj := (List.getElem?_eq_some_iff.1 hv).1
 rw [List.length_map, qfB] at hj
 have hjl : j / 8 < l.length := by omega
 obtain ⟨ad', e, hc⟩ := h.2.2 (by omega)
 injection e with e
 subst e
 obtain ⟨c, hcl, hK, hcell⟩ := hc (j / 8) _ (List.getElem?_eq_getElem hjl)
 have hc8 := numsX_enc hK
 have hi : j % 8 < (numsX l[j / 8]).length := by rw [qRC]; omega
 have h1 := flatS_get l (j / 8) _ (j % 8) _ (List.getElem?_eq_getElem hjl) (List.getElem?_eq_getElem hi)
 have h2 := hcell (j % 8) (.int .i64 (numsX l[j / 8])[j % 8]) (by rw [hc8, List.getElem?_map, List.getElem?_eq_getElem hi]; rfl)
 rw [List.getElem?_map, show j = j / 8 * 8 + j % 8 by omega, h1] at hv
 injection hv with hv
 rw [← hv, ← h2]
 have e8 : k53.sz = 8 := rfl
 rw [e8, show j / 8 * 8 + j % 8 = j by omega]
structure KyIs (w w' : World) (g1 g2 : Nat) (m o : List Int) : Prop where
 tab : w'.heap[g1]? = some (.cells (kyC m) 94 (0, 0))
 opp : w'.heap[g2]? = some (.cells (kyC o) 94 (0, 0))
 ne : g1 ≠ g2
 ge : w.heap.size ≤ g1
 ge2 : w.heap.size ≤ g2
 below : Below w.heap.size w w'
theorem kyC_at (m : List Int) (j : Nat) (hj : j < m.length) : (kyC m)[j]? = some (.int .i64 (m.getD j 0)) := by
 rw [List.getD_eq_getElem?_getD, List.getElem?_eq_getElem hj]
 simp [kyC, hj]
theorem kyC_one (m : List Int) : (kyC m).all (·.oneCell') = true := all_oneCell_toArray (cs := m.map (Value.int .i64)) fun v hv => by obtain ⟨x, _, rfl⟩ := List.mem_map.1 hv; rfl
theorem KyIs.range2 {w w' : World} {g1 g2 : Nat} {m o : List Int} (h : KyIs w w' g1 g2 m o) : w'.rangeAt g2 0 (o.map (Value.int .i64)) := fun j v hv => by
 have hj := (List.getElem?_eq_some_iff.1 hv).1
 rw [Nat.zero_add, qoA h.opp j]
 simpa [kyC] using hv
theorem KyIs.there1 {w w' : World} {g1 g2 : Nat} {m o : List Int} (h : KyIs w w' g1 g2 m o) (n : Nat) (hn : n ≤ m.length) : w'.there g1 0 n := fun j hj => by
 rw [Nat.zero_add, qoA h.tab j, kyC_at m j (by omega)]
 exact ⟨rfl, qb h.tab j⟩
theorem KyIs.there2 {w w' : World} {g1 g2 : Nat} {m o : List Int} (h : KyIs w w' g1 g2 m o) (n : Nat) (hn : n ≤ o.length) : w'.there g2 0 n := fun j hj => by
 rw [Nat.zero_add, qoA h.opp j, kyC_at o j (by omega)]
 exact ⟨rfl, qb h.opp j⟩
def kySet : List Int → Nat → List Int → List Int
 | m, _, [] => m
 | m, j, v :: vs => kySet (m.set j v) (j + 1) vs
theorem qEE : ∀ (vs m : List Int) (j : Nat), j + vs.length ≤ m.length → kySet m j vs = m.take j ++ vs ++ m.drop (j + vs.length)
 | [], m, j, h => by simp [kySet]
 | v :: vs, m, j, h => by
  simp only [List.length_cons] at h
  rw [kySet, qEE vs (m.set j v) (j + 1) (by rw [List.length_set]; omega)]
  have e1 : (m.set j v).take (j + 1) = m.take j ++ [v] := by
   rw [List.take_succ_eq_append_getElem (by rw [List.length_set]; omega), List.getElem_set_self, List.take_set_of_le (Nat.le_refl _)]
  have e2 : (m.set j v).drop (j + 1 + vs.length) = m.drop (j + (v :: vs).length) := by
   rw [List.drop_set_of_lt (by omega)]
   congr 1
   simp only [List.length_cons]; omega
  rw [e1, e2]
  simp
theorem KyIs.put {w w' : World} {g1 g2 : Nat} {m o : List Int} (h : KyIs w w' g1 g2 m o) (j : Nat) (v : Int) : KyIs w (w'.setCell ⟨g1, j, none⟩ (.int .i64 v)) g1 g2 (m.set j v) o := by
 refine ⟨qHA h.tab j _ ?_, qSB h.opp (fun e => h.ne e.symm) _, h.ne, h.ge, h.ge2, qEA h.below h.ge⟩
 simp [kyC, List.map_set]
theorem KyIs.put2 {w w' : World} {g1 g2 : Nat} {m o : List Int} (h : KyIs w w' g1 g2 m o) (j : Nat) (v : Int) : KyIs w (w'.setCell ⟨g2, j, none⟩ (.int .i64 v)) g1 g2 m (o.set j v) := by
 refine ⟨qSB h.tab h.ne _, qHA h.opp j _ ?_, h.ne, h.ge, h.ge2, qEA h.below h.ge2⟩
 simp [kyC, List.map_set]
theorem KyIs.puts {w : World} {g1 g2 : Nat} : ∀ (vs : List Int) (j : Nat) (m o : List Int) (w' : World), KyIs w w' g1 g2 m o → KyIs w (w'.setCells g1 j (vs.map (Value.int .i64))) g1 g2 (kySet m j vs) o
 | [], j, m, o, w', h => h
 | v :: vs, j, m, o, w', h => KyIs.puts vs (j + 1) _ o _ (h.put j v)
theorem KyIs.puts2 {w : World} {g1 g2 : Nat} : ∀ (vs : List Int) (j : Nat) (m o : List Int) (w' : World), KyIs w w' g1 g2 m o → KyIs w (w'.setCells g2 j (vs.map (Value.int .i64))) g1 g2 m (kySet o j vs)
 | [], j, m, o, w', h => h
 | v :: vs, j, m, o, w', h => KyIs.puts2 vs (j + 1) m _ _ (h.put2 j v)
theorem KyIs.whole {w w' W : World} {g1 g2 : Nat} {m o vs : List Int} (h : KyIs w w' g1 g2 m o) (hW : w'.setCells g1 0 (kyC vs).toList = W) (hl : vs.length = m.length) : KyIs w W g1 g2 vs o := by
 have := KyIs.puts vs 0 m o w' h
 rw [qEE vs m 0 (by omega), List.take_zero, List.nil_append, Nat.zero_add, hl, List.drop_length, List.append_nil] at this
 rw [← hW]
 exact this
theorem KyIs.front2 {w w' W : World} {g1 g2 : Nat} {m o vs : List Int} (h : KyIs w w' g1 g2 m o) (hW : w'.setCells g2 0 (vs.map (Value.int .i64)) = W) (hl : vs.length ≤ o.length) : KyIs w W g1 g2 m (vs ++ o.drop vs.length) := by
 have := KyIs.puts2 vs 0 m o w' h
 rw [qEE vs o 0 (by omega), List.take_zero, List.nil_append, Nat.zero_add] at this
 rw [← hW]
 exact this
theorem KyIs.start (w : World) : KyIs w ((w.alloc (.cells (kyC (List.replicate 16 0)) 94)).alloc (.cells (kyC (List.replicate 16 0)) 94)) w.heap.size (w.heap.size + 1) (List.replicate 16 0) (List.replicate 16 0) := by
 refine ⟨qG (qoD w _) _, ?_, by omega, Nat.le_refl _, by omega, qNA (qNA (Below.refl _ _) _) _⟩
 have := qoD (w.alloc (.cells (kyC (List.replicate 16 0)) 94 (0, 0))) (.cells (kyC (List.replicate 16 0)) 94 (0, 0))
 rw [show (w.alloc (.cells (kyC (List.replicate 16 0)) 94 (0, 0))).heap.size = w.heap.size + 1 by simp] at this
 exact this
section
variable {P : Program}
theorem run_copy_wide (w : World) (dT sT ty elem : TypeId) (s b o dLen dCap : Nat) (a : Addr) (sLen sCap : Nat) (cs : List Value)
  (hu : P.underlying dT = some (.slice elem)) (hs : (P.info? elem).map (·.size) = some s) (hn : cs.length = Nat.min sLen dLen * s)
  (hsrc : ∀ j v, cs[j]? = some v → w.cell? (a.add j) = some v) (hc : ∀ j, j < cs.length → (w.cell? ⟨b, o + j, none⟩).isSome = true) (hf : ∀ j, j < cs.length → w.frozen? ⟨b, o + j, none⟩ = false) (h1 : ∀ v ∈ cs, v.oneCell' = true) :
  (Builtin.copy_ #[dT, sT] ty #[.slice (some ⟨b, o, none⟩) dLen dCap, .slice (some a) sLen sCap]).run P w = .ok (goInt (Nat.min sLen dLen)) (w.setCells b o cs) := by
 have hl := run_loadCells_list (P := P) w a cs hsrc
 have hst := run_storeCells_cells (P := P) b o cs 0 w (by simpa using hc) (by simpa using hf) h1
 rw [hn] at hl
 cases hq : P.info? elem with
 | none => simp [hq] at hs
 | some i =>
  have hi : i.size = s := by simpa [hq] using hs
  simp [Builtin.copy_, run_underlying hu, Builtin.lenOf, Builtin.firstCells, sizeOf, typeInfo, hq, hi, hl, hst]
end
theorem qFE : (Tryz.prog.info? 94).map (·.size) = some 16 := by kernel_rfl
set_option maxHeartbeats 8000000 in
set_option maxRecDepth 100000 in
theorem qkD (A0 : Option Addr) (c0 : Nat) (l0 : List XS) (w : World) (hr0 : Kd.C k53 w A0 l0.length l0) (hp : 1 ≤ l0.length) (hl : l0.length ≤ 2) :
  Calls Tryz.prog 51 #[.slice A0 l0.length c0] w fun e w' => e = .returned (encK l0) ∧ Below w.heap.size w w' := by
 have hu71 := Tryz.underlying94
 obtain ⟨ad, rfl, _⟩ := hr0.2.2 hp
 have HR := aM hr0
 have HPL := aM (And.intro hp hl)
 clear hr0 hp hl
 have IS := aM (KyIs.start w)
 go_enter Tryz.func51, Tryz.ntmps51
 go_wp2_with (first
  | ((with_reducible refine qBB (b := .copy) (xs := #[.tmp 5, .tmp 6]) rfl ?_); go_loud (refine Lib.wpList_copy_run _ rfl (.tmp 5) (.tmp 6) 26 26 rfl _ _ rfl rfl (run_copy_wide _ 26 26 _ 53 8 (w.heap.size + 1) 0 2 2 ad l0.length c0 ((flatS l0).map (Value.int .i64)) Tryz.underlying26 (by kernel_rfl) ?hn ?hsrc ?hc ?hf ?h1) ?_; (case hn => have := HPL.out; rw [List.length_map, qfB]; show _ = min l0.length 2 * 8; omega); (case hsrc => exact cells_flat (Kd.qY HR.out IS.out.below)); (case hc => intro j hj; rw [List.length_map, qfB] at hj; have h_ := HPL.out; exact (IS.out.there2 16 (by decide) j (by omega)).1); (case hf => intro j hj; rw [List.length_map, qfB] at hj; have h_ := HPL.out; exact (IS.out.there2 16 (by decide) j (by omega)).2); (case h1 => intro v hv; obtain ⟨x, _, rfl⟩ := List.mem_map.1 hv; rfl); generalize hW : World.setCells _ _ _ _ = W; have n_ := aM (KyIs.front2 (vs := flatS l0) IS.out hW (by rw [qfB, List.length_replicate]; have := HPL.out; omega)); clear IS hW; have IS := n_; clear n_))
  | ((with_reducible refine qJ (N := 8) rfl ?_); go_loud (refine wpList_load_mid (by rfl) 94 (.tmp 3) (by rfl) (w.heap.size + 1) 0 rfl ((keyL l0).map (Value.int .i64)) (.array 2 53) ?hc hu71 rfl ?hi ?_; (case hc => have h_ := IS.out.range2; rw [key_is] at h_; exact h_); (case hi => have h_ := HPL.out; rw [List.length_map, qoC _ h_.2]; exact qFE)))
  | ((with_reducible refine qBC (t := 94) (p := 2) rfl ?_); go_loud (refine wpList_store_mid (by rfl) 94 (.tmp 2) (.tmp 8) (by rfl) w.heap.size 0 (kyC (keyL l0)) rfl rfl ?ht ?hi (kyC_one _) ?_; (case hi => have h_ := HPL.out; rw [show (kyC (keyL l0)).size = 16 by simp [kyC, qoC _ h_.2]]; exact qFE); (case ht => have h_ := HPL.out; rw [show (kyC (keyL l0)).size = 16 by simp [kyC, qoC _ h_.2]]; exact IS.out.there1 16 (by decide)); generalize hW : World.setCells _ _ _ _ = W; have n_ := aM (KyIs.whole IS.out hW (by have h_ := HPL.out; rw [qoC _ h_.2]; rfl)); clear IS hW; have IS := n_; clear n_)))
 refine bodyPost_ret (results_cell_row rfl _ _ w.heap.size 94 (kyC (keyL l0)) (0, 0) _ rfl IS.out.tab Tryz.underlying94 rfl (by have h_ := HPL.out; rw [show (kyC (keyL l0)).size = 16 by simp [kyC, qoC _ h_.2]]; exact qFE)) rfl ?_
 exact ⟨rfl, IS.out.below⟩
end Go.Proofs.YthhiiceligjleaaGreatDoor
namespace Go.Proofs.YthhiiceligjleaaGreatDoor
open Go Go.ChangeMaps Go.MapKept
open Go.Maps (Keyed IsMap Tidy)
set_option linter.unusedVariables false
set_option linter.unusedSectionVars false
theorem plainElem_bool_inv {H : Type} {P : Program} {e : TypeId} (he : P.underlying e = some .bool) {v : Value} {z : DataW H × List MemPlace} (h : plainElem P e v = some z) : ∃ x, v = .bool x ∧ z = (.lit (.bool x), []) := by
 unfold plainElem at h
 rw [he] at h
 cases v <;> simp at h
 exact ⟨_, rfl, h.symm⟩
structure MapKit (P : Program) (κ ν : Type) where
 t : TypeId
 k : TypeId
 e : TypeId
 law : Keyed P k
 ht : P.underlying t = some (.map k e)
 okK : κ → Prop
 key : κ → Value
 lit : κ → Lit
 hkey : ∀ x, okK x → keyOf P k (key x) = some (lit x)
 inj : ∀ x y, key x = key y → x = y
 okV : ν → Prop
 val : ν → Value
 dat : ν → DataW Unit
 R : Value → Option (DataW Unit × List MemPlace)
 hval : ∀ v, okV v → R (val v) = some (dat v, [])
 hdat : ∀ v u ps, R u = some (dat v, ps) → u = val v
 zero : ν
 okz : okV zero
 hz : ∀ w, (zeroValue e).run P w = .ok (val zero) w
namespace MapKit
variable {P : Program} {κ ν : Type} [DecidableEq κ] (M : MapKit P κ ν)
def datum : List (κ × ν) → DataW Unit
 | [] => .map []
 | x :: l => (datum l).put (M.lit x.1) (M.dat x.2)
def look (l : List (κ × ν)) (x : κ) : ν := match l.find? fun y => decide (y.1 = x) with | some y => y.2 | none => M.zero
def met (l : List (κ × ν)) (x : κ) : Bool := l.any fun y => decide (y.1 = x)
structure Is (w : World) (b : Nat) (l : List (κ × ν)) : Prop where
 ok : ∀ y ∈ l, M.okK y.1 ∧ M.okV y.2
 own : w.ownsMap P M.k M.R b l.length (M.datum l)
theorem datum_isMap : ∀ l : List (κ × ν), IsMap (M.datum l)
 | [] => Go.Maps.isMap_empty
 | x :: l => (datum_isMap l).put _ _
theorem lit_ne {x y : κ} (hx : M.okK x) (hy : M.okK y) (h : x ≠ y) : M.lit x ≠ M.lit y := fun e =>
 h (M.inj _ _ (M.law.inj (M.hkey x hx) (by rw [M.hkey y hy, e])))
theorem at_datum {x : κ} (hx : M.okK x) : ∀ (l : List (κ × ν)), (∀ y ∈ l, M.okK y.1 ∧ M.okV y.2) → (M.datum l).atKey (M.lit x) (M.dat M.zero) = M.dat (M.look l x)
 | [], _ => rfl
 | y :: l, h => by
  have ih := at_datum hx l (fun z hz => h z (List.mem_cons_of_mem _ hz))
  have hy := (h y List.mem_cons_self).1
  show ((M.datum l).put (M.lit y.1) (M.dat y.2)).atKey (M.lit x) (M.dat M.zero) = _
  unfold look at ih ⊢
  by_cases e : y.1 = x
  ·rw [List.find?_cons_of_pos (by simpa using e), e]
   exact Go.Maps.atKey_put_same (M.datum_isMap l) (M.law.key (M.hkey x hx)) _ _
  ·rw [List.find?_cons_of_neg (by simpa using e), ← ih]
   exact Go.Maps.atKey_put_other (M.lit_ne hx hy (fun q => e q.symm)) _ _
variable {M} {w : World} {b : Nat} {l : List (κ × ν)}
theorem Is.made (w : World) : M.Is (w.alloc (.map #[] 0)) w.heap.size [] := ⟨fun _ h => (List.not_mem_nil h).elim, World.ownsMap_made _ _ _ _⟩
theorem Is.lt (h : M.Is w b l) : b < w.heap.size := h.own.lt
theorem Is.kept {w' : World} {row : Option Nat} (h : M.Is w b l) (hg : w.grownBy w' row) (hne : some b ≠ row) : M.Is w' b l := ⟨h.ok, h.own.kept hg hne⟩
theorem Is.alloc (h : M.Is w b l) (o : Obj) : M.Is (w.alloc o) b l := ⟨h.ok, h.own.alloc o⟩
theorem Is.setCell (h : M.Is w b l) {a : Addr} (ha : b ≠ a.block) (u : Value) : M.Is (w.setCell a u) b l := ⟨h.ok, h.own.setCell ha u⟩
theorem Is.qyB {w' : World} (h : M.Is w b l) (e : w'.heap[b]? = w.heap[b]?) : M.Is w' b l := by
 obtain ⟨es, clock, hb, r⟩ := h.own
 exact ⟨h.ok, es, clock, by rw [e, hb], r⟩
theorem Is.run_look (h : M.Is w b l) {x : κ} (hx : M.okK x) : (Instr.lookup M.t (.map (some b)) (M.key x) false).run P w = .ok (M.val (M.look l x)) w := by
 obtain ⟨v, ps, hrun, hv⟩ := h.own.lookup M.law M.ht (M.hz w) (M.hval _ M.okz) (M.hkey x hx)
 rw [M.at_datum hx l h.ok] at hv
 rw [hrun, M.hdat _ _ _ hv]
theorem Is.run_put (h : M.Is w b l) (hn : l.length < maxLen) {x : κ} (hx : M.okK x) {v : ν} (hv : M.okV v) : ∃ w', (Instr.mapUpdate M.t (.map (some b)) (M.key x) (M.val v)).run P w = .ok () w' ∧ M.Is w' b ((x, v) :: l) ∧ w.grownBy w' (some b) := by
 obtain ⟨w', hrun, h1, h2⟩ := h.own.update M.law M.ht hn (M.hkey x hx) (M.hval v hv)
 refine ⟨w', hrun, ⟨fun y hy => ?_, h1⟩, h2⟩
 rcases List.mem_cons.1 hy with rfl | hy
 ·exact ⟨hx, hv⟩
 ·exact h.ok y hy
variable {ops : Array Oper} {rest : List Oper} {o : Oper} {a : Act} {Q : Exit → Act → World → Prop}
end MapKit
theorem elem_bool {P : Program} {e : TypeId} (he : P.underlying e = some .bool) : (∀ v : Bool, True → plainElem (H := Unit) P e (.bool v) = some (.lit (.bool v), [])) ∧ ∀ (v : Bool) (u : Value) ps, plainElem (H := Unit) P e u = some (.lit (.bool v), ps) → u = .bool v := by
 refine ⟨fun v _ => plainElem_bool he v, fun v u ps h => ?_⟩
 obtain ⟨x, rfl, hz⟩ := plainElem_bool_inv he h
 simp only [Prod.mk.injEq, DataW.lit.injEq, Lit.bool.injEq] at hz
 rw [hz.1]
end Go.Proofs.YthhiiceligjleaaGreatDoor
namespace Go.Proofs.YthhiiceligjleaaGreatDoor
open Go.RowKit Go.Proofs.YthhiiceligjleaaGreatDoorW.PrintWords Go.Proofs.YthhiiceligjleaaGreatDoorW.PrintLast
set_option linter.unusedVariables false
set_option linter.unusedSectionVars false
namespace MapKit
variable {P : Program} {κ ν : Type} [DecidableEq κ] {M : MapKit P κ ν} {w w1 : World} {b : Nat} {l : List (κ × ν)}
theorem Is.below (h : M.Is w b l) (hb : Below w.heap.size w w1) : M.Is w1 b l := h.qyB (hb.block b h.lt)
theorem Is.drewN (h : M.Is w b l) (n : Nat) : M.Is (w.drewN n) b l := h.qyB rfl
theorem Is.drew (h : M.Is w b l) : M.Is w.drew b l := h.qyB rfl
theorem Is.obj (h : M.Is w b l) : ∃ es clock, w.heap[b]? = some (.map es clock) := by
 obtain ⟨es, clock, hb, _⟩ := h.own
 exact ⟨es, clock, hb⟩
theorem Is.off (h : M.Is w b l) {k : Nat} {cells : Array Value} {q : TypeId} (hc : w.heap[k]? = some (.cells cells q (0, 0))) : k ≠ b := by
 rintro rfl
 obtain ⟨es, clock, hb⟩ := h.obj
 rw [hb] at hc
 cases hc
theorem Is.ne (h : M.Is w b l) {α : Type} {d : Kd α} {e base : Nat} {ok : Nat → Prop} {v : Value} {xs : List α} (hR : d.R e w base ok v xs) : some b ≠ v.ownBlock := by
 intro he
 obtain ⟨_, _, _, q, _, cells, hc⟩ := (Kd.qtB hR).1 b he.symm
 exact h.off hc rfl
theorem Is.row (h : M.Is w b l) {α : Type} {d : Kd α} {e base : Nat} {ok : Nat → Prop} {v : Value} {xs : List α} (hR : d.R e w base ok v xs) (hg : w.grownBy w1 (some b)) : d.R e w1 base ok v xs :=
 Kd.qa (Kd.quD (Kd.qtB hR) (fun k hk hlt => hg.block k hlt (fun e_ => by
  injection e_ with e_
  obtain ⟨_, _, _, q, _, cells, hc⟩ := hk
  exact h.off hc e_))) (fun _ hk => hk.1)
end MapKit
end Go.Proofs.YthhiiceligjleaaGreatDoor
namespace Go.Proofs
open Go.Shelf
def Tryz.lays146_ren : Go.Shelf.Ren := ⟨fun | 146 => 75 | 221 => 88 | 268 => 99 | 138 => 100 | 143 => 101 | 195 => 107 | 197 => 103 | 218 => 108 | 219 => 109 | 260 => 110 | 217 => 113 | 225 => 114 | 224 => 115 | 267 => 116 | 266 => 119 | 314 => 120 | n => n, fun | 9 => 9 | 31 => 61 | 3 => 3 | 4 => 4 | 0 => 0 | 105 => 142 | 21 => 21 | 5 => 5 | 46 => 149 | 119 => 150 | 139 => 153 | 138 => 152 | 146 => 156 | 51 => 155 | n => n, fun | 1 => 0 | 3 => 1 | 4 => 2 | n => n⟩
theorem Tryz.lays146 : Go.Proofs.Lays.n146 Tryz.prog Tryz.lays146_ren := {
 mixed := by kernel_rfl
 f138 := Tryz.func100.trans (congrArg some (by kernel_rfl))
 f143 := Tryz.func101.trans (congrArg some (by kernel_rfl))
 f146 := Tryz.func75.trans (congrArg some (by kernel_rfl))
 f195 := Tryz.func107.trans (congrArg some (by kernel_rfl))
 f197 := Tryz.func103.trans (congrArg some (by kernel_rfl))
 f217 := Tryz.func113.trans (congrArg some (by kernel_rfl))
 f218 := Tryz.func108.trans (congrArg some (by kernel_rfl))
 f219 := Tryz.func109.trans (congrArg some (by kernel_rfl))
 f221 := Tryz.func88.trans (congrArg some (by kernel_rfl))
 f224 := Tryz.func115.trans (congrArg some (by kernel_rfl))
 f225 := Tryz.func114.trans (congrArg some (by kernel_rfl))
 f260 := Tryz.func110.trans (congrArg some (by kernel_rfl))
 f266 := Tryz.func119.trans (congrArg some (by kernel_rfl))
 f267 := Tryz.func116.trans (congrArg some (by kernel_rfl))
 f268 := Tryz.func99.trans (congrArg some (by kernel_rfl))
 f314 := Tryz.func120.trans (congrArg some (by kernel_rfl))
 t0 := Tryz.underlying0
 a0 := Tryz.isAgg0
 z0 := Tryz.sizeOf0
 v0 := Tryz.zeroValue0
 t3 := Tryz.underlying3
 a3 := Tryz.isAgg3
 z3 := Tryz.sizeOf3
 v3 := Tryz.zeroValue3
 t4 := Tryz.underlying4
 a4 := Tryz.isAgg4
 z4 := Tryz.sizeOf4
 v4 := Tryz.zeroValue4
 t5 := Tryz.underlying5
 a5 := Tryz.isAgg5
 z5 := Tryz.sizeOf5
 v5 := Tryz.zeroValue5
 t9 := Tryz.underlying9
 a9 := Tryz.isAgg9
 z9 := Tryz.sizeOf9
 v9 := Tryz.zeroValue9
 t21 := Tryz.underlying21
 a21 := Tryz.isAgg21
 z21 := Tryz.sizeOf21
 v21 := Tryz.zeroValue21
 t31 := Tryz.underlying61
 a31 := Tryz.isAgg61
 z31 := Tryz.sizeOf61
 v31 := Tryz.zeroValue61
 t46 := Tryz.underlying149
 a46 := Tryz.isAgg149
 z46 := Tryz.sizeOf149
 v46 := Tryz.zeroValue149
 t51 := Tryz.underlying155
 a51 := Tryz.isAgg155
 z51 := Tryz.sizeOf155
 v51 := Tryz.zeroValue155
 t105 := Tryz.underlying142
 a105 := Tryz.isAgg142
 z105 := Tryz.sizeOf142
 v105 := Tryz.zeroValue142
 t119 := Tryz.underlying150
 a119 := Tryz.isAgg150
 z119 := Tryz.sizeOf150
 t138 := Tryz.underlying152
 a138 := Tryz.isAgg152
 z138 := Tryz.sizeOf152
 v138 := Tryz.zeroValue152
 t139 := Tryz.underlying153
 a139 := Tryz.isAgg153
 z139 := Tryz.sizeOf153
 v139 := Tryz.zeroValue153
 t146 := Tryz.underlying156
 a146 := Tryz.isAgg156
 z146 := Tryz.sizeOf156
 v146 := Tryz.zeroValue156
 g1 := by kernel_rfl
 g3 := by kernel_rfl
 g4 := by kernel_rfl }
open Go.RowKit Go.Lib in
theorem Tryz.strings_Split (s sep : ByteArray) (m : Int) (w : World) (hs : s.size < 4294967281) (hm : w.cell? ⟨0, 0, none⟩ = some (.int .i64 m)) (h1 : 1 ≤ sep.size) :
  Calls Tryz.prog 75 #[.string s, .string sep] w fun e w' =>
   e = .returned (.slice (some ⟨w.heap.size, 0, none⟩) (Lib.countB s sep + 1) (Lib.countB s sep + 1)) ∧ w' = w.alloc (.cells ((Lib.splitB sep 0 (Lib.countB s sep) s).map Value.string).toArray 9) := Any.strings_Split Tryz.lays146 (by kernel_rfl) s sep m w hs hm h1
def Tryz.lays160_ren : Go.Shelf.Ren := ⟨fun | 160 => 76 | 232 => 90 | 231 => 89 | 227 => 91 | 234 => 93 | 233 => 92 | 236 => 95 | 235 => 94 | 228 => 102 | 271 => 105 | 151 => 104 | 197 => 103 | 120 => 112 | 152 => 111 | 260 => 110 | 137 => 117 | 119 => 118 | 224 => 115 | 225 => 114 | 217 => 113 | 266 => 119 | n => n, fun | 9 => 9 | 4 => 4 | 3 => 3 | 5 => 5 | 117 => 132 | 116 => 131 | 0 => 0 | 124 => 135 | 21 => 21 | 105 => 142 | 46 => 149 | 119 => 150 | 139 => 153 | 138 => 152 | n => n, fun | 3 => 1 | 4 => 2 | n => n⟩
theorem Tryz.lays160 : Go.Proofs.Lays.n160 Tryz.prog Tryz.lays160_ren := {
 mixed := by kernel_rfl
 f119 := Tryz.func118.trans (congrArg some (by kernel_rfl))
 f120 := Tryz.func112.trans (congrArg some (by kernel_rfl))
 f137 := Tryz.func117.trans (congrArg some (by kernel_rfl))
 f151 := Tryz.func104.trans (congrArg some (by kernel_rfl))
 f152 := Tryz.func111.trans (congrArg some (by kernel_rfl))
 f160 := Tryz.func76.trans (congrArg some (by kernel_rfl))
 f197 := Tryz.func103.trans (congrArg some (by kernel_rfl))
 f217 := Tryz.func113.trans (congrArg some (by kernel_rfl))
 f224 := Tryz.func115.trans (congrArg some (by kernel_rfl))
 f225 := Tryz.func114.trans (congrArg some (by kernel_rfl))
 f227 := Tryz.func91.trans (congrArg some (by kernel_rfl))
 f228 := Tryz.func102.trans (congrArg some (by kernel_rfl))
 f231 := Tryz.func89.trans (congrArg some (by kernel_rfl))
 f232 := Tryz.func90.trans (congrArg some (by kernel_rfl))
 f233 := Tryz.func92.trans (congrArg some (by kernel_rfl))
 f234 := Tryz.func93.trans (congrArg some (by kernel_rfl))
 f235 := Tryz.func94.trans (congrArg some (by kernel_rfl))
 f236 := Tryz.func95.trans (congrArg some (by kernel_rfl))
 f260 := Tryz.func110.trans (congrArg some (by kernel_rfl))
 f266 := Tryz.func119.trans (congrArg some (by kernel_rfl))
 f271 := Tryz.func105.trans (congrArg some (by kernel_rfl))
 t0 := Tryz.underlying0
 a0 := Tryz.isAgg0
 z0 := Tryz.sizeOf0
 v0 := Tryz.zeroValue0
 t3 := Tryz.underlying3
 a3 := Tryz.isAgg3
 z3 := Tryz.sizeOf3
 v3 := Tryz.zeroValue3
 t4 := Tryz.underlying4
 a4 := Tryz.isAgg4
 z4 := Tryz.sizeOf4
 v4 := Tryz.zeroValue4
 t5 := Tryz.underlying5
 a5 := Tryz.isAgg5
 z5 := Tryz.sizeOf5
 v5 := Tryz.zeroValue5
 t9 := Tryz.underlying9
 a9 := Tryz.isAgg9
 z9 := Tryz.sizeOf9
 v9 := Tryz.zeroValue9
 t21 := Tryz.underlying21
 a21 := Tryz.isAgg21
 z21 := Tryz.sizeOf21
 v21 := Tryz.zeroValue21
 t46 := Tryz.underlying149
 a46 := Tryz.isAgg149
 z46 := Tryz.sizeOf149
 v46 := Tryz.zeroValue149
 t105 := Tryz.underlying142
 a105 := Tryz.isAgg142
 z105 := Tryz.sizeOf142
 v105 := Tryz.zeroValue142
 t116 := Tryz.underlying131
 a116 := Tryz.isAgg131
 z116 := Tryz.sizeOf131
 t117 := Tryz.underlying132
 a117 := Tryz.isAgg132
 z117 := Tryz.sizeOf132
 v117 := Tryz.zeroValue132
 t119 := Tryz.underlying150
 a119 := Tryz.isAgg150
 z119 := Tryz.sizeOf150
 t124 := Tryz.underlying135
 a124 := Tryz.isAgg135
 z124 := Tryz.sizeOf135
 v124 := Tryz.zeroValue135
 t138 := Tryz.underlying152
 a138 := Tryz.isAgg152
 z138 := Tryz.sizeOf152
 v138 := Tryz.zeroValue152
 t139 := Tryz.underlying153
 a139 := Tryz.isAgg153
 z139 := Tryz.sizeOf153
 v139 := Tryz.zeroValue153
 g3 := by kernel_rfl
 g4 := by kernel_rfl }
end Go.Proofs
namespace Go.Proofs.YthhiiceligjleaaGreatDoor
open Go.RowKit Go.Proofs.YthhiiceligjleaaGreatDoorW.PrintWords Go.Proofs.YthhiiceligjleaaGreatDoorW.PrintLast
set_option linter.unusedVariables false
set_option linter.unusedSimpArgs false
def strings_Split.f (a0 a1 : ByteArray) : Option (List ByteArray) := if a0.size < 4294967281 ∧ 1 ≤ a1.size then some (Lib.splitB a1 0 (Lib.countB a0 a1) a0) else none
theorem strings_Split.calls (a0 a1 : ByteArray) (r : List ByteArray) (w : World) (hL : Laid w) (h : strings_Split.f a0 a1 = some r) :
  Calls Tryz.prog 75 #[.string a0, .string a1] w fun e w' => ∃ v0_ : Value, e = .returned v0_ ∧ Kd.R Kd.string 9 w' w.heap.size (fun _ => True) v0_ r ∧ Below w.heap.size w w' := by
 unfold strings_Split.f at h
 split at h
 ·rename_i hs
  obtain rfl := Option.some.inj h
  obtain ⟨m, hm⟩ := hL
  have hlen := Lib.splitB_all a1 hs.2 0 _ a0 rfl
  have hle := Lib.countB_le a1 hs.2 a0.size a0 (Nat.le_refl _)
  refine (Tryz.strings_Split a0 a1 m w hs.1 hm hs.2).mono fun e w' ⟨h1, h2⟩ => ⟨_, h1, ?_, ?_⟩
  ·subst h2
   generalize Lib.splitB a1 0 (Lib.countB a0 a1) a0 = l at *
   rw [← hlen]
   refine Kd.R_of_own ⟨by rw [qBD, Nat.mul_one], .inr ⟨w.heap.size, l.length, (l.map Value.string).toArray, rfl, Nat.le_refl _, ?_, Nat.le_refl _, ?_, ?_, ?_⟩⟩ (fun _ _ => trivial)
   ·exact qoD _ _
   ·unfold maxLen; omega
   ·simp
   ·simp only [encs, Nat.mul_one]
    rw [List.take_of_length_le (by simp)]
  ·subst h2
   exact qNA (Below.refl _ _) _
 ·cases h
def qNB.f (a0 a1 : ByteArray) : Option ByteArray := if a0.size ≤ 9223372036854775807 ∧ a1.size < 4294967281 ∧ (a1.data.toList.all fun b => decide (b.toNat < 128)) = true then some ⟨(Lib.trimS a0.data.toList a1.data.toList).toArray⟩ else none
theorem qNB.calls (a0 a1 : ByteArray) (r : ByteArray) (w : World) (h : qNB.f a0 a1 = some r) :
  Calls Tryz.prog 76 #[.string a0, .string a1] w fun e w' => e = .returned (.string r) ∧ Below w.heap.size w w' := by
 unfold qNB.f at h
 split at h
 ·rename_i hs
  obtain rfl := Option.some.inj h
  exact Any.strings_Trim_laid Tryz.lays160 (by kernel_rfl) a0 a1 w hs.1 hs.2.1 (ascii_of_all hs.2.2)
 ·cases h
def sp (c : UInt8) : List UInt8 → List UInt8 × List (List UInt8)
 | [] => ([], [])
 | b :: r => if b = c then ([], (sp c r).1 :: (sp c r).2) else (b :: (sp c r).1, (sp c r).2)
theorem splitK_sp (c : UInt8) (l : List UInt8) : Lib.splitK [c] 0 (Lib.count l [c]) l = (sp c l).1 :: (sp c l).2 := by
 induction l with
 | nil =>
  have : Lib.count [] [c] = 0 := by rw [Lib.count_one]; rfl
  rw [this]; rfl
 | cons b l ih =>
  by_cases h : b = c
  ·subst h
   have hix : Lib.index (b :: l) [b] = 0 := by rw [Lib.index]; simp [List.isPrefixOf]
   rw [Lib.count_cons_eq, show 1 + Lib.count l [b] = Lib.count l [b] + 1 by omega, Lib.splitK, hix]
   simp only [sp, if_true]
   rw [if_neg (by decide), ← ih]
   rfl
  ·have hp : ([c] : List UInt8).isPrefixOf (b :: l) = false := by simp [List.isPrefixOf, Ne.symm h]
   have hix : Lib.index (b :: l) [c] = if Lib.index l [c] == -1 then -1 else Lib.index l [c] + 1 := by rw [Lib.index, hp]; simp
   rw [Lib.count_cons_ne b c l h]
   simp only [sp, if_neg h]
   by_cases hm : Lib.index l [c] = -1
   ·have h0 : Lib.count l [c] = 0 := Lib.count_miss hm
    rw [h0] at ih ⊢
    simp only [Lib.splitK] at ih ⊢
    injection ih with e1 e2
    rw [← e1, ← e2]
   ·have hge := Lib.index_ge l [c]
    obtain ⟨j, hj⟩ : ∃ j : Nat, Lib.index l [c] = j := ⟨(Lib.index l [c]).toNat, by omega⟩
    have hc := Lib.count_hit (sub := [c]) (by simp) hj
    obtain ⟨k, hk⟩ : ∃ k, Lib.count l [c] = k + 1 := ⟨Lib.count l [c] - 1, by omega⟩
    rw [hk] at ih ⊢
    have hne : ¬ ((j : Int) == -1) = true := by intro e; have := beq_iff_eq.1 e; omega
    have hne' : ¬ ((j : Int) + 1 == -1) = true := by intro e; have := beq_iff_eq.1 e; omega
    rw [Lib.splitK, hj, if_neg hne] at ih
    rw [Lib.splitK, hix, hj, if_neg hne, if_neg hne']
    have e1 : ((j : Int) + 1).toNat = j + 1 := by omega
    rw [e1]
    simp only [Int.toNat_natCast, Nat.add_zero, List.length_singleton] at ih ⊢
    injection ih with i1 i2
    rw [← i1, ← i2]
    rfl
theorem split_sp (a : ByteArray) (c : UInt8) : (Lib.splitB ⟨#[c]⟩ 0 (Lib.countB a ⟨#[c]⟩) a).map (·.data.toList) = (sp c a.data.toList).1 :: (sp c a.data.toList).2 := by
 rw [Lib.splitB_data]
 exact splitK_sp c a.data.toList
theorem qfD (c : UInt8) (l : List UInt8) : l.length = (sp c l).1.length + ((sp c l).2.map List.length).sum + (sp c l).2.length := by
 induction l with
 | nil => rfl
 | cons b l ih =>
  by_cases h : b = c
  ·simp only [sp, if_pos h, List.length_cons, List.length_nil, List.map_cons, List.sum_cons]; omega
  ·simp only [sp, if_neg h, List.length_cons]; omega
theorem sp_all (c : UInt8) (p : UInt8 → Bool) (l : List UInt8) (hp : p c = false) : ((sp c l).1.all p && (sp c l).2.all (·.all p)) = l.all fun b => b == c || p b := by
 induction l with
 | nil => rfl
 | cons b l ih =>
  by_cases h : b = c
  ·subst h
   simp only [sp, if_true, List.all_nil, Bool.true_and, List.all_cons, ih, beq_self_eq_true, Bool.true_or]
  ·have : (b == c) = false := by simpa using h
   simp only [sp, if_neg h, List.all_cons, Bool.and_assoc, ih, this, Bool.false_or]
theorem quB {p : UInt8 → Bool} {e : UInt8} (he : p e = false) : ∀ l : List UInt8, e ∈ l → e ∈ l.dropWhile p
 | [], h => h
 | b :: l, h => by
  rw [List.dropWhile_cons]
  split
  ·rename_i hb
   rcases List.mem_cons.1 h with rfl | h
   ·rw [he] at hb; cases hb
   ·exact quB he l h
  ·exact h
theorem dropWhile_all {p : UInt8 → Bool} : ∀ l : List UInt8, l.all p = true → l.dropWhile p = []
 | [], _ => rfl
 | b :: l, h => by
  rw [List.all_cons, Bool.and_eq_true] at h
  rw [List.dropWhile_cons, if_pos h.1]
  exact dropWhile_all l h.2
theorem trimS_nil (l cs : List UInt8) : (Lib.trimS l cs = []) ↔ l.all (cs.contains ·) = true := by
 unfold Lib.trimS Lib.trimLeftS Lib.trimRightS
 constructor
 ·intro h
  rw [List.all_eq_true]
  intro e he
  cases hc : cs.contains e with
  | true => rfl
  | false =>
   have h1 := quB (p := (cs.contains ·)) (e := e) hc l.reverse (by simpa using he)
   have h2 := quB (p := (cs.contains ·)) (e := e) hc (l.reverse.dropWhile (cs.contains ·)).reverse (by simpa using h1)
   rw [h] at h2; cases h2
 ·intro h
  rw [dropWhile_all l.reverse (by rw [List.all_reverse]; exact h)]
  rfl
end Go.Proofs.YthhiiceligjleaaGreatDoor
namespace Go.Proofs.YthhiiceligjleaaGreatDoor.P
open Go.RowKit Go.Proofs.YthhiiceligjleaaGreatDoorW.PrintWords Go.Proofs.YthhiiceligjleaaGreatDoorW.PrintLast Go.Proofs.YthhiiceligjleaaGreatDoorW.PrintMore
attribute [local go_sem] ql qj qu qt qd qc qk qi
set_option linter.unusedVariables false
set_option linter.unusedSimpArgs false
def qhA.f (a0 : Int) (a1 : Int) (a2 : Int) : Option (Bool) := if a1 ≤ a0 then (some (decide (a0 ≤ a2))) else (some false)
set_option maxHeartbeats 8000000 in
set_option maxRecDepth 100000 in
theorem qhA.calls (a0 : Int) (a1 : Int) (a2 : Int) (r : Bool) (w : World) (h : qhA.f a0 a1 a2 = some r) :
  Calls Tryz.prog 59 #[.int .i64 a0, .int .i64 a1, .int .i64 a2] w fun e w' => e = .returned (.bool r) ∧ Drawn0 w w' := by
 have H : (if a1 ≤ a0 then (some (decide (a0 ≤ a2))) else (some false)) = some r := h
 clear h
 by_cases c4 : a1 ≤ a0
 ·rw [if_pos c4] at H
  have c4b0 := decide_eq_true c4
  clear c4
  obtain rfl := Option.some.inj H
  go_enter Tryz.func59, Tryz.ntmps59
  go_wp2
  go_ret
  exact ⟨by first | rfl | (simp; done) | (simp [*]; done), dR⟩
 ·rw [if_neg c4] at H
  have c4b0 := decide_eq_false c4
  clear c4
  obtain rfl := Option.some.inj H
  go_enter Tryz.func59, Tryz.ntmps59
  go_wp2
  go_ret
  exact ⟨by first | rfl | (simp; done) | (simp [*]; done), dR⟩
def qYA.l0 : Nat → ByteArray → Int → List ByteArray → Int → Int → Option (List ByteArray × Bool)
 | 0, _, _, _, _, _ => none
 | k + 1, x1, x7, x11, x17, x18 => if x18 < x17 then (if 0 ≤ x18 then (if x18 < (x11.length : Int) then (if ((rdOf ByteArray.empty x11 x18).size : Int) = x7 then ((qNB.f (rdOf ByteArray.empty x11 x18) x1).bind fun t398 => (if t398.toList = ([] : List UInt8) then (qYA.l0 k x1 x7 x11 x17 (wrap64 (x18 + 1))) else (some (([] : List ByteArray), false)))) else (some (([] : List ByteArray), false))) else (none)) else (none)) else ((qhA.f (x11.length : Int) 1 7).bind fun t399 => (if t399 = true then ((qhA.f x7 1 7).bind fun t400 => (if t400 = true then (some (x11, decide ((wrap64 (x7 * (x11.length : Int))) ≤ 36))) else (some (x11, false)))) else (some (x11, false))))
def qYA.f (k : Nat) (a0 : ByteArray) (a1 : ByteArray) : Option (List ByteArray × Bool) := (strings_Split.f a0 (⟨#[47]⟩ : ByteArray)).bind fun t393 => (if 0 < (t393.length : Int) then (qYA.l0 k a1 ((rdOf ByteArray.empty t393 0).size : Int) t393 (t393.length : Int) 0) else (none))
set_option maxHeartbeats 8000000 in
set_option maxRecDepth 100000 in
theorem qYA.calls (k : Nat) (a0 : ByteArray) (a1 : ByteArray) (r1 : List ByteArray) (r2 : Bool) (w : World) (hL : Laid w) (h : qYA.f k a0 a1 = some (r1, r2)) :
  Calls Tryz.prog 57 #[.string a0, .string a1] w fun e w' => ∃ v0_ : Value, e = .returned (.tuple #[v0_, .bool r2]) ∧ Kd.R Kd.string 9 w' w.heap.size (fun _ => True) v0_ r1 ∧ Below w.heap.size w w' := by
 have HLD := aM hL
 clear hL
 have HB := aM (Below.refl w.heap.size w)
 have H : ((strings_Split.f a0 (⟨#[47]⟩ : ByteArray)).bind fun t393 => (if 0 < (t393.length : Int) then (qYA.l0 k a1 ((rdOf ByteArray.empty t393 0).size : Int) t393 (t393.length : Int) 0) else (none))) = some (r1, r2) := h
 clear h
 replace H := bO H
 obtain ⟨t393, A3, H⟩ := H
 by_cases c4 : 0 < (t393.length : Int)
 ·rw [if_pos c4] at H
  have c4b0 := decide_eq_true c4
  have c4b1 : decide (0 < t393.length) = true := decide_eq_true (by omega)
  clear c4
  have H' := aM H
  clear H
  go_enter Tryz.func57, Tryz.ntmps57
  go_wp2_with (first | ((with_reducible refine qF (f := 75) rfl ?_); refine qn (some 11) rfl rfl Tryz.func75 (by kernel_rfl) rfl #[.string a0, .string (⟨#[47]⟩ : ByteArray)] rfl gA ?_; (with_reducible refine (strings_Split.calls a0 (⟨#[47]⟩ : ByteArray) t393 _ ?side1 A3.out).mono ?_); (case side1 => first | (with_reducible exact HLD.out) | exact Laid.below HLD.out bl); rintro e w5 ⟨v394, rfl, ho0, hb⟩; refine ⟨_, rfl, ?_⟩; have HO395 := aM (Kd.qAA ho0 (qL bl)); replace HB := aM (qB bl hb); (try clear hb); (try clear hb2); (try clear hk); (try clear hi); (try clear ho0); obtain ⟨Ao6, co6, eo6⟩ := Kd.qFA HO395.out; subst eo6; have p396 : 0 ≤ (0 : Int) := (by omega); have q396 : 0 < (t393.length : Int) := of_decide_eq_true am; obtain ⟨ad396, e396, hx396_0⟩ := Kd.qrB (Kd.qM HO395.out).2.2 0 p396 q396; cases e396; have qi396 : (0 < t393.length) = True := eq_true (by omega); (try rw [show ((0 : Int)).toNat = 0 from rfl] at hx396_0); (try rw [Addr.add_zero'] at hx396_0); replace p396 := eq_true p396; replace q396 := eq_true q396))
  go_loopg [18] k (fun kq v18 w' => ∃ (x18_1 : Int), v18 = .int .i64 x18_1 ∧ Aside0 (qYA.l0 kq a1 ((rdOf ByteArray.empty t393 0).size : Int) t393 (t393.length : Int) x18_1 = some (r1, r2)) ∧ Aside0 (kq ≤ k) ∧ Aside0 (Kd.R Kd.string 9 w' w.heap.size (fun _ => True) (.slice (some ad396) t393.length co6) t393) ∧ Aside0 (Below w.heap.size w w'))
  case atStart => exact ⟨(0), sD, H', ⟨Nat.le_refl _⟩, ⟨rR HO395⟩, ⟨bl⟩⟩
  case round =>
   clear H'; (try clear p2); (try clear p3); (try clear q3); (try clear hx3); (try clear qi3); (try clear c4); (try clear c4b0); (try clear c4b1); (try clear c5); (try clear hx396_0); (try clear p396); (try clear q396)
   obtain ⟨x18_1, rfl, HA, HK1, HO_11, HB⟩ := hrel
   cases gk with
   | zero => exact absurd HA.out (by simp [qYA.l0])
   | succ k1 =>
    have H := HA.out
    clear HA
    simp only [qYA.l0] at H
    by_cases c7 : x18_1 < (t393.length : Int)
    ·rw [if_pos c7] at H
     have c7b0 := decide_eq_true c7
     clear c7
     by_cases c8 : 0 ≤ x18_1
     ·rw [if_pos c8] at H
      have c8b0 := decide_eq_true c8
      clear c8
      by_cases c9 : x18_1 < (t393.length : Int)
      ·rw [if_pos c9] at H
       have c9b0 := decide_eq_true c9
       clear c9
       by_cases c10 : ((rdOf ByteArray.empty t393 x18_1).size : Int) = ((rdOf ByteArray.empty t393 0).size : Int)
       ·rw [if_pos c10] at H
        have c10b0 := beq_iff_eq.mpr c10
        have c10b1 := bne_eq_false_iff_eq.mpr c10
        have c10b2 : ((rdOf ByteArray.empty t393 x18_1).size == (rdOf ByteArray.empty t393 0).size) = true := by first | simpa using c10 | (simp at c10 ⊢; omega)
        clear c10
        replace H := bO H
        obtain ⟨t398, A11, H⟩ := H
        by_cases c12 : t398.toList = ([] : List UInt8)
        ·rw [if_pos c12] at H
         have c12b0 := beq_iff_eq.mpr c12
         have c12b1 := bne_eq_false_iff_eq.mpr c12
         clear c12
         have H' := aM H
         clear H
         have p397 : 0 ≤ (x18_1 : Int) := of_decide_eq_true am
         have q397 : x18_1 < (t393.length : Int) := of_decide_eq_true am
         obtain ⟨ad397, e397, hx397_0⟩ := Kd.qrB (Kd.qM HO_11.out).2.2 x18_1 p397 q397
         obtain rfl : ad396 = ad397 := (by injection e397)
         replace p397 := eq_true p397
         replace q397 := eq_true q397
         go_wp2_with (first | (go_at_call 76; (with_reducible refine (qNB.calls (rdOf ByteArray.empty t393 x18_1) a1 t398 _ A11.out).mono ?_); rintro e w13 ⟨rfl, hb⟩; replace HO_11 := aM (Kd.qZ (rR HO_11) hb); replace HB := aM (qB bl hb); (try clear hb); (try clear hb2); (try clear hk); (try clear hi)))
         go_roundg k1
         case measure => have := HK1.out; omega
         case rel => exact ⟨(wrap64 (x18_1 + 1)), sD, H', ⟨by have := HK1.out; omega⟩, ⟨rR HO_11⟩, ⟨bl⟩⟩
        ·rw [if_neg c12] at H
         have c12b0 := beq_eq_false_iff_ne.mpr c12
         have c12b1 := bne_iff_ne.mpr c12
         simp only [Option.some.injEq, Prod.mk.injEq] at H
         obtain ⟨rfl, rfl⟩ := H
         have p397 : 0 ≤ (x18_1 : Int) := of_decide_eq_true am
         have q397 : x18_1 < (t393.length : Int) := of_decide_eq_true am
         obtain ⟨ad397, e397, hx397_0⟩ := Kd.qrB (Kd.qM HO_11.out).2.2 x18_1 p397 q397
         obtain rfl : ad396 = ad397 := (by injection e397)
         replace p397 := eq_true p397
         replace q397 := eq_true q397
         go_wp2_with (first | (go_at_call 76; (with_reducible refine (qNB.calls (rdOf ByteArray.empty t393 x18_1) a1 t398 _ A11.out).mono ?_); rintro e w14 ⟨rfl, hb⟩; replace HO_11 := aM (Kd.qZ (rR HO_11) hb); replace HB := aM (qB bl hb); (try clear hb); (try clear hb2); (try clear hk); (try clear hi)))
         go_ret2
         exact ⟨_, sR, nK, bl⟩
       ·rw [if_neg c10] at H
        have c10b0 := beq_eq_false_iff_ne.mpr c10
        have c10b1 := bne_iff_ne.mpr c10
        have c10b2 : ((rdOf ByteArray.empty t393 x18_1).size == (rdOf ByteArray.empty t393 0).size) = false := by first | simpa using c10 | (simp at c10 ⊢; omega)
        simp only [Option.some.injEq, Prod.mk.injEq] at H
        obtain ⟨rfl, rfl⟩ := H
        have p397 : 0 ≤ (x18_1 : Int) := of_decide_eq_true am
        have q397 : x18_1 < (t393.length : Int) := of_decide_eq_true am
        obtain ⟨ad397, e397, hx397_0⟩ := Kd.qrB (Kd.qM HO_11.out).2.2 x18_1 p397 q397
        obtain rfl : ad396 = ad397 := (by injection e397)
        replace p397 := eq_true p397
        replace q397 := eq_true q397
        go_wp2
        go_ret2
        exact ⟨_, sR, nK, bl⟩
      ·rw [if_neg c9] at H
       exact absurd H (by simp)
     ·rw [if_neg c8] at H
      exact absurd H (by simp)
    ·rw [if_neg c7] at H
     have c7b0 := decide_eq_false c7
     clear c7
     replace H := bO H
     obtain ⟨t399, A15, H⟩ := H
     by_cases c16 : t399 = true
     ·subst c16
      replace H := iT H
      replace H := bO H
      obtain ⟨t400, A17, H⟩ := H
      by_cases c18 : t400 = true
      ·subst c18
       replace H := iT H
       simp only [Option.some.injEq, Prod.mk.injEq] at H
       obtain ⟨rfl, rfl⟩ := H
       go_wp2_with (first | ((with_reducible refine qF (f := 59) rfl ?_); refine qn (some 36) rfl rfl Tryz.func59 (by kernel_rfl) rfl #[.int .i64 (t393.length : Int), .int .i64 1, .int .i64 7] rfl gA ?_; (with_reducible refine (qhA.calls (t393.length : Int) 1 7 true _ A15.out).mono ?_); rintro e w' ⟨rfl, ⟨nd, rfl⟩⟩; refine ⟨_, rfl, ?_⟩) | (go_at_call 59; (with_reducible refine (qhA.calls ((rdOf ByteArray.empty t393 0).size : Int) 1 7 true _ A17.out).mono ?_); rintro e w' ⟨rfl, ⟨nd, rfl⟩⟩))
       go_ret2
       exact ⟨_, sR, by (with_reducible repeat (first | apply Kd.qQ | apply Kd.qU | apply Kd.qV)); exact HO_11.out, bl⟩
      ·replace c18 := Bool.eq_false_iff.mpr c18
       subst c18
       replace H := iF H
       simp only [Option.some.injEq, Prod.mk.injEq] at H
       obtain ⟨rfl, rfl⟩ := H
       go_wp2_with (first | ((with_reducible refine qF (f := 59) rfl ?_); refine qn (some 36) rfl rfl Tryz.func59 (by kernel_rfl) rfl #[.int .i64 (t393.length : Int), .int .i64 1, .int .i64 7] rfl gA ?_; (with_reducible refine (qhA.calls (t393.length : Int) 1 7 true _ A15.out).mono ?_); rintro e w' ⟨rfl, ⟨nd, rfl⟩⟩; refine ⟨_, rfl, ?_⟩) | (go_at_call 59; (with_reducible refine (qhA.calls ((rdOf ByteArray.empty t393 0).size : Int) 1 7 false _ A17.out).mono ?_); rintro e w' ⟨rfl, ⟨nd, rfl⟩⟩))
       go_ret2
       exact ⟨_, sR, by (with_reducible repeat (first | apply Kd.qQ | apply Kd.qU | apply Kd.qV)); exact HO_11.out, bl⟩
     ·replace c16 := Bool.eq_false_iff.mpr c16
      subst c16
      replace H := iF H
      simp only [Option.some.injEq, Prod.mk.injEq] at H
      obtain ⟨rfl, rfl⟩ := H
      go_wp2_with (first | ((with_reducible refine qF (f := 59) rfl ?_); refine qn (some 36) rfl rfl Tryz.func59 (by kernel_rfl) rfl #[.int .i64 (t393.length : Int), .int .i64 1, .int .i64 7] rfl gA ?_; (with_reducible refine (qhA.calls (t393.length : Int) 1 7 false _ A15.out).mono ?_); rintro e w' ⟨rfl, ⟨nd, rfl⟩⟩; refine ⟨_, rfl, ?_⟩))
      go_ret2
      exact ⟨_, sR, by (with_reducible repeat (first | apply Kd.qQ | apply Kd.qU | apply Kd.qV)); exact HO_11.out, bl⟩
 ·rw [if_neg c4] at H
  exact absurd H (by simp)
end Go.Proofs.YthhiiceligjleaaGreatDoor.P
