/- The program's WordToBox returns what the reference's returns, for all texts and boxes (the law lets longer texts by). No further condition. -/
import Derived.Test.YtbpfhpjbeomfcaaDoorKFnExactWordToBox3
import Derived.ChangeArms
import Derived.ChangeSame
import Derived.Deep.Slices
import Derived.ProofKit
import Derived.OpenShut
import Derived.SizedLaws
import Derived.Test.YtbpfhpjbeomfcaaDoorProg
import Derived.Lib.Strings
import Derived.Lib.SplitLaws

namespace Go.Proofs.YtbpfhpjbeomfcaaDoor.P
open Go.RowKit Go.Proofs.YtbpfhpjbeomfcaaDoorW.PrintWords Go.Proofs.YtbpfhpjbeomfcaaDoorW.PrintLast Go.Proofs.YtbpfhpjbeomfcaaDoorW.PrintMore
attribute [local go_sem] qz qx qIA qHA qq qp qy qw
set_option linter.unusedVariables false
set_option linter.unusedSimpArgs false
mutual
def qO.l0 : Nat → List (S27) → List ByteArray → Int → List ByteArray → Option ((List (S27)) × List ByteArray × Bool)
 | 0, _, _, _, _ => none
 | k + 1, x9, x10, x11, x19 => if x11 < (x9.length : Int) then (qO.l1 k x9 x10 x11 x19 0) else (some (x9, x10, decide ((x9.length : Int) ≤ 400)))
def qO.l1 : Nat → List (S27) → List ByteArray → Int → List ByteArray → Int → Option ((List (S27)) × List ByteArray × Bool)
 | 0, _, _, _, _, _ => none
 | k + 1, x9, x10, x11, x19, x32 => if x32 < 4 then (if 0 ≤ x11 then (if x11 < (x9.length : Int) then (if 0 ≤ x32 then ((qBA.f k x19 ((qQ x9 x11).f0) ((qQ x9 x11).f1) ((qQ x9 x11).f2) (bt (⟨#[110, 101, 115, 119]⟩ : ByteArray) x32)).bind fun bt483 => (if bt483.2.2.2 = true then ((qk.f k x9 bt483.1 bt483.2.1 bt483.2.2.1).bind fun t488 => (if t488 = true then (qO.l1 k x9 x10 x11 x19 (wrap64 (x32 + 1))) else ((some (([(⟨bt483.1, bt483.2.1, bt483.2.2.1⟩ : S27)] : List (S27)) : List (S27))).bind fun y489 => (if x9.length + y489.length < 5864062014805 then (if x11 < (x10.length : Int) then (if x32 ≤ (wrap64 (x32 + 1)) then (if (wrap64 (x32 + 1)) ≤ 4 then (if (rdOf ByteArray.empty x10 x11).size + ((⟨#[110, 101, 115, 119]⟩ : ByteArray).extract (x32 : Int).toNat ((wrap64 (x32 + 1)) : Int).toNat).size ≤ 9223372036854775807 then ((some (([(rdOf ByteArray.empty x10 x11) ++ ((⟨#[110, 101, 115, 119]⟩ : ByteArray).extract (x32 : Int).toNat ((wrap64 (x32 + 1)) : Int).toNat)] : List ByteArray) : List ByteArray)).bind fun y496 => (if x10.length + y496.length < 8796093022208 then (qO.l1 k (x9 ++ y489) (x10 ++ y496) x11 x19 (wrap64 (x32 + 1))) else (none))) else (none)) else (none)) else (none)) else (none)) else (none))))) else (qO.l1 k x9 x10 x11 x19 (wrap64 (x32 + 1))))) else (none)) else (none)) else (none)) else (qO.l0 k x9 x10 (wrap64 (x11 + 1)) x19)
end
def qO.f (k : Nat) (a0 : ByteArray) (a1_0 : Int) (a1_1 : Int) (a1_2 : Int) : Option ((List (S27)) × List ByteArray × Bool) := (qKA.f k a0 a1_0 a1_1 a1_2).bind fun bt472 => (if bt472.2 = true then (qO.l0 k (([(⟨a1_0, a1_1, a1_2⟩ : S27)] : List (S27))) (([(⟨#[]⟩ : ByteArray)] : List ByteArray)) 0 bt472.1) else (some (([] : List (S27)), ([] : List ByteArray), false)))
def qO.T11 : Bool × List (List Nat × List Nat) := (true, [([], []), ([], []), ([], []), ([1, 2], [1, 2]), ([3], [3]), ([], []), ([5], [5]), ([0, 4, 6], [0, 4, 6]), ([7], [7]), ([8], [8]), ([8], [8]), ([], []), ([11, 9, 7, 0, 1, 2, 3, 4, 5, 6, 7, 8, 9, 11], [9, 11]), ([10, 12, 0, 1, 2, 3, 4, 5, 6, 7, 8, 9, 10, 11, 12], [10])])
def qO.B11 : List Nat := [0, 0, 0, 6, 14, 0, 32, 127, 255, 511, 511, 0, 3071, 8191]
theorem qO.tab11 : rtab .any (opsOf Tryd.f66 11) = qO.T11 := by kernel_rfl
theorem qO.bits11 : waitsOk qO.T11.2 qO.B11 = true := by kernel_rfl
def qO.T13 : Bool × List (List Nat × List Nat) := (true, [([], []), ([], []), ([1], [1]), ([0, 2], [0, 2]), ([], []), ([], []), ([], []), ([5, 6], [5, 6]), ([7], [7]), ([], []), ([], []), ([10], [10]), ([9, 11], [9, 11]), ([8, 12], [8, 12]), ([13], [13]), ([4, 14, 3], [4, 14]), ([3, 15, 0, 1, 2, 3], [0, 3]), ([15, 16, 0, 1, 2, 3, 4, 5, 6, 7, 8, 9, 10, 11, 12, 13, 14, 15, 16], [4, 5, 15])])
def qO.B13 : List Nat := [0, 0, 2, 7, 0, 0, 0, 96, 224, 0, 0, 1024, 3584, 8160, 16352, 32767, 65535, 131071]
theorem qO.tab13 : rtab .any (opsOf Tryd.f66 13) = qO.T13 := by kernel_rfl
theorem qO.bits13 : waitsOk qO.T13.2 qO.B13 = true := by kernel_rfl
set_option maxHeartbeats 8000000 in
set_option maxRecDepth 100000 in
theorem qO.calls (k : Nat) (a0 : ByteArray) (a1_0 : Int) (a1_1 : Int) (a1_2 : Int) (r1 : List (S27)) (r2 : List ByteArray) (r3 : Bool) (w : World) (hL : Laid w) (h : qO.f k a0 a1_0 a1_1 a1_2 = some (r1, r2, r3)) :
  Calls Tryd.prog 66 #[.string a0, .agg #[.int .i64 a1_0, .int .i64 a1_1, .int .i64 a1_2]] w fun e w' => ∃ v0_ v1_ : Value, e = .returned (.tuple #[v0_, v1_, .bool r3]) ∧ Kd.R k27 27 w' w.heap.size (fun _ => True) v0_ r1 ∧ Kd.R Kd.string 9 w' w.heap.size (fun _ => True) v1_ r2 ∧ Below w.heap.size w w' := by
 have hu27 := Tryd.underlying27
 have HLD := Aside0.mk hL
 clear hL
 have HB := Aside0.mk (Below.refl w.heap.size w)
 have H : ((qKA.f k a0 a1_0 a1_1 a1_2).bind fun bt472 => (if bt472.2 = true then (qO.l0 k (([(⟨a1_0, a1_1, a1_2⟩ : S27)] : List (S27))) (([(⟨#[]⟩ : ByteArray)] : List ByteArray)) 0 bt472.1) else (some (([] : List (S27)), ([] : List ByteArray), false)))) = some (r1, r2, r3) := h
 clear h
 replace H := Option.bind_eq_some_iff.mp H
 obtain ⟨⟨t472, t475⟩, A30, H⟩ := H
 replace H : (if t475 = true then (qO.l0 k (([(⟨a1_0, a1_1, a1_2⟩ : S27)] : List (S27))) (([(⟨#[]⟩ : ByteArray)] : List ByteArray)) 0 t472) else (some (([] : List (S27)), ([] : List ByteArray), false))) = some (r1, r2, r3) := H
 have A3 := Aside0.mk A30
 clear A30
 by_cases c4 : t475 = true
 ·subst c4
  have H1 : (qO.l0 k (([(⟨a1_0, a1_1, a1_2⟩ : S27)] : List (S27))) (([(⟨#[]⟩ : ByteArray)] : List ByteArray)) 0 t472) = some (r1, r2, r3) := by rw [if_pos rfl] at H; exact H
  clear H
  have H := H1
  clear H1
  obtain ⟨y476, hy476⟩ : ∃ y_ : List (S27), y_ = (([(⟨a1_0, a1_1, a1_2⟩ : S27)] : List (S27))) := ⟨_, rfl⟩
  replace H : (qO.l0 k y476 (([(⟨#[]⟩ : ByteArray)] : List ByteArray)) 0 t472) = some (r1, r2, r3) := by first | (rw [hy476]; with_reducible exact H) | (have H2_ := (Option.bind_some _ _).symm.trans H; rw [hy476]; with_reducible exact H2_) | (have H2_ := (Option.bind_some _ _).symm.trans H; with_reducible exact H2_) | with_reducible exact H | (rw [hy476]; exact H) | exact H
  have Ny476 := Aside0.mk hy476
  clear hy476
  obtain ⟨y479, hy479⟩ : ∃ y_ : List ByteArray, y_ = (([(⟨#[]⟩ : ByteArray)] : List ByteArray)) := ⟨_, rfl⟩
  replace H : (qO.l0 k y476 y479 0 t472) = some (r1, r2, r3) := by first | (rw [hy479]; with_reducible exact H) | (have H2_ := (Option.bind_some _ _).symm.trans H; rw [hy479]; with_reducible exact H2_) | (have H2_ := (Option.bind_some _ _).symm.trans H; with_reducible exact H2_) | with_reducible exact H | (rw [hy479]; exact H) | exact H
  have Ny479 := Aside0.mk hy479
  clear hy479
  have H' := Aside0.mk H
  clear H
  go_enter Tryd.func66, Tryd.ntmps66
  go_wp2_with (first | ((with_reducible refine qa (N := 3) rfl ?_); refine qW ?hg (N := 3) ?hd (cs := #[.int .i64 a1_0, .int .i64 a1_1, .int .i64 a1_2]) (t := 27) ?hr ?_; (case hd => rfl); (case hg => rfl); (case hr => first | (go_simp; done) | (go_simp; rfl)); intro gb471 hg w5 hbox hb; have n0_ := Aside0.mk (qH bl hb); have n1_ := Aside0.mk (hbox); have n2_ := Aside0.mk ((gg hg)); have n3_ := Aside0.mk ((gg hg)); clear HB; have HB := n0_; have BK471 := n1_; have GW471 := n2_; have GE471 := n3_; clear n0_ n1_ n2_ n3_; clear hb hbox hg; have hcz6_0 := bc BK471 0; have hcz6_1 := bc BK471 1; have hcz6_2 := bc BK471 2; have hfz6_0 := qD BK471.out 0; have hfz6_1 := qD BK471.out 1; have hfz6_2 := qD BK471.out 2) | ((with_reducible refine qh (f := 58) rfl ?_); refine qGA (some 18) rfl rfl Tryd.func58 (by kernel_rfl) rfl #[.string a0, .agg #[.int .i64 a1_0, .int .i64 a1_1, .int .i64 a1_2]] rfl (by (try simp only [List.map_toArray, List.map_cons, List.map_nil]); first | done | rfl | (simp only [List.length_drop, List.length_take]; rfl)) ?_; (with_reducible refine (qKA.calls k a0 a1_0 a1_1 a1_2 t472 true _ ?side1 A3.out).mono ?_); (case side1 => first | exact HLD.out | exact Laid.below HLD.out (by repeat (first | (with_reducible first | exact HB.out | apply qj | apply qm | apply qi | refine qVA ?_ (Aside0.out (by with_reducible assumption))) | exact HB.out))); rintro e w7 ⟨v473, rfl, ho0, hb⟩; refine ⟨_, rfl, ?_⟩; have n0_ := Aside0.mk (Kd.qEA ho0 (qf bl)); have n1_ := Aside0.mk (bb BK471 hb); have n2_ := Aside0.mk (qH bl hb); clear BK471; clear HB; have HO474 := n0_; have BK471 := n1_; have HB := n2_; clear n0_ n1_ n2_; (try clear hb); (try clear hb2); (try clear hk); (try clear hi); (try clear ho0); have hcz8_0 := bc BK471 0; have hcz8_1 := bc BK471 1; have hcz8_2 := bc BK471 2; have hfz8_0 := qD BK471.out 0; have hfz8_1 := qD BK471.out 1; have hfz8_2 := qD BK471.out 2) | ((with_reducible refine qa (N := 24) rfl ?_); refine Kd.R_lit k27 _ 27 ?hg (N := 24) ?hd (xs := ([(⟨a1_0, a1_1, a1_2⟩ : S27)] : List (S27))) (inner := [.int .i64 a1_0, .int .i64 a1_1, .int .i64 a1_2]) (ok := fun _ => True) (okp := fun _ => True) ?hr ?hp (fun _ hk => hk) trivial (Below.refl _ _) (Nat.le_refl _) (by simp) ?_; (case hd => rfl); (case hg => rfl); (case hr => first | (go_simp; done) | (go_simp; rfl)); (case hp => exact (Reps.c3 (show Kd.M k27 _ _ _ (⟨a1_0, a1_1, a1_2⟩ : S27) [.int .i64 a1_0, .int .i64 a1_1, .int .i64 a1_2] from (qoB _ _ _ (⟨a1_0, a1_1, a1_2⟩ : S27) )) (Reps.none _ _))); intro v477 w9 ho10 hb hg_ hnew_; clear hg_ hnew_; (first | rw [← Ny476.out] at ho10 | (simp only [Int.reduceToNat] at ho10; rw [← Ny476.out] at ho10)); have n0_ := Aside0.mk (Kd.qc (by (with_reducible repeat (first | apply Kd.qG | apply Kd.qF | apply Kd.qI)); exact HO474.out) hb); have n1_ := Aside0.mk (Kd.qEA (Kd.qbB ho10 (g := gb471) (o := .cells #[.int .i64 a1_0, .int .i64 a1_1, .int .i64 a1_2] 27 (0, 0)) (by (with_reducible repeat (first | refine qB ?_ _ | refine qC ?_ | refine qA ?_ _)); exact BK471.out)) (qf bl)); have n2_ := Aside0.mk (bb BK471 hb); have n3_ := Aside0.mk (qH bl hb); clear HO474; clear BK471; clear HB; have HO474 := n0_; have HO478 := n1_; have BK471 := n2_; have HB := n3_; clear n0_ n1_ n2_ n3_; clear hb ho10) | ((with_reducible refine qa (N := 25) rfl ?_); refine Kd.R_lit Kd.string _ 9 ?hg (N := 25) ?hd (xs := ([(⟨#[]⟩ : ByteArray)] : List ByteArray)) (inner := [.string (⟨#[]⟩ : ByteArray)]) (ok := fun _ => True) (okp := fun _ => True) ?hr ?hp (fun _ hk => hk) trivial (Below.refl _ _) (Nat.le_refl _) (by simp) ?_; (case hd => rfl); (case hg => rfl); (case hr => first | (go_simp; done) | (go_simp; rfl)); (case hp => exact (Reps.one (show Kd.M Kd.string _ _ _ (⟨#[]⟩ : ByteArray) [.string (⟨#[]⟩ : ByteArray)] from rfl) (Reps.none _ _))); intro v480 w11 ho12 hb hg_ hnew_; clear hg_ hnew_; (first | rw [← Ny479.out] at ho12 | (simp only [Int.reduceToNat] at ho12; rw [← Ny479.out] at ho12)); have n0_ := Aside0.mk (Kd.qqA (by (with_reducible repeat (first | apply Kd.qG | apply Kd.qF | apply Kd.qI)); exact HO474.out) (Kd.qPB ho12) hb); have n1_ := Aside0.mk (Kd.qc (by (with_reducible repeat (first | apply Kd.qG | apply Kd.qF | apply Kd.qI)); exact HO478.out) hb); have n2_ := Aside0.mk (Kd.qEA (Kd.qOB ho12 (Kd.R_lt (by (with_reducible repeat (first | apply Kd.qG | apply Kd.qF | apply Kd.qI)); exact HO474.out))) (qf bl)); have n3_ := Aside0.mk (bb BK471 hb); have n4_ := Aside0.mk (qH bl hb); clear HO474; clear HO478; clear BK471; clear HB; have HO474 := n0_; have HO478 := n1_; have HO481 := n2_; have BK471 := n3_; have HB := n4_; clear n0_ n1_ n2_ n3_ n4_; clear hb ho12))
  go_loopg [9, 10, 11] k (fun kq v9 v10 v11 w' => ∃ (x9_1 : List (S27)) (x10_1 : List ByteArray) (x11_1 : Int), v11 = .int .i64 x11_1 ∧ Aside0 (qO.l0 kq x9_1 x10_1 x11_1 t472 = some (r1, r2, r3)) ∧ Aside0 (kq ≤ k) ∧ Aside0 (Kd.R k27 27 w' w.heap.size (fun k_ => k_ ≠ gb471) v9 x9_1) ∧ Aside0 (Kd.R Kd.string 9 w' w.heap.size (fun k_ => some k_ ≠ (v473 : Value).ownBlock) v10 x10_1) ∧ Aside0 (Kd.R Kd.string 9 w' w.heap.size (fun k_ => some k_ ≠ (v10 : Value).ownBlock) v473 t472) ∧ Aside0 (w'.heap[gb471]? = some (.cells #[.int .i64 a1_0, .int .i64 a1_1, .int .i64 a1_2] 27 (0, 0))) ∧ Aside0 (Below w.heap.size w w'))
  case atStart => exact ⟨(y476), (y479), (0), (by first | rfl | (simp; done) | (simp [*]; done)), H', ⟨Nat.le_refl _⟩, ⟨by (with_reducible repeat (first | apply Kd.qG | apply Kd.qF | apply Kd.qI)); exact Kd.qg HO478.out (fun _ hk => hk.2)⟩, ⟨by (with_reducible repeat (first | apply Kd.qG | apply Kd.qF | apply Kd.qI)); exact Kd.qg HO481.out (fun _ hk => hk.2)⟩, ⟨by (with_reducible repeat (first | apply Kd.qG | apply Kd.qF | apply Kd.qI)); exact Kd.qg HO474.out (fun _ hk => hk.2)⟩, ⟨by (with_reducible repeat (first | refine qB ?_ _ | refine qC ?_ | refine qA ?_ _)); exact BK471.out⟩, ⟨bl⟩⟩
  case round =>
   clear H'
   try clear p2
   try clear c3
   try clear c4
   try clear c5
   try clear c6
   try clear hcz6_0
   try clear hcz6_1
   try clear hcz6_2
   try clear hcz8_0
   try clear hcz8_1
   try clear hcz8_2
   try clear hfz6_0
   try clear hfz6_1
   try clear hfz6_2
   try clear hfz8_0
   try clear hfz8_1
   try clear hfz8_2
   obtain ⟨x9_1, x10_1, x11_1, rfl, HA, HK1, HO_9, HO_10, HO_19, BK471, HB⟩ := hrel
   cases gk with
   | zero => exact absurd HA.out (by simp [qO.l0])
   | succ k1 =>
    have H := HA.out
    clear HA
    simp only [qO.l0] at H
    by_cases c13 : x11_1 < (x9_1.length : Int)
    ·rw [if_pos c13] at H
     have c13b0 : decide (x11_1 < (x9_1.length : Int)) = true := decide_eq_true c13
     clear c13
     have H' := Aside0.mk H
     clear H
     obtain ⟨Ao14, co14, eo14⟩ := Kd.qr HO_9.out
     subst eo14
     go_wp2
     go_loopg [9, 10, 32] k1 (fun kq v9 v10 v32 w' => ∃ (x9_2 : List (S27)) (x10_2 : List ByteArray) (x32_2 : Int), v32 = .int .i64 x32_2 ∧ Aside0 (qO.l1 kq x9_2 x10_2 x11_1 t472 x32_2 = some (r1, r2, r3)) ∧ Aside0 (kq ≤ k1) ∧ Aside0 (Kd.R k27 27 w' w.heap.size (fun k_ => k_ ≠ gb471) v9 x9_2) ∧ Aside0 (Kd.R Kd.string 9 w' w.heap.size (fun k_ => some k_ ≠ (v473 : Value).ownBlock) v10 x10_2) ∧ Aside0 (Kd.R Kd.string 9 w' w.heap.size (fun k_ => some k_ ≠ (v10 : Value).ownBlock) v473 t472) ∧ Aside0 (w'.heap[gb471]? = some (.cells #[.int .i64 a1_0, .int .i64 a1_1, .int .i64 a1_2] 27 (0, 0))) ∧ Aside0 (Below w.heap.size w w'))
     case atStart => exact ⟨(x9_1), (x10_1), (0), (by first | rfl | (simp; done) | (simp [*]; done)), H', ⟨Nat.le_refl _⟩, ⟨by (with_reducible repeat (first | apply Kd.qG | apply Kd.qF | apply Kd.qI)); exact HO_9.out⟩, ⟨by (with_reducible repeat (first | apply Kd.qG | apply Kd.qF | apply Kd.qI)); exact HO_10.out⟩, ⟨by (with_reducible repeat (first | apply Kd.qG | apply Kd.qF | apply Kd.qI)); exact HO_19.out⟩, ⟨by (with_reducible repeat (first | refine qB ?_ _ | refine qC ?_ | refine qA ?_ _)); exact BK471.out⟩, ⟨bl⟩⟩
     case round =>
      clear H'
      try clear c1
      try clear p2
      try clear c3
      try clear c4
      try clear c5
      try clear c6
      try clear c13
      try clear c13b0
      try clear hcz6_0
      try clear hcz6_1
      try clear hcz6_2
      try clear hcz8_0
      try clear hcz8_1
      try clear hcz8_2
      try clear hfz6_0
      try clear hfz6_1
      try clear hfz6_2
      try clear hfz8_0
      try clear hfz8_1
      try clear hfz8_2
      try clear p2
      obtain ⟨x9_2, x10_2, x32_2, rfl, HA, HK2, HO_9, HO_10, HO_19, BK471, HB⟩ := hrel
      cases gk with
      | zero => exact absurd HA.out (by simp [qO.l1])
      | succ k2 =>
       have H := HA.out
       clear HA
       simp only [qO.l1] at H
       by_cases c15 : x32_2 < 4
       ·rw [if_pos c15] at H
        have c15b0 : decide (x32_2 < 4) = true := decide_eq_true c15
        clear c15
        by_cases c16 : 0 ≤ x11_1
        ·rw [if_pos c16] at H
         have c16b0 : decide (0 ≤ x11_1) = true := decide_eq_true c16
         clear c16
         by_cases c17 : x11_1 < (x9_2.length : Int)
         ·rw [if_pos c17] at H
          have c17b0 : decide (x11_1 < (x9_2.length : Int)) = true := decide_eq_true c17
          clear c17
          by_cases c18 : 0 ≤ x32_2
          ·rw [if_pos c18] at H
           have c18b0 : decide (0 ≤ x32_2) = true := decide_eq_true c18
           clear c18
           replace H := Option.bind_eq_some_iff.mp H
           obtain ⟨⟨t483, t484, t485, t486⟩, A200, H⟩ := H
           replace H : (if t486 = true then ((qk.f k2 x9_2 t483 t484 t485).bind fun t488 => (if t488 = true then (qO.l1 k2 x9_2 x10_2 x11_1 t472 (wrap64 (x32_2 + 1))) else ((some (([(⟨t483, t484, t485⟩ : S27)] : List (S27)) : List (S27))).bind fun y489 => (if x9_2.length + y489.length < 5864062014805 then (if x11_1 < (x10_2.length : Int) then (if x32_2 ≤ (wrap64 (x32_2 + 1)) then (if (wrap64 (x32_2 + 1)) ≤ 4 then (if (rdOf ByteArray.empty x10_2 x11_1).size + ((⟨#[110, 101, 115, 119]⟩ : ByteArray).extract (x32_2 : Int).toNat ((wrap64 (x32_2 + 1)) : Int).toNat).size ≤ 9223372036854775807 then ((some (([(rdOf ByteArray.empty x10_2 x11_1) ++ ((⟨#[110, 101, 115, 119]⟩ : ByteArray).extract (x32_2 : Int).toNat ((wrap64 (x32_2 + 1)) : Int).toNat)] : List ByteArray) : List ByteArray)).bind fun y496 => (if x10_2.length + y496.length < 8796093022208 then (qO.l1 k2 (x9_2 ++ y489) (x10_2 ++ y496) x11_1 t472 (wrap64 (x32_2 + 1))) else (none))) else (none)) else (none)) else (none)) else (none)) else (none))))) else (qO.l1 k2 x9_2 x10_2 x11_1 t472 (wrap64 (x32_2 + 1)))) = some (r1, r2, r3) := H
           have A20 := Aside0.mk A200
           clear A200
           by_cases c21 : t486 = true
           ·subst c21
            have H1 : ((qk.f k2 x9_2 t483 t484 t485).bind fun t488 => (if t488 = true then (qO.l1 k2 x9_2 x10_2 x11_1 t472 (wrap64 (x32_2 + 1))) else ((some (([(⟨t483, t484, t485⟩ : S27)] : List (S27)) : List (S27))).bind fun y489 => (if x9_2.length + y489.length < 5864062014805 then (if x11_1 < (x10_2.length : Int) then (if x32_2 ≤ (wrap64 (x32_2 + 1)) then (if (wrap64 (x32_2 + 1)) ≤ 4 then (if (rdOf ByteArray.empty x10_2 x11_1).size + ((⟨#[110, 101, 115, 119]⟩ : ByteArray).extract (x32_2 : Int).toNat ((wrap64 (x32_2 + 1)) : Int).toNat).size ≤ 9223372036854775807 then ((some (([(rdOf ByteArray.empty x10_2 x11_1) ++ ((⟨#[110, 101, 115, 119]⟩ : ByteArray).extract (x32_2 : Int).toNat ((wrap64 (x32_2 + 1)) : Int).toNat)] : List ByteArray) : List ByteArray)).bind fun y496 => (if x10_2.length + y496.length < 8796093022208 then (qO.l1 k2 (x9_2 ++ y489) (x10_2 ++ y496) x11_1 t472 (wrap64 (x32_2 + 1))) else (none))) else (none)) else (none)) else (none)) else (none)) else (none))))) = some (r1, r2, r3) := by rw [if_pos rfl] at H; exact H
            clear H
            have H := H1
            clear H1
            replace H := Option.bind_eq_some_iff.mp H
            obtain ⟨t488, A220, H⟩ := H
            replace H : (if t488 = true then (qO.l1 k2 x9_2 x10_2 x11_1 t472 (wrap64 (x32_2 + 1))) else ((some (([(⟨t483, t484, t485⟩ : S27)] : List (S27)) : List (S27))).bind fun y489 => (if x9_2.length + y489.length < 5864062014805 then (if x11_1 < (x10_2.length : Int) then (if x32_2 ≤ (wrap64 (x32_2 + 1)) then (if (wrap64 (x32_2 + 1)) ≤ 4 then (if (rdOf ByteArray.empty x10_2 x11_1).size + ((⟨#[110, 101, 115, 119]⟩ : ByteArray).extract (x32_2 : Int).toNat ((wrap64 (x32_2 + 1)) : Int).toNat).size ≤ 9223372036854775807 then ((some (([(rdOf ByteArray.empty x10_2 x11_1) ++ ((⟨#[110, 101, 115, 119]⟩ : ByteArray).extract (x32_2 : Int).toNat ((wrap64 (x32_2 + 1)) : Int).toNat)] : List ByteArray) : List ByteArray)).bind fun y496 => (if x10_2.length + y496.length < 8796093022208 then (qO.l1 k2 (x9_2 ++ y489) (x10_2 ++ y496) x11_1 t472 (wrap64 (x32_2 + 1))) else (none))) else (none)) else (none)) else (none)) else (none)) else (none)))) = some (r1, r2, r3) := H
            have A22 := Aside0.mk A220
            clear A220
            by_cases c23 : t488 = true
            ·subst c23
             have H1 : (qO.l1 k2 x9_2 x10_2 x11_1 t472 (wrap64 (x32_2 + 1))) = some (r1, r2, r3) := by rw [if_pos rfl] at H; exact H
             clear H
             have H := H1
             clear H1
             have H' := Aside0.mk H
             clear H
             obtain ⟨Ao24, co24, eo24⟩ := Kd.qr HO_19.out
             subst eo24
             try go_wp2
             have n0_ := Aside0.mk (Kd.qI HO_9.out)
             have n1_ := Aside0.mk (Kd.qI HO_10.out)
             have n2_ := Aside0.mk (Kd.qI HO_19.out)
             have n3_ := Aside0.mk (qC BK471.out)
             have n4_ := Aside0.mk (qi HB.out)
             clear HO_9
             clear HO_10
             clear HO_19
             clear BK471
             clear HB
             have HO_9 := n0_
             have HO_10 := n1_
             have HO_19 := n2_
             have BK471 := n3_
             have HB := n4_
             clear n0_ n1_ n2_ n3_ n4_
             obtain ⟨Ao26, co26, eo26⟩ := Kd.qr HO_9.out
             (first | subst eo26 | (injection eo26 with f1_ f2_ f3_; have f4_ := f1_.symm; have f5_ := f3_.symm; clear f1_ f2_ f3_; subst f4_; subst f5_))
             have p482 : 0 ≤ (x11_1 : Int) := of_decide_eq_true (by first | (with_reducible assumption) | assumption)
             have q482 : x11_1 < (x9_2.length : Int) := of_decide_eq_true (by first | (with_reducible assumption) | assumption)
             obtain ⟨ad482, e482, hx482_0, hx482_1, hx482_2⟩ := qCB (Kd.ql HO_9.out).2.2 x11_1 p482 q482
             cases e482
             replace p482 := eq_true p482
             replace q482 := eq_true q482
             have p19 : 0 ≤ (x32_2 : Int) := of_decide_eq_true (by first | (with_reducible assumption) | assumption)
             have q19 : x32_2 < (4 : Int) := of_decide_eq_true (by first | (with_reducible assumption) | assumption)
             have hx19 := bt_at (⟨#[110, 101, 115, 119]⟩ : ByteArray) x32_2
             replace p19 := eq_true p19
             replace q19 := eq_true q19
             refine qmA (n := 14) (S := fun w' => w'.cell? (ad482.add ((x11_1).toNat * 3)) = some (.int .i64 ((qQ x9_2 x11_1).f0)) ∧ w'.cell? ⟨(ad482.add ((x11_1).toNat * 3)).block, (ad482.add ((x11_1).toNat * 3)).off + 1, none⟩ = some (.int .i64 ((qQ x9_2 x11_1).f1)) ∧ w'.cell? ⟨(ad482.add ((x11_1).toNat * 3)).block, (ad482.add ((x11_1).toNat * 3)).off + 2, none⟩ = some (.int .i64 ((qQ x9_2 x11_1).f2))) (ds := []) #[false, false, false, false, false, false, false, false, false, false, false, false, false, false] (by kernel_rfl) rfl rfl ⟨hx482_0, hx482_1, hx482_2⟩ (fun hHeld => ?_); refine qNA qO.tab11 qO.bits11 (fun HT_ HW_ => ?_)
             generalize wr.drew = w25 at HO_9 HO_10 HO_19 BK471 HB hx482_0 hx482_1 hx482_2 hHeld ⊢
             refine pS (i := 0) (N := some 36) #[true, false, false, false, false, false, false, false, false, false, false, false, false, false] HT_ ?_
             refine pS (i := 1) (N := some 37) #[true, true, false, false, false, false, false, false, false, false, false, false, false, false] HT_ ?_
             refine pS (i := 2) (N := some 38) #[true, true, true, false, false, false, false, false, false, false, false, false, false, false] HT_ ?_
             refine pS (i := 3) (N := some 39) #[true, true, true, true, false, false, false, false, false, false, false, false, false, false] HT_ ?_
             refine pS (i := 5) (N := some 41) #[true, true, true, true, false, true, false, false, false, false, false, false, false, false] HT_ ?_
             refine tS (i := 4) (N := some 40) #[true, true, true, true, true, true, false, false, false, false, false, false, false, false] HT_ HW_ hHeld ?_
             refine tS (i := 6) (N := some 42) #[true, true, true, true, true, true, true, false, false, false, false, false, false, false] HT_ HW_ hHeld ?_
             refine join_ (σ := Nat) 2 #[true, true, true, true, true, true, true, true, true, true, true, true, false, false] (fun s_ => [(43, .tuple #[.agg #[.int .i64 t483, .int .i64 t484, .int .i64 t485], .bool true]), (13, .pointer (some ⟨s_, 0, none⟩)), (35, .tuple #[.agg #[.int .i64 t483, .int .i64 t484, .int .i64 t485], .bool true]), (44, .agg #[.int .i64 t483, .int .i64 t484, .int .i64 t485]), (45, .bool true)]) (fun s_ w' => (w'.cell? (ad482.add ((x11_1).toNat * 3)) = some (.int .i64 ((qQ x9_2 x11_1).f0)) ∧ w'.cell? ⟨(ad482.add ((x11_1).toNat * 3)).block, (ad482.add ((x11_1).toNat * 3)).off + 1, none⟩ = some (.int .i64 ((qQ x9_2 x11_1).f1)) ∧ w'.cell? ⟨(ad482.add ((x11_1).toNat * 3)).block, (ad482.add ((x11_1).toNat * 3)).off + 2, none⟩ = some (.int .i64 ((qQ x9_2 x11_1).f2))) ∧ (Kd.R Kd.string 9 w' w.heap.size (fun k_ => some k_ ≠ (.slice Ao24 t472.length co24 : Value).ownBlock) u10 x10_2) ∧ (Kd.R Kd.string 9 w' w.heap.size (fun k_ => some k_ ≠ (u10 : Value).ownBlock) (.slice Ao24 t472.length co24) t472) ∧ (Kd.R k27 27 w' w.heap.size (fun k_ => k_ ≠ gb471 ∧ k_ ≠ s_) (.slice (some ad482) x9_2.length co26) x9_2) ∧ (w'.heap[gb471]? = some (.cells #[.int .i64 a1_0, .int .i64 a1_1, .int .i64 a1_2] 27 (0, 0))) ∧ (w'.heap[s_]? = some (.cells #[.int .i64 0, .int .i64 0, .int .i64 0] 27 (0, 0))) ∧ (w.heap.size ≤ s_) ∧ (w.heap.size ≤ s_) ∧ (gb471 ≠ s_) ∧ (s_ ≠ gb471) ∧ (Below w.heap.size w w')) ?_ ?_
             rotate_left
             ·intro hCont
              refine two_ (i := 7) (j := 11) (Ni := some 43) (Nj := some 13) #[true, true, true, true, true, true, true, true, false, false, false, false, false, false] #[true, true, true, true, true, true, true, false, false, false, false, true, false, false] rfl rfl rfl rfl (qkB HT_.out (by kernel_rfl)) (by decide) (by decide) (fun K hK => ?_) (fun K hK => ?_)
              ·skip
               refine goes_ Tryd.func62 (by kernel_rfl) rfl #[.slice Ao24 t472.length co24, .agg #[.int .i64 ((qQ x9_2 x11_1).f0), .int .i64 ((qQ x9_2 x11_1).f1), .int .i64 ((qQ x9_2 x11_1).f2)], .int .u8 (bt (⟨#[110, 101, 115, 119]⟩ : ByteArray) x32_2)] (by rfl) rfl rfl (by (try simp only [List.map_toArray, List.map_cons, List.map_nil]); first | done | rfl | (simp only [List.length_drop, List.length_take]; rfl)) ?_
               with_reducible refine (qBA.calls k2 _ _ t472 ((qQ x9_2 x11_1).f0) ((qQ x9_2 x11_1).f1) ((qQ x9_2 x11_1).f2) (bt (⟨#[110, 101, 115, 119]⟩ : ByteArray) x32_2) t483 t484 t485 true _ ?side1 ?side2 A20.out).mono ?_
               (case side1 => repeat (first | exact (Kd.ql HO_19.out).2.2 | (with_reducible refine Kd.qMA ?_ _) | (with_reducible refine Kd.qLA ?_ _) | (with_reducible refine Kd.qWA ?_)))
               (case side2 => exact (Kd.ql HO_19.out).2.1)
               rintro e w27 ⟨rfl, hb⟩
               have HS0_ := (hb.cell (World.block_lt_of_cell? _ _ (hHeld.1))).trans (hHeld.1)
               have HS1_ := (hb.cell (World.block_lt_of_cell? _ _ (hHeld.2.1))).trans (hHeld.2.1)
               have HS2_ := (hb.cell (World.block_lt_of_cell? _ _ (hHeld.2.2))).trans (hHeld.2.2)
               refine ⟨_, rfl, ?_⟩
               have n0_ := Aside0.mk (Kd.qc (by (with_reducible repeat (first | apply Kd.qG | apply Kd.qF | apply Kd.qI)); exact HO_9.out) hb)
               have n1_ := Aside0.mk (Kd.qc (by (with_reducible repeat (first | apply Kd.qG | apply Kd.qF | apply Kd.qI)); exact HO_10.out) hb)
               have n2_ := Aside0.mk (Kd.qc (by (with_reducible repeat (first | apply Kd.qG | apply Kd.qF | apply Kd.qI)); exact HO_19.out) hb)
               have n3_ := Aside0.mk (bb BK471 hb)
               have n4_ := Aside0.mk (qH bl hb)
               clear HO_9
               clear HO_10
               clear HO_19
               clear BK471
               clear HB
               have HO_9 := n0_
               have HO_10 := n1_
               have HO_19 := n2_
               have BK471 := n3_
               have HB := n4_
               clear n0_ n1_ n2_ n3_ n4_
               (try clear hb)
               (try clear hb2)
               (try clear hk)
               (try clear hi)
               refine hK.out _ _ ⟨HS0_, HS1_, HS2_⟩ (fun hHeld => ?_)
               clear hK K
               refine norm_ (a' := ?_) ?_ ?_
               rotate_left
               ·show Act.put _ (some 43) _ = _
                simp only [Act.put, List.setIfInBounds_toArray, List.set_cons_zero, List.set_cons_succ, i64_w, i32_w]
                rfl
               refine pS (i := 8) (N := some 35) #[true, true, true, true, true, true, true, true, true, false, false, false, false, false] HT_ ?_
               refine pS (i := 9) (N := some 44) #[true, true, true, true, true, true, true, true, true, true, false, false, false, false] HT_ ?_
               refine pS (i := 10) (N := some 45) #[true, true, true, true, true, true, true, true, true, true, true, false, false, false] HT_ ?_
               refine one_ (i := 11) (N := some 13) #[true, true, true, true, true, true, true, true, true, true, true, true, false, false] rfl rfl (qCA HT_.out (by kernel_rfl)) (by decide) (fun K hK => ?_)
               refine qsA ?hg (N := 13) ?hd (cs := #[.int .i64 0, .int .i64 0, .int .i64 0]) (t := 27) ?hr ?_; (case hd => rfl); (case hg => rfl); (case hr => first | (go_simp; done) | (go_simp; rfl))
               intro gb487 hg w28 hbox hb
               have HS0_ := (hb.cell (World.block_lt_of_cell? _ _ (hHeld.1))).trans (hHeld.1)
               have HS1_ := (hb.cell (World.block_lt_of_cell? _ _ (hHeld.2.1))).trans (hHeld.2.1)
               have HS2_ := (hb.cell (World.block_lt_of_cell? _ _ (hHeld.2.2))).trans (hHeld.2.2)
               have n0_ := Aside0.mk (Kd.qc (Kd.qSA (by (with_reducible repeat (first | apply Kd.qG | apply Kd.qF | apply Kd.qI)); exact HO_9.out) gb487 (Nat.le_of_eq hg.symm)) hb)
               have n1_ := Aside0.mk (Kd.qc (by (with_reducible repeat (first | apply Kd.qG | apply Kd.qF | apply Kd.qI)); exact HO_10.out) hb)
               have n2_ := Aside0.mk (Kd.qc (by (with_reducible repeat (first | apply Kd.qG | apply Kd.qF | apply Kd.qI)); exact HO_19.out) hb)
               have n3_ := Aside0.mk (bb BK471 hb)
               have n4_ := Aside0.mk (qH bl hb)
               have n5_ := Aside0.mk (hbox)
               have n6_ := Aside0.mk ((gg hg))
               have n7_ := Aside0.mk ((gg hg))
               have n8_ := Aside0.mk ((nl BK471 hg))
               have n9_ := Aside0.mk ((nr BK471 hg))
               clear HO_9
               clear HO_10
               clear HO_19
               clear BK471
               clear HB
               have HO_9 := n0_
               have HO_10 := n1_
               have HO_19 := n2_
               have BK471 := n3_
               have HB := n4_
               have BK487 := n5_
               have GW487 := n6_
               have GE487 := n7_
               have NB471_487 := n8_
               have NB487_471 := n9_
               clear n0_ n1_ n2_ n3_ n4_ n5_ n6_ n7_ n8_ n9_
               clear hb hbox hg
               refine hK.out _ _ ⟨HS0_, HS1_, HS2_⟩ (fun hHeld => ?_)
               clear hK K
               refine norm_ (a' := ?_) ?_ ?_
               rotate_left
               ·show Act.put _ (some 13) _ = _
                simp only [Act.put, List.setIfInBounds_toArray, List.set_cons_zero, List.set_cons_succ, i64_w, i32_w]
                rfl
               exact norm_ (by simp only [putAll, Act.put, List.setIfInBounds_toArray, List.set_cons_zero, List.set_cons_succ]) (hCont (gb487) _ ⟨hHeld, (by (with_reducible repeat (first | apply Kd.qG | apply Kd.qF | apply Kd.qI)); exact HO_10.out), (by (with_reducible repeat (first | apply Kd.qG | apply Kd.qF | apply Kd.qI)); exact HO_19.out), (by (with_reducible repeat (first | apply Kd.qG | apply Kd.qF | apply Kd.qI)); exact HO_9.out), (by (with_reducible repeat (first | refine qB ?_ _ | refine qC ?_ | refine qA ?_ _)); exact BK471.out), (by (with_reducible repeat (first | refine qB ?_ _ | refine qC ?_ | refine qA ?_ _)); exact BK487.out), GW487.out, GE487.out, NB471_487.out, NB487_471.out, bl⟩)
              ·skip
               refine qsA ?hg (N := 13) ?hd (cs := #[.int .i64 0, .int .i64 0, .int .i64 0]) (t := 27) ?hr ?_; (case hd => rfl); (case hg => rfl); (case hr => first | (go_simp; done) | (go_simp; rfl))
               intro gb487 hg w27 hbox hb
               have HS0_ := (hb.cell (World.block_lt_of_cell? _ _ (hHeld.1))).trans (hHeld.1)
               have HS1_ := (hb.cell (World.block_lt_of_cell? _ _ (hHeld.2.1))).trans (hHeld.2.1)
               have HS2_ := (hb.cell (World.block_lt_of_cell? _ _ (hHeld.2.2))).trans (hHeld.2.2)
               have n0_ := Aside0.mk (Kd.qc (Kd.qSA (by (with_reducible repeat (first | apply Kd.qG | apply Kd.qF | apply Kd.qI)); exact HO_9.out) gb487 (Nat.le_of_eq hg.symm)) hb)
               have n1_ := Aside0.mk (Kd.qc (by (with_reducible repeat (first | apply Kd.qG | apply Kd.qF | apply Kd.qI)); exact HO_10.out) hb)
               have n2_ := Aside0.mk (Kd.qc (by (with_reducible repeat (first | apply Kd.qG | apply Kd.qF | apply Kd.qI)); exact HO_19.out) hb)
               have n3_ := Aside0.mk (bb BK471 hb)
               have n4_ := Aside0.mk (qH bl hb)
               have n5_ := Aside0.mk (hbox)
               have n6_ := Aside0.mk ((gg hg))
               have n7_ := Aside0.mk ((gg hg))
               have n8_ := Aside0.mk ((nl BK471 hg))
               have n9_ := Aside0.mk ((nr BK471 hg))
               clear HO_9
               clear HO_10
               clear HO_19
               clear BK471
               clear HB
               have HO_9 := n0_
               have HO_10 := n1_
               have HO_19 := n2_
               have BK471 := n3_
               have HB := n4_
               have BK487 := n5_
               have GW487 := n6_
               have GE487 := n7_
               have NB471_487 := n8_
               have NB487_471 := n9_
               clear n0_ n1_ n2_ n3_ n4_ n5_ n6_ n7_ n8_ n9_
               clear hb hbox hg
               refine hK.out _ _ ⟨HS0_, HS1_, HS2_⟩ (fun hHeld => ?_)
               clear hK K
               refine norm_ (a' := ?_) ?_ ?_
               rotate_left
               ·show Act.put _ (some 13) _ = _
                simp only [Act.put, List.setIfInBounds_toArray, List.set_cons_zero, List.set_cons_succ, i64_w, i32_w]
                rfl
               refine one_ (i := 7) (N := some 43) #[true, true, true, true, true, true, true, true, false, false, false, true, false, false] rfl rfl (qCA HT_.out (by kernel_rfl)) (by decide) (fun K hK => ?_)
               refine goes_ Tryd.func62 (by kernel_rfl) rfl #[.slice Ao24 t472.length co24, .agg #[.int .i64 ((qQ x9_2 x11_1).f0), .int .i64 ((qQ x9_2 x11_1).f1), .int .i64 ((qQ x9_2 x11_1).f2)], .int .u8 (bt (⟨#[110, 101, 115, 119]⟩ : ByteArray) x32_2)] (by rfl) rfl rfl (by (try simp only [List.map_toArray, List.map_cons, List.map_nil]); first | done | rfl | (simp only [List.length_drop, List.length_take]; rfl)) ?_
               with_reducible refine (qBA.calls k2 _ _ t472 ((qQ x9_2 x11_1).f0) ((qQ x9_2 x11_1).f1) ((qQ x9_2 x11_1).f2) (bt (⟨#[110, 101, 115, 119]⟩ : ByteArray) x32_2) t483 t484 t485 true _ ?side1 ?side2 A20.out).mono ?_
               (case side1 => repeat (first | exact (Kd.ql HO_19.out).2.2 | (with_reducible refine Kd.qMA ?_ _) | (with_reducible refine Kd.qLA ?_ _) | (with_reducible refine Kd.qWA ?_)))
               (case side2 => exact (Kd.ql HO_19.out).2.1)
               rintro e w28 ⟨rfl, hb⟩
               have HS0_ := (hb.cell (World.block_lt_of_cell? _ _ (hHeld.1))).trans (hHeld.1)
               have HS1_ := (hb.cell (World.block_lt_of_cell? _ _ (hHeld.2.1))).trans (hHeld.2.1)
               have HS2_ := (hb.cell (World.block_lt_of_cell? _ _ (hHeld.2.2))).trans (hHeld.2.2)
               refine ⟨_, rfl, ?_⟩
               have n0_ := Aside0.mk (Kd.qc (by (with_reducible repeat (first | apply Kd.qG | apply Kd.qF | apply Kd.qI)); exact HO_9.out) hb)
               have n1_ := Aside0.mk (Kd.qc (by (with_reducible repeat (first | apply Kd.qG | apply Kd.qF | apply Kd.qI)); exact HO_10.out) hb)
               have n2_ := Aside0.mk (Kd.qc (by (with_reducible repeat (first | apply Kd.qG | apply Kd.qF | apply Kd.qI)); exact HO_19.out) hb)
               have n3_ := Aside0.mk (bb BK471 hb)
               have n4_ := Aside0.mk (bb BK487 hb)
               have n5_ := Aside0.mk (qH bl hb)
               clear HO_9
               clear HO_10
               clear HO_19
               clear BK471
               clear BK487
               clear HB
               have HO_9 := n0_
               have HO_10 := n1_
               have HO_19 := n2_
               have BK471 := n3_
               have BK487 := n4_
               have HB := n5_
               clear n0_ n1_ n2_ n3_ n4_ n5_
               (try clear hb)
               (try clear hb2)
               (try clear hk)
               (try clear hi)
               refine hK.out _ _ ⟨HS0_, HS1_, HS2_⟩ (fun hHeld => ?_)
               clear hK K
               refine norm_ (a' := ?_) ?_ ?_
               rotate_left
               ·show Act.put _ (some 43) _ = _
                simp only [Act.put, List.setIfInBounds_toArray, List.set_cons_zero, List.set_cons_succ, i64_w, i32_w]
                rfl
               refine pS (i := 8) (N := some 35) #[true, true, true, true, true, true, true, true, true, false, false, true, false, false] HT_ ?_
               refine pS (i := 9) (N := some 44) #[true, true, true, true, true, true, true, true, true, true, false, true, false, false] HT_ ?_
               refine pS (i := 10) (N := some 45) #[true, true, true, true, true, true, true, true, true, true, true, true, false, false] HT_ ?_
               exact norm_ (by simp only [putAll, Act.put, List.setIfInBounds_toArray, List.set_cons_zero, List.set_cons_succ]) (hCont (gb487) _ ⟨hHeld, (by (with_reducible repeat (first | apply Kd.qG | apply Kd.qF | apply Kd.qI)); exact HO_10.out), (by (with_reducible repeat (first | apply Kd.qG | apply Kd.qF | apply Kd.qI)); exact HO_19.out), (by (with_reducible repeat (first | apply Kd.qG | apply Kd.qF | apply Kd.qI)); exact HO_9.out), (by (with_reducible repeat (first | refine qB ?_ _ | refine qC ?_ | refine qA ?_ _)); exact BK471.out), (by (with_reducible repeat (first | refine qB ?_ _ | refine qC ?_ | refine qA ?_ _)); exact BK487.out), GW487.out, GE487.out, NB471_487.out, NB487_471.out, bl⟩)
             rintro gb487 w29 ⟨hS_, h0_, h1_, h2_, h3_, h4_, h5_, h6_, h7_, h8_, h9_⟩
             have n0_ : Aside0 (Kd.R Kd.string 9 w29 w.heap.size (fun k_ => some k_ ≠ (.slice Ao24 t472.length co24 : Value).ownBlock) u10 x10_2) := ⟨h0_⟩
             have n1_ : Aside0 (Kd.R Kd.string 9 w29 w.heap.size (fun k_ => some k_ ≠ (u10 : Value).ownBlock) (.slice Ao24 t472.length co24) t472) := ⟨h1_⟩
             have n2_ : Aside0 (Kd.R k27 27 w29 w.heap.size (fun k_ => k_ ≠ gb471 ∧ k_ ≠ gb487) (.slice (some ad482) x9_2.length co26) x9_2) := ⟨h2_⟩
             have n3_ : Aside0 (w29.heap[gb471]? = some (.cells #[.int .i64 a1_0, .int .i64 a1_1, .int .i64 a1_2] 27 (0, 0))) := ⟨h3_⟩
             have n4_ : Aside0 (w29.heap[gb487]? = some (.cells #[.int .i64 0, .int .i64 0, .int .i64 0] 27 (0, 0))) := ⟨h4_⟩
             have n5_ : Aside0 (w.heap.size ≤ gb487) := ⟨h5_⟩
             have n6_ : Aside0 (w.heap.size ≤ gb487) := ⟨h6_⟩
             have n7_ : Aside0 (gb471 ≠ gb487) := ⟨h7_⟩
             have n8_ : Aside0 (gb487 ≠ gb471) := ⟨h8_⟩
             have n9_ : Aside0 (Below w.heap.size w w29) := ⟨h9_⟩
             clear HO_9
             clear HO_10
             clear HO_19
             clear BK471
             clear HB
             clear h0_ h1_ h2_ h3_ h4_ h5_ h6_ h7_ h8_ h9_
             have HO_10 := n0_
             have HO_19 := n1_
             have HO_9 := n2_
             have BK471 := n3_
             have BK487 := n4_
             have GW487 := n5_
             have GE487 := n6_
             have NB471_487 := n7_
             have NB487_471 := n8_
             have HB := n9_
             clear n0_ n1_ n2_ n3_ n4_ n5_ n6_ n7_ n8_ n9_
             have hHeld : w29.cell? (ad482.add ((x11_1).toNat * 3)) = some (.int .i64 ((qQ x9_2 x11_1).f0)) ∧ w29.cell? ⟨(ad482.add ((x11_1).toNat * 3)).block, (ad482.add ((x11_1).toNat * 3)).off + 1, none⟩ = some (.int .i64 ((qQ x9_2 x11_1).f1)) ∧ w29.cell? ⟨(ad482.add ((x11_1).toNat * 3)).block, (ad482.add ((x11_1).toNat * 3)).off + 2, none⟩ = some (.int .i64 ((qQ x9_2 x11_1).f2)) := hS_
             refine norm_ (a' := ?_) ?_ ?_
             rotate_left
             ·simp only [putAll, Act.put, List.setIfInBounds_toArray, List.set_cons_zero, List.set_cons_succ]
              rfl
             refine one_ (i := 12) (N := none) #[true, true, true, true, true, true, true, true, true, true, true, true, true, false] rfl rfl (qCA HT_.out (by kernel_rfl)) (by decide) (fun K hK => ?_)
             have hs30 : w29.cell? ⟨gb487, 0, none⟩ = some (.int .i64 0) := (qE BK487.out 0).trans rfl
             have hfs30 := qD BK487.out 0
             have hns30_0 := NB471_487.out
             have hms30_0 := NB487_471.out
             have hs31 : w29.cell? ⟨gb487, 1, none⟩ = some (.int .i64 0) := (qE BK487.out 1).trans rfl
             have hfs31 := qD BK487.out 1
             have hns31_0 := NB471_487.out
             have hms31_0 := NB487_471.out
             have hs32 : w29.cell? ⟨gb487, 2, none⟩ = some (.int .i64 0) := (qE BK487.out 2).trans rfl
             have hfs32 := qD BK487.out 2
             have hns32_0 := NB471_487.out
             have hms32_0 := NB487_471.out
             refine skip_ (w1 := ?_) (by rfl) rfl ?_ ?_
             rotate_left
             ·go_simp
              rfl
             refine hK.out _ _ ⟨((qN (p := ⟨gb487, _, none⟩) (by first | exact Kd.qM (Kd.qU HO_9.out (fun _ hk => hk.2)) | (rw [qR]; exact Kd.qM (Kd.qU HO_9.out (fun _ hk => hk.2))) | (show (Addr.add _ _).block ≠ _; rw [qR]; exact Kd.qM (Kd.qU HO_9.out (fun _ hk => hk.2))) | (dsimp only; exact Kd.qM (Kd.qU HO_9.out (fun _ hk => hk.2)))) _).trans (((qN (p := ⟨gb487, _, none⟩) (by first | exact Kd.qM (Kd.qU HO_9.out (fun _ hk => hk.2)) | (rw [qR]; exact Kd.qM (Kd.qU HO_9.out (fun _ hk => hk.2))) | (show (Addr.add _ _).block ≠ _; rw [qR]; exact Kd.qM (Kd.qU HO_9.out (fun _ hk => hk.2))) | (dsimp only; exact Kd.qM (Kd.qU HO_9.out (fun _ hk => hk.2)))) _).trans (((qN (p := ⟨gb487, _, none⟩) (by first | exact Kd.qM (Kd.qU HO_9.out (fun _ hk => hk.2)) | (rw [qR]; exact Kd.qM (Kd.qU HO_9.out (fun _ hk => hk.2))) | (show (Addr.add _ _).block ≠ _; rw [qR]; exact Kd.qM (Kd.qU HO_9.out (fun _ hk => hk.2))) | (dsimp only; exact Kd.qM (Kd.qU HO_9.out (fun _ hk => hk.2)))) _).trans (hHeld.1)))))), ((qN (p := ⟨gb487, _, none⟩) (by first | exact Kd.qM (Kd.qU HO_9.out (fun _ hk => hk.2)) | (rw [qR]; exact Kd.qM (Kd.qU HO_9.out (fun _ hk => hk.2))) | (show (Addr.add _ _).block ≠ _; rw [qR]; exact Kd.qM (Kd.qU HO_9.out (fun _ hk => hk.2))) | (dsimp only; exact Kd.qM (Kd.qU HO_9.out (fun _ hk => hk.2)))) _).trans (((qN (p := ⟨gb487, _, none⟩) (by first | exact Kd.qM (Kd.qU HO_9.out (fun _ hk => hk.2)) | (rw [qR]; exact Kd.qM (Kd.qU HO_9.out (fun _ hk => hk.2))) | (show (Addr.add _ _).block ≠ _; rw [qR]; exact Kd.qM (Kd.qU HO_9.out (fun _ hk => hk.2))) | (dsimp only; exact Kd.qM (Kd.qU HO_9.out (fun _ hk => hk.2)))) _).trans (((qN (p := ⟨gb487, _, none⟩) (by first | exact Kd.qM (Kd.qU HO_9.out (fun _ hk => hk.2)) | (rw [qR]; exact Kd.qM (Kd.qU HO_9.out (fun _ hk => hk.2))) | (show (Addr.add _ _).block ≠ _; rw [qR]; exact Kd.qM (Kd.qU HO_9.out (fun _ hk => hk.2))) | (dsimp only; exact Kd.qM (Kd.qU HO_9.out (fun _ hk => hk.2)))) _).trans (hHeld.2.1)))))), ((qN (p := ⟨gb487, _, none⟩) (by first | exact Kd.qM (Kd.qU HO_9.out (fun _ hk => hk.2)) | (rw [qR]; exact Kd.qM (Kd.qU HO_9.out (fun _ hk => hk.2))) | (show (Addr.add _ _).block ≠ _; rw [qR]; exact Kd.qM (Kd.qU HO_9.out (fun _ hk => hk.2))) | (dsimp only; exact Kd.qM (Kd.qU HO_9.out (fun _ hk => hk.2)))) _).trans (((qN (p := ⟨gb487, _, none⟩) (by first | exact Kd.qM (Kd.qU HO_9.out (fun _ hk => hk.2)) | (rw [qR]; exact Kd.qM (Kd.qU HO_9.out (fun _ hk => hk.2))) | (show (Addr.add _ _).block ≠ _; rw [qR]; exact Kd.qM (Kd.qU HO_9.out (fun _ hk => hk.2))) | (dsimp only; exact Kd.qM (Kd.qU HO_9.out (fun _ hk => hk.2)))) _).trans (((qN (p := ⟨gb487, _, none⟩) (by first | exact Kd.qM (Kd.qU HO_9.out (fun _ hk => hk.2)) | (rw [qR]; exact Kd.qM (Kd.qU HO_9.out (fun _ hk => hk.2))) | (show (Addr.add _ _).block ≠ _; rw [qR]; exact Kd.qM (Kd.qU HO_9.out (fun _ hk => hk.2))) | (dsimp only; exact Kd.qM (Kd.qU HO_9.out (fun _ hk => hk.2)))) _).trans (hHeld.2.2))))))⟩ (fun hHeld => ?_)
             clear hK K
             refine pS (i := 13) (N := some 14) #[true, true, true, true, true, true, true, true, true, true, true, true, true, true] HT_ ?_
             refine done_ (qbA HT_.out (by kernel_rfl)) ?_
             have hnb33 := NB487_471.out
             have hnc33 := NB471_487.out
             have hcz34_0 := bc BK487 0
             have hcz34_1 := bc BK487 1
             have hcz34_2 := bc BK487 2
             have hfz34_0 := qD BK487.out 0
             have hfz34_1 := qD BK487.out 1
             have hfz34_2 := qD BK487.out 2
             try go_wp2_with (first | (go_at_call 91; (with_reducible refine (qk.calls k2 _ _ x9_2 t483 t484 t485 true _ ?side1 ?side2 A22.out).mono ?_); (case side1 => refine (Kd.ql (e := 27) (base := w.heap.size) (ok := fun k_ => (k_ ≠ gb471 ∧ k_ ≠ gb487)) (n := x9_2.length) (c := co26) ?_).2.2; exact (by (with_reducible repeat (first | apply Kd.qG | apply Kd.qF | apply Kd.qI)); exact (Kd.qg (Kd.R_far (p := ⟨gb487, 2, none⟩) (Kd.R_far (p := ⟨gb487, 1, none⟩) (Kd.R_far (p := ⟨gb487, 0, none⟩) (Kd.qg HO_9.out (fun k_ hk => (⟨hk, hk.2⟩ : _ ∧ k_ ≠ gb487))) (fun _ hk => hk.2) (.int .i64 t483)) (fun _ hk => hk.2) (.int .i64 t484)) (fun _ hk => hk.2) (.int .i64 t485)) (fun _ h_ => h_.1)))); (case side2 => exact (Kd.ql HO_9.out).2.1); rintro e w35 ⟨rfl, hb⟩; have n0_ := Aside0.mk (Kd.qc (by (with_reducible repeat (first | apply Kd.qG | apply Kd.qF | apply Kd.qI)); exact (Kd.qg (Kd.R_far (p := ⟨gb487, 2, none⟩) (Kd.R_far (p := ⟨gb487, 1, none⟩) (Kd.R_far (p := ⟨gb487, 0, none⟩) (Kd.qg HO_9.out (fun k_ hk => (⟨hk, hk.2⟩ : _ ∧ k_ ≠ gb487))) (fun _ hk => hk.2) (.int .i64 t483)) (fun _ hk => hk.2) (.int .i64 t484)) (fun _ hk => hk.2) (.int .i64 t485)) (fun _ h_ => h_.1))) hb); have n1_ := Aside0.mk (Kd.qc (by (with_reducible repeat (first | apply Kd.qG | apply Kd.qF | apply Kd.qI)); exact (Kd.qg (Kd.R_far (p := ⟨gb487, 2, none⟩) (Kd.R_far (p := ⟨gb487, 1, none⟩) (Kd.R_far (p := ⟨gb487, 0, none⟩) (Kd.qn HO_10.out BK487.out (by decide)) (fun _ hk => hk.2) (.int .i64 t483)) (fun _ hk => hk.2) (.int .i64 t484)) (fun _ hk => hk.2) (.int .i64 t485)) (fun _ h_ => h_.1))) hb); have n2_ := Aside0.mk (Kd.qc (by (with_reducible repeat (first | apply Kd.qG | apply Kd.qF | apply Kd.qI)); exact (Kd.qg (Kd.R_far (p := ⟨gb487, 2, none⟩) (Kd.R_far (p := ⟨gb487, 1, none⟩) (Kd.R_far (p := ⟨gb487, 0, none⟩) (Kd.qn HO_19.out BK487.out (by decide)) (fun _ hk => hk.2) (.int .i64 t483)) (fun _ hk => hk.2) (.int .i64 t484)) (fun _ hk => hk.2) (.int .i64 t485)) (fun _ h_ => h_.1))) hb); have n3_ := Aside0.mk (qJA (g := gb471) (o := .cells #[.int .i64 a1_0, .int .i64 a1_1, .int .i64 a1_2] 27 (0, 0)) (by (with_reducible repeat (first | refine qB ?_ _ | refine qC ?_ | refine qA ?_ _)); refine qJ ?_ NB471_487.out _; (with_reducible repeat (first | refine qB ?_ _ | refine qC ?_ | refine qA ?_ _)); refine qJ ?_ NB471_487.out _; (with_reducible repeat (first | refine qB ?_ _ | refine qC ?_ | refine qA ?_ _)); refine qJ ?_ NB471_487.out _; (with_reducible repeat (first | refine qB ?_ _ | refine qC ?_ | refine qA ?_ _)); exact BK471.out) hb); have n4_ := Aside0.mk (qJA (g := gb487) (o := .cells #[.int .i64 t483, .int .i64 t484, .int .i64 t485] 27 (0, 0)) (by (with_reducible repeat (first | refine qB ?_ _ | refine qC ?_ | refine qA ?_ _)); refine qP (cs := #[.int .i64 t483, .int .i64 t484, .int .i64 0]) ?_ 2 _ rfl; (with_reducible repeat (first | refine qB ?_ _ | refine qC ?_ | refine qA ?_ _)); refine qP (cs := #[.int .i64 t483, .int .i64 0, .int .i64 0]) ?_ 1 _ rfl; (with_reducible repeat (first | refine qB ?_ _ | refine qC ?_ | refine qA ?_ _)); refine qP (cs := #[.int .i64 0, .int .i64 0, .int .i64 0]) ?_ 0 _ rfl; (with_reducible repeat (first | refine qB ?_ _ | refine qC ?_ | refine qA ?_ _)); exact BK487.out) hb); have n5_ := Aside0.mk (qH bl hb); clear HO_9; clear HO_10; clear HO_19; clear BK471; clear BK487; clear HB; have HO_9 := n0_; have HO_10 := n1_; have HO_19 := n2_; have BK471 := n3_; have BK487 := n4_; have HB := n5_; clear n0_ n1_ n2_ n3_ n4_ n5_; (try clear hb); (try clear hb2); (try clear hk); (try clear hi)))
             go_roundg k2
             case measure => have := HK1.out; have := HK2.out; omega
             case rel => exact ⟨(x9_2), (x10_2), (wrap64 (x32_2 + 1)), (by first | rfl | (simp; done) | (simp [*]; done)), H', ⟨by have := HK1.out; have := HK2.out; omega⟩, ⟨by (with_reducible repeat (first | apply Kd.qG | apply Kd.qF | apply Kd.qI)); exact Kd.qg HO_9.out (fun _ hk => hk.1)⟩, ⟨by (with_reducible repeat (first | apply Kd.qG | apply Kd.qF | apply Kd.qI)); exact HO_10.out⟩, ⟨by (with_reducible repeat (first | apply Kd.qG | apply Kd.qF | apply Kd.qI)); exact HO_19.out⟩, ⟨by (with_reducible repeat (first | refine qB ?_ _ | refine qC ?_ | refine qA ?_ _)); exact BK471.out⟩, ⟨bl⟩⟩
            ·replace c23 := Bool.eq_false_iff.mpr c23
             subst c23
             have H1 : ((some (([(⟨t483, t484, t485⟩ : S27)] : List (S27)) : List (S27))).bind fun y489 => (if x9_2.length + y489.length < 5864062014805 then (if x11_1 < (x10_2.length : Int) then (if x32_2 ≤ (wrap64 (x32_2 + 1)) then (if (wrap64 (x32_2 + 1)) ≤ 4 then (if (rdOf ByteArray.empty x10_2 x11_1).size + ((⟨#[110, 101, 115, 119]⟩ : ByteArray).extract (x32_2 : Int).toNat ((wrap64 (x32_2 + 1)) : Int).toNat).size ≤ 9223372036854775807 then ((some (([(rdOf ByteArray.empty x10_2 x11_1) ++ ((⟨#[110, 101, 115, 119]⟩ : ByteArray).extract (x32_2 : Int).toNat ((wrap64 (x32_2 + 1)) : Int).toNat)] : List ByteArray) : List ByteArray)).bind fun y496 => (if x10_2.length + y496.length < 8796093022208 then (qO.l1 k2 (x9_2 ++ y489) (x10_2 ++ y496) x11_1 t472 (wrap64 (x32_2 + 1))) else (none))) else (none)) else (none)) else (none)) else (none)) else (none))) = some (r1, r2, r3) := by rw [if_neg (show ¬ (false = true) by decide)] at H; exact H
             clear H
             have H := H1
             clear H1
             obtain ⟨y489, hy489⟩ : ∃ y_ : List (S27), y_ = (([(⟨t483, t484, t485⟩ : S27)] : List (S27))) := ⟨_, rfl⟩
             replace H : (if x9_2.length + y489.length < 5864062014805 then (if x11_1 < (x10_2.length : Int) then (if x32_2 ≤ (wrap64 (x32_2 + 1)) then (if (wrap64 (x32_2 + 1)) ≤ 4 then (if (rdOf ByteArray.empty x10_2 x11_1).size + ((⟨#[110, 101, 115, 119]⟩ : ByteArray).extract (x32_2 : Int).toNat ((wrap64 (x32_2 + 1)) : Int).toNat).size ≤ 9223372036854775807 then ((some (([(rdOf ByteArray.empty x10_2 x11_1) ++ ((⟨#[110, 101, 115, 119]⟩ : ByteArray).extract (x32_2 : Int).toNat ((wrap64 (x32_2 + 1)) : Int).toNat)] : List ByteArray) : List ByteArray)).bind fun y496 => (if x10_2.length + y496.length < 8796093022208 then (qO.l1 k2 (x9_2 ++ y489) (x10_2 ++ y496) x11_1 t472 (wrap64 (x32_2 + 1))) else (none))) else (none)) else (none)) else (none)) else (none)) else (none)) = some (r1, r2, r3) := by first | (rw [hy489]; with_reducible exact H) | (have H2_ := (Option.bind_some _ _).symm.trans H; rw [hy489]; with_reducible exact H2_) | (have H2_ := (Option.bind_some _ _).symm.trans H; with_reducible exact H2_) | with_reducible exact H | (rw [hy489]; exact H) | exact H
             have Ny489 := Aside0.mk hy489
             clear hy489
             by_cases c36 : x9_2.length + y489.length < 5864062014805
             ·rw [if_pos c36] at H
              have LMc36 := Aside0.mk c36
              clear c36
              obtain ⟨y492, hy492⟩ : ∃ y_ : List (S27), y_ = (x9_2 ++ y489) := ⟨_, rfl⟩
              replace H : (if x11_1 < (x10_2.length : Int) then (if x32_2 ≤ (wrap64 (x32_2 + 1)) then (if (wrap64 (x32_2 + 1)) ≤ 4 then (if (rdOf ByteArray.empty x10_2 x11_1).size + ((⟨#[110, 101, 115, 119]⟩ : ByteArray).extract (x32_2 : Int).toNat ((wrap64 (x32_2 + 1)) : Int).toNat).size ≤ 9223372036854775807 then ((some (([(rdOf ByteArray.empty x10_2 x11_1) ++ ((⟨#[110, 101, 115, 119]⟩ : ByteArray).extract (x32_2 : Int).toNat ((wrap64 (x32_2 + 1)) : Int).toNat)] : List ByteArray) : List ByteArray)).bind fun y496 => (if x10_2.length + y496.length < 8796093022208 then (qO.l1 k2 y492 (x10_2 ++ y496) x11_1 t472 (wrap64 (x32_2 + 1))) else (none))) else (none)) else (none)) else (none)) else (none)) = some (r1, r2, r3) := by first | (rw [hy492]; with_reducible exact H) | (have H2_ := (Option.bind_some _ _).symm.trans H; rw [hy492]; with_reducible exact H2_) | (have H2_ := (Option.bind_some _ _).symm.trans H; with_reducible exact H2_) | with_reducible exact H | (rw [hy492]; exact H) | exact H
              have Ny492 := Aside0.mk hy492
              clear hy492
              by_cases c37 : x11_1 < (x10_2.length : Int)
              ·rw [if_pos c37] at H
               have c37b0 : decide (x11_1 < (x10_2.length : Int)) = true := decide_eq_true c37
               clear c37
               have c38b0 := eq_true (of_decide_eq_true (by first | (with_reducible assumption) | assumption) : 0 ≤ x32_2)
               by_cases c39 : x32_2 ≤ (wrap64 (x32_2 + 1))
               ·rw [if_pos c39] at H
                have c39b0 := eq_true c39
                have c39b1 : decide (x32_2 ≤ (wrap64 (x32_2 + 1))) = true := decide_eq_true c39
                by_cases c40 : (wrap64 (x32_2 + 1)) ≤ 4
                ·rw [if_pos c40] at H
                 have c40b0 := eq_true c40
                 have c40b1 : decide ((wrap64 (x32_2 + 1)) ≤ 4) = true := decide_eq_true c40
                 by_cases c41 : (rdOf ByteArray.empty x10_2 x11_1).size + ((⟨#[110, 101, 115, 119]⟩ : ByteArray).extract (x32_2 : Int).toNat ((wrap64 (x32_2 + 1)) : Int).toNat).size ≤ 9223372036854775807
                 ·rw [if_pos c41] at H
                  have c41b0 := eq_true c41
                  have c41b1 : decide ((rdOf ByteArray.empty x10_2 x11_1).size + ((⟨#[110, 101, 115, 119]⟩ : ByteArray).extract (x32_2 : Int).toNat ((wrap64 (x32_2 + 1)) : Int).toNat).size ≤ 9223372036854775807) = true := decide_eq_true c41
                  try have c41b2 : (9223372036854775807 < (rdOf ByteArray.empty x10_2 x11_1).size + ((⟨#[110, 101, 115, 119]⟩ : ByteArray).extract (x32_2 : Int).toNat ((wrap64 (x32_2 + 1)) : Int).toNat).size) = False := eq_false (Nat.not_lt.2 c41)
                  obtain ⟨y496, hy496⟩ : ∃ y_ : List ByteArray, y_ = (([(rdOf ByteArray.empty x10_2 x11_1) ++ ((⟨#[110, 101, 115, 119]⟩ : ByteArray).extract (x32_2 : Int).toNat ((wrap64 (x32_2 + 1)) : Int).toNat)] : List ByteArray)) := ⟨_, rfl⟩
                  replace H : (if x10_2.length + y496.length < 8796093022208 then (qO.l1 k2 y492 (x10_2 ++ y496) x11_1 t472 (wrap64 (x32_2 + 1))) else (none)) = some (r1, r2, r3) := by first | (rw [hy496]; with_reducible exact H) | (have H2_ := (Option.bind_some _ _).symm.trans H; rw [hy496]; with_reducible exact H2_) | (have H2_ := (Option.bind_some _ _).symm.trans H; with_reducible exact H2_) | with_reducible exact H | (rw [hy496]; exact H) | exact H
                  have Ny496 := Aside0.mk hy496
                  clear hy496
                  by_cases c42 : x10_2.length + y496.length < 8796093022208
                  ·rw [if_pos c42] at H
                   have LMc42 := Aside0.mk c42
                   clear c42
                   obtain ⟨y499, hy499⟩ : ∃ y_ : List ByteArray, y_ = (x10_2 ++ y496) := ⟨_, rfl⟩
                   replace H : (qO.l1 k2 y492 y499 x11_1 t472 (wrap64 (x32_2 + 1))) = some (r1, r2, r3) := by first | (rw [hy499]; with_reducible exact H) | (have H2_ := (Option.bind_some _ _).symm.trans H; rw [hy499]; with_reducible exact H2_) | (have H2_ := (Option.bind_some _ _).symm.trans H; with_reducible exact H2_) | with_reducible exact H | (rw [hy499]; exact H) | exact H
                   have Ny499 := Aside0.mk hy499
                   clear hy499
                   have H' := Aside0.mk H
                   clear H
                   obtain ⟨Ao43, co43, eo43⟩ := Kd.qr HO_19.out
                   subst eo43
                   try go_wp2
                   have n0_ := Aside0.mk (Kd.qI HO_9.out)
                   have n1_ := Aside0.mk (Kd.qI HO_10.out)
                   have n2_ := Aside0.mk (Kd.qI HO_19.out)
                   have n3_ := Aside0.mk (qC BK471.out)
                   have n4_ := Aside0.mk (qi HB.out)
                   clear HO_9
                   clear HO_10
                   clear HO_19
                   clear BK471
                   clear HB
                   have HO_9 := n0_
                   have HO_10 := n1_
                   have HO_19 := n2_
                   have BK471 := n3_
                   have HB := n4_
                   clear n0_ n1_ n2_ n3_ n4_
                   obtain ⟨Ao45, co45, eo45⟩ := Kd.qr HO_9.out
                   (first | subst eo45 | (injection eo45 with f1_ f2_ f3_; have f4_ := f1_.symm; have f5_ := f3_.symm; clear f1_ f2_ f3_; subst f4_; subst f5_))
                   have p482 : 0 ≤ (x11_1 : Int) := of_decide_eq_true (by first | (with_reducible assumption) | assumption)
                   have q482 : x11_1 < (x9_2.length : Int) := of_decide_eq_true (by first | (with_reducible assumption) | assumption)
                   obtain ⟨ad482, e482, hx482_0, hx482_1, hx482_2⟩ := qCB (Kd.ql HO_9.out).2.2 x11_1 p482 q482
                   cases e482
                   replace p482 := eq_true p482
                   replace q482 := eq_true q482
                   have p19 : 0 ≤ (x32_2 : Int) := of_decide_eq_true (by first | (with_reducible assumption) | assumption)
                   have q19 : x32_2 < (4 : Int) := of_decide_eq_true (by first | (with_reducible assumption) | assumption)
                   have hx19 := bt_at (⟨#[110, 101, 115, 119]⟩ : ByteArray) x32_2
                   replace p19 := eq_true p19
                   replace q19 := eq_true q19
                   refine qmA (n := 14) (S := fun w' => w'.cell? (ad482.add ((x11_1).toNat * 3)) = some (.int .i64 ((qQ x9_2 x11_1).f0)) ∧ w'.cell? ⟨(ad482.add ((x11_1).toNat * 3)).block, (ad482.add ((x11_1).toNat * 3)).off + 1, none⟩ = some (.int .i64 ((qQ x9_2 x11_1).f1)) ∧ w'.cell? ⟨(ad482.add ((x11_1).toNat * 3)).block, (ad482.add ((x11_1).toNat * 3)).off + 2, none⟩ = some (.int .i64 ((qQ x9_2 x11_1).f2))) (ds := []) #[false, false, false, false, false, false, false, false, false, false, false, false, false, false] (by kernel_rfl) rfl rfl ⟨hx482_0, hx482_1, hx482_2⟩ (fun hHeld => ?_); refine qNA qO.tab11 qO.bits11 (fun HT_ HW_ => ?_)
                   generalize wr.drew = w44 at HO_9 HO_10 HO_19 BK471 HB hx482_0 hx482_1 hx482_2 hHeld ⊢
                   refine pS (i := 0) (N := some 36) #[true, false, false, false, false, false, false, false, false, false, false, false, false, false] HT_ ?_
                   refine pS (i := 1) (N := some 37) #[true, true, false, false, false, false, false, false, false, false, false, false, false, false] HT_ ?_
                   refine pS (i := 2) (N := some 38) #[true, true, true, false, false, false, false, false, false, false, false, false, false, false] HT_ ?_
                   refine pS (i := 3) (N := some 39) #[true, true, true, true, false, false, false, false, false, false, false, false, false, false] HT_ ?_
                   refine pS (i := 5) (N := some 41) #[true, true, true, true, false, true, false, false, false, false, false, false, false, false] HT_ ?_
                   refine tS (i := 4) (N := some 40) #[true, true, true, true, true, true, false, false, false, false, false, false, false, false] HT_ HW_ hHeld ?_
                   refine tS (i := 6) (N := some 42) #[true, true, true, true, true, true, true, false, false, false, false, false, false, false] HT_ HW_ hHeld ?_
                   refine join_ (σ := Nat) 2 #[true, true, true, true, true, true, true, true, true, true, true, true, false, false] (fun s_ => [(43, .tuple #[.agg #[.int .i64 t483, .int .i64 t484, .int .i64 t485], .bool true]), (13, .pointer (some ⟨s_, 0, none⟩)), (35, .tuple #[.agg #[.int .i64 t483, .int .i64 t484, .int .i64 t485], .bool true]), (44, .agg #[.int .i64 t483, .int .i64 t484, .int .i64 t485]), (45, .bool true)]) (fun s_ w' => (w'.cell? (ad482.add ((x11_1).toNat * 3)) = some (.int .i64 ((qQ x9_2 x11_1).f0)) ∧ w'.cell? ⟨(ad482.add ((x11_1).toNat * 3)).block, (ad482.add ((x11_1).toNat * 3)).off + 1, none⟩ = some (.int .i64 ((qQ x9_2 x11_1).f1)) ∧ w'.cell? ⟨(ad482.add ((x11_1).toNat * 3)).block, (ad482.add ((x11_1).toNat * 3)).off + 2, none⟩ = some (.int .i64 ((qQ x9_2 x11_1).f2))) ∧ (Kd.R Kd.string 9 w' w.heap.size (fun k_ => some k_ ≠ (.slice Ao43 t472.length co43 : Value).ownBlock) u10 x10_2) ∧ (Kd.R Kd.string 9 w' w.heap.size (fun k_ => some k_ ≠ (u10 : Value).ownBlock) (.slice Ao43 t472.length co43) t472) ∧ (Kd.R k27 27 w' w.heap.size (fun k_ => k_ ≠ gb471 ∧ k_ ≠ s_) (.slice (some ad482) x9_2.length co45) x9_2) ∧ (w'.heap[gb471]? = some (.cells #[.int .i64 a1_0, .int .i64 a1_1, .int .i64 a1_2] 27 (0, 0))) ∧ (w'.heap[s_]? = some (.cells #[.int .i64 0, .int .i64 0, .int .i64 0] 27 (0, 0))) ∧ (w.heap.size ≤ s_) ∧ (w.heap.size ≤ s_) ∧ (gb471 ≠ s_) ∧ (s_ ≠ gb471) ∧ (Below w.heap.size w w')) ?_ ?_
                   rotate_left
                   ·intro hCont
                    refine two_ (i := 7) (j := 11) (Ni := some 43) (Nj := some 13) #[true, true, true, true, true, true, true, true, false, false, false, false, false, false] #[true, true, true, true, true, true, true, false, false, false, false, true, false, false] rfl rfl rfl rfl (qkB HT_.out (by kernel_rfl)) (by decide) (by decide) (fun K hK => ?_) (fun K hK => ?_)
                    ·skip
                     refine goes_ Tryd.func62 (by kernel_rfl) rfl #[.slice Ao43 t472.length co43, .agg #[.int .i64 ((qQ x9_2 x11_1).f0), .int .i64 ((qQ x9_2 x11_1).f1), .int .i64 ((qQ x9_2 x11_1).f2)], .int .u8 (bt (⟨#[110, 101, 115, 119]⟩ : ByteArray) x32_2)] (by rfl) rfl rfl (by (try simp only [List.map_toArray, List.map_cons, List.map_nil]); first | done | rfl | (simp only [List.length_drop, List.length_take]; rfl)) ?_
                     with_reducible refine (qBA.calls k2 _ _ t472 ((qQ x9_2 x11_1).f0) ((qQ x9_2 x11_1).f1) ((qQ x9_2 x11_1).f2) (bt (⟨#[110, 101, 115, 119]⟩ : ByteArray) x32_2) t483 t484 t485 true _ ?side1 ?side2 A20.out).mono ?_
                     (case side1 => repeat (first | exact (Kd.ql HO_19.out).2.2 | (with_reducible refine Kd.qMA ?_ _) | (with_reducible refine Kd.qLA ?_ _) | (with_reducible refine Kd.qWA ?_)))
                     (case side2 => exact (Kd.ql HO_19.out).2.1)
                     rintro e w46 ⟨rfl, hb⟩
                     have HS0_ := (hb.cell (World.block_lt_of_cell? _ _ (hHeld.1))).trans (hHeld.1)
                     have HS1_ := (hb.cell (World.block_lt_of_cell? _ _ (hHeld.2.1))).trans (hHeld.2.1)
                     have HS2_ := (hb.cell (World.block_lt_of_cell? _ _ (hHeld.2.2))).trans (hHeld.2.2)
                     refine ⟨_, rfl, ?_⟩
                     have n0_ := Aside0.mk (Kd.qc (by (with_reducible repeat (first | apply Kd.qG | apply Kd.qF | apply Kd.qI)); exact HO_9.out) hb)
                     have n1_ := Aside0.mk (Kd.qc (by (with_reducible repeat (first | apply Kd.qG | apply Kd.qF | apply Kd.qI)); exact HO_10.out) hb)
                     have n2_ := Aside0.mk (Kd.qc (by (with_reducible repeat (first | apply Kd.qG | apply Kd.qF | apply Kd.qI)); exact HO_19.out) hb)
                     have n3_ := Aside0.mk (bb BK471 hb)
                     have n4_ := Aside0.mk (qH bl hb)
                     clear HO_9
                     clear HO_10
                     clear HO_19
                     clear BK471
                     clear HB
                     have HO_9 := n0_
                     have HO_10 := n1_
                     have HO_19 := n2_
                     have BK471 := n3_
                     have HB := n4_
                     clear n0_ n1_ n2_ n3_ n4_
                     (try clear hb)
                     (try clear hb2)
                     (try clear hk)
                     (try clear hi)
                     refine hK.out _ _ ⟨HS0_, HS1_, HS2_⟩ (fun hHeld => ?_)
                     clear hK K
                     refine norm_ (a' := ?_) ?_ ?_
                     rotate_left
                     ·show Act.put _ (some 43) _ = _
                      simp only [Act.put, List.setIfInBounds_toArray, List.set_cons_zero, List.set_cons_succ, i64_w, i32_w]
                      rfl
                     refine pS (i := 8) (N := some 35) #[true, true, true, true, true, true, true, true, true, false, false, false, false, false] HT_ ?_
                     refine pS (i := 9) (N := some 44) #[true, true, true, true, true, true, true, true, true, true, false, false, false, false] HT_ ?_
                     refine pS (i := 10) (N := some 45) #[true, true, true, true, true, true, true, true, true, true, true, false, false, false] HT_ ?_
                     refine one_ (i := 11) (N := some 13) #[true, true, true, true, true, true, true, true, true, true, true, true, false, false] rfl rfl (qCA HT_.out (by kernel_rfl)) (by decide) (fun K hK => ?_)
                     refine qsA ?hg (N := 13) ?hd (cs := #[.int .i64 0, .int .i64 0, .int .i64 0]) (t := 27) ?hr ?_; (case hd => rfl); (case hg => rfl); (case hr => first | (go_simp; done) | (go_simp; rfl))
                     intro gb487 hg w47 hbox hb
                     have HS0_ := (hb.cell (World.block_lt_of_cell? _ _ (hHeld.1))).trans (hHeld.1)
                     have HS1_ := (hb.cell (World.block_lt_of_cell? _ _ (hHeld.2.1))).trans (hHeld.2.1)
                     have HS2_ := (hb.cell (World.block_lt_of_cell? _ _ (hHeld.2.2))).trans (hHeld.2.2)
                     have n0_ := Aside0.mk (Kd.qc (Kd.qSA (by (with_reducible repeat (first | apply Kd.qG | apply Kd.qF | apply Kd.qI)); exact HO_9.out) gb487 (Nat.le_of_eq hg.symm)) hb)
                     have n1_ := Aside0.mk (Kd.qc (by (with_reducible repeat (first | apply Kd.qG | apply Kd.qF | apply Kd.qI)); exact HO_10.out) hb)
                     have n2_ := Aside0.mk (Kd.qc (by (with_reducible repeat (first | apply Kd.qG | apply Kd.qF | apply Kd.qI)); exact HO_19.out) hb)
                     have n3_ := Aside0.mk (bb BK471 hb)
                     have n4_ := Aside0.mk (qH bl hb)
                     have n5_ := Aside0.mk (hbox)
                     have n6_ := Aside0.mk ((gg hg))
                     have n7_ := Aside0.mk ((gg hg))
                     have n8_ := Aside0.mk ((nl BK471 hg))
                     have n9_ := Aside0.mk ((nr BK471 hg))
                     clear HO_9
                     clear HO_10
                     clear HO_19
                     clear BK471
                     clear HB
                     have HO_9 := n0_
                     have HO_10 := n1_
                     have HO_19 := n2_
                     have BK471 := n3_
                     have HB := n4_
                     have BK487 := n5_
                     have GW487 := n6_
                     have GE487 := n7_
                     have NB471_487 := n8_
                     have NB487_471 := n9_
                     clear n0_ n1_ n2_ n3_ n4_ n5_ n6_ n7_ n8_ n9_
                     clear hb hbox hg
                     refine hK.out _ _ ⟨HS0_, HS1_, HS2_⟩ (fun hHeld => ?_)
                     clear hK K
                     refine norm_ (a' := ?_) ?_ ?_
                     rotate_left
                     ·show Act.put _ (some 13) _ = _
                      simp only [Act.put, List.setIfInBounds_toArray, List.set_cons_zero, List.set_cons_succ, i64_w, i32_w]
                      rfl
                     exact norm_ (by simp only [putAll, Act.put, List.setIfInBounds_toArray, List.set_cons_zero, List.set_cons_succ]) (hCont (gb487) _ ⟨hHeld, (by (with_reducible repeat (first | apply Kd.qG | apply Kd.qF | apply Kd.qI)); exact HO_10.out), (by (with_reducible repeat (first | apply Kd.qG | apply Kd.qF | apply Kd.qI)); exact HO_19.out), (by (with_reducible repeat (first | apply Kd.qG | apply Kd.qF | apply Kd.qI)); exact HO_9.out), (by (with_reducible repeat (first | refine qB ?_ _ | refine qC ?_ | refine qA ?_ _)); exact BK471.out), (by (with_reducible repeat (first | refine qB ?_ _ | refine qC ?_ | refine qA ?_ _)); exact BK487.out), GW487.out, GE487.out, NB471_487.out, NB487_471.out, bl⟩)
                    ·skip
                     refine qsA ?hg (N := 13) ?hd (cs := #[.int .i64 0, .int .i64 0, .int .i64 0]) (t := 27) ?hr ?_; (case hd => rfl); (case hg => rfl); (case hr => first | (go_simp; done) | (go_simp; rfl))
                     intro gb487 hg w46 hbox hb
                     have HS0_ := (hb.cell (World.block_lt_of_cell? _ _ (hHeld.1))).trans (hHeld.1)
                     have HS1_ := (hb.cell (World.block_lt_of_cell? _ _ (hHeld.2.1))).trans (hHeld.2.1)
                     have HS2_ := (hb.cell (World.block_lt_of_cell? _ _ (hHeld.2.2))).trans (hHeld.2.2)
                     have n0_ := Aside0.mk (Kd.qc (Kd.qSA (by (with_reducible repeat (first | apply Kd.qG | apply Kd.qF | apply Kd.qI)); exact HO_9.out) gb487 (Nat.le_of_eq hg.symm)) hb)
                     have n1_ := Aside0.mk (Kd.qc (by (with_reducible repeat (first | apply Kd.qG | apply Kd.qF | apply Kd.qI)); exact HO_10.out) hb)
                     have n2_ := Aside0.mk (Kd.qc (by (with_reducible repeat (first | apply Kd.qG | apply Kd.qF | apply Kd.qI)); exact HO_19.out) hb)
                     have n3_ := Aside0.mk (bb BK471 hb)
                     have n4_ := Aside0.mk (qH bl hb)
                     have n5_ := Aside0.mk (hbox)
                     have n6_ := Aside0.mk ((gg hg))
                     have n7_ := Aside0.mk ((gg hg))
                     have n8_ := Aside0.mk ((nl BK471 hg))
                     have n9_ := Aside0.mk ((nr BK471 hg))
                     clear HO_9
                     clear HO_10
                     clear HO_19
                     clear BK471
                     clear HB
                     have HO_9 := n0_
                     have HO_10 := n1_
                     have HO_19 := n2_
                     have BK471 := n3_
                     have HB := n4_
                     have BK487 := n5_
                     have GW487 := n6_
                     have GE487 := n7_
                     have NB471_487 := n8_
                     have NB487_471 := n9_
                     clear n0_ n1_ n2_ n3_ n4_ n5_ n6_ n7_ n8_ n9_
                     clear hb hbox hg
                     refine hK.out _ _ ⟨HS0_, HS1_, HS2_⟩ (fun hHeld => ?_)
                     clear hK K
                     refine norm_ (a' := ?_) ?_ ?_
                     rotate_left
                     ·show Act.put _ (some 13) _ = _
                      simp only [Act.put, List.setIfInBounds_toArray, List.set_cons_zero, List.set_cons_succ, i64_w, i32_w]
                      rfl
                     refine one_ (i := 7) (N := some 43) #[true, true, true, true, true, true, true, true, false, false, false, true, false, false] rfl rfl (qCA HT_.out (by kernel_rfl)) (by decide) (fun K hK => ?_)
                     refine goes_ Tryd.func62 (by kernel_rfl) rfl #[.slice Ao43 t472.length co43, .agg #[.int .i64 ((qQ x9_2 x11_1).f0), .int .i64 ((qQ x9_2 x11_1).f1), .int .i64 ((qQ x9_2 x11_1).f2)], .int .u8 (bt (⟨#[110, 101, 115, 119]⟩ : ByteArray) x32_2)] (by rfl) rfl rfl (by (try simp only [List.map_toArray, List.map_cons, List.map_nil]); first | done | rfl | (simp only [List.length_drop, List.length_take]; rfl)) ?_
                     with_reducible refine (qBA.calls k2 _ _ t472 ((qQ x9_2 x11_1).f0) ((qQ x9_2 x11_1).f1) ((qQ x9_2 x11_1).f2) (bt (⟨#[110, 101, 115, 119]⟩ : ByteArray) x32_2) t483 t484 t485 true _ ?side1 ?side2 A20.out).mono ?_
                     (case side1 => repeat (first | exact (Kd.ql HO_19.out).2.2 | (with_reducible refine Kd.qMA ?_ _) | (with_reducible refine Kd.qLA ?_ _) | (with_reducible refine Kd.qWA ?_)))
                     (case side2 => exact (Kd.ql HO_19.out).2.1)
                     rintro e w47 ⟨rfl, hb⟩
                     have HS0_ := (hb.cell (World.block_lt_of_cell? _ _ (hHeld.1))).trans (hHeld.1)
                     have HS1_ := (hb.cell (World.block_lt_of_cell? _ _ (hHeld.2.1))).trans (hHeld.2.1)
                     have HS2_ := (hb.cell (World.block_lt_of_cell? _ _ (hHeld.2.2))).trans (hHeld.2.2)
                     refine ⟨_, rfl, ?_⟩
                     have n0_ := Aside0.mk (Kd.qc (by (with_reducible repeat (first | apply Kd.qG | apply Kd.qF | apply Kd.qI)); exact HO_9.out) hb)
                     have n1_ := Aside0.mk (Kd.qc (by (with_reducible repeat (first | apply Kd.qG | apply Kd.qF | apply Kd.qI)); exact HO_10.out) hb)
                     have n2_ := Aside0.mk (Kd.qc (by (with_reducible repeat (first | apply Kd.qG | apply Kd.qF | apply Kd.qI)); exact HO_19.out) hb)
                     have n3_ := Aside0.mk (bb BK471 hb)
                     have n4_ := Aside0.mk (bb BK487 hb)
                     have n5_ := Aside0.mk (qH bl hb)
                     clear HO_9
                     clear HO_10
                     clear HO_19
                     clear BK471
                     clear BK487
                     clear HB
                     have HO_9 := n0_
                     have HO_10 := n1_
                     have HO_19 := n2_
                     have BK471 := n3_
                     have BK487 := n4_
                     have HB := n5_
                     clear n0_ n1_ n2_ n3_ n4_ n5_
                     (try clear hb)
                     (try clear hb2)
                     (try clear hk)
                     (try clear hi)
                     refine hK.out _ _ ⟨HS0_, HS1_, HS2_⟩ (fun hHeld => ?_)
                     clear hK K
                     refine norm_ (a' := ?_) ?_ ?_
                     rotate_left
                     ·show Act.put _ (some 43) _ = _
                      simp only [Act.put, List.setIfInBounds_toArray, List.set_cons_zero, List.set_cons_succ, i64_w, i32_w]
                      rfl
                     refine pS (i := 8) (N := some 35) #[true, true, true, true, true, true, true, true, true, false, false, true, false, false] HT_ ?_
                     refine pS (i := 9) (N := some 44) #[true, true, true, true, true, true, true, true, true, true, false, true, false, false] HT_ ?_
                     refine pS (i := 10) (N := some 45) #[true, true, true, true, true, true, true, true, true, true, true, true, false, false] HT_ ?_
                     exact norm_ (by simp only [putAll, Act.put, List.setIfInBounds_toArray, List.set_cons_zero, List.set_cons_succ]) (hCont (gb487) _ ⟨hHeld, (by (with_reducible repeat (first | apply Kd.qG | apply Kd.qF | apply Kd.qI)); exact HO_10.out), (by (with_reducible repeat (first | apply Kd.qG | apply Kd.qF | apply Kd.qI)); exact HO_19.out), (by (with_reducible repeat (first | apply Kd.qG | apply Kd.qF | apply Kd.qI)); exact HO_9.out), (by (with_reducible repeat (first | refine qB ?_ _ | refine qC ?_ | refine qA ?_ _)); exact BK471.out), (by (with_reducible repeat (first | refine qB ?_ _ | refine qC ?_ | refine qA ?_ _)); exact BK487.out), GW487.out, GE487.out, NB471_487.out, NB487_471.out, bl⟩)
                   rintro gb487 w48 ⟨hS_, h0_, h1_, h2_, h3_, h4_, h5_, h6_, h7_, h8_, h9_⟩
                   have n0_ : Aside0 (Kd.R Kd.string 9 w48 w.heap.size (fun k_ => some k_ ≠ (.slice Ao43 t472.length co43 : Value).ownBlock) u10 x10_2) := ⟨h0_⟩
                   have n1_ : Aside0 (Kd.R Kd.string 9 w48 w.heap.size (fun k_ => some k_ ≠ (u10 : Value).ownBlock) (.slice Ao43 t472.length co43) t472) := ⟨h1_⟩
                   have n2_ : Aside0 (Kd.R k27 27 w48 w.heap.size (fun k_ => k_ ≠ gb471 ∧ k_ ≠ gb487) (.slice (some ad482) x9_2.length co45) x9_2) := ⟨h2_⟩
                   have n3_ : Aside0 (w48.heap[gb471]? = some (.cells #[.int .i64 a1_0, .int .i64 a1_1, .int .i64 a1_2] 27 (0, 0))) := ⟨h3_⟩
                   have n4_ : Aside0 (w48.heap[gb487]? = some (.cells #[.int .i64 0, .int .i64 0, .int .i64 0] 27 (0, 0))) := ⟨h4_⟩
                   have n5_ : Aside0 (w.heap.size ≤ gb487) := ⟨h5_⟩
                   have n6_ : Aside0 (w.heap.size ≤ gb487) := ⟨h6_⟩
                   have n7_ : Aside0 (gb471 ≠ gb487) := ⟨h7_⟩
                   have n8_ : Aside0 (gb487 ≠ gb471) := ⟨h8_⟩
                   have n9_ : Aside0 (Below w.heap.size w w48) := ⟨h9_⟩
                   clear HO_9
                   clear HO_10
                   clear HO_19
                   clear BK471
                   clear HB
                   clear h0_ h1_ h2_ h3_ h4_ h5_ h6_ h7_ h8_ h9_
                   have HO_10 := n0_
                   have HO_19 := n1_
                   have HO_9 := n2_
                   have BK471 := n3_
                   have BK487 := n4_
                   have GW487 := n5_
                   have GE487 := n6_
                   have NB471_487 := n7_
                   have NB487_471 := n8_
                   have HB := n9_
                   clear n0_ n1_ n2_ n3_ n4_ n5_ n6_ n7_ n8_ n9_
                   have hHeld : w48.cell? (ad482.add ((x11_1).toNat * 3)) = some (.int .i64 ((qQ x9_2 x11_1).f0)) ∧ w48.cell? ⟨(ad482.add ((x11_1).toNat * 3)).block, (ad482.add ((x11_1).toNat * 3)).off + 1, none⟩ = some (.int .i64 ((qQ x9_2 x11_1).f1)) ∧ w48.cell? ⟨(ad482.add ((x11_1).toNat * 3)).block, (ad482.add ((x11_1).toNat * 3)).off + 2, none⟩ = some (.int .i64 ((qQ x9_2 x11_1).f2)) := hS_
                   refine norm_ (a' := ?_) ?_ ?_
                   rotate_left
                   ·simp only [putAll, Act.put, List.setIfInBounds_toArray, List.set_cons_zero, List.set_cons_succ]
                    rfl
                   refine one_ (i := 12) (N := none) #[true, true, true, true, true, true, true, true, true, true, true, true, true, false] rfl rfl (qCA HT_.out (by kernel_rfl)) (by decide) (fun K hK => ?_)
                   have hs49 : w48.cell? ⟨gb487, 0, none⟩ = some (.int .i64 0) := (qE BK487.out 0).trans rfl
                   have hfs49 := qD BK487.out 0
                   have hns49_0 := NB471_487.out
                   have hms49_0 := NB487_471.out
                   have hs50 : w48.cell? ⟨gb487, 1, none⟩ = some (.int .i64 0) := (qE BK487.out 1).trans rfl
                   have hfs50 := qD BK487.out 1
                   have hns50_0 := NB471_487.out
                   have hms50_0 := NB487_471.out
                   have hs51 : w48.cell? ⟨gb487, 2, none⟩ = some (.int .i64 0) := (qE BK487.out 2).trans rfl
                   have hfs51 := qD BK487.out 2
                   have hns51_0 := NB471_487.out
                   have hms51_0 := NB487_471.out
                   refine skip_ (w1 := ?_) (by rfl) rfl ?_ ?_
                   rotate_left
                   ·go_simp
                    rfl
                   refine hK.out _ _ ⟨((qN (p := ⟨gb487, _, none⟩) (by first | exact Kd.qM (Kd.qU HO_9.out (fun _ hk => hk.2)) | (rw [qR]; exact Kd.qM (Kd.qU HO_9.out (fun _ hk => hk.2))) | (show (Addr.add _ _).block ≠ _; rw [qR]; exact Kd.qM (Kd.qU HO_9.out (fun _ hk => hk.2))) | (dsimp only; exact Kd.qM (Kd.qU HO_9.out (fun _ hk => hk.2)))) _).trans (((qN (p := ⟨gb487, _, none⟩) (by first | exact Kd.qM (Kd.qU HO_9.out (fun _ hk => hk.2)) | (rw [qR]; exact Kd.qM (Kd.qU HO_9.out (fun _ hk => hk.2))) | (show (Addr.add _ _).block ≠ _; rw [qR]; exact Kd.qM (Kd.qU HO_9.out (fun _ hk => hk.2))) | (dsimp only; exact Kd.qM (Kd.qU HO_9.out (fun _ hk => hk.2)))) _).trans (((qN (p := ⟨gb487, _, none⟩) (by first | exact Kd.qM (Kd.qU HO_9.out (fun _ hk => hk.2)) | (rw [qR]; exact Kd.qM (Kd.qU HO_9.out (fun _ hk => hk.2))) | (show (Addr.add _ _).block ≠ _; rw [qR]; exact Kd.qM (Kd.qU HO_9.out (fun _ hk => hk.2))) | (dsimp only; exact Kd.qM (Kd.qU HO_9.out (fun _ hk => hk.2)))) _).trans (hHeld.1)))))), ((qN (p := ⟨gb487, _, none⟩) (by first | exact Kd.qM (Kd.qU HO_9.out (fun _ hk => hk.2)) | (rw [qR]; exact Kd.qM (Kd.qU HO_9.out (fun _ hk => hk.2))) | (show (Addr.add _ _).block ≠ _; rw [qR]; exact Kd.qM (Kd.qU HO_9.out (fun _ hk => hk.2))) | (dsimp only; exact Kd.qM (Kd.qU HO_9.out (fun _ hk => hk.2)))) _).trans (((qN (p := ⟨gb487, _, none⟩) (by first | exact Kd.qM (Kd.qU HO_9.out (fun _ hk => hk.2)) | (rw [qR]; exact Kd.qM (Kd.qU HO_9.out (fun _ hk => hk.2))) | (show (Addr.add _ _).block ≠ _; rw [qR]; exact Kd.qM (Kd.qU HO_9.out (fun _ hk => hk.2))) | (dsimp only; exact Kd.qM (Kd.qU HO_9.out (fun _ hk => hk.2)))) _).trans (((qN (p := ⟨gb487, _, none⟩) (by first | exact Kd.qM (Kd.qU HO_9.out (fun _ hk => hk.2)) | (rw [qR]; exact Kd.qM (Kd.qU HO_9.out (fun _ hk => hk.2))) | (show (Addr.add _ _).block ≠ _; rw [qR]; exact Kd.qM (Kd.qU HO_9.out (fun _ hk => hk.2))) | (dsimp only; exact Kd.qM (Kd.qU HO_9.out (fun _ hk => hk.2)))) _).trans (hHeld.2.1)))))), ((qN (p := ⟨gb487, _, none⟩) (by first | exact Kd.qM (Kd.qU HO_9.out (fun _ hk => hk.2)) | (rw [qR]; exact Kd.qM (Kd.qU HO_9.out (fun _ hk => hk.2))) | (show (Addr.add _ _).block ≠ _; rw [qR]; exact Kd.qM (Kd.qU HO_9.out (fun _ hk => hk.2))) | (dsimp only; exact Kd.qM (Kd.qU HO_9.out (fun _ hk => hk.2)))) _).trans (((qN (p := ⟨gb487, _, none⟩) (by first | exact Kd.qM (Kd.qU HO_9.out (fun _ hk => hk.2)) | (rw [qR]; exact Kd.qM (Kd.qU HO_9.out (fun _ hk => hk.2))) | (show (Addr.add _ _).block ≠ _; rw [qR]; exact Kd.qM (Kd.qU HO_9.out (fun _ hk => hk.2))) | (dsimp only; exact Kd.qM (Kd.qU HO_9.out (fun _ hk => hk.2)))) _).trans (((qN (p := ⟨gb487, _, none⟩) (by first | exact Kd.qM (Kd.qU HO_9.out (fun _ hk => hk.2)) | (rw [qR]; exact Kd.qM (Kd.qU HO_9.out (fun _ hk => hk.2))) | (show (Addr.add _ _).block ≠ _; rw [qR]; exact Kd.qM (Kd.qU HO_9.out (fun _ hk => hk.2))) | (dsimp only; exact Kd.qM (Kd.qU HO_9.out (fun _ hk => hk.2)))) _).trans (hHeld.2.2))))))⟩ (fun hHeld => ?_)
                   clear hK K
                   refine pS (i := 13) (N := some 14) #[true, true, true, true, true, true, true, true, true, true, true, true, true, true] HT_ ?_
                   refine done_ (qbA HT_.out (by kernel_rfl)) ?_
                   have hnb52 := NB487_471.out
                   have hnc52 := NB471_487.out
                   have hcz53_0 := bc BK487 0
                   have hcz53_1 := bc BK487 1
                   have hcz53_2 := bc BK487 2
                   have hfz53_0 := qD BK487.out 0
                   have hfz53_1 := qD BK487.out 1
                   have hfz53_2 := qD BK487.out 2
                   try go_wp2_with (first | (go_at_call 91; (with_reducible refine (qk.calls k2 _ _ x9_2 t483 t484 t485 false _ ?side1 ?side2 A22.out).mono ?_); (case side1 => refine (Kd.ql (e := 27) (base := w.heap.size) (ok := fun k_ => (k_ ≠ gb471 ∧ k_ ≠ gb487)) (n := x9_2.length) (c := co45) ?_).2.2; exact (by (with_reducible repeat (first | apply Kd.qG | apply Kd.qF | apply Kd.qI)); exact (Kd.qg (Kd.R_far (p := ⟨gb487, 2, none⟩) (Kd.R_far (p := ⟨gb487, 1, none⟩) (Kd.R_far (p := ⟨gb487, 0, none⟩) (Kd.qg HO_9.out (fun k_ hk => (⟨hk, hk.2⟩ : _ ∧ k_ ≠ gb487))) (fun _ hk => hk.2) (.int .i64 t483)) (fun _ hk => hk.2) (.int .i64 t484)) (fun _ hk => hk.2) (.int .i64 t485)) (fun _ h_ => h_.1)))); (case side2 => exact (Kd.ql HO_9.out).2.1); rintro e w54 ⟨rfl, hb⟩; have n0_ := Aside0.mk (Kd.qc (by (with_reducible repeat (first | apply Kd.qG | apply Kd.qF | apply Kd.qI)); exact (Kd.qg (Kd.R_far (p := ⟨gb487, 2, none⟩) (Kd.R_far (p := ⟨gb487, 1, none⟩) (Kd.R_far (p := ⟨gb487, 0, none⟩) (Kd.qg HO_9.out (fun k_ hk => (⟨hk, hk.2⟩ : _ ∧ k_ ≠ gb487))) (fun _ hk => hk.2) (.int .i64 t483)) (fun _ hk => hk.2) (.int .i64 t484)) (fun _ hk => hk.2) (.int .i64 t485)) (fun _ h_ => h_.1))) hb); have n1_ := Aside0.mk (Kd.qc (by (with_reducible repeat (first | apply Kd.qG | apply Kd.qF | apply Kd.qI)); exact (Kd.qg (Kd.R_far (p := ⟨gb487, 2, none⟩) (Kd.R_far (p := ⟨gb487, 1, none⟩) (Kd.R_far (p := ⟨gb487, 0, none⟩) (Kd.qn HO_10.out BK487.out (by decide)) (fun _ hk => hk.2) (.int .i64 t483)) (fun _ hk => hk.2) (.int .i64 t484)) (fun _ hk => hk.2) (.int .i64 t485)) (fun _ h_ => h_.1))) hb); have n2_ := Aside0.mk (Kd.qc (by (with_reducible repeat (first | apply Kd.qG | apply Kd.qF | apply Kd.qI)); exact (Kd.qg (Kd.R_far (p := ⟨gb487, 2, none⟩) (Kd.R_far (p := ⟨gb487, 1, none⟩) (Kd.R_far (p := ⟨gb487, 0, none⟩) (Kd.qn HO_19.out BK487.out (by decide)) (fun _ hk => hk.2) (.int .i64 t483)) (fun _ hk => hk.2) (.int .i64 t484)) (fun _ hk => hk.2) (.int .i64 t485)) (fun _ h_ => h_.1))) hb); have n3_ := Aside0.mk (qJA (g := gb471) (o := .cells #[.int .i64 a1_0, .int .i64 a1_1, .int .i64 a1_2] 27 (0, 0)) (by (with_reducible repeat (first | refine qB ?_ _ | refine qC ?_ | refine qA ?_ _)); refine qJ ?_ NB471_487.out _; (with_reducible repeat (first | refine qB ?_ _ | refine qC ?_ | refine qA ?_ _)); refine qJ ?_ NB471_487.out _; (with_reducible repeat (first | refine qB ?_ _ | refine qC ?_ | refine qA ?_ _)); refine qJ ?_ NB471_487.out _; (with_reducible repeat (first | refine qB ?_ _ | refine qC ?_ | refine qA ?_ _)); exact BK471.out) hb); have n4_ := Aside0.mk (qJA (g := gb487) (o := .cells #[.int .i64 t483, .int .i64 t484, .int .i64 t485] 27 (0, 0)) (by (with_reducible repeat (first | refine qB ?_ _ | refine qC ?_ | refine qA ?_ _)); refine qP (cs := #[.int .i64 t483, .int .i64 t484, .int .i64 0]) ?_ 2 _ rfl; (with_reducible repeat (first | refine qB ?_ _ | refine qC ?_ | refine qA ?_ _)); refine qP (cs := #[.int .i64 t483, .int .i64 0, .int .i64 0]) ?_ 1 _ rfl; (with_reducible repeat (first | refine qB ?_ _ | refine qC ?_ | refine qA ?_ _)); refine qP (cs := #[.int .i64 0, .int .i64 0, .int .i64 0]) ?_ 0 _ rfl; (with_reducible repeat (first | refine qB ?_ _ | refine qC ?_ | refine qA ?_ _)); exact BK487.out) hb); have n5_ := Aside0.mk (qH bl hb); clear HO_9; clear HO_10; clear HO_19; clear BK471; clear BK487; clear HB; have HO_9 := n0_; have HO_10 := n1_; have HO_19 := n2_; have BK471 := n3_; have BK487 := n4_; have HB := n5_; clear n0_ n1_ n2_ n3_ n4_ n5_; (try clear hb); (try clear hb2); (try clear hk); (try clear hi); obtain ⟨Ao55, co55, eo55⟩ := Kd.qr HO_10.out; subst eo55))
                   have n0_ := Aside0.mk (Kd.qI HO_9.out)
                   have n1_ := Aside0.mk (Kd.qI HO_10.out)
                   have n2_ := Aside0.mk (Kd.qI HO_19.out)
                   have n3_ := Aside0.mk (qC BK471.out)
                   have n4_ := Aside0.mk (qC BK487.out)
                   have n5_ := Aside0.mk (qi HB.out)
                   clear HO_9
                   clear HO_10
                   clear HO_19
                   clear BK471
                   clear BK487
                   clear HB
                   have HO_9 := n0_
                   have HO_10 := n1_
                   have HO_19 := n2_
                   have BK471 := n3_
                   have BK487 := n4_
                   have HB := n5_
                   clear n0_ n1_ n2_ n3_ n4_ n5_
                   have p495 : 0 ≤ (x11_1 : Int) := of_decide_eq_true (by first | (with_reducible assumption) | assumption)
                   have q495 : x11_1 < (x10_2.length : Int) := of_decide_eq_true (by first | (with_reducible assumption) | assumption)
                   obtain ⟨ad495, e495, hx495_0⟩ := Kd.qcA (Kd.ql HO_10.out).2.2 x11_1 p495 q495
                   cases e495
                   replace p495 := eq_true p495
                   replace q495 := eq_true q495
                   have hof495 := Aside0.mk (R_off1 _ HO_10.out (by rfl) x11_1 (of_eq_true p495) (of_eq_true q495))
                   have hnr495_HO_9 := Aside0.mk (R_apart1 _ _ HO_10.out HO_9.out (by decide) (x11_1).toNat)
                   refine qmA (n := 18) (S := fun w' => w'.cell? ⟨gb487, 0, none⟩ = some (.int .i64 t483) ∧ w'.cell? ⟨gb487, 1, none⟩ = some (.int .i64 t484) ∧ w'.cell? ⟨gb487, 2, none⟩ = some (.int .i64 t485) ∧ w'.cell? (ad495.add (x11_1).toNat) = some (.string (rdOf ByteArray.empty x10_2 x11_1))) (ds := []) #[false, false, false, false, false, false, false, false, false, false, false, false, false, false, false, false, false, false] (by kernel_rfl) rfl rfl ⟨(qE BK487.out 0).trans rfl, (qE BK487.out 1).trans rfl, (qE BK487.out 2).trans rfl, hx495_0⟩ (fun hHeld => ?_); refine qNA qO.tab13 qO.bits13 (fun HT_ HW_ => ?_)
                   generalize w54.drew = w56 at HO_9 HO_10 HO_19 BK471 BK487 HB hx495_0 hHeld ⊢
                   refine pS (i := 0) (N := some 53) #[true, false, false, false, false, false, false, false, false, false, false, false, false, false, false, false, false, false] HT_ ?_
                   refine pS (i := 4) (N := some 57) #[true, false, false, false, true, false, false, false, false, false, false, false, false, false, false, false, false, false] HT_ ?_
                   refine pS (i := 5) (N := some 58) #[true, false, false, false, true, true, false, false, false, false, false, false, false, false, false, false, false, false] HT_ ?_
                   refine pS (i := 6) (N := some 59) #[true, false, false, false, true, true, true, false, false, false, false, false, false, false, false, false, false, false] HT_ ?_
                   refine pS (i := 7) (N := some 60) #[true, false, false, false, true, true, true, true, false, false, false, false, false, false, false, false, false, false] HT_ ?_
                   refine pS (i := 9) (N := some 62) #[true, false, false, false, true, true, true, true, false, true, false, false, false, false, false, false, false, false] HT_ ?_
                   refine pS (i := 10) (N := some 63) #[true, false, false, false, true, true, true, true, false, true, true, false, false, false, false, false, false, false] HT_ ?_
                   refine pS (i := 11) (N := some 64) #[true, false, false, false, true, true, true, true, false, true, true, true, false, false, false, false, false, false] HT_ ?_
                   refine pS (i := 12) (N := some 65) #[true, false, false, false, true, true, true, true, false, true, true, true, true, false, false, false, false, false] HT_ ?_
                   refine tS (i := 1) (N := some 54) #[true, true, false, false, true, true, true, true, false, true, true, true, true, false, false, false, false, false] HT_ HW_ hHeld ?_
                   refine tS (i := 8) (N := some 61) #[true, true, false, false, true, true, true, true, true, true, true, true, true, false, false, false, false, false] HT_ HW_ hHeld ?_
                   refine pS (i := 13) (N := some 66) #[true, true, false, false, true, true, true, true, true, true, true, true, true, true, false, false, false, false] HT_ ?_
                   refine join_ (σ := Value × Value × Value) 3 #[true, true, true, true, true, true, true, true, true, true, true, true, true, true, true, false, false, false] (fun s_ => [(55, s_.1), (56, s_.2.1), (67, s_.2.2)]) (fun s_ w' => (w'.cell? ⟨gb487, 0, none⟩ = some (.int .i64 t483) ∧ w'.cell? ⟨gb487, 1, none⟩ = some (.int .i64 t484) ∧ w'.cell? ⟨gb487, 2, none⟩ = some (.int .i64 t485) ∧ w'.cell? (ad495.add (x11_1).toNat) = some (.string (rdOf ByteArray.empty x10_2 x11_1))) ∧ (Kd.R k27 27 w' w.heap.size (fun k_ => some k_ ≠ (s_.2.1 : Value).ownBlock ∧ k_ ≠ gb471 ∧ k_ ≠ gb487) s_.1 y489) ∧ (Kd.R k27 27 w' w.heap.size (fun k_ => some k_ ≠ (s_.1 : Value).ownBlock ∧ k_ ≠ gb471 ∧ k_ ≠ gb487) s_.2.1 y492) ∧ (Kd.R Kd.string 9 w' w.heap.size (fun k_ => some k_ ≠ (.slice (some ad495) x10_2.length co55 : Value).ownBlock ∧ some k_ ≠ (.slice Ao43 t472.length co43 : Value).ownBlock) s_.2.2 y496) ∧ (Kd.R Kd.string 9 w' w.heap.size (fun k_ => some k_ ≠ (s_.2.2 : Value).ownBlock ∧ some k_ ≠ (.slice Ao43 t472.length co43 : Value).ownBlock) (.slice (some ad495) x10_2.length co55) x10_2) ∧ (Kd.R Kd.string 9 w' w.heap.size (fun k_ => some k_ ≠ (s_.2.2 : Value).ownBlock ∧ some k_ ≠ (.slice (some ad495) x10_2.length co55 : Value).ownBlock) (.slice Ao43 t472.length co43) t472) ∧ (w'.heap[gb471]? = some (.cells #[.int .i64 a1_0, .int .i64 a1_1, .int .i64 a1_2] 27 (0, 0))) ∧ (w'.heap[gb487]? = some (.cells #[.int .i64 t483, .int .i64 t484, .int .i64 t485] 27 (0, 0))) ∧ (Below w.heap.size w w')) ?_ ?_
                   rotate_left
                   ·intro hCont
                    refine two_ (i := 2) (j := 14) (Ni := some 55) (Nj := some 67) #[true, true, true, false, true, true, true, true, true, true, true, true, true, true, false, false, false, false] #[true, true, false, false, true, true, true, true, true, true, true, true, true, true, true, false, false, false] rfl rfl rfl rfl (qkB HT_.out (by kernel_rfl)) (by decide) (by decide) (fun K hK => ?_) (fun K hK => ?_)
                    ·skip
                     refine Kd.qDB k27 _ 27 ?hg (N := 55) ?hd (xs := ([(⟨t483, t484, t485⟩ : S27)] : List (S27))) (inner := [.int .i64 t483, .int .i64 t484, .int .i64 t485]) (ok := fun _ => True) (okp := fun _ => True) ?hr ?hp (fun _ hk => hk) trivial (Below.refl _ _) (Nat.le_refl _) (by simp) ?_; (case hd => rfl); (case hg => rfl); (case hr => first | (go_simp; done) | (go_simp; rfl)); (case hp => exact (Reps.c3 (show Kd.M k27 _ _ _ (⟨t483, t484, t485⟩ : S27) [.int .i64 t483, .int .i64 t484, .int .i64 t485] from (qoB _ _ _ (⟨t483, t484, t485⟩ : S27) )) (Reps.none _ _)))
                     intro v490 w57 ho58 hb hg_ hnew_
                     have HS3_ := (hb.cell (World.block_lt_of_cell? _ _ (hHeld.2.2.2))).trans (hHeld.2.2.2)
                     clear hg_ hnew_
                     (first | rw [← Ny489.out] at ho58 | (simp only [Int.reduceToNat] at ho58; rw [← Ny489.out] at ho58))
                     have n0_ := Aside0.mk (Kd.qqA (by (with_reducible repeat (first | apply Kd.qG | apply Kd.qF | apply Kd.qI)); exact HO_9.out) (Kd.qPB ho58) hb)
                     have n1_ := Aside0.mk (Kd.qc (by (with_reducible repeat (first | apply Kd.qG | apply Kd.qF | apply Kd.qI)); exact HO_10.out) hb)
                     have n2_ := Aside0.mk (Kd.qc (by (with_reducible repeat (first | apply Kd.qG | apply Kd.qF | apply Kd.qI)); exact HO_19.out) hb)
                     have n3_ := Aside0.mk (Kd.qEA (Kd.qbB (Kd.qbB (Kd.qOB ho58 (Kd.R_lt (by (with_reducible repeat (first | apply Kd.qG | apply Kd.qF | apply Kd.qI)); exact HO_9.out))) (g := gb471) (o := .cells #[.int .i64 a1_0, .int .i64 a1_1, .int .i64 a1_2] 27 (0, 0)) (by (with_reducible repeat (first | refine qB ?_ _ | refine qC ?_ | refine qA ?_ _)); exact BK471.out)) (g := gb487) (o := .cells #[.int .i64 t483, .int .i64 t484, .int .i64 t485] 27 (0, 0)) (by (with_reducible repeat (first | refine qB ?_ _ | refine qC ?_ | refine qA ?_ _)); exact BK487.out)) (qf bl))
                     have n4_ := Aside0.mk (bb BK471 hb)
                     have n5_ := Aside0.mk (bb BK487 hb)
                     have n6_ := Aside0.mk (qH bl hb)
                     clear HO_9
                     clear HO_10
                     clear HO_19
                     clear BK471
                     clear BK487
                     clear HB
                     have HO_9 := n0_
                     have HO_10 := n1_
                     have HO_19 := n2_
                     have HO491 := n3_
                     have BK471 := n4_
                     have BK487 := n5_
                     have HB := n6_
                     clear n0_ n1_ n2_ n3_ n4_ n5_ n6_
                     clear hb ho58
                     obtain ⟨Ao60, co60, eo60⟩ := Kd.qr HO491.out
                     (first | subst eo60 | (injection eo60 with f1_ f2_ f3_; have f4_ := f1_.symm; have f5_ := f3_.symm; clear f1_ f2_ f3_; subst f4_; subst f5_))
                     refine hK.out _ _ ⟨(qE BK487.out 0).trans rfl, (qE BK487.out 1).trans rfl, (qE BK487.out 2).trans rfl, HS3_⟩ (fun hHeld => ?_)
                     clear hK K
                     refine norm_ (a' := ?_) ?_ ?_
                     rotate_left
                     ·show Act.put _ (some 55) _ = _
                      simp only [Act.put, List.setIfInBounds_toArray, List.set_cons_zero, List.set_cons_succ, i64_w, i32_w]
                      rfl
                     refine two_ (i := 3) (j := 14) (Ni := some 56) (Nj := some 67) #[true, true, true, true, true, true, true, true, true, true, true, true, true, true, false, false, false, false] #[true, true, true, false, true, true, true, true, true, true, true, true, true, true, true, false, false, false] rfl rfl rfl rfl (qkB HT_.out (by kernel_rfl)) (by decide) (by decide) (fun K hK => ?_) (fun K hK => ?_)
                     ·skip
                      refine qiA k27 (w0 := w) w.heap.size (by rfl) (.tmp 53) (.tmp 55) 50 27 (.agg #[(.int .i64 0), (.int .i64 0), (.int .i64 0)]) 24 rfl Tryd.underlying50 info27 rfl (by decide) (by omega) (.slice (some ad482) x9_2.length co45) x9_2 y489 _ _ _ (fun k_ => some k_ ≠ (.slice Ao60 y489.length co60 : Value).ownBlock ∧ k_ ≠ gb471 ∧ k_ ≠ gb487) (fun _ => False) rfl rfl ?aO ?aR (fun _ _ h => h) (fun _ h => h.elim) ?aF ?aB ?aS ?aL ?_
                      (case aR => repeat (first | exact (Kd.ql HO491.out).2.2 | (with_reducible refine Kd.qMA ?_ _) | (with_reducible refine Kd.qLA ?_ _) | (with_reducible refine Kd.qWA ?_)))
                      (case aB => exact bl)
                      (case aF => exact (fun k_ hk => ⟨Kd.fresh' (Kd.R_lt (by (with_reducible repeat (first | apply Kd.qG | apply Kd.qF | apply Kd.qI)); exact HO491.out)) k_ hk, Kd.freshB (g := gb471) (o := .cells #[.int .i64 a1_0, .int .i64 a1_1, .int .i64 a1_2] 27 (0, 0)) (by (with_reducible repeat (first | refine qB ?_ _ | refine qC ?_ | refine qA ?_ _)); exact BK471.out) k_ hk, Kd.freshB (g := gb487) (o := .cells #[.int .i64 t483, .int .i64 t484, .int .i64 t485] 27 (0, 0)) (by (with_reducible repeat (first | refine qB ?_ _ | refine qC ?_ | refine qA ?_ _)); exact BK487.out) k_ hk⟩))
                      (case aO => exact (by (with_reducible repeat (first | apply Kd.qG | apply Kd.qF | apply Kd.qI)); exact Kd.qg HO_9.out (fun _ hk => ⟨hk.2, ⟨hk.1.1, hk.1.2⟩⟩)))
                      (case aS => exact (qf bl))
                      (case aL => have := LMc36.out; omega)
                      intro v493 w59 ho hb hg hat hkp_
                      have HS3_ := hkp_ _ _ (hHeld.2.2.2) (fun e_ => absurd e_ hnr495_HO_9.out)
                      clear hkp_
                      rw [← Ny492.out] at ho
                      have n0_ := Aside0.mk (Kd.qvA (by (with_reducible repeat (first | apply Kd.qG | apply Kd.qF | apply Kd.qI)); exact HO_10.out) (Kd.quA (by (with_reducible repeat (first | apply Kd.qG | apply Kd.qF | apply Kd.qI)); exact HO_9.out)) (by decide) hg)
                      have n1_ := Aside0.mk (Kd.qvA (by (with_reducible repeat (first | apply Kd.qG | apply Kd.qF | apply Kd.qI)); exact HO_19.out) (Kd.quA (by (with_reducible repeat (first | apply Kd.qG | apply Kd.qF | apply Kd.qI)); exact HO_9.out)) (by decide) hg)
                      have n2_ := Aside0.mk (qFA (g := gb471) (o := .cells #[.int .i64 a1_0, .int .i64 a1_1, .int .i64 a1_2] 27 (0, 0)) (by (with_reducible repeat (first | refine qB ?_ _ | refine qC ?_ | refine qA ?_ _)); exact BK471.out) hg (Kd.qU HO_9.out (fun _ hk => hk.1.1)))
                      have n3_ := Aside0.mk (qFA (g := gb487) (o := .cells #[.int .i64 t483, .int .i64 t484, .int .i64 t485] 27 (0, 0)) (by (with_reducible repeat (first | refine qB ?_ _ | refine qC ?_ | refine qA ?_ _)); exact BK487.out) hg (Kd.qU HO_9.out (fun _ hk => hk.1.2)))
                      have n4_ := Aside0.mk (Kd.qTB (ok := (fun k_ => k_ ≠ gb471 ∧ k_ ≠ gb487)) (by (with_reducible repeat (first | apply Kd.qG | apply Kd.qF | apply Kd.qI)); exact Kd.qg HO491.out (fun _ hk => ⟨⟨hk.1.2, hk.2⟩, hk.1.1.2⟩)) hg hat)
                      have n5_ := Aside0.mk (hb)
                      have n6_ := Aside0.mk (ho)
                      clear HO_10
                      clear HO_19
                      clear BK471
                      clear BK487
                      clear HO491
                      clear HB
                      clear HO_9
                      have HO_10 := n0_
                      have HO_19 := n1_
                      have BK471 := n2_
                      have BK487 := n3_
                      have HO491 := n4_
                      have HB := n5_
                      have HO494 := n6_
                      clear n0_ n1_ n2_ n3_ n4_ n5_ n6_
                      clear ho hb hg hat
                      refine hK.out _ _ ⟨(qE BK487.out 0).trans rfl, (qE BK487.out 1).trans rfl, (qE BK487.out 2).trans rfl, HS3_⟩ (fun hHeld => ?_)
                      clear hK K
                      refine norm_ (a' := ?_) ?_ ?_
                      rotate_left
                      ·show Act.put _ (some 56) _ = _
                       simp only [Act.put, List.setIfInBounds_toArray, List.set_cons_zero, List.set_cons_succ, i64_w, i32_w]
                       rfl
                      refine one_ (i := 14) (N := some 67) #[true, true, true, true, true, true, true, true, true, true, true, true, true, true, true, false, false, false] rfl rfl (qCA HT_.out (by kernel_rfl)) (by decide) (fun K hK => ?_)
                      refine Kd.qDB Kd.string _ 9 ?hg (N := 67) ?hd (xs := ([(rdOf ByteArray.empty x10_2 x11_1) ++ ((⟨#[110, 101, 115, 119]⟩ : ByteArray).extract (x32_2 : Int).toNat ((wrap64 (x32_2 + 1)) : Int).toNat)] : List ByteArray)) (inner := [.string ((rdOf ByteArray.empty x10_2 x11_1) ++ ((⟨#[110, 101, 115, 119]⟩ : ByteArray).extract (x32_2 : Int).toNat ((wrap64 (x32_2 + 1)) : Int).toNat))]) (ok := fun _ => True) (okp := fun _ => True) ?hr ?hp (fun _ hk => hk) trivial (Below.refl _ _) (Nat.le_refl _) (by simp) ?_; (case hd => rfl); (case hg => rfl); (case hr => first | (go_simp; done) | (go_simp; rfl)); (case hp => exact (Reps.one (show Kd.M Kd.string _ _ _ ((rdOf ByteArray.empty x10_2 x11_1) ++ ((⟨#[110, 101, 115, 119]⟩ : ByteArray).extract (x32_2 : Int).toNat ((wrap64 (x32_2 + 1)) : Int).toNat)) [.string ((rdOf ByteArray.empty x10_2 x11_1) ++ ((⟨#[110, 101, 115, 119]⟩ : ByteArray).extract (x32_2 : Int).toNat ((wrap64 (x32_2 + 1)) : Int).toNat))] from rfl) (Reps.none _ _)))
                      intro v497 w61 ho62 hb hg_ hnew_
                      have HS3_ := (hb.cell (World.block_lt_of_cell? _ _ (hHeld.2.2.2))).trans (hHeld.2.2.2)
                      clear hg_ hnew_
                      (first | rw [← Ny496.out] at ho62 | (simp only [Int.reduceToNat] at ho62; rw [← Ny496.out] at ho62))
                      have n0_ := Aside0.mk (Kd.qqA (by (with_reducible repeat (first | apply Kd.qG | apply Kd.qF | apply Kd.qI)); exact HO_10.out) (Kd.qPB ho62) hb)
                      have n1_ := Aside0.mk (Kd.qqA (by (with_reducible repeat (first | apply Kd.qG | apply Kd.qF | apply Kd.qI)); exact HO_19.out) (Kd.qPB ho62) hb)
                      have n2_ := Aside0.mk (Kd.qc (by (with_reducible repeat (first | apply Kd.qG | apply Kd.qF | apply Kd.qI)); exact HO491.out) hb)
                      have n3_ := Aside0.mk (Kd.qc (by (with_reducible repeat (first | apply Kd.qG | apply Kd.qF | apply Kd.qI)); exact HO494.out) hb)
                      have n4_ := Aside0.mk (Kd.qEA (Kd.qOB (Kd.qOB ho62 (Kd.R_lt (by (with_reducible repeat (first | apply Kd.qG | apply Kd.qF | apply Kd.qI)); exact HO_10.out))) (Kd.R_lt (by (with_reducible repeat (first | apply Kd.qG | apply Kd.qF | apply Kd.qI)); exact HO_19.out))) (qf bl))
                      have n5_ := Aside0.mk (bb BK471 hb)
                      have n6_ := Aside0.mk (bb BK487 hb)
                      have n7_ := Aside0.mk (qH bl hb)
                      clear HO_10
                      clear HO_19
                      clear HO491
                      clear HO494
                      clear BK471
                      clear BK487
                      clear HB
                      have HO_10 := n0_
                      have HO_19 := n1_
                      have HO491 := n2_
                      have HO494 := n3_
                      have HO498 := n4_
                      have BK471 := n5_
                      have BK487 := n6_
                      have HB := n7_
                      clear n0_ n1_ n2_ n3_ n4_ n5_ n6_ n7_
                      clear hb ho62
                      refine hK.out _ _ ⟨(qE BK487.out 0).trans rfl, (qE BK487.out 1).trans rfl, (qE BK487.out 2).trans rfl, HS3_⟩ (fun hHeld => ?_)
                      clear hK K
                      refine norm_ (a' := ?_) ?_ ?_
                      rotate_left
                      ·show Act.put _ (some 67) _ = _
                       simp only [Act.put, List.setIfInBounds_toArray, List.set_cons_zero, List.set_cons_succ, i64_w, i32_w]
                       rfl
                      exact norm_ (by simp only [putAll, Act.put, List.setIfInBounds_toArray, List.set_cons_zero, List.set_cons_succ]) (hCont (.slice Ao60 y489.length co60, v493, v497) _ ⟨hHeld, (by (with_reducible repeat (first | apply Kd.qG | apply Kd.qF | apply Kd.qI)); exact Kd.qg HO491.out (fun _ hk => ⟨hk.2, ⟨hk.1.1, hk.1.2⟩⟩)), (by (with_reducible repeat (first | apply Kd.qG | apply Kd.qF | apply Kd.qI)); exact HO494.out), (by (with_reducible repeat (first | apply Kd.qG | apply Kd.qF | apply Kd.qI)); exact Kd.qg HO498.out (fun _ hk => ⟨hk.1.2, hk.2⟩)), (by (with_reducible repeat (first | apply Kd.qG | apply Kd.qF | apply Kd.qI)); exact Kd.qg HO_10.out (fun _ hk => ⟨hk.2, hk.1⟩)), (by (with_reducible repeat (first | apply Kd.qG | apply Kd.qF | apply Kd.qI)); exact Kd.qg HO_19.out (fun _ hk => ⟨hk.2, hk.1⟩)), (by (with_reducible repeat (first | refine qB ?_ _ | refine qC ?_ | refine qA ?_ _)); exact BK471.out), (by (with_reducible repeat (first | refine qB ?_ _ | refine qC ?_ | refine qA ?_ _)); exact BK487.out), bl⟩)
                     ·skip
                      refine Kd.qDB Kd.string _ 9 ?hg (N := 67) ?hd (xs := ([(rdOf ByteArray.empty x10_2 x11_1) ++ ((⟨#[110, 101, 115, 119]⟩ : ByteArray).extract (x32_2 : Int).toNat ((wrap64 (x32_2 + 1)) : Int).toNat)] : List ByteArray)) (inner := [.string ((rdOf ByteArray.empty x10_2 x11_1) ++ ((⟨#[110, 101, 115, 119]⟩ : ByteArray).extract (x32_2 : Int).toNat ((wrap64 (x32_2 + 1)) : Int).toNat))]) (ok := fun _ => True) (okp := fun _ => True) ?hr ?hp (fun _ hk => hk) trivial (Below.refl _ _) (Nat.le_refl _) (by simp) ?_; (case hd => rfl); (case hg => rfl); (case hr => first | (go_simp; done) | (go_simp; rfl)); (case hp => exact (Reps.one (show Kd.M Kd.string _ _ _ ((rdOf ByteArray.empty x10_2 x11_1) ++ ((⟨#[110, 101, 115, 119]⟩ : ByteArray).extract (x32_2 : Int).toNat ((wrap64 (x32_2 + 1)) : Int).toNat)) [.string ((rdOf ByteArray.empty x10_2 x11_1) ++ ((⟨#[110, 101, 115, 119]⟩ : ByteArray).extract (x32_2 : Int).toNat ((wrap64 (x32_2 + 1)) : Int).toNat))] from rfl) (Reps.none _ _)))
                      intro v497 w59 ho60 hb hg_ hnew_
                      have HS3_ := (hb.cell (World.block_lt_of_cell? _ _ (hHeld.2.2.2))).trans (hHeld.2.2.2)
                      clear hg_ hnew_
                      (first | rw [← Ny496.out] at ho60 | (simp only [Int.reduceToNat] at ho60; rw [← Ny496.out] at ho60))
                      have n0_ := Aside0.mk (Kd.qc (by (with_reducible repeat (first | apply Kd.qG | apply Kd.qF | apply Kd.qI)); exact HO_9.out) hb)
                      have n1_ := Aside0.mk (Kd.qqA (by (with_reducible repeat (first | apply Kd.qG | apply Kd.qF | apply Kd.qI)); exact HO_10.out) (Kd.qPB ho60) hb)
                      have n2_ := Aside0.mk (Kd.qqA (by (with_reducible repeat (first | apply Kd.qG | apply Kd.qF | apply Kd.qI)); exact HO_19.out) (Kd.qPB ho60) hb)
                      have n3_ := Aside0.mk (Kd.qc (by (with_reducible repeat (first | apply Kd.qG | apply Kd.qF | apply Kd.qI)); exact HO491.out) hb)
                      have n4_ := Aside0.mk (Kd.qEA (Kd.qOB (Kd.qOB ho60 (Kd.R_lt (by (with_reducible repeat (first | apply Kd.qG | apply Kd.qF | apply Kd.qI)); exact HO_10.out))) (Kd.R_lt (by (with_reducible repeat (first | apply Kd.qG | apply Kd.qF | apply Kd.qI)); exact HO_19.out))) (qf bl))
                      have n5_ := Aside0.mk (bb BK471 hb)
                      have n6_ := Aside0.mk (bb BK487 hb)
                      have n7_ := Aside0.mk (qH bl hb)
                      clear HO_9
                      clear HO_10
                      clear HO_19
                      clear HO491
                      clear BK471
                      clear BK487
                      clear HB
                      have HO_9 := n0_
                      have HO_10 := n1_
                      have HO_19 := n2_
                      have HO491 := n3_
                      have HO498 := n4_
                      have BK471 := n5_
                      have BK487 := n6_
                      have HB := n7_
                      clear n0_ n1_ n2_ n3_ n4_ n5_ n6_ n7_
                      clear hb ho60
                      obtain ⟨Ao62, co62, eo62⟩ := Kd.qr HO491.out
                      (first | subst eo62 | (injection eo62 with f1_ f2_ f3_; have f4_ := f1_.symm; have f5_ := f3_.symm; clear f1_ f2_ f3_; subst f4_; subst f5_))
                      refine hK.out _ _ ⟨(qE BK487.out 0).trans rfl, (qE BK487.out 1).trans rfl, (qE BK487.out 2).trans rfl, HS3_⟩ (fun hHeld => ?_)
                      clear hK K
                      refine norm_ (a' := ?_) ?_ ?_
                      rotate_left
                      ·show Act.put _ (some 67) _ = _
                       simp only [Act.put, List.setIfInBounds_toArray, List.set_cons_zero, List.set_cons_succ, i64_w, i32_w]
                       rfl
                      refine one_ (i := 3) (N := some 56) #[true, true, true, true, true, true, true, true, true, true, true, true, true, true, true, false, false, false] rfl rfl (qCA HT_.out (by kernel_rfl)) (by decide) (fun K hK => ?_)
                      refine qiA k27 (w0 := w) w.heap.size (by rfl) (.tmp 53) (.tmp 55) 50 27 (.agg #[(.int .i64 0), (.int .i64 0), (.int .i64 0)]) 24 rfl Tryd.underlying50 info27 rfl (by decide) (by omega) (.slice (some ad482) x9_2.length co45) x9_2 y489 _ _ _ (fun k_ => some k_ ≠ (.slice Ao62 y489.length co62 : Value).ownBlock ∧ k_ ≠ gb471 ∧ k_ ≠ gb487) (fun _ => False) rfl rfl ?aO ?aR (fun _ _ h => h) (fun _ h => h.elim) ?aF ?aB ?aS ?aL ?_
                      (case aR => repeat (first | exact (Kd.ql HO491.out).2.2 | (with_reducible refine Kd.qMA ?_ _) | (with_reducible refine Kd.qLA ?_ _) | (with_reducible refine Kd.qWA ?_)))
                      (case aB => exact bl)
                      (case aF => exact (fun k_ hk => ⟨Kd.fresh' (Kd.R_lt (by (with_reducible repeat (first | apply Kd.qG | apply Kd.qF | apply Kd.qI)); exact HO491.out)) k_ hk, Kd.freshB (g := gb471) (o := .cells #[.int .i64 a1_0, .int .i64 a1_1, .int .i64 a1_2] 27 (0, 0)) (by (with_reducible repeat (first | refine qB ?_ _ | refine qC ?_ | refine qA ?_ _)); exact BK471.out) k_ hk, Kd.freshB (g := gb487) (o := .cells #[.int .i64 t483, .int .i64 t484, .int .i64 t485] 27 (0, 0)) (by (with_reducible repeat (first | refine qB ?_ _ | refine qC ?_ | refine qA ?_ _)); exact BK487.out) k_ hk⟩))
                      (case aO => exact (by (with_reducible repeat (first | apply Kd.qG | apply Kd.qF | apply Kd.qI)); exact Kd.qg HO_9.out (fun _ hk => ⟨hk.2, ⟨hk.1.1, hk.1.2⟩⟩)))
                      (case aS => exact (qf bl))
                      (case aL => have := LMc36.out; omega)
                      intro v493 w61 ho hb hg hat hkp_
                      have HS3_ := hkp_ _ _ (hHeld.2.2.2) (fun e_ => absurd e_ hnr495_HO_9.out)
                      clear hkp_
                      rw [← Ny492.out] at ho
                      have n0_ := Aside0.mk (Kd.qvA (by (with_reducible repeat (first | apply Kd.qG | apply Kd.qF | apply Kd.qI)); exact HO_10.out) (Kd.quA (by (with_reducible repeat (first | apply Kd.qG | apply Kd.qF | apply Kd.qI)); exact HO_9.out)) (by decide) hg)
                      have n1_ := Aside0.mk (Kd.qvA (by (with_reducible repeat (first | apply Kd.qG | apply Kd.qF | apply Kd.qI)); exact HO_19.out) (Kd.quA (by (with_reducible repeat (first | apply Kd.qG | apply Kd.qF | apply Kd.qI)); exact HO_9.out)) (by decide) hg)
                      have n2_ := Aside0.mk (qFA (g := gb471) (o := .cells #[.int .i64 a1_0, .int .i64 a1_1, .int .i64 a1_2] 27 (0, 0)) (by (with_reducible repeat (first | refine qB ?_ _ | refine qC ?_ | refine qA ?_ _)); exact BK471.out) hg (Kd.qU HO_9.out (fun _ hk => hk.1.1)))
                      have n3_ := Aside0.mk (qFA (g := gb487) (o := .cells #[.int .i64 t483, .int .i64 t484, .int .i64 t485] 27 (0, 0)) (by (with_reducible repeat (first | refine qB ?_ _ | refine qC ?_ | refine qA ?_ _)); exact BK487.out) hg (Kd.qU HO_9.out (fun _ hk => hk.1.2)))
                      have n4_ := Aside0.mk (Kd.qTB (ok := (fun k_ => k_ ≠ gb471 ∧ k_ ≠ gb487)) (by (with_reducible repeat (first | apply Kd.qG | apply Kd.qF | apply Kd.qI)); exact Kd.qg HO491.out (fun _ hk => ⟨⟨hk.1.2, hk.2⟩, hk.1.1.2⟩)) hg hat)
                      have n5_ := Aside0.mk (Kd.qvA (by (with_reducible repeat (first | apply Kd.qG | apply Kd.qF | apply Kd.qI)); exact HO498.out) (Kd.quA (by (with_reducible repeat (first | apply Kd.qG | apply Kd.qF | apply Kd.qI)); exact HO_9.out)) (by decide) hg)
                      have n6_ := Aside0.mk (hb)
                      have n7_ := Aside0.mk (ho)
                      clear HO_10
                      clear HO_19
                      clear BK471
                      clear BK487
                      clear HO491
                      clear HO498
                      clear HB
                      clear HO_9
                      have HO_10 := n0_
                      have HO_19 := n1_
                      have BK471 := n2_
                      have BK487 := n3_
                      have HO491 := n4_
                      have HO498 := n5_
                      have HB := n6_
                      have HO494 := n7_
                      clear n0_ n1_ n2_ n3_ n4_ n5_ n6_ n7_
                      clear ho hb hg hat
                      refine hK.out _ _ ⟨(qE BK487.out 0).trans rfl, (qE BK487.out 1).trans rfl, (qE BK487.out 2).trans rfl, HS3_⟩ (fun hHeld => ?_)
                      clear hK K
                      refine norm_ (a' := ?_) ?_ ?_
                      rotate_left
                      ·show Act.put _ (some 56) _ = _
                       simp only [Act.put, List.setIfInBounds_toArray, List.set_cons_zero, List.set_cons_succ, i64_w, i32_w]
                       rfl
                      exact norm_ (by simp only [putAll, Act.put, List.setIfInBounds_toArray, List.set_cons_zero, List.set_cons_succ]) (hCont (.slice Ao62 y489.length co62, v493, v497) _ ⟨hHeld, (by (with_reducible repeat (first | apply Kd.qG | apply Kd.qF | apply Kd.qI)); exact Kd.qg HO491.out (fun _ hk => ⟨hk.2, ⟨hk.1.1, hk.1.2⟩⟩)), (by (with_reducible repeat (first | apply Kd.qG | apply Kd.qF | apply Kd.qI)); exact HO494.out), (by (with_reducible repeat (first | apply Kd.qG | apply Kd.qF | apply Kd.qI)); exact Kd.qg HO498.out (fun _ hk => ⟨hk.1.2, hk.2⟩)), (by (with_reducible repeat (first | apply Kd.qG | apply Kd.qF | apply Kd.qI)); exact Kd.qg HO_10.out (fun _ hk => ⟨hk.2, hk.1⟩)), (by (with_reducible repeat (first | apply Kd.qG | apply Kd.qF | apply Kd.qI)); exact Kd.qg HO_19.out (fun _ hk => ⟨hk.2, hk.1⟩)), (by (with_reducible repeat (first | refine qB ?_ _ | refine qC ?_ | refine qA ?_ _)); exact BK471.out), (by (with_reducible repeat (first | refine qB ?_ _ | refine qC ?_ | refine qA ?_ _)); exact BK487.out), bl⟩)
                    ·skip
                     refine Kd.qDB Kd.string _ 9 ?hg (N := 67) ?hd (xs := ([(rdOf ByteArray.empty x10_2 x11_1) ++ ((⟨#[110, 101, 115, 119]⟩ : ByteArray).extract (x32_2 : Int).toNat ((wrap64 (x32_2 + 1)) : Int).toNat)] : List ByteArray)) (inner := [.string ((rdOf ByteArray.empty x10_2 x11_1) ++ ((⟨#[110, 101, 115, 119]⟩ : ByteArray).extract (x32_2 : Int).toNat ((wrap64 (x32_2 + 1)) : Int).toNat))]) (ok := fun _ => True) (okp := fun _ => True) ?hr ?hp (fun _ hk => hk) trivial (Below.refl _ _) (Nat.le_refl _) (by simp) ?_; (case hd => rfl); (case hg => rfl); (case hr => first | (go_simp; done) | (go_simp; rfl)); (case hp => exact (Reps.one (show Kd.M Kd.string _ _ _ ((rdOf ByteArray.empty x10_2 x11_1) ++ ((⟨#[110, 101, 115, 119]⟩ : ByteArray).extract (x32_2 : Int).toNat ((wrap64 (x32_2 + 1)) : Int).toNat)) [.string ((rdOf ByteArray.empty x10_2 x11_1) ++ ((⟨#[110, 101, 115, 119]⟩ : ByteArray).extract (x32_2 : Int).toNat ((wrap64 (x32_2 + 1)) : Int).toNat))] from rfl) (Reps.none _ _)))
                     intro v497 w57 ho58 hb hg_ hnew_
                     have HS3_ := (hb.cell (World.block_lt_of_cell? _ _ (hHeld.2.2.2))).trans (hHeld.2.2.2)
                     clear hg_ hnew_
                     (first | rw [← Ny496.out] at ho58 | (simp only [Int.reduceToNat] at ho58; rw [← Ny496.out] at ho58))
                     have n0_ := Aside0.mk (Kd.qc (by (with_reducible repeat (first | apply Kd.qG | apply Kd.qF | apply Kd.qI)); exact HO_9.out) hb)
                     have n1_ := Aside0.mk (Kd.qqA (by (with_reducible repeat (first | apply Kd.qG | apply Kd.qF | apply Kd.qI)); exact HO_10.out) (Kd.qPB ho58) hb)
                     have n2_ := Aside0.mk (Kd.qqA (by (with_reducible repeat (first | apply Kd.qG | apply Kd.qF | apply Kd.qI)); exact HO_19.out) (Kd.qPB ho58) hb)
                     have n3_ := Aside0.mk (Kd.qEA (Kd.qOB (Kd.qOB ho58 (Kd.R_lt (by (with_reducible repeat (first | apply Kd.qG | apply Kd.qF | apply Kd.qI)); exact HO_10.out))) (Kd.R_lt (by (with_reducible repeat (first | apply Kd.qG | apply Kd.qF | apply Kd.qI)); exact HO_19.out))) (qf bl))
                     have n4_ := Aside0.mk (bb BK471 hb)
                     have n5_ := Aside0.mk (bb BK487 hb)
                     have n6_ := Aside0.mk (qH bl hb)
                     clear HO_9
                     clear HO_10
                     clear HO_19
                     clear BK471
                     clear BK487
                     clear HB
                     have HO_9 := n0_
                     have HO_10 := n1_
                     have HO_19 := n2_
                     have HO498 := n3_
                     have BK471 := n4_
                     have BK487 := n5_
                     have HB := n6_
                     clear n0_ n1_ n2_ n3_ n4_ n5_ n6_
                     clear hb ho58
                     refine hK.out _ _ ⟨(qE BK487.out 0).trans rfl, (qE BK487.out 1).trans rfl, (qE BK487.out 2).trans rfl, HS3_⟩ (fun hHeld => ?_)
                     clear hK K
                     refine norm_ (a' := ?_) ?_ ?_
                     rotate_left
                     ·show Act.put _ (some 67) _ = _
                      simp only [Act.put, List.setIfInBounds_toArray, List.set_cons_zero, List.set_cons_succ, i64_w, i32_w]
                      rfl
                     refine one_ (i := 2) (N := some 55) #[true, true, true, false, true, true, true, true, true, true, true, true, true, true, true, false, false, false] rfl rfl (qCA HT_.out (by kernel_rfl)) (by decide) (fun K hK => ?_)
                     refine Kd.qDB k27 _ 27 ?hg (N := 55) ?hd (xs := ([(⟨t483, t484, t485⟩ : S27)] : List (S27))) (inner := [.int .i64 t483, .int .i64 t484, .int .i64 t485]) (ok := fun _ => True) (okp := fun _ => True) ?hr ?hp (fun _ hk => hk) trivial (Below.refl _ _) (Nat.le_refl _) (by simp) ?_; (case hd => rfl); (case hg => rfl); (case hr => first | (go_simp; done) | (go_simp; rfl)); (case hp => exact (Reps.c3 (show Kd.M k27 _ _ _ (⟨t483, t484, t485⟩ : S27) [.int .i64 t483, .int .i64 t484, .int .i64 t485] from (qoB _ _ _ (⟨t483, t484, t485⟩ : S27) )) (Reps.none _ _)))
                     intro v490 w59 ho60 hb hg_ hnew_
                     have HS3_ := (hb.cell (World.block_lt_of_cell? _ _ (hHeld.2.2.2))).trans (hHeld.2.2.2)
                     clear hg_ hnew_
                     (first | rw [← Ny489.out] at ho60 | (simp only [Int.reduceToNat] at ho60; rw [← Ny489.out] at ho60))
                     have n0_ := Aside0.mk (Kd.qqA (by (with_reducible repeat (first | apply Kd.qG | apply Kd.qF | apply Kd.qI)); exact HO_9.out) (Kd.qPB ho60) hb)
                     have n1_ := Aside0.mk (Kd.qc (by (with_reducible repeat (first | apply Kd.qG | apply Kd.qF | apply Kd.qI)); exact HO_10.out) hb)
                     have n2_ := Aside0.mk (Kd.qc (by (with_reducible repeat (first | apply Kd.qG | apply Kd.qF | apply Kd.qI)); exact HO_19.out) hb)
                     have n3_ := Aside0.mk (Kd.qc (by (with_reducible repeat (first | apply Kd.qG | apply Kd.qF | apply Kd.qI)); exact HO498.out) hb)
                     have n4_ := Aside0.mk (Kd.qEA (Kd.qbB (Kd.qbB (Kd.qOB ho60 (Kd.R_lt (by (with_reducible repeat (first | apply Kd.qG | apply Kd.qF | apply Kd.qI)); exact HO_9.out))) (g := gb471) (o := .cells #[.int .i64 a1_0, .int .i64 a1_1, .int .i64 a1_2] 27 (0, 0)) (by (with_reducible repeat (first | refine qB ?_ _ | refine qC ?_ | refine qA ?_ _)); exact BK471.out)) (g := gb487) (o := .cells #[.int .i64 t483, .int .i64 t484, .int .i64 t485] 27 (0, 0)) (by (with_reducible repeat (first | refine qB ?_ _ | refine qC ?_ | refine qA ?_ _)); exact BK487.out)) (qf bl))
                     have n5_ := Aside0.mk (bb BK471 hb)
                     have n6_ := Aside0.mk (bb BK487 hb)
                     have n7_ := Aside0.mk (qH bl hb)
                     clear HO_9
                     clear HO_10
                     clear HO_19
                     clear HO498
                     clear BK471
                     clear BK487
                     clear HB
                     have HO_9 := n0_
                     have HO_10 := n1_
                     have HO_19 := n2_
                     have HO498 := n3_
                     have HO491 := n4_
                     have BK471 := n5_
                     have BK487 := n6_
                     have HB := n7_
                     clear n0_ n1_ n2_ n3_ n4_ n5_ n6_ n7_
                     clear hb ho60
                     obtain ⟨Ao62, co62, eo62⟩ := Kd.qr HO491.out
                     (first | subst eo62 | (injection eo62 with f1_ f2_ f3_; have f4_ := f1_.symm; have f5_ := f3_.symm; clear f1_ f2_ f3_; subst f4_; subst f5_))
                     refine hK.out _ _ ⟨(qE BK487.out 0).trans rfl, (qE BK487.out 1).trans rfl, (qE BK487.out 2).trans rfl, HS3_⟩ (fun hHeld => ?_)
                     clear hK K
                     refine norm_ (a' := ?_) ?_ ?_
                     rotate_left
                     ·show Act.put _ (some 55) _ = _
                      simp only [Act.put, List.setIfInBounds_toArray, List.set_cons_zero, List.set_cons_succ, i64_w, i32_w]
                      rfl
                     refine one_ (i := 3) (N := some 56) #[true, true, true, true, true, true, true, true, true, true, true, true, true, true, true, false, false, false] rfl rfl (qCA HT_.out (by kernel_rfl)) (by decide) (fun K hK => ?_)
                     refine qiA k27 (w0 := w) w.heap.size (by rfl) (.tmp 53) (.tmp 55) 50 27 (.agg #[(.int .i64 0), (.int .i64 0), (.int .i64 0)]) 24 rfl Tryd.underlying50 info27 rfl (by decide) (by omega) (.slice (some ad482) x9_2.length co45) x9_2 y489 _ _ _ (fun k_ => some k_ ≠ (.slice Ao62 y489.length co62 : Value).ownBlock ∧ k_ ≠ gb471 ∧ k_ ≠ gb487) (fun _ => False) rfl rfl ?aO ?aR (fun _ _ h => h) (fun _ h => h.elim) ?aF ?aB ?aS ?aL ?_
                     (case aR => repeat (first | exact (Kd.ql HO491.out).2.2 | (with_reducible refine Kd.qMA ?_ _) | (with_reducible refine Kd.qLA ?_ _) | (with_reducible refine Kd.qWA ?_)))
                     (case aB => exact bl)
                     (case aF => exact (fun k_ hk => ⟨Kd.fresh' (Kd.R_lt (by (with_reducible repeat (first | apply Kd.qG | apply Kd.qF | apply Kd.qI)); exact HO491.out)) k_ hk, Kd.freshB (g := gb471) (o := .cells #[.int .i64 a1_0, .int .i64 a1_1, .int .i64 a1_2] 27 (0, 0)) (by (with_reducible repeat (first | refine qB ?_ _ | refine qC ?_ | refine qA ?_ _)); exact BK471.out) k_ hk, Kd.freshB (g := gb487) (o := .cells #[.int .i64 t483, .int .i64 t484, .int .i64 t485] 27 (0, 0)) (by (with_reducible repeat (first | refine qB ?_ _ | refine qC ?_ | refine qA ?_ _)); exact BK487.out) k_ hk⟩))
                     (case aO => exact (by (with_reducible repeat (first | apply Kd.qG | apply Kd.qF | apply Kd.qI)); exact Kd.qg HO_9.out (fun _ hk => ⟨hk.2, ⟨hk.1.1, hk.1.2⟩⟩)))
                     (case aS => exact (qf bl))
                     (case aL => have := LMc36.out; omega)
                     intro v493 w61 ho hb hg hat hkp_
                     have HS3_ := hkp_ _ _ (hHeld.2.2.2) (fun e_ => absurd e_ hnr495_HO_9.out)
                     clear hkp_
                     rw [← Ny492.out] at ho
                     have n0_ := Aside0.mk (Kd.qvA (by (with_reducible repeat (first | apply Kd.qG | apply Kd.qF | apply Kd.qI)); exact HO_10.out) (Kd.quA (by (with_reducible repeat (first | apply Kd.qG | apply Kd.qF | apply Kd.qI)); exact HO_9.out)) (by decide) hg)
                     have n1_ := Aside0.mk (Kd.qvA (by (with_reducible repeat (first | apply Kd.qG | apply Kd.qF | apply Kd.qI)); exact HO_19.out) (Kd.quA (by (with_reducible repeat (first | apply Kd.qG | apply Kd.qF | apply Kd.qI)); exact HO_9.out)) (by decide) hg)
                     have n2_ := Aside0.mk (qFA (g := gb471) (o := .cells #[.int .i64 a1_0, .int .i64 a1_1, .int .i64 a1_2] 27 (0, 0)) (by (with_reducible repeat (first | refine qB ?_ _ | refine qC ?_ | refine qA ?_ _)); exact BK471.out) hg (Kd.qU HO_9.out (fun _ hk => hk.1.1)))
                     have n3_ := Aside0.mk (qFA (g := gb487) (o := .cells #[.int .i64 t483, .int .i64 t484, .int .i64 t485] 27 (0, 0)) (by (with_reducible repeat (first | refine qB ?_ _ | refine qC ?_ | refine qA ?_ _)); exact BK487.out) hg (Kd.qU HO_9.out (fun _ hk => hk.1.2)))
                     have n4_ := Aside0.mk (Kd.qvA (by (with_reducible repeat (first | apply Kd.qG | apply Kd.qF | apply Kd.qI)); exact HO498.out) (Kd.quA (by (with_reducible repeat (first | apply Kd.qG | apply Kd.qF | apply Kd.qI)); exact HO_9.out)) (by decide) hg)
                     have n5_ := Aside0.mk (Kd.qTB (ok := (fun k_ => k_ ≠ gb471 ∧ k_ ≠ gb487)) (by (with_reducible repeat (first | apply Kd.qG | apply Kd.qF | apply Kd.qI)); exact Kd.qg HO491.out (fun _ hk => ⟨⟨hk.1.2, hk.2⟩, hk.1.1.2⟩)) hg hat)
                     have n6_ := Aside0.mk (hb)
                     have n7_ := Aside0.mk (ho)
                     clear HO_10
                     clear HO_19
                     clear BK471
                     clear BK487
                     clear HO498
                     clear HO491
                     clear HB
                     clear HO_9
                     have HO_10 := n0_
                     have HO_19 := n1_
                     have BK471 := n2_
                     have BK487 := n3_
                     have HO498 := n4_
                     have HO491 := n5_
                     have HB := n6_
                     have HO494 := n7_
                     clear n0_ n1_ n2_ n3_ n4_ n5_ n6_ n7_
                     clear ho hb hg hat
                     refine hK.out _ _ ⟨(qE BK487.out 0).trans rfl, (qE BK487.out 1).trans rfl, (qE BK487.out 2).trans rfl, HS3_⟩ (fun hHeld => ?_)
                     clear hK K
                     refine norm_ (a' := ?_) ?_ ?_
                     rotate_left
                     ·show Act.put _ (some 56) _ = _
                      simp only [Act.put, List.setIfInBounds_toArray, List.set_cons_zero, List.set_cons_succ, i64_w, i32_w]
                      rfl
                     exact norm_ (by simp only [putAll, Act.put, List.setIfInBounds_toArray, List.set_cons_zero, List.set_cons_succ]) (hCont (.slice Ao62 y489.length co62, v493, v497) _ ⟨hHeld, (by (with_reducible repeat (first | apply Kd.qG | apply Kd.qF | apply Kd.qI)); exact Kd.qg HO491.out (fun _ hk => ⟨hk.2, ⟨hk.1.1, hk.1.2⟩⟩)), (by (with_reducible repeat (first | apply Kd.qG | apply Kd.qF | apply Kd.qI)); exact HO494.out), (by (with_reducible repeat (first | apply Kd.qG | apply Kd.qF | apply Kd.qI)); exact Kd.qg HO498.out (fun _ hk => ⟨hk.1.2, hk.2⟩)), (by (with_reducible repeat (first | apply Kd.qG | apply Kd.qF | apply Kd.qI)); exact Kd.qg HO_10.out (fun _ hk => ⟨hk.2, hk.1⟩)), (by (with_reducible repeat (first | apply Kd.qG | apply Kd.qF | apply Kd.qI)); exact Kd.qg HO_19.out (fun _ hk => ⟨hk.2, hk.1⟩)), (by (with_reducible repeat (first | refine qB ?_ _ | refine qC ?_ | refine qA ?_ _)); exact BK471.out), (by (with_reducible repeat (first | refine qB ?_ _ | refine qC ?_ | refine qA ?_ _)); exact BK487.out), bl⟩)
                   rintro ⟨v490, v493, v497⟩ w63 ⟨hS_, h0_, h1_, h2_, h3_, h4_, h5_, h6_, h7_⟩
                   have n0_ : Aside0 (Kd.R k27 27 w63 w.heap.size (fun k_ => some k_ ≠ (v493 : Value).ownBlock ∧ k_ ≠ gb471 ∧ k_ ≠ gb487) v490 y489) := ⟨h0_⟩
                   have n1_ : Aside0 (Kd.R k27 27 w63 w.heap.size (fun k_ => some k_ ≠ (v490 : Value).ownBlock ∧ k_ ≠ gb471 ∧ k_ ≠ gb487) v493 y492) := ⟨h1_⟩
                   have n2_ : Aside0 (Kd.R Kd.string 9 w63 w.heap.size (fun k_ => some k_ ≠ (.slice (some ad495) x10_2.length co55 : Value).ownBlock ∧ some k_ ≠ (.slice Ao43 t472.length co43 : Value).ownBlock) v497 y496) := ⟨h2_⟩
                   have n3_ : Aside0 (Kd.R Kd.string 9 w63 w.heap.size (fun k_ => some k_ ≠ (v497 : Value).ownBlock ∧ some k_ ≠ (.slice Ao43 t472.length co43 : Value).ownBlock) (.slice (some ad495) x10_2.length co55) x10_2) := ⟨h3_⟩
                   have n4_ : Aside0 (Kd.R Kd.string 9 w63 w.heap.size (fun k_ => some k_ ≠ (v497 : Value).ownBlock ∧ some k_ ≠ (.slice (some ad495) x10_2.length co55 : Value).ownBlock) (.slice Ao43 t472.length co43) t472) := ⟨h4_⟩
                   have n5_ : Aside0 (w63.heap[gb471]? = some (.cells #[.int .i64 a1_0, .int .i64 a1_1, .int .i64 a1_2] 27 (0, 0))) := ⟨h5_⟩
                   have n6_ : Aside0 (w63.heap[gb487]? = some (.cells #[.int .i64 t483, .int .i64 t484, .int .i64 t485] 27 (0, 0))) := ⟨h6_⟩
                   have n7_ : Aside0 (Below w.heap.size w w63) := ⟨h7_⟩
                   clear HO_9
                   clear HO_10
                   clear HO_19
                   clear BK471
                   clear BK487
                   clear HB
                   clear h0_ h1_ h2_ h3_ h4_ h5_ h6_ h7_
                   have HO491 := n0_
                   have HO494 := n1_
                   have HO498 := n2_
                   have HO_10 := n3_
                   have HO_19 := n4_
                   have BK471 := n5_
                   have BK487 := n6_
                   have HB := n7_
                   clear n0_ n1_ n2_ n3_ n4_ n5_ n6_ n7_
                   have hHeld : w63.cell? ⟨gb487, 0, none⟩ = some (.int .i64 t483) ∧ w63.cell? ⟨gb487, 1, none⟩ = some (.int .i64 t484) ∧ w63.cell? ⟨gb487, 2, none⟩ = some (.int .i64 t485) ∧ w63.cell? (ad495.add (x11_1).toNat) = some (.string (rdOf ByteArray.empty x10_2 x11_1)) := hS_
                   obtain ⟨Ao65, co65, eo65⟩ := Kd.qr HO498.out
                   (first | subst eo65 | (injection eo65 with f1_ f2_ f3_; have f4_ := f1_.symm; have f5_ := f3_.symm; clear f1_ f2_ f3_; subst f4_; subst f5_))
                   refine norm_ (a' := ?_) ?_ ?_
                   rotate_left
                   ·simp only [putAll, Act.put, List.setIfInBounds_toArray, List.set_cons_zero, List.set_cons_succ]
                    rfl
                   refine one_ (i := 15) (N := some 68) #[true, true, true, true, true, true, true, true, true, true, true, true, true, true, true, true, false, false] rfl rfl (qCA HT_.out (by kernel_rfl)) (by decide) (fun K hK => ?_)
                   refine qiA Kd.string (w0 := w) w.heap.size (by rfl) (.tmp 57) (.tmp 67) 60 9 (.string ⟨#[]⟩) 16 rfl Tryd.underlying60 info9 rfl (by decide) (by omega) (.slice (some ad495) x10_2.length co55) x10_2 y496 _ _ _ (fun k_ => some k_ ≠ (.slice Ao43 t472.length co43 : Value).ownBlock ∧ some k_ ≠ (.slice Ao65 y496.length co65 : Value).ownBlock) (fun _ => False) rfl rfl ?aO ?aR (fun _ _ h => h) (fun _ h => h.elim) ?aF ?aB ?aS ?aL ?_
                   (case aR => repeat (first | exact (Kd.ql HO498.out).2.2 | (with_reducible refine Kd.qMA ?_ _) | (with_reducible refine Kd.qLA ?_ _) | (with_reducible refine Kd.qWA ?_)))
                   (case aB => exact bl)
                   (case aF => exact (fun k_ hk => ⟨Kd.fresh' (Kd.R_lt (by (with_reducible repeat (first | apply Kd.qG | apply Kd.qF | apply Kd.qI)); exact HO_19.out)) k_ hk, Kd.fresh' (Kd.R_lt (by (with_reducible repeat (first | apply Kd.qG | apply Kd.qF | apply Kd.qI)); exact HO498.out)) k_ hk⟩))
                   (case aO => exact (by (with_reducible repeat (first | apply Kd.qG | apply Kd.qF | apply Kd.qI)); exact Kd.qg HO_10.out (fun _ hk => ⟨hk.2, hk.1⟩)))
                   (case aS => exact (qf bl))
                   (case aL => have := LMc42.out; omega)
                   intro v500 w64 ho hb hg hat hkp_
                   have HS3_ := hkp_ _ _ (hHeld.2.2.2) (fun _ => hof495.out)
                   clear hkp_
                   rw [← Ny499.out] at ho
                   have n0_ := Aside0.mk (Kd.qTB (ok := (fun k_ => some k_ ≠ (.slice Ao65 y496.length co65 : Value).ownBlock)) (by (with_reducible repeat (first | apply Kd.qG | apply Kd.qF | apply Kd.qI)); exact HO_19.out) hg hat)
                   have n1_ := Aside0.mk (qFA (g := gb471) (o := .cells #[.int .i64 a1_0, .int .i64 a1_1, .int .i64 a1_2] 27 (0, 0)) (by (with_reducible repeat (first | refine qB ?_ _ | refine qC ?_ | refine qA ?_ _)); exact BK471.out) hg (Kd.R_ne HO_10.out BK471.out (by decide)))
                   have n2_ := Aside0.mk (qFA (g := gb487) (o := .cells #[.int .i64 t483, .int .i64 t484, .int .i64 t485] 27 (0, 0)) (by (with_reducible repeat (first | refine qB ?_ _ | refine qC ?_ | refine qA ?_ _)); exact BK487.out) hg (Kd.R_ne HO_10.out BK487.out (by decide)))
                   have n3_ := Aside0.mk (Kd.qvA (by (with_reducible repeat (first | apply Kd.qG | apply Kd.qF | apply Kd.qI)); exact HO491.out) (Kd.quA (by (with_reducible repeat (first | apply Kd.qG | apply Kd.qF | apply Kd.qI)); exact HO_10.out)) (by decide) hg)
                   have n4_ := Aside0.mk (Kd.qvA (by (with_reducible repeat (first | apply Kd.qG | apply Kd.qF | apply Kd.qI)); exact HO494.out) (Kd.quA (by (with_reducible repeat (first | apply Kd.qG | apply Kd.qF | apply Kd.qI)); exact HO_10.out)) (by decide) hg)
                   have n5_ := Aside0.mk (Kd.qTB (ok := (fun k_ => some k_ ≠ (.slice Ao43 t472.length co43 : Value).ownBlock)) (by (with_reducible repeat (first | apply Kd.qG | apply Kd.qF | apply Kd.qI)); exact Kd.qg HO498.out (fun _ hk => ⟨hk.2, hk.1⟩)) hg hat)
                   have n6_ := Aside0.mk (hb)
                   have n7_ := Aside0.mk (ho)
                   clear HO_19
                   clear BK471
                   clear BK487
                   clear HO491
                   clear HO494
                   clear HO498
                   clear HB
                   clear HO_10
                   have HO_19 := n0_
                   have BK471 := n1_
                   have BK487 := n2_
                   have HO491 := n3_
                   have HO494 := n4_
                   have HO498 := n5_
                   have HB := n6_
                   have HO501 := n7_
                   clear n0_ n1_ n2_ n3_ n4_ n5_ n6_ n7_
                   clear ho hb hg hat
                   refine hK.out _ _ ⟨(qE BK487.out 0).trans rfl, (qE BK487.out 1).trans rfl, (qE BK487.out 2).trans rfl, HS3_⟩ (fun hHeld => ?_)
                   clear hK K
                   refine norm_ (a' := ?_) ?_ ?_
                   rotate_left
                   ·show Act.put _ (some 68) _ = _
                    simp only [Act.put, List.setIfInBounds_toArray, List.set_cons_zero, List.set_cons_succ, i64_w, i32_w]
                    rfl
                   refine pS (i := 16) (N := some 9) #[true, true, true, true, true, true, true, true, true, true, true, true, true, true, true, true, true, false] HT_ ?_
                   refine pS (i := 17) (N := some 10) #[true, true, true, true, true, true, true, true, true, true, true, true, true, true, true, true, true, true] HT_ ?_
                   refine done_ (qbA HT_.out (by kernel_rfl)) ?_
                   try go_wp2
                   go_roundg k2
                   case measure => have := HK1.out; have := HK2.out; omega
                   case rel => exact ⟨(y492), (y499), (wrap64 (x32_2 + 1)), (by first | rfl | (simp; done) | (simp [*]; done)), H', ⟨by have := HK1.out; have := HK2.out; omega⟩, ⟨by (with_reducible repeat (first | apply Kd.qG | apply Kd.qF | apply Kd.qI)); exact Kd.qg HO494.out (fun _ hk => hk.2.1)⟩, ⟨by (with_reducible repeat (first | apply Kd.qG | apply Kd.qF | apply Kd.qI)); exact Kd.qg HO501.out (fun _ hk => hk.1)⟩, ⟨by (with_reducible repeat (first | apply Kd.qG | apply Kd.qF | apply Kd.qI)); exact Kd.qg HO_19.out (fun _ hk => hk.2)⟩, ⟨by (with_reducible repeat (first | refine qB ?_ _ | refine qC ?_ | refine qA ?_ _)); exact BK471.out⟩, ⟨bl⟩⟩
                  ·rw [if_neg c42] at H
                   exact absurd H (by simp)
                 ·rw [if_neg c41] at H
                  exact absurd H (by simp)
                ·rw [if_neg c40] at H
                 exact absurd H (by simp)
               ·rw [if_neg c39] at H
                exact absurd H (by simp)
              ·rw [if_neg c37] at H
               exact absurd H (by simp)
             ·rw [if_neg c36] at H
              exact absurd H (by simp)
           ·replace c21 := Bool.eq_false_iff.mpr c21
            subst c21
            have H1 : (qO.l1 k2 x9_2 x10_2 x11_1 t472 (wrap64 (x32_2 + 1))) = some (r1, r2, r3) := by rw [if_neg (show ¬ (false = true) by decide)] at H; exact H
            clear H
            have H := H1
            clear H1
            have H' := Aside0.mk H
            clear H
            obtain ⟨Ao66, co66, eo66⟩ := Kd.qr HO_19.out
            subst eo66
            try go_wp2
            have n0_ := Aside0.mk (Kd.qI HO_9.out)
            have n1_ := Aside0.mk (Kd.qI HO_10.out)
            have n2_ := Aside0.mk (Kd.qI HO_19.out)
            have n3_ := Aside0.mk (qC BK471.out)
            have n4_ := Aside0.mk (qi HB.out)
            clear HO_9
            clear HO_10
            clear HO_19
            clear BK471
            clear HB
            have HO_9 := n0_
            have HO_10 := n1_
            have HO_19 := n2_
            have BK471 := n3_
            have HB := n4_
            clear n0_ n1_ n2_ n3_ n4_
            obtain ⟨Ao68, co68, eo68⟩ := Kd.qr HO_9.out
            (first | subst eo68 | (injection eo68 with f1_ f2_ f3_; have f4_ := f1_.symm; have f5_ := f3_.symm; clear f1_ f2_ f3_; subst f4_; subst f5_))
            have p482 : 0 ≤ (x11_1 : Int) := of_decide_eq_true (by first | (with_reducible assumption) | assumption)
            have q482 : x11_1 < (x9_2.length : Int) := of_decide_eq_true (by first | (with_reducible assumption) | assumption)
            obtain ⟨ad482, e482, hx482_0, hx482_1, hx482_2⟩ := qCB (Kd.ql HO_9.out).2.2 x11_1 p482 q482
            cases e482
            replace p482 := eq_true p482
            replace q482 := eq_true q482
            have p19 : 0 ≤ (x32_2 : Int) := of_decide_eq_true (by first | (with_reducible assumption) | assumption)
            have q19 : x32_2 < (4 : Int) := of_decide_eq_true (by first | (with_reducible assumption) | assumption)
            have hx19 := bt_at (⟨#[110, 101, 115, 119]⟩ : ByteArray) x32_2
            replace p19 := eq_true p19
            replace q19 := eq_true q19
            refine qmA (n := 14) (S := fun w' => w'.cell? (ad482.add ((x11_1).toNat * 3)) = some (.int .i64 ((qQ x9_2 x11_1).f0)) ∧ w'.cell? ⟨(ad482.add ((x11_1).toNat * 3)).block, (ad482.add ((x11_1).toNat * 3)).off + 1, none⟩ = some (.int .i64 ((qQ x9_2 x11_1).f1)) ∧ w'.cell? ⟨(ad482.add ((x11_1).toNat * 3)).block, (ad482.add ((x11_1).toNat * 3)).off + 2, none⟩ = some (.int .i64 ((qQ x9_2 x11_1).f2))) (ds := []) #[false, false, false, false, false, false, false, false, false, false, false, false, false, false] (by kernel_rfl) rfl rfl ⟨hx482_0, hx482_1, hx482_2⟩ (fun hHeld => ?_); refine qNA qO.tab11 qO.bits11 (fun HT_ HW_ => ?_)
            generalize wr.drew = w67 at HO_9 HO_10 HO_19 BK471 HB hx482_0 hx482_1 hx482_2 hHeld ⊢
            refine pS (i := 0) (N := some 36) #[true, false, false, false, false, false, false, false, false, false, false, false, false, false] HT_ ?_
            refine pS (i := 1) (N := some 37) #[true, true, false, false, false, false, false, false, false, false, false, false, false, false] HT_ ?_
            refine pS (i := 2) (N := some 38) #[true, true, true, false, false, false, false, false, false, false, false, false, false, false] HT_ ?_
            refine pS (i := 3) (N := some 39) #[true, true, true, true, false, false, false, false, false, false, false, false, false, false] HT_ ?_
            refine pS (i := 5) (N := some 41) #[true, true, true, true, false, true, false, false, false, false, false, false, false, false] HT_ ?_
            refine tS (i := 4) (N := some 40) #[true, true, true, true, true, true, false, false, false, false, false, false, false, false] HT_ HW_ hHeld ?_
            refine tS (i := 6) (N := some 42) #[true, true, true, true, true, true, true, false, false, false, false, false, false, false] HT_ HW_ hHeld ?_
            refine join_ (σ := Nat) 2 #[true, true, true, true, true, true, true, true, true, true, true, true, false, false] (fun s_ => [(43, .tuple #[.agg #[.int .i64 t483, .int .i64 t484, .int .i64 t485], .bool false]), (13, .pointer (some ⟨s_, 0, none⟩)), (35, .tuple #[.agg #[.int .i64 t483, .int .i64 t484, .int .i64 t485], .bool false]), (44, .agg #[.int .i64 t483, .int .i64 t484, .int .i64 t485]), (45, .bool false)]) (fun s_ w' => (w'.cell? (ad482.add ((x11_1).toNat * 3)) = some (.int .i64 ((qQ x9_2 x11_1).f0)) ∧ w'.cell? ⟨(ad482.add ((x11_1).toNat * 3)).block, (ad482.add ((x11_1).toNat * 3)).off + 1, none⟩ = some (.int .i64 ((qQ x9_2 x11_1).f1)) ∧ w'.cell? ⟨(ad482.add ((x11_1).toNat * 3)).block, (ad482.add ((x11_1).toNat * 3)).off + 2, none⟩ = some (.int .i64 ((qQ x9_2 x11_1).f2))) ∧ (Kd.R Kd.string 9 w' w.heap.size (fun k_ => some k_ ≠ (.slice Ao66 t472.length co66 : Value).ownBlock) u10 x10_2) ∧ (Kd.R Kd.string 9 w' w.heap.size (fun k_ => some k_ ≠ (u10 : Value).ownBlock) (.slice Ao66 t472.length co66) t472) ∧ (Kd.R k27 27 w' w.heap.size (fun k_ => k_ ≠ gb471 ∧ k_ ≠ s_) (.slice (some ad482) x9_2.length co68) x9_2) ∧ (w'.heap[gb471]? = some (.cells #[.int .i64 a1_0, .int .i64 a1_1, .int .i64 a1_2] 27 (0, 0))) ∧ (w'.heap[s_]? = some (.cells #[.int .i64 0, .int .i64 0, .int .i64 0] 27 (0, 0))) ∧ (w.heap.size ≤ s_) ∧ (w.heap.size ≤ s_) ∧ (gb471 ≠ s_) ∧ (s_ ≠ gb471) ∧ (Below w.heap.size w w')) ?_ ?_
            rotate_left
            ·intro hCont
             refine two_ (i := 7) (j := 11) (Ni := some 43) (Nj := some 13) #[true, true, true, true, true, true, true, true, false, false, false, false, false, false] #[true, true, true, true, true, true, true, false, false, false, false, true, false, false] rfl rfl rfl rfl (qkB HT_.out (by kernel_rfl)) (by decide) (by decide) (fun K hK => ?_) (fun K hK => ?_)
             ·skip
              refine goes_ Tryd.func62 (by kernel_rfl) rfl #[.slice Ao66 t472.length co66, .agg #[.int .i64 ((qQ x9_2 x11_1).f0), .int .i64 ((qQ x9_2 x11_1).f1), .int .i64 ((qQ x9_2 x11_1).f2)], .int .u8 (bt (⟨#[110, 101, 115, 119]⟩ : ByteArray) x32_2)] (by rfl) rfl rfl (by (try simp only [List.map_toArray, List.map_cons, List.map_nil]); first | done | rfl | (simp only [List.length_drop, List.length_take]; rfl)) ?_
              with_reducible refine (qBA.calls k2 _ _ t472 ((qQ x9_2 x11_1).f0) ((qQ x9_2 x11_1).f1) ((qQ x9_2 x11_1).f2) (bt (⟨#[110, 101, 115, 119]⟩ : ByteArray) x32_2) t483 t484 t485 false _ ?side1 ?side2 A20.out).mono ?_
              (case side1 => repeat (first | exact (Kd.ql HO_19.out).2.2 | (with_reducible refine Kd.qMA ?_ _) | (with_reducible refine Kd.qLA ?_ _) | (with_reducible refine Kd.qWA ?_)))
              (case side2 => exact (Kd.ql HO_19.out).2.1)
              rintro e w69 ⟨rfl, hb⟩
              have HS0_ := (hb.cell (World.block_lt_of_cell? _ _ (hHeld.1))).trans (hHeld.1)
              have HS1_ := (hb.cell (World.block_lt_of_cell? _ _ (hHeld.2.1))).trans (hHeld.2.1)
              have HS2_ := (hb.cell (World.block_lt_of_cell? _ _ (hHeld.2.2))).trans (hHeld.2.2)
              refine ⟨_, rfl, ?_⟩
              have n0_ := Aside0.mk (Kd.qc (by (with_reducible repeat (first | apply Kd.qG | apply Kd.qF | apply Kd.qI)); exact HO_9.out) hb)
              have n1_ := Aside0.mk (Kd.qc (by (with_reducible repeat (first | apply Kd.qG | apply Kd.qF | apply Kd.qI)); exact HO_10.out) hb)
              have n2_ := Aside0.mk (Kd.qc (by (with_reducible repeat (first | apply Kd.qG | apply Kd.qF | apply Kd.qI)); exact HO_19.out) hb)
              have n3_ := Aside0.mk (bb BK471 hb)
              have n4_ := Aside0.mk (qH bl hb)
              clear HO_9
              clear HO_10
              clear HO_19
              clear BK471
              clear HB
              have HO_9 := n0_
              have HO_10 := n1_
              have HO_19 := n2_
              have BK471 := n3_
              have HB := n4_
              clear n0_ n1_ n2_ n3_ n4_
              (try clear hb)
              (try clear hb2)
              (try clear hk)
              (try clear hi)
              refine hK.out _ _ ⟨HS0_, HS1_, HS2_⟩ (fun hHeld => ?_)
              clear hK K
              refine norm_ (a' := ?_) ?_ ?_
              rotate_left
              ·show Act.put _ (some 43) _ = _
               simp only [Act.put, List.setIfInBounds_toArray, List.set_cons_zero, List.set_cons_succ, i64_w, i32_w]
               rfl
              refine pS (i := 8) (N := some 35) #[true, true, true, true, true, true, true, true, true, false, false, false, false, false] HT_ ?_
              refine pS (i := 9) (N := some 44) #[true, true, true, true, true, true, true, true, true, true, false, false, false, false] HT_ ?_
              refine pS (i := 10) (N := some 45) #[true, true, true, true, true, true, true, true, true, true, true, false, false, false] HT_ ?_
              refine one_ (i := 11) (N := some 13) #[true, true, true, true, true, true, true, true, true, true, true, true, false, false] rfl rfl (qCA HT_.out (by kernel_rfl)) (by decide) (fun K hK => ?_)
              refine qsA ?hg (N := 13) ?hd (cs := #[.int .i64 0, .int .i64 0, .int .i64 0]) (t := 27) ?hr ?_; (case hd => rfl); (case hg => rfl); (case hr => first | (go_simp; done) | (go_simp; rfl))
              intro gb487 hg w70 hbox hb
              have HS0_ := (hb.cell (World.block_lt_of_cell? _ _ (hHeld.1))).trans (hHeld.1)
              have HS1_ := (hb.cell (World.block_lt_of_cell? _ _ (hHeld.2.1))).trans (hHeld.2.1)
              have HS2_ := (hb.cell (World.block_lt_of_cell? _ _ (hHeld.2.2))).trans (hHeld.2.2)
              have n0_ := Aside0.mk (Kd.qc (Kd.qSA (by (with_reducible repeat (first | apply Kd.qG | apply Kd.qF | apply Kd.qI)); exact HO_9.out) gb487 (Nat.le_of_eq hg.symm)) hb)
              have n1_ := Aside0.mk (Kd.qc (by (with_reducible repeat (first | apply Kd.qG | apply Kd.qF | apply Kd.qI)); exact HO_10.out) hb)
              have n2_ := Aside0.mk (Kd.qc (by (with_reducible repeat (first | apply Kd.qG | apply Kd.qF | apply Kd.qI)); exact HO_19.out) hb)
              have n3_ := Aside0.mk (bb BK471 hb)
              have n4_ := Aside0.mk (qH bl hb)
              have n5_ := Aside0.mk (hbox)
              have n6_ := Aside0.mk ((gg hg))
              have n7_ := Aside0.mk ((gg hg))
              have n8_ := Aside0.mk ((nl BK471 hg))
              have n9_ := Aside0.mk ((nr BK471 hg))
              clear HO_9
              clear HO_10
              clear HO_19
              clear BK471
              clear HB
              have HO_9 := n0_
              have HO_10 := n1_
              have HO_19 := n2_
              have BK471 := n3_
              have HB := n4_
              have BK487 := n5_
              have GW487 := n6_
              have GE487 := n7_
              have NB471_487 := n8_
              have NB487_471 := n9_
              clear n0_ n1_ n2_ n3_ n4_ n5_ n6_ n7_ n8_ n9_
              clear hb hbox hg
              refine hK.out _ _ ⟨HS0_, HS1_, HS2_⟩ (fun hHeld => ?_)
              clear hK K
              refine norm_ (a' := ?_) ?_ ?_
              rotate_left
              ·show Act.put _ (some 13) _ = _
               simp only [Act.put, List.setIfInBounds_toArray, List.set_cons_zero, List.set_cons_succ, i64_w, i32_w]
               rfl
              exact norm_ (by simp only [putAll, Act.put, List.setIfInBounds_toArray, List.set_cons_zero, List.set_cons_succ]) (hCont (gb487) _ ⟨hHeld, (by (with_reducible repeat (first | apply Kd.qG | apply Kd.qF | apply Kd.qI)); exact HO_10.out), (by (with_reducible repeat (first | apply Kd.qG | apply Kd.qF | apply Kd.qI)); exact HO_19.out), (by (with_reducible repeat (first | apply Kd.qG | apply Kd.qF | apply Kd.qI)); exact HO_9.out), (by (with_reducible repeat (first | refine qB ?_ _ | refine qC ?_ | refine qA ?_ _)); exact BK471.out), (by (with_reducible repeat (first | refine qB ?_ _ | refine qC ?_ | refine qA ?_ _)); exact BK487.out), GW487.out, GE487.out, NB471_487.out, NB487_471.out, bl⟩)
             ·skip
              refine qsA ?hg (N := 13) ?hd (cs := #[.int .i64 0, .int .i64 0, .int .i64 0]) (t := 27) ?hr ?_; (case hd => rfl); (case hg => rfl); (case hr => first | (go_simp; done) | (go_simp; rfl))
              intro gb487 hg w69 hbox hb
              have HS0_ := (hb.cell (World.block_lt_of_cell? _ _ (hHeld.1))).trans (hHeld.1)
              have HS1_ := (hb.cell (World.block_lt_of_cell? _ _ (hHeld.2.1))).trans (hHeld.2.1)
              have HS2_ := (hb.cell (World.block_lt_of_cell? _ _ (hHeld.2.2))).trans (hHeld.2.2)
              have n0_ := Aside0.mk (Kd.qc (Kd.qSA (by (with_reducible repeat (first | apply Kd.qG | apply Kd.qF | apply Kd.qI)); exact HO_9.out) gb487 (Nat.le_of_eq hg.symm)) hb)
              have n1_ := Aside0.mk (Kd.qc (by (with_reducible repeat (first | apply Kd.qG | apply Kd.qF | apply Kd.qI)); exact HO_10.out) hb)
              have n2_ := Aside0.mk (Kd.qc (by (with_reducible repeat (first | apply Kd.qG | apply Kd.qF | apply Kd.qI)); exact HO_19.out) hb)
              have n3_ := Aside0.mk (bb BK471 hb)
              have n4_ := Aside0.mk (qH bl hb)
              have n5_ := Aside0.mk (hbox)
              have n6_ := Aside0.mk ((gg hg))
              have n7_ := Aside0.mk ((gg hg))
              have n8_ := Aside0.mk ((nl BK471 hg))
              have n9_ := Aside0.mk ((nr BK471 hg))
              clear HO_9
              clear HO_10
              clear HO_19
              clear BK471
              clear HB
              have HO_9 := n0_
              have HO_10 := n1_
              have HO_19 := n2_
              have BK471 := n3_
              have HB := n4_
              have BK487 := n5_
              have GW487 := n6_
              have GE487 := n7_
              have NB471_487 := n8_
              have NB487_471 := n9_
              clear n0_ n1_ n2_ n3_ n4_ n5_ n6_ n7_ n8_ n9_
              clear hb hbox hg
              refine hK.out _ _ ⟨HS0_, HS1_, HS2_⟩ (fun hHeld => ?_)
              clear hK K
              refine norm_ (a' := ?_) ?_ ?_
              rotate_left
              ·show Act.put _ (some 13) _ = _
               simp only [Act.put, List.setIfInBounds_toArray, List.set_cons_zero, List.set_cons_succ, i64_w, i32_w]
               rfl
              refine one_ (i := 7) (N := some 43) #[true, true, true, true, true, true, true, true, false, false, false, true, false, false] rfl rfl (qCA HT_.out (by kernel_rfl)) (by decide) (fun K hK => ?_)
              refine goes_ Tryd.func62 (by kernel_rfl) rfl #[.slice Ao66 t472.length co66, .agg #[.int .i64 ((qQ x9_2 x11_1).f0), .int .i64 ((qQ x9_2 x11_1).f1), .int .i64 ((qQ x9_2 x11_1).f2)], .int .u8 (bt (⟨#[110, 101, 115, 119]⟩ : ByteArray) x32_2)] (by rfl) rfl rfl (by (try simp only [List.map_toArray, List.map_cons, List.map_nil]); first | done | rfl | (simp only [List.length_drop, List.length_take]; rfl)) ?_
              with_reducible refine (qBA.calls k2 _ _ t472 ((qQ x9_2 x11_1).f0) ((qQ x9_2 x11_1).f1) ((qQ x9_2 x11_1).f2) (bt (⟨#[110, 101, 115, 119]⟩ : ByteArray) x32_2) t483 t484 t485 false _ ?side1 ?side2 A20.out).mono ?_
              (case side1 => repeat (first | exact (Kd.ql HO_19.out).2.2 | (with_reducible refine Kd.qMA ?_ _) | (with_reducible refine Kd.qLA ?_ _) | (with_reducible refine Kd.qWA ?_)))
              (case side2 => exact (Kd.ql HO_19.out).2.1)
              rintro e w70 ⟨rfl, hb⟩
              have HS0_ := (hb.cell (World.block_lt_of_cell? _ _ (hHeld.1))).trans (hHeld.1)
              have HS1_ := (hb.cell (World.block_lt_of_cell? _ _ (hHeld.2.1))).trans (hHeld.2.1)
              have HS2_ := (hb.cell (World.block_lt_of_cell? _ _ (hHeld.2.2))).trans (hHeld.2.2)
              refine ⟨_, rfl, ?_⟩
              have n0_ := Aside0.mk (Kd.qc (by (with_reducible repeat (first | apply Kd.qG | apply Kd.qF | apply Kd.qI)); exact HO_9.out) hb)
              have n1_ := Aside0.mk (Kd.qc (by (with_reducible repeat (first | apply Kd.qG | apply Kd.qF | apply Kd.qI)); exact HO_10.out) hb)
              have n2_ := Aside0.mk (Kd.qc (by (with_reducible repeat (first | apply Kd.qG | apply Kd.qF | apply Kd.qI)); exact HO_19.out) hb)
              have n3_ := Aside0.mk (bb BK471 hb)
              have n4_ := Aside0.mk (bb BK487 hb)
              have n5_ := Aside0.mk (qH bl hb)
              clear HO_9
              clear HO_10
              clear HO_19
              clear BK471
              clear BK487
              clear HB
              have HO_9 := n0_
              have HO_10 := n1_
              have HO_19 := n2_
              have BK471 := n3_
              have BK487 := n4_
              have HB := n5_
              clear n0_ n1_ n2_ n3_ n4_ n5_
              (try clear hb)
              (try clear hb2)
              (try clear hk)
              (try clear hi)
              refine hK.out _ _ ⟨HS0_, HS1_, HS2_⟩ (fun hHeld => ?_)
              clear hK K
              refine norm_ (a' := ?_) ?_ ?_
              rotate_left
              ·show Act.put _ (some 43) _ = _
               simp only [Act.put, List.setIfInBounds_toArray, List.set_cons_zero, List.set_cons_succ, i64_w, i32_w]
               rfl
              refine pS (i := 8) (N := some 35) #[true, true, true, true, true, true, true, true, true, false, false, true, false, false] HT_ ?_
              refine pS (i := 9) (N := some 44) #[true, true, true, true, true, true, true, true, true, true, false, true, false, false] HT_ ?_
              refine pS (i := 10) (N := some 45) #[true, true, true, true, true, true, true, true, true, true, true, true, false, false] HT_ ?_
              exact norm_ (by simp only [putAll, Act.put, List.setIfInBounds_toArray, List.set_cons_zero, List.set_cons_succ]) (hCont (gb487) _ ⟨hHeld, (by (with_reducible repeat (first | apply Kd.qG | apply Kd.qF | apply Kd.qI)); exact HO_10.out), (by (with_reducible repeat (first | apply Kd.qG | apply Kd.qF | apply Kd.qI)); exact HO_19.out), (by (with_reducible repeat (first | apply Kd.qG | apply Kd.qF | apply Kd.qI)); exact HO_9.out), (by (with_reducible repeat (first | refine qB ?_ _ | refine qC ?_ | refine qA ?_ _)); exact BK471.out), (by (with_reducible repeat (first | refine qB ?_ _ | refine qC ?_ | refine qA ?_ _)); exact BK487.out), GW487.out, GE487.out, NB471_487.out, NB487_471.out, bl⟩)
            rintro gb487 w71 ⟨hS_, h0_, h1_, h2_, h3_, h4_, h5_, h6_, h7_, h8_, h9_⟩
            have n0_ : Aside0 (Kd.R Kd.string 9 w71 w.heap.size (fun k_ => some k_ ≠ (.slice Ao66 t472.length co66 : Value).ownBlock) u10 x10_2) := ⟨h0_⟩
            have n1_ : Aside0 (Kd.R Kd.string 9 w71 w.heap.size (fun k_ => some k_ ≠ (u10 : Value).ownBlock) (.slice Ao66 t472.length co66) t472) := ⟨h1_⟩
            have n2_ : Aside0 (Kd.R k27 27 w71 w.heap.size (fun k_ => k_ ≠ gb471 ∧ k_ ≠ gb487) (.slice (some ad482) x9_2.length co68) x9_2) := ⟨h2_⟩
            have n3_ : Aside0 (w71.heap[gb471]? = some (.cells #[.int .i64 a1_0, .int .i64 a1_1, .int .i64 a1_2] 27 (0, 0))) := ⟨h3_⟩
            have n4_ : Aside0 (w71.heap[gb487]? = some (.cells #[.int .i64 0, .int .i64 0, .int .i64 0] 27 (0, 0))) := ⟨h4_⟩
            have n5_ : Aside0 (w.heap.size ≤ gb487) := ⟨h5_⟩
            have n6_ : Aside0 (w.heap.size ≤ gb487) := ⟨h6_⟩
            have n7_ : Aside0 (gb471 ≠ gb487) := ⟨h7_⟩
            have n8_ : Aside0 (gb487 ≠ gb471) := ⟨h8_⟩
            have n9_ : Aside0 (Below w.heap.size w w71) := ⟨h9_⟩
            clear HO_9
            clear HO_10
            clear HO_19
            clear BK471
            clear HB
            clear h0_ h1_ h2_ h3_ h4_ h5_ h6_ h7_ h8_ h9_
            have HO_10 := n0_
            have HO_19 := n1_
            have HO_9 := n2_
            have BK471 := n3_
            have BK487 := n4_
            have GW487 := n5_
            have GE487 := n6_
            have NB471_487 := n7_
            have NB487_471 := n8_
            have HB := n9_
            clear n0_ n1_ n2_ n3_ n4_ n5_ n6_ n7_ n8_ n9_
            have hHeld : w71.cell? (ad482.add ((x11_1).toNat * 3)) = some (.int .i64 ((qQ x9_2 x11_1).f0)) ∧ w71.cell? ⟨(ad482.add ((x11_1).toNat * 3)).block, (ad482.add ((x11_1).toNat * 3)).off + 1, none⟩ = some (.int .i64 ((qQ x9_2 x11_1).f1)) ∧ w71.cell? ⟨(ad482.add ((x11_1).toNat * 3)).block, (ad482.add ((x11_1).toNat * 3)).off + 2, none⟩ = some (.int .i64 ((qQ x9_2 x11_1).f2)) := hS_
            refine norm_ (a' := ?_) ?_ ?_
            rotate_left
            ·simp only [putAll, Act.put, List.setIfInBounds_toArray, List.set_cons_zero, List.set_cons_succ]
             rfl
            refine one_ (i := 12) (N := none) #[true, true, true, true, true, true, true, true, true, true, true, true, true, false] rfl rfl (qCA HT_.out (by kernel_rfl)) (by decide) (fun K hK => ?_)
            have hs72 : w71.cell? ⟨gb487, 0, none⟩ = some (.int .i64 0) := (qE BK487.out 0).trans rfl
            have hfs72 := qD BK487.out 0
            have hns72_0 := NB471_487.out
            have hms72_0 := NB487_471.out
            have hs73 : w71.cell? ⟨gb487, 1, none⟩ = some (.int .i64 0) := (qE BK487.out 1).trans rfl
            have hfs73 := qD BK487.out 1
            have hns73_0 := NB471_487.out
            have hms73_0 := NB487_471.out
            have hs74 : w71.cell? ⟨gb487, 2, none⟩ = some (.int .i64 0) := (qE BK487.out 2).trans rfl
            have hfs74 := qD BK487.out 2
            have hns74_0 := NB471_487.out
            have hms74_0 := NB487_471.out
            refine skip_ (w1 := ?_) (by rfl) rfl ?_ ?_
            rotate_left
            ·go_simp
             rfl
            refine hK.out _ _ ⟨((qN (p := ⟨gb487, _, none⟩) (by first | exact Kd.qM (Kd.qU HO_9.out (fun _ hk => hk.2)) | (rw [qR]; exact Kd.qM (Kd.qU HO_9.out (fun _ hk => hk.2))) | (show (Addr.add _ _).block ≠ _; rw [qR]; exact Kd.qM (Kd.qU HO_9.out (fun _ hk => hk.2))) | (dsimp only; exact Kd.qM (Kd.qU HO_9.out (fun _ hk => hk.2)))) _).trans (((qN (p := ⟨gb487, _, none⟩) (by first | exact Kd.qM (Kd.qU HO_9.out (fun _ hk => hk.2)) | (rw [qR]; exact Kd.qM (Kd.qU HO_9.out (fun _ hk => hk.2))) | (show (Addr.add _ _).block ≠ _; rw [qR]; exact Kd.qM (Kd.qU HO_9.out (fun _ hk => hk.2))) | (dsimp only; exact Kd.qM (Kd.qU HO_9.out (fun _ hk => hk.2)))) _).trans (((qN (p := ⟨gb487, _, none⟩) (by first | exact Kd.qM (Kd.qU HO_9.out (fun _ hk => hk.2)) | (rw [qR]; exact Kd.qM (Kd.qU HO_9.out (fun _ hk => hk.2))) | (show (Addr.add _ _).block ≠ _; rw [qR]; exact Kd.qM (Kd.qU HO_9.out (fun _ hk => hk.2))) | (dsimp only; exact Kd.qM (Kd.qU HO_9.out (fun _ hk => hk.2)))) _).trans (hHeld.1)))))), ((qN (p := ⟨gb487, _, none⟩) (by first | exact Kd.qM (Kd.qU HO_9.out (fun _ hk => hk.2)) | (rw [qR]; exact Kd.qM (Kd.qU HO_9.out (fun _ hk => hk.2))) | (show (Addr.add _ _).block ≠ _; rw [qR]; exact Kd.qM (Kd.qU HO_9.out (fun _ hk => hk.2))) | (dsimp only; exact Kd.qM (Kd.qU HO_9.out (fun _ hk => hk.2)))) _).trans (((qN (p := ⟨gb487, _, none⟩) (by first | exact Kd.qM (Kd.qU HO_9.out (fun _ hk => hk.2)) | (rw [qR]; exact Kd.qM (Kd.qU HO_9.out (fun _ hk => hk.2))) | (show (Addr.add _ _).block ≠ _; rw [qR]; exact Kd.qM (Kd.qU HO_9.out (fun _ hk => hk.2))) | (dsimp only; exact Kd.qM (Kd.qU HO_9.out (fun _ hk => hk.2)))) _).trans (((qN (p := ⟨gb487, _, none⟩) (by first | exact Kd.qM (Kd.qU HO_9.out (fun _ hk => hk.2)) | (rw [qR]; exact Kd.qM (Kd.qU HO_9.out (fun _ hk => hk.2))) | (show (Addr.add _ _).block ≠ _; rw [qR]; exact Kd.qM (Kd.qU HO_9.out (fun _ hk => hk.2))) | (dsimp only; exact Kd.qM (Kd.qU HO_9.out (fun _ hk => hk.2)))) _).trans (hHeld.2.1)))))), ((qN (p := ⟨gb487, _, none⟩) (by first | exact Kd.qM (Kd.qU HO_9.out (fun _ hk => hk.2)) | (rw [qR]; exact Kd.qM (Kd.qU HO_9.out (fun _ hk => hk.2))) | (show (Addr.add _ _).block ≠ _; rw [qR]; exact Kd.qM (Kd.qU HO_9.out (fun _ hk => hk.2))) | (dsimp only; exact Kd.qM (Kd.qU HO_9.out (fun _ hk => hk.2)))) _).trans (((qN (p := ⟨gb487, _, none⟩) (by first | exact Kd.qM (Kd.qU HO_9.out (fun _ hk => hk.2)) | (rw [qR]; exact Kd.qM (Kd.qU HO_9.out (fun _ hk => hk.2))) | (show (Addr.add _ _).block ≠ _; rw [qR]; exact Kd.qM (Kd.qU HO_9.out (fun _ hk => hk.2))) | (dsimp only; exact Kd.qM (Kd.qU HO_9.out (fun _ hk => hk.2)))) _).trans (((qN (p := ⟨gb487, _, none⟩) (by first | exact Kd.qM (Kd.qU HO_9.out (fun _ hk => hk.2)) | (rw [qR]; exact Kd.qM (Kd.qU HO_9.out (fun _ hk => hk.2))) | (show (Addr.add _ _).block ≠ _; rw [qR]; exact Kd.qM (Kd.qU HO_9.out (fun _ hk => hk.2))) | (dsimp only; exact Kd.qM (Kd.qU HO_9.out (fun _ hk => hk.2)))) _).trans (hHeld.2.2))))))⟩ (fun hHeld => ?_)
            clear hK K
            refine pS (i := 13) (N := some 14) #[true, true, true, true, true, true, true, true, true, true, true, true, true, true] HT_ ?_
            refine done_ (qbA HT_.out (by kernel_rfl)) ?_
            try go_wp2
            go_roundg k2
            case measure => have := HK1.out; have := HK2.out; omega
            case rel => exact ⟨(x9_2), (x10_2), (wrap64 (x32_2 + 1)), (by first | rfl | (simp; done) | (simp [*]; done)), H', ⟨by have := HK1.out; have := HK2.out; omega⟩, ⟨by (with_reducible repeat (first | apply Kd.qG | apply Kd.qF | apply Kd.qI)); exact Kd.qg (Kd.R_far (p := ⟨gb487, 2, none⟩) (Kd.R_far (p := ⟨gb487, 1, none⟩) (Kd.R_far (p := ⟨gb487, 0, none⟩) (Kd.qg HO_9.out (fun k_ hk => (⟨hk, hk.2⟩ : _ ∧ k_ ≠ gb487))) (fun _ hk => hk.2) (.int .i64 t483)) (fun _ hk => hk.2) (.int .i64 t484)) (fun _ hk => hk.2) (.int .i64 t485)) (fun _ hk => hk.1.1)⟩, ⟨by (with_reducible repeat (first | apply Kd.qG | apply Kd.qF | apply Kd.qI)); exact Kd.qg (Kd.R_far (p := ⟨gb487, 2, none⟩) (Kd.R_far (p := ⟨gb487, 1, none⟩) (Kd.R_far (p := ⟨gb487, 0, none⟩) (Kd.qn HO_10.out BK487.out (by decide)) (fun _ hk => hk.2) (.int .i64 t483)) (fun _ hk => hk.2) (.int .i64 t484)) (fun _ hk => hk.2) (.int .i64 t485)) (fun _ hk => hk.1)⟩, ⟨by (with_reducible repeat (first | apply Kd.qG | apply Kd.qF | apply Kd.qI)); exact Kd.qg (Kd.R_far (p := ⟨gb487, 2, none⟩) (Kd.R_far (p := ⟨gb487, 1, none⟩) (Kd.R_far (p := ⟨gb487, 0, none⟩) (Kd.qn HO_19.out BK487.out (by decide)) (fun _ hk => hk.2) (.int .i64 t483)) (fun _ hk => hk.2) (.int .i64 t484)) (fun _ hk => hk.2) (.int .i64 t485)) (fun _ hk => hk.1)⟩, ⟨by (with_reducible repeat (first | refine qB ?_ _ | refine qC ?_ | refine qA ?_ _)); refine qJ ?_ NB471_487.out _; (with_reducible repeat (first | refine qB ?_ _ | refine qC ?_ | refine qA ?_ _)); refine qJ ?_ NB471_487.out _; (with_reducible repeat (first | refine qB ?_ _ | refine qC ?_ | refine qA ?_ _)); refine qJ ?_ NB471_487.out _; (with_reducible repeat (first | refine qB ?_ _ | refine qC ?_ | refine qA ?_ _)); exact BK471.out⟩, ⟨bl⟩⟩
          ·rw [if_neg c18] at H
           exact absurd H (by simp)
         ·rw [if_neg c17] at H
          exact absurd H (by simp)
        ·rw [if_neg c16] at H
         exact absurd H (by simp)
       ·rw [if_neg c15] at H
        have c15b0 : decide (x32_2 < 4) = false := decide_eq_false c15
        clear c15
        have H' := Aside0.mk H
        clear H
        go_wp2
        go_roundg k2
        case measure => have := HK1.out; have := HK2.out; omega
        case rel => exact ⟨(x9_2), (x10_2), (wrap64 (x11_1 + 1)), (by first | rfl | (simp; done) | (simp [*]; done)), H', ⟨by have := HK1.out; have := HK2.out; omega⟩, ⟨by (with_reducible repeat (first | apply Kd.qG | apply Kd.qF | apply Kd.qI)); exact HO_9.out⟩, ⟨by (with_reducible repeat (first | apply Kd.qG | apply Kd.qF | apply Kd.qI)); exact HO_10.out⟩, ⟨by (with_reducible repeat (first | apply Kd.qG | apply Kd.qF | apply Kd.qI)); exact HO_19.out⟩, ⟨by (with_reducible repeat (first | refine qB ?_ _ | refine qC ?_ | refine qA ?_ _)); exact BK471.out⟩, ⟨bl⟩⟩
    ·rw [if_neg c13] at H
     have c13b0 : decide (x11_1 < (x9_1.length : Int)) = false := decide_eq_false c13
     clear c13
     simp only [Option.some.injEq, Prod.mk.injEq] at H
     obtain ⟨rfl, rfl, rfl⟩ := H
     obtain ⟨Ao75, co75, eo75⟩ := Kd.qr HO_9.out
     subst eo75
     go_wp2
     go_ret3
     exact ⟨_, _, by first | rfl | (simp [qL, qK] <;> rfl) | (simp [*, qL, qK] <;> rfl), by (with_reducible repeat (first | apply Kd.qG | apply Kd.qF | apply Kd.qI)); exact Kd.qg HO_9.out (fun _ hk => trivial), by (with_reducible repeat (first | apply Kd.qG | apply Kd.qF | apply Kd.qI)); exact Kd.qg HO_10.out (fun _ hk => trivial), bl⟩
 ·replace c4 := Bool.eq_false_iff.mpr c4
  subst c4
  have H1 : (some (([] : List (S27)), ([] : List ByteArray), false)) = some (r1, r2, r3) := by rw [if_neg (show ¬ (false = true) by decide)] at H; exact H
  clear H
  have H := H1
  clear H1
  simp only [Option.some.injEq, Prod.mk.injEq] at H
  obtain ⟨rfl, rfl, rfl⟩ := H
  go_enter Tryd.func66, Tryd.ntmps66
  go_wp2_with (first | ((with_reducible refine qa (N := 3) rfl ?_); refine qW ?hg (N := 3) ?hd (cs := #[.int .i64 a1_0, .int .i64 a1_1, .int .i64 a1_2]) (t := 27) ?hr ?_; (case hd => rfl); (case hg => rfl); (case hr => first | (go_simp; done) | (go_simp; rfl)); intro gb471 hg w76 hbox hb; have n0_ := Aside0.mk (qH bl hb); have n1_ := Aside0.mk (hbox); have n2_ := Aside0.mk ((gg hg)); have n3_ := Aside0.mk ((gg hg)); clear HB; have HB := n0_; have BK471 := n1_; have GW471 := n2_; have GE471 := n3_; clear n0_ n1_ n2_ n3_; clear hb hbox hg; have hcz77_0 := bc BK471 0; have hcz77_1 := bc BK471 1; have hcz77_2 := bc BK471 2; have hfz77_0 := qD BK471.out 0; have hfz77_1 := qD BK471.out 1; have hfz77_2 := qD BK471.out 2) | ((with_reducible refine qh (f := 58) rfl ?_); refine qGA (some 18) rfl rfl Tryd.func58 (by kernel_rfl) rfl #[.string a0, .agg #[.int .i64 a1_0, .int .i64 a1_1, .int .i64 a1_2]] rfl (by (try simp only [List.map_toArray, List.map_cons, List.map_nil]); first | done | rfl | (simp only [List.length_drop, List.length_take]; rfl)) ?_; (with_reducible refine (qKA.calls k a0 a1_0 a1_1 a1_2 t472 false _ ?side1 A3.out).mono ?_); (case side1 => first | exact HLD.out | exact Laid.below HLD.out (by repeat (first | (with_reducible first | exact HB.out | apply qj | apply qm | apply qi | refine qVA ?_ (Aside0.out (by with_reducible assumption))) | exact HB.out))); rintro e w78 ⟨v473, rfl, ho0, hb⟩; refine ⟨_, rfl, ?_⟩; have n0_ := Aside0.mk (Kd.qEA ho0 (qf bl)); have n1_ := Aside0.mk (bb BK471 hb); have n2_ := Aside0.mk (qH bl hb); clear BK471; clear HB; have HO474 := n0_; have BK471 := n1_; have HB := n2_; clear n0_ n1_ n2_; (try clear hb); (try clear hb2); (try clear hk); (try clear hi); (try clear ho0)))
  go_ret3
  exact ⟨_, _, by first | rfl | (simp [qL, qK] <;> rfl) | (simp [*, qL, qK] <;> rfl), by first | exact Kd.R_nil _ _ _ _ _ | exact Kd.N_nil _ _ _ _ _ | exact Kd.V_nil _ _ _ _ _ | exact Kd.Q_nil _ _ _ _ _ | exact Kd.S_nil _ _ _ _ _, by first | exact Kd.R_nil _ _ _ _ _ | exact Kd.N_nil _ _ _ _ _ | exact Kd.V_nil _ _ _ _ _ | exact Kd.Q_nil _ _ _ _ _ | exact Kd.S_nil _ _ _ _ _, bl⟩
end Go.Proofs.YtbpfhpjbeomfcaaDoor.P
namespace Go.Proofs.YtbpfhpjbeomfcaaDoor
open Go.RowKit Go.Proofs.YtbpfhpjbeomfcaaDoor.P Go.Proofs.YtbpfhpjbeomfcaaDoorW.PrintWords Go.Proofs.YtbpfhpjbeomfcaaDoorW.PrintLast
set_option linter.unusedVariables false
set_option linter.unusedSimpArgs false
def isB1 (y : S27) (x : S27) : Bool := decide (x.f0 = y.f0) && (decide (x.f1 = y.f1) && decide (x.f2 = y.f2))
set_option maxHeartbeats 1000000 in
set_option maxRecDepth 100000 in
theorem isB1_calls (x : S27) (b : Nat) (y : S27) (w : World) (h0 : w.cell? ⟨b, 0, none⟩ = some (.int .i64 y.f0)) (h1 : w.cell? ⟨b, 1, none⟩ = some (.int .i64 y.f1)) (h2 : w.cell? ⟨b, 2, none⟩ = some (.int .i64 y.f2)) :
  Calls Tryd.prog 72 (#[encBox x] ++ #[.pointer (some ⟨b, 0, none⟩)]) w fun e w' => e = .returned (.bool (isB1 y x)) ∧ Below w.heap.size w w' := by
 have hu := Tryd.underlying27
 show Calls Tryd.prog 72 #[encBox x, .pointer (some ⟨b, 0, none⟩)] w _
 unfold encBox
 have g7 := World.block_lt_of_cell? w _ h0
 go_enter Tryd.func72, Tryd.ntmps72
 go_wp2
 all_goals (go_ret; exact ⟨by simp [isB1, *], qj (Below.refl _ _) _⟩)
def qyB.f (p : S27 → Bool) (k : Nat) (a0 : ByteArray) (x0 x1 x2 : Int) : Option (ByteArray × Bool) :=
 (qO.f k a0 x0 x1 x2).bind fun b => if b.2.2 = true then (if idxP p b.1 < 0 then some ((⟨#[]⟩ : ByteArray), false) else if idxP p b.1 < (b.2.1.length : Int) then (if ((rdOf ByteArray.empty b.2.1 (idxP p b.1)).size : Int) > 60 then some ((⟨#[]⟩ : ByteArray), false) else some (rdOf ByteArray.empty b.2.1 (idxP p b.1), true)) else none) else some ((⟨#[]⟩ : ByteArray), false)
set_option maxHeartbeats 2000000 in
set_option maxRecDepth 100000 in
theorem wordTo_calls (p : S27 → Bool) (g : Nat) (lb : Array Value) (eg : ∀ args w, (callFunc g args).run Tryd.prog w = .ok (.enter g args) w) (k : Nat) (a0 : ByteArray) (x0 x1 x2 : Int) (r1 : ByteArray) (r2 : Bool) (w : World) (hL : Laid w)
  (hp : ∀ (l : List S27) (ws : List ByteArray), qO.f k a0 x0 x1 x2 = some (l, ws, true) → PredOn g lb encBox p l w) (h : qyB.f p k a0 x0 x1 x2 = some (r1, r2)) :
  Calls Tryd.prog 69 #[.string a0, .agg #[.int .i64 x0, .int .i64 x1, .int .i64 x2], .func (.func g) #[] lb] w fun e w' => e = .returned (.tuple #[.string r1, .bool r2]) ∧ Below w.heap.size w w' := by
 have hu := Tryd.underlying27
 unfold qyB.f at h
 replace h := Option.bind_eq_some_iff.mp h
 obtain ⟨⟨l, ws, ok⟩, hb, h⟩ := h
 have HL := Lib.hid hL
 clear hL
 have HB := fun (W : World) (hw : Below w.heap.size w W) => Lib.hid (qO.calls k a0 x0 x1 x2 l ws ok W (Laid.below HL.out hw) hb)
 cases ok with
 | false =>
  rw [if_neg (fun h => Bool.noConfusion h)] at h
  injection h with h
  injection h with h1 h2
  subst h1 h2
  clear hp hb eg
  go_enter Tryd.func69, Tryd.ntmps69
  go_wp2_with (first | (go_at_call 66; refine (HB _ (by repeat (first | exact Below.refl _ _ | apply qj | apply qm | apply qi))).out.mono ?_; rintro e w1 ⟨v0, v1, rfl, R1, R2, B1⟩; clear R1 R2; have B2 := Lib.hid (qUA (qj (Below.refl w.heap.size w) _) (qf (qj (Below.refl w.heap.size w) _)) B1); clear B1))
  go_ret2
  exact ⟨rfl, B2.out⟩
 | true =>
  rw [if_pos rfl] at h
  have HP := Lib.hid (hp l ws hb)
  clear hp hb
  have H := Lib.hid h
  clear h
  have H1 := H.out
  by_cases c1 : idxP p l < 0
  ·rw [if_pos c1] at H1
   injection H1 with H1
   injection H1 with h1 h2
   subst h1 h2
   clear H
   go_enter Tryd.func69, Tryd.ntmps69
   go_wp2_with (first | (go_at_call 66; refine (HB _ (by repeat (first | exact Below.refl _ _ | apply qj | apply qm | apply qi))).out.mono ?_; rintro e w1 ⟨v0, v1, rfl, R1, R2, B1⟩; obtain ⟨A1, c1, rfl, l1, C1⟩ := Kd.qNB R1; clear R1 l1; have B2 := Lib.hid (qUA (qj (Below.refl w.heap.size w) _) (qf (qj (Below.refl w.heap.size w) _)) B1); clear B1; have HC := Lib.hid (qGB p g lb eg A1 c1 l w1 C1 (HP.out.later B2.out)); clear C1; clear R2) | (go_at_call 94; refine HC.out.mono ?_; rintro e w2 ⟨rfl, B3⟩; have B4 := Lib.hid (qUA B2.out (qf B2.out) B3); clear B3))
   go_ret2
   exact ⟨rfl, B4.out⟩
  ·rw [if_neg c1] at H1
   have p1 : 0 ≤ idxP p l := by omega
   by_cases q1 : idxP p l < (ws.length : Int)
   case neg => rw [if_neg q1] at H1; cases H1
   rw [if_pos q1] at H1
   by_cases z1 : ((rdOf ByteArray.empty ws (idxP p l)).size : Int) > 60
   ·rw [if_pos z1] at H1
    injection H1 with H1
    injection H1 with h1 h2
    subst h1 h2
    clear H
    go_enter Tryd.func69, Tryd.ntmps69
    go_wp2_with (first | (go_at_call 66; refine (HB _ (by repeat (first | exact Below.refl _ _ | apply qj | apply qm | apply qi))).out.mono ?_; rintro e w1 ⟨v0, v1, rfl, R1, R2, B1⟩; obtain ⟨A1, c1, rfl, l1, C1⟩ := Kd.qNB R1; clear R1 l1; have B2 := Lib.hid (qUA (qj (Below.refl w.heap.size w) _) (qf (qj (Below.refl w.heap.size w) _)) B1); clear B1; have HC := Lib.hid (qGB p g lb eg A1 c1 l w1 C1 (HP.out.later B2.out)); clear C1; obtain ⟨A2, c2, rfl, l2, C2⟩ := Kd.qNB R2; clear R2 l2; have RC := Lib.hid C2; clear C2) | (go_at_call 94; refine HC.out.mono ?_; rintro e w2 ⟨rfl, B3⟩; have B4 := Lib.hid (qUA B2.out (qf B2.out) B3); obtain ⟨ad, ead, hx⟩ := Kd.qcA (Kd.qRA RC.out B3) (idxP p l) p1 q1; cases ead; clear B3))
    go_ret2
    exact ⟨rfl, B4.out⟩
   ·rw [if_neg z1] at H1
    injection H1 with H1
    injection H1 with h1 h2
    subst h1 h2
    clear H
    go_enter Tryd.func69, Tryd.ntmps69
    go_wp2_with (first | (go_at_call 66; refine (HB _ (by repeat (first | exact Below.refl _ _ | apply qj | apply qm | apply qi))).out.mono ?_; rintro e w1 ⟨v0, v1, rfl, R1, R2, B1⟩; obtain ⟨A1, c1, rfl, l1, C1⟩ := Kd.qNB R1; clear R1 l1; have B2 := Lib.hid (qUA (qj (Below.refl w.heap.size w) _) (qf (qj (Below.refl w.heap.size w) _)) B1); clear B1; have HC := Lib.hid (qGB p g lb eg A1 c1 l w1 C1 (HP.out.later B2.out)); clear C1; obtain ⟨A2, c2, rfl, l2, C2⟩ := Kd.qNB R2; clear R2 l2; have RC := Lib.hid C2; clear C2) | (go_at_call 94; refine HC.out.mono ?_; rintro e w2 ⟨rfl, B3⟩; have B4 := Lib.hid (qUA B2.out (qf B2.out) B3); obtain ⟨ad, ead, hx⟩ := Kd.qcA (Kd.qRA RC.out B3) (idxP p l) p1 q1; cases ead; clear B3))
    go_ret2
    exact ⟨rfl, B4.out⟩
def qJB.f (k : Nat) (a0 : ByteArray) (x0 x1 x2 y0 y1 y2 : Int) : Option (ByteArray × Bool) := qyB.f (isB1 ⟨y0, y1, y2⟩) k a0 x0 x1 x2
theorem qJB.calls (k : Nat) (a0 : ByteArray) (x0 x1 x2 : Int) (b : Nat) (y0 y1 y2 : Int) (r1 : ByteArray) (r2 : Bool) (w : World) (h0 : w.cell? ⟨b, 0, none⟩ = some (.int .i64 y0)) (h1 : w.cell? ⟨b, 1, none⟩ = some (.int .i64 y1)) (h2 : w.cell? ⟨b, 2, none⟩ = some (.int .i64 y2)) (hL : Laid w)
  (h : qJB.f k a0 x0 x1 x2 y0 y1 y2 = some (r1, r2)) :
  Calls Tryd.prog 69 #[.string a0, .agg #[.int .i64 x0, .int .i64 x1, .int .i64 x2], .func (.func 72) #[] #[.pointer (some ⟨b, 0, none⟩)]] w fun e w' => e = .returned (.tuple #[.string r1, .bool r2]) ∧ Below w.heap.size w w' := by
 have eg := Go.Proofs.enters_of Tryd.func72 (by kernel_rfl) rfl
 exact wordTo_calls (isB1 ⟨y0, y1, y2⟩) 72 _ eg k a0 x0 x1 x2 r1 r2 w hL (fun l ws _ W x _ hb => isB1_calls x b ⟨y0, y1, y2⟩ W (qgA hb h0) (qgA hb h1) (qgA hb h2)) h
end Go.Proofs.YtbpfhpjbeomfcaaDoor
namespace Go.Proofs.YtbpfhpjbeomfcaaDoor.P
open Go.RowKit Go.Proofs.YtbpfhpjbeomfcaaDoorW.PrintWords Go.Proofs.YtbpfhpjbeomfcaaDoorW.PrintLast Go.Proofs.YtbpfhpjbeomfcaaDoorW.PrintMore
attribute [local go_sem] qz qx qIA qHA qq qp qy qw
set_option linter.unusedVariables false
set_option linter.unusedSimpArgs false
def qDA.f (k : Nat) (a0 : ByteArray) (a1_0 : Int) (a1_1 : Int) (a1_2 : Int) (a2_0 : Int) (a2_1 : Int) (a2_2 : Int) : Option (ByteArray × Bool) := (qKA.f k a0 a2_0 a2_1 a2_2).bind fun bt687 => (if bt687.2 = true then ((qJB.f k a0 a1_0 a1_1 a1_2 a2_0 a2_1 a2_2).bind fun bt691 => (some (bt691.1, bt691.2))) else (some ((⟨#[]⟩ : ByteArray), false)))
set_option maxHeartbeats 8000000 in
set_option maxRecDepth 100000 in
theorem qDA.calls (k : Nat) (a0 : ByteArray) (a1_0 : Int) (a1_1 : Int) (a1_2 : Int) (a2_0 : Int) (a2_1 : Int) (a2_2 : Int) (r1 : ByteArray) (r2 : Bool) (w : World) (hL : Laid w) (h : qDA.f k a0 a1_0 a1_1 a1_2 a2_0 a2_1 a2_2 = some (r1, r2)) :
  Calls Tryd.prog 40 #[.string a0, .agg #[.int .i64 a1_0, .int .i64 a1_1, .int .i64 a1_2], .agg #[.int .i64 a2_0, .int .i64 a2_1, .int .i64 a2_2]] w fun e w' => e = .returned (.tuple #[.string r1, .bool r2]) ∧ Below w.heap.size w w' := by
 have hu27 := Tryd.underlying27
 have HLD := Aside0.mk hL
 clear hL
 have HB := Aside0.mk (Below.refl w.heap.size w)
 have H : ((qKA.f k a0 a2_0 a2_1 a2_2).bind fun bt687 => (if bt687.2 = true then ((qJB.f k a0 a1_0 a1_1 a1_2 a2_0 a2_1 a2_2).bind fun bt691 => (some (bt691.1, bt691.2))) else (some ((⟨#[]⟩ : ByteArray), false)))) = some (r1, r2) := h
 clear h
 replace H := Option.bind_eq_some_iff.mp H
 obtain ⟨⟨t687, t690⟩, A40, H⟩ := H
 replace H : (if t690 = true then ((qJB.f k a0 a1_0 a1_1 a1_2 a2_0 a2_1 a2_2).bind fun bt691 => (some (bt691.1, bt691.2))) else (some ((⟨#[]⟩ : ByteArray), false))) = some (r1, r2) := H
 have A4 := Aside0.mk A40
 clear A40
 by_cases c5 : t690 = true
 ·subst c5
  have H1 : ((qJB.f k a0 a1_0 a1_1 a1_2 a2_0 a2_1 a2_2).bind fun bt691 => (some (bt691.1, bt691.2))) = some (r1, r2) := by rw [if_pos rfl] at H; exact H
  clear H
  have H := H1
  clear H1
  replace H := Option.bind_eq_some_iff.mp H
  obtain ⟨⟨t691, t692⟩, A60, H⟩ := H
  replace H : (some (t691, t692)) = some (r1, r2) := H
  have A6 := Aside0.mk A60
  clear A60
  simp only [Option.some.injEq, Prod.mk.injEq] at H
  obtain ⟨rfl, rfl⟩ := H
  go_enter Tryd.func40, Tryd.ntmps40
  go_wp2_with (first | ((with_reducible refine qa (N := 4) rfl ?_); refine qW ?hg (N := 4) ?hd (cs := #[.int .i64 a1_0, .int .i64 a1_1, .int .i64 a1_2]) (t := 27) ?hr ?_; (case hd => rfl); (case hg => rfl); (case hr => first | (go_simp; done) | (go_simp; rfl)); intro gb685 hg w7 hbox hb; have n0_ := Aside0.mk (qH bl hb); have n1_ := Aside0.mk (hbox); have n2_ := Aside0.mk ((gg hg)); have n3_ := Aside0.mk ((gg hg)); clear HB; have HB := n0_; have BK685 := n1_; have GW685 := n2_; have GE685 := n3_; clear n0_ n1_ n2_ n3_; clear hb hbox hg) | ((with_reducible refine qa (N := 5) rfl ?_); refine qW ?hg (N := 5) ?hd (cs := #[.int .i64 a2_0, .int .i64 a2_1, .int .i64 a2_2]) (t := 27) ?hr ?_; (case hd => rfl); (case hg => rfl); (case hr => first | (go_simp; done) | (go_simp; rfl)); intro gb686 hg w8 hbox hb; have n0_ := Aside0.mk (bb BK685 hb); have n1_ := Aside0.mk (qH bl hb); have n2_ := Aside0.mk (hbox); have n3_ := Aside0.mk ((gg hg)); have n4_ := Aside0.mk ((gg hg)); have n5_ := Aside0.mk ((nl BK685 hg)); have n6_ := Aside0.mk ((nr BK685 hg)); clear BK685; clear HB; have BK685 := n0_; have HB := n1_; have BK686 := n2_; have GW686 := n3_; have GE686 := n4_; have NB685_686 := n5_; have NB686_685 := n6_; clear n0_ n1_ n2_ n3_ n4_ n5_ n6_; clear hb hbox hg; have hnb9 := NB686_685.out; have hnc9 := NB685_686.out; have hcz10_0 := bc BK686 0; have hcz10_1 := bc BK686 1; have hcz10_2 := bc BK686 2; have hfz10_0 := qD BK686.out 0; have hfz10_1 := qD BK686.out 1; have hfz10_2 := qD BK686.out 2) | ((with_reducible refine qh (f := 58) rfl ?_); refine qGA (some 13) rfl rfl Tryd.func58 (by kernel_rfl) rfl #[.string a0, .agg #[.int .i64 a2_0, .int .i64 a2_1, .int .i64 a2_2]] rfl (by (try simp only [List.map_toArray, List.map_cons, List.map_nil]); first | done | rfl | (simp only [List.length_drop, List.length_take]; rfl)) ?_; (with_reducible refine (qKA.calls k a0 a2_0 a2_1 a2_2 t687 true _ ?side1 A4.out).mono ?_); (case side1 => first | exact HLD.out | exact Laid.below HLD.out (by repeat (first | (with_reducible first | exact HB.out | apply qj | apply qm | apply qi | refine qVA ?_ (Aside0.out (by with_reducible assumption))) | exact HB.out))); rintro e w11 ⟨v688, rfl, ho0, hb⟩; refine ⟨_, rfl, ?_⟩; have n0_ := Aside0.mk (Kd.qEA ho0 (qf bl)); have n1_ := Aside0.mk (bb BK685 hb); have n2_ := Aside0.mk (bb BK686 hb); have n3_ := Aside0.mk (qH bl hb); clear BK685; clear BK686; clear HB; have HO689 := n0_; have BK685 := n1_; have BK686 := n2_; have HB := n3_; clear n0_ n1_ n2_ n3_; (try clear hb); (try clear hb2); (try clear hk); (try clear hi); (try clear ho0); have hcz12_0 := bc BK685 0; have hcz12_1 := bc BK685 1; have hcz12_2 := bc BK685 2; have hfz12_0 := qD BK685.out 0; have hfz12_1 := qD BK685.out 1; have hfz12_2 := qD BK685.out 2) | ((with_reducible refine qh (f := 69) rfl ?_); refine qGA (some 21) rfl rfl Tryd.func69 (by kernel_rfl) rfl #[.string a0, .agg #[.int .i64 a1_0, .int .i64 a1_1, .int .i64 a1_2], .func (.func 72) #[] #[.pointer (some ⟨gb686, 0, none⟩)]] rfl (by (try simp only [List.map_toArray, List.map_cons, List.map_nil]); first | done | rfl | (simp only [List.length_drop, List.length_take]; rfl)) ?_; (with_reducible refine (qJB.calls k a0 a1_0 a1_1 a1_2 gb686 a2_0 a2_1 a2_2 t691 t692 _ ?side1 ?side2 ?side3 ?side4 A6.out).mono ?_); (case side1 => exact (cell_of_row _ gb686 0 _ 27 (0, 0) (by (with_reducible repeat (first | refine qB ?_ _ | refine qC ?_ | refine qA ?_ _)); exact BK686.out)).trans rfl); (case side2 => exact (cell_of_row _ gb686 1 _ 27 (0, 0) (by (with_reducible repeat (first | refine qB ?_ _ | refine qC ?_ | refine qA ?_ _)); exact BK686.out)).trans rfl); (case side3 => exact (cell_of_row _ gb686 2 _ 27 (0, 0) (by (with_reducible repeat (first | refine qB ?_ _ | refine qC ?_ | refine qA ?_ _)); exact BK686.out)).trans rfl); (case side4 => first | exact HLD.out | exact Laid.below HLD.out (by repeat (first | (with_reducible first | exact HB.out | apply qj | apply qm | apply qi | refine qVA ?_ (Aside0.out (by with_reducible assumption))) | exact HB.out))); rintro e w13 ⟨rfl, hb⟩; refine ⟨_, rfl, ?_⟩; have n0_ := Aside0.mk (Kd.qc (by (with_reducible repeat (first | apply Kd.qG | apply Kd.qF | apply Kd.qI)); exact HO689.out) hb); have n1_ := Aside0.mk (bb BK685 hb); have n2_ := Aside0.mk (bb BK686 hb); have n3_ := Aside0.mk (qH bl hb); clear HO689; clear BK685; clear BK686; clear HB; have HO689 := n0_; have BK685 := n1_; have BK686 := n2_; have HB := n3_; clear n0_ n1_ n2_ n3_; (try clear hb); (try clear hb2); (try clear hk); (try clear hi)))
  go_ret2
  exact ⟨by first | rfl | (simp [qL, qK] <;> rfl) | (simp [*, qL, qK] <;> rfl), bl⟩
 ·replace c5 := Bool.eq_false_iff.mpr c5
  subst c5
  have H1 : (some ((⟨#[]⟩ : ByteArray), false)) = some (r1, r2) := by rw [if_neg (show ¬ (false = true) by decide)] at H; exact H
  clear H
  have H := H1
  clear H1
  simp only [Option.some.injEq, Prod.mk.injEq] at H
  obtain ⟨rfl, rfl⟩ := H
  go_enter Tryd.func40, Tryd.ntmps40
  go_wp2_with (first | ((with_reducible refine qa (N := 4) rfl ?_); refine qW ?hg (N := 4) ?hd (cs := #[.int .i64 a1_0, .int .i64 a1_1, .int .i64 a1_2]) (t := 27) ?hr ?_; (case hd => rfl); (case hg => rfl); (case hr => first | (go_simp; done) | (go_simp; rfl)); intro gb685 hg w14 hbox hb; have n0_ := Aside0.mk (qH bl hb); have n1_ := Aside0.mk (hbox); have n2_ := Aside0.mk ((gg hg)); have n3_ := Aside0.mk ((gg hg)); clear HB; have HB := n0_; have BK685 := n1_; have GW685 := n2_; have GE685 := n3_; clear n0_ n1_ n2_ n3_; clear hb hbox hg) | ((with_reducible refine qa (N := 5) rfl ?_); refine qW ?hg (N := 5) ?hd (cs := #[.int .i64 a2_0, .int .i64 a2_1, .int .i64 a2_2]) (t := 27) ?hr ?_; (case hd => rfl); (case hg => rfl); (case hr => first | (go_simp; done) | (go_simp; rfl)); intro gb686 hg w15 hbox hb; have n0_ := Aside0.mk (bb BK685 hb); have n1_ := Aside0.mk (qH bl hb); have n2_ := Aside0.mk (hbox); have n3_ := Aside0.mk ((gg hg)); have n4_ := Aside0.mk ((gg hg)); have n5_ := Aside0.mk ((nl BK685 hg)); have n6_ := Aside0.mk ((nr BK685 hg)); clear BK685; clear HB; have BK685 := n0_; have HB := n1_; have BK686 := n2_; have GW686 := n3_; have GE686 := n4_; have NB685_686 := n5_; have NB686_685 := n6_; clear n0_ n1_ n2_ n3_ n4_ n5_ n6_; clear hb hbox hg; have hnb16 := NB686_685.out; have hnc16 := NB685_686.out; have hcz17_0 := bc BK686 0; have hcz17_1 := bc BK686 1; have hcz17_2 := bc BK686 2; have hfz17_0 := qD BK686.out 0; have hfz17_1 := qD BK686.out 1; have hfz17_2 := qD BK686.out 2) | ((with_reducible refine qh (f := 58) rfl ?_); refine qGA (some 13) rfl rfl Tryd.func58 (by kernel_rfl) rfl #[.string a0, .agg #[.int .i64 a2_0, .int .i64 a2_1, .int .i64 a2_2]] rfl (by (try simp only [List.map_toArray, List.map_cons, List.map_nil]); first | done | rfl | (simp only [List.length_drop, List.length_take]; rfl)) ?_; (with_reducible refine (qKA.calls k a0 a2_0 a2_1 a2_2 t687 false _ ?side1 A4.out).mono ?_); (case side1 => first | exact HLD.out | exact Laid.below HLD.out (by repeat (first | (with_reducible first | exact HB.out | apply qj | apply qm | apply qi | refine qVA ?_ (Aside0.out (by with_reducible assumption))) | exact HB.out))); rintro e w18 ⟨v688, rfl, ho0, hb⟩; refine ⟨_, rfl, ?_⟩; have n0_ := Aside0.mk (Kd.qEA ho0 (qf bl)); have n1_ := Aside0.mk (bb BK685 hb); have n2_ := Aside0.mk (bb BK686 hb); have n3_ := Aside0.mk (qH bl hb); clear BK685; clear BK686; clear HB; have HO689 := n0_; have BK685 := n1_; have BK686 := n2_; have HB := n3_; clear n0_ n1_ n2_ n3_; (try clear hb); (try clear hb2); (try clear hk); (try clear hi); (try clear ho0)))
  go_ret2
  exact ⟨by first | rfl | (simp [qL, qK] <;> rfl) | (simp [*, qL, qK] <;> rfl), bl⟩
def qS.f (k : Nat) (a0 : ByteArray) (a1_0 : Int) (a1_1 : Int) (a1_2 : Int) (a2_0 : Int) (a2_1 : Int) (a2_2 : Int) : Option (Bool) := if (a0.size : Int) > 1048576 then (some true) else ((qo.f a1_0 a1_1 a1_2).bind fun bt695 => ((qo.f a2_0 a2_1 a2_2).bind fun bt698 => ((qe.f k a0 bt695.1 bt695.2.1 bt695.2.2 bt698.1 bt698.2.1 bt698.2.2).bind fun bt701 => ((qo.f a1_0 a1_1 a1_2).bind fun bt703 => ((qo.f a2_0 a2_1 a2_2).bind fun bt706 => ((qDA.f k a0 bt703.1 bt703.2.1 bt703.2.2 bt706.1 bt706.2.1 bt706.2.2).bind fun bt709 => (if bt709.1.toList = bt701.1.toList then (if (bt709.2 != bt701.2) = true then (some false) else (some true)) else (some false))))))))
def qS.T3 : Bool × List (List Nat × List Nat) := (true, [([], []), ([], []), ([1], [1]), ([], []), ([3, 2], [3]), ([0, 2, 4, 4], [0, 2, 4]), ([5], [5]), ([6], [6]), ([6], [6]), ([7, 5, 0, 1, 2, 3, 4, 5, 6, 7], [7]), ([8, 9, 0, 1, 2, 3, 4, 5, 6, 7, 8, 9], [8])])
def qS.B3 : List Nat := [0, 0, 2, 0, 14, 31, 63, 127, 127, 255, 1023]
theorem qS.tab3 : rtab .any (opsOf Tryd.f13 3) = qS.T3 := by kernel_rfl
theorem qS.bits3 : waitsOk qS.T3.2 qS.B3 = true := by kernel_rfl
def qS.T4 : Bool × List (List Nat × List Nat) := (true, [([], []), ([], []), ([1], [1]), ([], []), ([3, 2], [3]), ([0, 2, 4, 4], [0, 2, 4]), ([5], [5]), ([6], [6]), ([6], [6]), ([7, 5, 0, 1, 2, 3, 4, 5, 6, 7], [7]), ([8, 9, 0, 1, 2, 3, 4, 5, 6, 7, 8, 9], [8])])
def qS.B4 : List Nat := [0, 0, 2, 0, 14, 31, 63, 127, 127, 255, 1023]
theorem qS.tab4 : rtab .any (opsOf Tryd.f13 4) = qS.T4 := by kernel_rfl
theorem qS.bits4 : waitsOk qS.T4.2 qS.B4 = true := by kernel_rfl
set_option maxHeartbeats 8000000 in
set_option maxRecDepth 100000 in
theorem qS.calls (k : Nat) (a0 : ByteArray) (a1_0 : Int) (a1_1 : Int) (a1_2 : Int) (a2_0 : Int) (a2_1 : Int) (a2_2 : Int) (r : Bool) (w : World) (hL : Laid w) (h : qS.f k a0 a1_0 a1_1 a1_2 a2_0 a2_1 a2_2 = some r) :
  Calls Tryd.prog 13 #[.string a0, .agg #[.int .i64 a1_0, .int .i64 a1_1, .int .i64 a1_2], .agg #[.int .i64 a2_0, .int .i64 a2_1, .int .i64 a2_2]] w fun e w' => e = .returned (.bool r) ∧ Below w.heap.size w w' := by
 have hu24 := Tryd.underlying24
 have HLD := Aside0.mk hL
 clear hL
 have HB := Aside0.mk (Below.refl w.heap.size w)
 have H : (if (a0.size : Int) > 1048576 then (some true) else ((qo.f a1_0 a1_1 a1_2).bind fun bt695 => ((qo.f a2_0 a2_1 a2_2).bind fun bt698 => ((qe.f k a0 bt695.1 bt695.2.1 bt695.2.2 bt698.1 bt698.2.1 bt698.2.2).bind fun bt701 => ((qo.f a1_0 a1_1 a1_2).bind fun bt703 => ((qo.f a2_0 a2_1 a2_2).bind fun bt706 => ((qDA.f k a0 bt703.1 bt703.2.1 bt703.2.2 bt706.1 bt706.2.1 bt706.2.2).bind fun bt709 => (if bt709.1.toList = bt701.1.toList then (if (bt709.2 != bt701.2) = true then (some false) else (some true)) else (some false))))))))) = some r := h
 clear h
 by_cases c4 : (a0.size : Int) > 1048576
 ·rw [if_pos c4] at H
  have c4b0 : decide (1048576 < (a0.size : Int)) = true := decide_eq_true c4
  have c4b1 : decide (1048576 < a0.size) = true := decide_eq_true (by omega)
  clear c4
  obtain rfl := Option.some.inj H
  go_enter Tryd.func13, Tryd.ntmps13
  go_wp2_with (first | ((with_reducible refine qa (N := 4) rfl ?_); refine qW ?hg (N := 4) ?hd (cs := #[.int .i64 a1_0, .int .i64 a1_1, .int .i64 a1_2]) (t := 24) ?hr ?_; (case hd => rfl); (case hg => rfl); (case hr => first | (go_simp; done) | (go_simp; rfl)); intro gb693 hg w5 hbox hb; have n0_ := Aside0.mk (qH bl hb); have n1_ := Aside0.mk (hbox); have n2_ := Aside0.mk ((gg hg)); have n3_ := Aside0.mk ((gg hg)); clear HB; have HB := n0_; have BK693 := n1_; have GW693 := n2_; have GE693 := n3_; clear n0_ n1_ n2_ n3_; clear hb hbox hg) | ((with_reducible refine qa (N := 5) rfl ?_); refine qW ?hg (N := 5) ?hd (cs := #[.int .i64 a2_0, .int .i64 a2_1, .int .i64 a2_2]) (t := 24) ?hr ?_; (case hd => rfl); (case hg => rfl); (case hr => first | (go_simp; done) | (go_simp; rfl)); intro gb694 hg w6 hbox hb; have n0_ := Aside0.mk (bb BK693 hb); have n1_ := Aside0.mk (qH bl hb); have n2_ := Aside0.mk (hbox); have n3_ := Aside0.mk ((gg hg)); have n4_ := Aside0.mk ((gg hg)); have n5_ := Aside0.mk ((nl BK693 hg)); have n6_ := Aside0.mk ((nr BK693 hg)); clear BK693; clear HB; have BK693 := n0_; have HB := n1_; have BK694 := n2_; have GW694 := n3_; have GE694 := n4_; have NB693_694 := n5_; have NB694_693 := n6_; clear n0_ n1_ n2_ n3_ n4_ n5_ n6_; clear hb hbox hg))
  go_ret
  exact ⟨by first | rfl | (simp [qL, qK] <;> rfl) | (simp [*, qL, qK] <;> rfl), bl⟩
 ·rw [if_neg c4] at H
  have c4b0 : decide (1048576 < (a0.size : Int)) = false := decide_eq_false c4
  have c4b1 : decide (1048576 < a0.size) = false := decide_eq_false (by omega)
  clear c4
  replace H := Option.bind_eq_some_iff.mp H
  obtain ⟨⟨t695, t696, t697⟩, A70, H⟩ := H
  replace H : ((qo.f a2_0 a2_1 a2_2).bind fun bt698 => ((qe.f k a0 t695 t696 t697 bt698.1 bt698.2.1 bt698.2.2).bind fun bt701 => ((qo.f a1_0 a1_1 a1_2).bind fun bt703 => ((qo.f a2_0 a2_1 a2_2).bind fun bt706 => ((qDA.f k a0 bt703.1 bt703.2.1 bt703.2.2 bt706.1 bt706.2.1 bt706.2.2).bind fun bt709 => (if bt709.1.toList = bt701.1.toList then (if (bt709.2 != bt701.2) = true then (some false) else (some true)) else (some false))))))) = some r := H
  have A7 := Aside0.mk A70
  clear A70
  replace H := Option.bind_eq_some_iff.mp H
  obtain ⟨⟨t698, t699, t700⟩, A80, H⟩ := H
  replace H : ((qe.f k a0 t695 t696 t697 t698 t699 t700).bind fun bt701 => ((qo.f a1_0 a1_1 a1_2).bind fun bt703 => ((qo.f a2_0 a2_1 a2_2).bind fun bt706 => ((qDA.f k a0 bt703.1 bt703.2.1 bt703.2.2 bt706.1 bt706.2.1 bt706.2.2).bind fun bt709 => (if bt709.1.toList = bt701.1.toList then (if (bt709.2 != bt701.2) = true then (some false) else (some true)) else (some false)))))) = some r := H
  have A8 := Aside0.mk A80
  clear A80
  replace H := Option.bind_eq_some_iff.mp H
  obtain ⟨⟨t701, t702⟩, A90, H⟩ := H
  replace H : ((qo.f a1_0 a1_1 a1_2).bind fun bt703 => ((qo.f a2_0 a2_1 a2_2).bind fun bt706 => ((qDA.f k a0 bt703.1 bt703.2.1 bt703.2.2 bt706.1 bt706.2.1 bt706.2.2).bind fun bt709 => (if bt709.1.toList = t701.toList then (if (bt709.2 != t702) = true then (some false) else (some true)) else (some false))))) = some r := H
  have A9 := Aside0.mk A90
  clear A90
  replace H := Option.bind_eq_some_iff.mp H
  obtain ⟨⟨t703, t704, t705⟩, A100, H⟩ := H
  replace H : ((qo.f a2_0 a2_1 a2_2).bind fun bt706 => ((qDA.f k a0 t703 t704 t705 bt706.1 bt706.2.1 bt706.2.2).bind fun bt709 => (if bt709.1.toList = t701.toList then (if (bt709.2 != t702) = true then (some false) else (some true)) else (some false)))) = some r := H
  have A10 := Aside0.mk A100
  clear A100
  replace H := Option.bind_eq_some_iff.mp H
  obtain ⟨⟨t706, t707, t708⟩, A110, H⟩ := H
  replace H : ((qDA.f k a0 t703 t704 t705 t706 t707 t708).bind fun bt709 => (if bt709.1.toList = t701.toList then (if (bt709.2 != t702) = true then (some false) else (some true)) else (some false))) = some r := H
  have A11 := Aside0.mk A110
  clear A110
  replace H := Option.bind_eq_some_iff.mp H
  obtain ⟨⟨t709, t710⟩, A120, H⟩ := H
  replace H : (if t709.toList = t701.toList then (if (t710 != t702) = true then (some false) else (some true)) else (some false)) = some r := H
  have A12 := Aside0.mk A120
  clear A120
  by_cases c13 : t709.toList = t701.toList
  ·rw [if_pos c13] at H
   have c13b0 : (t709.toList == t701.toList) = true := beq_iff_eq.mpr c13
   have c13b1 : (t709.toList != t701.toList) = false := bne_eq_false_iff_eq.mpr c13
   clear c13
   by_cases c14 : (t710 != t702) = true
   ·rw [if_pos c14] at H
    have c14b0 : (t710 != t702) = true := c14
    (try (have c14b1 : decide (t710 = t702) = false := by simpa using c14))
    (try (have c14b2 : (t710 == t702) = false := by simpa using c14))
    (try (have c14b3 : ¬ (t710 = t702) := by simpa using c14))
    clear c14
    obtain rfl := Option.some.inj H
    go_enter Tryd.func13, Tryd.ntmps13
    try go_wp2_with (first | ((with_reducible refine qa (N := 4) rfl ?_); refine qW ?hg (N := 4) ?hd (cs := #[.int .i64 a1_0, .int .i64 a1_1, .int .i64 a1_2]) (t := 24) ?hr ?_; (case hd => rfl); (case hg => rfl); (case hr => first | (go_simp; done) | (go_simp; rfl)); intro gb693 hg w15 hbox hb; have n0_ := Aside0.mk (qH bl hb); have n1_ := Aside0.mk (hbox); have n2_ := Aside0.mk ((gg hg)); have n3_ := Aside0.mk ((gg hg)); clear HB; have HB := n0_; have BK693 := n1_; have GW693 := n2_; have GE693 := n3_; clear n0_ n1_ n2_ n3_; clear hb hbox hg) | ((with_reducible refine qa (N := 5) rfl ?_); refine qW ?hg (N := 5) ?hd (cs := #[.int .i64 a2_0, .int .i64 a2_1, .int .i64 a2_2]) (t := 24) ?hr ?_; (case hd => rfl); (case hg => rfl); (case hr => first | (go_simp; done) | (go_simp; rfl)); intro gb694 hg w16 hbox hb; have n0_ := Aside0.mk (bb BK693 hb); have n1_ := Aside0.mk (qH bl hb); have n2_ := Aside0.mk (hbox); have n3_ := Aside0.mk ((gg hg)); have n4_ := Aside0.mk ((gg hg)); have n5_ := Aside0.mk ((nl BK693 hg)); have n6_ := Aside0.mk ((nr BK693 hg)); clear BK693; clear HB; have BK693 := n0_; have HB := n1_; have BK694 := n2_; have GW694 := n3_; have GE694 := n4_; have NB693_694 := n5_; have NB694_693 := n6_; clear n0_ n1_ n2_ n3_ n4_ n5_ n6_; clear hb hbox hg))
    have n0_ := Aside0.mk (qC BK693.out)
    have n1_ := Aside0.mk (qC BK694.out)
    have n2_ := Aside0.mk (qi HB.out)
    clear BK693
    clear BK694
    clear HB
    have BK693 := n0_
    have BK694 := n1_
    have HB := n2_
    clear n0_ n1_ n2_
    refine qmA (n := 11) (S := fun w' => w'.cell? ⟨gb693, 0, none⟩ = some (.int .i64 a1_0) ∧ w'.cell? ⟨gb693, 1, none⟩ = some (.int .i64 a1_1) ∧ w'.cell? ⟨gb693, 2, none⟩ = some (.int .i64 a1_2) ∧ w'.cell? ⟨gb694, 0, none⟩ = some (.int .i64 a2_0) ∧ w'.cell? ⟨gb694, 1, none⟩ = some (.int .i64 a2_1) ∧ w'.cell? ⟨gb694, 2, none⟩ = some (.int .i64 a2_2)) (ds := []) #[false, false, false, false, false, false, false, false, false, false, false] (by kernel_rfl) rfl rfl ⟨(qE BK693.out 0).trans rfl, (qE BK693.out 1).trans rfl, (qE BK693.out 2).trans rfl, (qE BK694.out 0).trans rfl, (qE BK694.out 1).trans rfl, (qE BK694.out 2).trans rfl⟩ (fun hHeld => ?_); refine qNA qS.tab3 qS.bits3 (fun HT_ HW_ => ?_)
    generalize w16.drew = w17 at BK693 BK694 HB hHeld ⊢
    refine pS (i := 0) (N := some 15) #[true, false, false, false, false, false, false, false, false, false, false] HT_ ?_
    refine tS (i := 1) (N := some 16) #[true, true, false, false, false, false, false, false, false, false, false] HT_ HW_ hHeld ?_
    refine tS (i := 3) (N := some 18) #[true, true, false, true, false, false, false, false, false, false, false] HT_ HW_ hHeld ?_
    refine one_ (i := 2) (N := some 17) #[true, true, true, true, false, false, false, false, false, false, false] rfl rfl (qCA HT_.out (by kernel_rfl)) (by decide) (fun K hK => ?_)
    refine goes_ Tryd.func20 (by kernel_rfl) rfl #[.agg #[.int .i64 a1_0, .int .i64 a1_1, .int .i64 a1_2]] (by rfl) rfl rfl (by (try simp only [List.map_toArray, List.map_cons, List.map_nil]); first | done | rfl | (simp only [List.length_drop, List.length_take]; rfl)) ?_
    with_reducible refine (qo.calls a1_0 a1_1 a1_2 t695 t696 t697 _ A7.out).mono ?_
    rintro e w18 ⟨rfl, hb⟩
    refine ⟨_, rfl, ?_⟩
    have n0_ := Aside0.mk (bb BK693 hb)
    have n1_ := Aside0.mk (bb BK694 hb)
    have n2_ := Aside0.mk (qH bl hb)
    clear BK693
    clear BK694
    clear HB
    have BK693 := n0_
    have BK694 := n1_
    have HB := n2_
    clear n0_ n1_ n2_
    (try clear hb)
    (try clear hb2)
    (try clear hk)
    (try clear hi)
    refine hK.out _ _ ⟨(qE BK693.out 0).trans rfl, (qE BK693.out 1).trans rfl, (qE BK693.out 2).trans rfl, (qE BK694.out 0).trans rfl, (qE BK694.out 1).trans rfl, (qE BK694.out 2).trans rfl⟩ (fun hHeld => ?_)
    clear hK K
    refine norm_ (a' := ?_) ?_ ?_
    rotate_left
    ·show Act.put _ (some 17) _ = _
     simp only [Act.put, List.setIfInBounds_toArray, List.set_cons_zero, List.set_cons_succ, i64_w, i32_w]
     rfl
    refine one_ (i := 4) (N := some 19) #[true, true, true, true, true, false, false, false, false, false, false] rfl rfl (qCA HT_.out (by kernel_rfl)) (by decide) (fun K hK => ?_)
    refine goes_ Tryd.func20 (by kernel_rfl) rfl #[.agg #[.int .i64 a2_0, .int .i64 a2_1, .int .i64 a2_2]] (by rfl) rfl rfl (by (try simp only [List.map_toArray, List.map_cons, List.map_nil]); first | done | rfl | (simp only [List.length_drop, List.length_take]; rfl)) ?_
    with_reducible refine (qo.calls a2_0 a2_1 a2_2 t698 t699 t700 _ A8.out).mono ?_
    rintro e w19 ⟨rfl, hb⟩
    refine ⟨_, rfl, ?_⟩
    have n0_ := Aside0.mk (bb BK693 hb)
    have n1_ := Aside0.mk (bb BK694 hb)
    have n2_ := Aside0.mk (qH bl hb)
    clear BK693
    clear BK694
    clear HB
    have BK693 := n0_
    have BK694 := n1_
    have HB := n2_
    clear n0_ n1_ n2_
    (try clear hb)
    (try clear hb2)
    (try clear hk)
    (try clear hi)
    refine hK.out _ _ ⟨(qE BK693.out 0).trans rfl, (qE BK693.out 1).trans rfl, (qE BK693.out 2).trans rfl, (qE BK694.out 0).trans rfl, (qE BK694.out 1).trans rfl, (qE BK694.out 2).trans rfl⟩ (fun hHeld => ?_)
    clear hK K
    refine norm_ (a' := ?_) ?_ ?_
    rotate_left
    ·show Act.put _ (some 19) _ = _
     simp only [Act.put, List.setIfInBounds_toArray, List.set_cons_zero, List.set_cons_succ, i64_w, i32_w]
     rfl
    refine one_ (i := 5) (N := some 20) #[true, true, true, true, true, true, false, false, false, false, false] rfl rfl (qCA HT_.out (by kernel_rfl)) (by decide) (fun K hK => ?_)
    refine goes_ Tryd.func39 (by kernel_rfl) rfl #[.string a0, .agg #[.int .i64 t695, .int .i64 t696, .int .i64 t697], .agg #[.int .i64 t698, .int .i64 t699, .int .i64 t700]] (by rfl) rfl rfl (by (try simp only [List.map_toArray, List.map_cons, List.map_nil]); first | done | rfl | (simp only [List.length_drop, List.length_take]; rfl)) ?_
    with_reducible refine (qe.calls k a0 t695 t696 t697 t698 t699 t700 t701 t702 _ A9.out).mono ?_
    rintro e w20 ⟨rfl, hb⟩
    refine ⟨_, rfl, ?_⟩
    have n0_ := Aside0.mk (bb BK693 hb)
    have n1_ := Aside0.mk (bb BK694 hb)
    have n2_ := Aside0.mk (qH bl hb)
    clear BK693
    clear BK694
    clear HB
    have BK693 := n0_
    have BK694 := n1_
    have HB := n2_
    clear n0_ n1_ n2_
    (try clear hb)
    (try clear hb2)
    (try clear hk)
    (try clear hi)
    refine hK.out _ _ ⟨(qE BK693.out 0).trans rfl, (qE BK693.out 1).trans rfl, (qE BK693.out 2).trans rfl, (qE BK694.out 0).trans rfl, (qE BK694.out 1).trans rfl, (qE BK694.out 2).trans rfl⟩ (fun hHeld => ?_)
    clear hK K
    refine norm_ (a' := ?_) ?_ ?_
    rotate_left
    ·show Act.put _ (some 20) _ = _
     simp only [Act.put, List.setIfInBounds_toArray, List.set_cons_zero, List.set_cons_succ, i64_w, i32_w]
     rfl
    refine pS (i := 6) (N := some 14) #[true, true, true, true, true, true, true, false, false, false, false] HT_ ?_
    refine pS (i := 7) (N := some 21) #[true, true, true, true, true, true, true, true, false, false, false] HT_ ?_
    refine pS (i := 8) (N := some 22) #[true, true, true, true, true, true, true, true, true, false, false] HT_ ?_
    refine pS (i := 9) (N := some 7) #[true, true, true, true, true, true, true, true, true, true, false] HT_ ?_
    refine pS (i := 10) (N := some 8) #[true, true, true, true, true, true, true, true, true, true, true] HT_ ?_
    refine done_ (qbA HT_.out (by kernel_rfl)) ?_
    try go_wp2
    have n0_ := Aside0.mk (qC BK693.out)
    have n1_ := Aside0.mk (qC BK694.out)
    have n2_ := Aside0.mk (qi HB.out)
    clear BK693
    clear BK694
    clear HB
    have BK693 := n0_
    have BK694 := n1_
    have HB := n2_
    clear n0_ n1_ n2_
    refine qmA (n := 11) (S := fun w' => w'.cell? ⟨gb693, 0, none⟩ = some (.int .i64 a1_0) ∧ w'.cell? ⟨gb693, 1, none⟩ = some (.int .i64 a1_1) ∧ w'.cell? ⟨gb693, 2, none⟩ = some (.int .i64 a1_2) ∧ w'.cell? ⟨gb694, 0, none⟩ = some (.int .i64 a2_0) ∧ w'.cell? ⟨gb694, 1, none⟩ = some (.int .i64 a2_1) ∧ w'.cell? ⟨gb694, 2, none⟩ = some (.int .i64 a2_2)) (ds := []) #[false, false, false, false, false, false, false, false, false, false, false] (by kernel_rfl) rfl rfl ⟨(qE BK693.out 0).trans rfl, (qE BK693.out 1).trans rfl, (qE BK693.out 2).trans rfl, (qE BK694.out 0).trans rfl, (qE BK694.out 1).trans rfl, (qE BK694.out 2).trans rfl⟩ (fun hHeld => ?_); refine qNA qS.tab4 qS.bits4 (fun HT_ HW_ => ?_)
    generalize w20.drew = w21 at BK693 BK694 HB hHeld ⊢
    refine pS (i := 0) (N := some 24) #[true, false, false, false, false, false, false, false, false, false, false] HT_ ?_
    refine tS (i := 1) (N := some 25) #[true, true, false, false, false, false, false, false, false, false, false] HT_ HW_ hHeld ?_
    refine tS (i := 3) (N := some 27) #[true, true, false, true, false, false, false, false, false, false, false] HT_ HW_ hHeld ?_
    refine one_ (i := 2) (N := some 26) #[true, true, true, true, false, false, false, false, false, false, false] rfl rfl (qCA HT_.out (by kernel_rfl)) (by decide) (fun K hK => ?_)
    refine goes_ Tryd.func20 (by kernel_rfl) rfl #[.agg #[.int .i64 a1_0, .int .i64 a1_1, .int .i64 a1_2]] (by rfl) rfl rfl (by (try simp only [List.map_toArray, List.map_cons, List.map_nil]); first | done | rfl | (simp only [List.length_drop, List.length_take]; rfl)) ?_
    with_reducible refine (qo.calls a1_0 a1_1 a1_2 t703 t704 t705 _ A10.out).mono ?_
    rintro e w22 ⟨rfl, hb⟩
    refine ⟨_, rfl, ?_⟩
    have n0_ := Aside0.mk (bb BK693 hb)
    have n1_ := Aside0.mk (bb BK694 hb)
    have n2_ := Aside0.mk (qH bl hb)
    clear BK693
    clear BK694
    clear HB
    have BK693 := n0_
    have BK694 := n1_
    have HB := n2_
    clear n0_ n1_ n2_
    (try clear hb)
    (try clear hb2)
    (try clear hk)
    (try clear hi)
    refine hK.out _ _ ⟨(qE BK693.out 0).trans rfl, (qE BK693.out 1).trans rfl, (qE BK693.out 2).trans rfl, (qE BK694.out 0).trans rfl, (qE BK694.out 1).trans rfl, (qE BK694.out 2).trans rfl⟩ (fun hHeld => ?_)
    clear hK K
    refine norm_ (a' := ?_) ?_ ?_
    rotate_left
    ·show Act.put _ (some 26) _ = _
     simp only [Act.put, List.setIfInBounds_toArray, List.set_cons_zero, List.set_cons_succ, i64_w, i32_w]
     rfl
    refine one_ (i := 4) (N := some 28) #[true, true, true, true, true, false, false, false, false, false, false] rfl rfl (qCA HT_.out (by kernel_rfl)) (by decide) (fun K hK => ?_)
    refine goes_ Tryd.func20 (by kernel_rfl) rfl #[.agg #[.int .i64 a2_0, .int .i64 a2_1, .int .i64 a2_2]] (by rfl) rfl rfl (by (try simp only [List.map_toArray, List.map_cons, List.map_nil]); first | done | rfl | (simp only [List.length_drop, List.length_take]; rfl)) ?_
    with_reducible refine (qo.calls a2_0 a2_1 a2_2 t706 t707 t708 _ A11.out).mono ?_
    rintro e w23 ⟨rfl, hb⟩
    refine ⟨_, rfl, ?_⟩
    have n0_ := Aside0.mk (bb BK693 hb)
    have n1_ := Aside0.mk (bb BK694 hb)
    have n2_ := Aside0.mk (qH bl hb)
    clear BK693
    clear BK694
    clear HB
    have BK693 := n0_
    have BK694 := n1_
    have HB := n2_
    clear n0_ n1_ n2_
    (try clear hb)
    (try clear hb2)
    (try clear hk)
    (try clear hi)
    refine hK.out _ _ ⟨(qE BK693.out 0).trans rfl, (qE BK693.out 1).trans rfl, (qE BK693.out 2).trans rfl, (qE BK694.out 0).trans rfl, (qE BK694.out 1).trans rfl, (qE BK694.out 2).trans rfl⟩ (fun hHeld => ?_)
    clear hK K
    refine norm_ (a' := ?_) ?_ ?_
    rotate_left
    ·show Act.put _ (some 28) _ = _
     simp only [Act.put, List.setIfInBounds_toArray, List.set_cons_zero, List.set_cons_succ, i64_w, i32_w]
     rfl
    refine one_ (i := 5) (N := some 29) #[true, true, true, true, true, true, false, false, false, false, false] rfl rfl (qCA HT_.out (by kernel_rfl)) (by decide) (fun K hK => ?_)
    refine goes_ Tryd.func40 (by kernel_rfl) rfl #[.string a0, .agg #[.int .i64 t703, .int .i64 t704, .int .i64 t705], .agg #[.int .i64 t706, .int .i64 t707, .int .i64 t708]] (by rfl) rfl rfl (by (try simp only [List.map_toArray, List.map_cons, List.map_nil]); first | done | rfl | (simp only [List.length_drop, List.length_take]; rfl)) ?_
    with_reducible refine (qDA.calls k a0 t703 t704 t705 t706 t707 t708 t709 t710 _ ?side1 A12.out).mono ?_
    (case side1 => first | exact HLD.out | exact Laid.below HLD.out (by repeat (first | (with_reducible first | exact HB.out | apply qj | apply qm | apply qi | refine qVA ?_ (Aside0.out (by with_reducible assumption))) | exact HB.out)))
    rintro e w24 ⟨rfl, hb⟩
    refine ⟨_, rfl, ?_⟩
    have n0_ := Aside0.mk (bb BK693 hb)
    have n1_ := Aside0.mk (bb BK694 hb)
    have n2_ := Aside0.mk (qH bl hb)
    clear BK693
    clear BK694
    clear HB
    have BK693 := n0_
    have BK694 := n1_
    have HB := n2_
    clear n0_ n1_ n2_
    (try clear hb)
    (try clear hb2)
    (try clear hk)
    (try clear hi)
    refine hK.out _ _ ⟨(qE BK693.out 0).trans rfl, (qE BK693.out 1).trans rfl, (qE BK693.out 2).trans rfl, (qE BK694.out 0).trans rfl, (qE BK694.out 1).trans rfl, (qE BK694.out 2).trans rfl⟩ (fun hHeld => ?_)
    clear hK K
    refine norm_ (a' := ?_) ?_ ?_
    rotate_left
    ·show Act.put _ (some 29) _ = _
     simp only [Act.put, List.setIfInBounds_toArray, List.set_cons_zero, List.set_cons_succ, i64_w, i32_w]
     rfl
    refine pS (i := 6) (N := some 23) #[true, true, true, true, true, true, true, false, false, false, false] HT_ ?_
    refine pS (i := 7) (N := some 30) #[true, true, true, true, true, true, true, true, false, false, false] HT_ ?_
    refine pS (i := 8) (N := some 31) #[true, true, true, true, true, true, true, true, true, false, false] HT_ ?_
    refine pS (i := 9) (N := some 9) #[true, true, true, true, true, true, true, true, true, true, false] HT_ ?_
    refine pS (i := 10) (N := some 10) #[true, true, true, true, true, true, true, true, true, true, true] HT_ ?_
    refine done_ (qbA HT_.out (by kernel_rfl)) ?_
    try go_wp2
    go_ret
    exact ⟨by first | rfl | (simp [qL, qK] <;> rfl) | (simp [*, qL, qK] <;> rfl), bl⟩
   ·rw [if_neg c14] at H
    have c14b0 : (t710 != t702) = false := by simpa using c14
    (try (have c14b1 : decide (t710 = t702) = true := by simpa using c14))
    (try (have c14b2 : (t710 == t702) = true := by simpa using c14))
    clear c14
    obtain rfl := Option.some.inj H
    go_enter Tryd.func13, Tryd.ntmps13
    try go_wp2_with (first | ((with_reducible refine qa (N := 4) rfl ?_); refine qW ?hg (N := 4) ?hd (cs := #[.int .i64 a1_0, .int .i64 a1_1, .int .i64 a1_2]) (t := 24) ?hr ?_; (case hd => rfl); (case hg => rfl); (case hr => first | (go_simp; done) | (go_simp; rfl)); intro gb693 hg w25 hbox hb; have n0_ := Aside0.mk (qH bl hb); have n1_ := Aside0.mk (hbox); have n2_ := Aside0.mk ((gg hg)); have n3_ := Aside0.mk ((gg hg)); clear HB; have HB := n0_; have BK693 := n1_; have GW693 := n2_; have GE693 := n3_; clear n0_ n1_ n2_ n3_; clear hb hbox hg) | ((with_reducible refine qa (N := 5) rfl ?_); refine qW ?hg (N := 5) ?hd (cs := #[.int .i64 a2_0, .int .i64 a2_1, .int .i64 a2_2]) (t := 24) ?hr ?_; (case hd => rfl); (case hg => rfl); (case hr => first | (go_simp; done) | (go_simp; rfl)); intro gb694 hg w26 hbox hb; have n0_ := Aside0.mk (bb BK693 hb); have n1_ := Aside0.mk (qH bl hb); have n2_ := Aside0.mk (hbox); have n3_ := Aside0.mk ((gg hg)); have n4_ := Aside0.mk ((gg hg)); have n5_ := Aside0.mk ((nl BK693 hg)); have n6_ := Aside0.mk ((nr BK693 hg)); clear BK693; clear HB; have BK693 := n0_; have HB := n1_; have BK694 := n2_; have GW694 := n3_; have GE694 := n4_; have NB693_694 := n5_; have NB694_693 := n6_; clear n0_ n1_ n2_ n3_ n4_ n5_ n6_; clear hb hbox hg))
    have n0_ := Aside0.mk (qC BK693.out)
    have n1_ := Aside0.mk (qC BK694.out)
    have n2_ := Aside0.mk (qi HB.out)
    clear BK693
    clear BK694
    clear HB
    have BK693 := n0_
    have BK694 := n1_
    have HB := n2_
    clear n0_ n1_ n2_
    refine qmA (n := 11) (S := fun w' => w'.cell? ⟨gb693, 0, none⟩ = some (.int .i64 a1_0) ∧ w'.cell? ⟨gb693, 1, none⟩ = some (.int .i64 a1_1) ∧ w'.cell? ⟨gb693, 2, none⟩ = some (.int .i64 a1_2) ∧ w'.cell? ⟨gb694, 0, none⟩ = some (.int .i64 a2_0) ∧ w'.cell? ⟨gb694, 1, none⟩ = some (.int .i64 a2_1) ∧ w'.cell? ⟨gb694, 2, none⟩ = some (.int .i64 a2_2)) (ds := []) #[false, false, false, false, false, false, false, false, false, false, false] (by kernel_rfl) rfl rfl ⟨(qE BK693.out 0).trans rfl, (qE BK693.out 1).trans rfl, (qE BK693.out 2).trans rfl, (qE BK694.out 0).trans rfl, (qE BK694.out 1).trans rfl, (qE BK694.out 2).trans rfl⟩ (fun hHeld => ?_); refine qNA qS.tab3 qS.bits3 (fun HT_ HW_ => ?_)
    generalize w26.drew = w27 at BK693 BK694 HB hHeld ⊢
    refine pS (i := 0) (N := some 15) #[true, false, false, false, false, false, false, false, false, false, false] HT_ ?_
    refine tS (i := 1) (N := some 16) #[true, true, false, false, false, false, false, false, false, false, false] HT_ HW_ hHeld ?_
    refine tS (i := 3) (N := some 18) #[true, true, false, true, false, false, false, false, false, false, false] HT_ HW_ hHeld ?_
    refine one_ (i := 2) (N := some 17) #[true, true, true, true, false, false, false, false, false, false, false] rfl rfl (qCA HT_.out (by kernel_rfl)) (by decide) (fun K hK => ?_)
    refine goes_ Tryd.func20 (by kernel_rfl) rfl #[.agg #[.int .i64 a1_0, .int .i64 a1_1, .int .i64 a1_2]] (by rfl) rfl rfl (by (try simp only [List.map_toArray, List.map_cons, List.map_nil]); first | done | rfl | (simp only [List.length_drop, List.length_take]; rfl)) ?_
    with_reducible refine (qo.calls a1_0 a1_1 a1_2 t695 t696 t697 _ A7.out).mono ?_
    rintro e w28 ⟨rfl, hb⟩
    refine ⟨_, rfl, ?_⟩
    have n0_ := Aside0.mk (bb BK693 hb)
    have n1_ := Aside0.mk (bb BK694 hb)
    have n2_ := Aside0.mk (qH bl hb)
    clear BK693
    clear BK694
    clear HB
    have BK693 := n0_
    have BK694 := n1_
    have HB := n2_
    clear n0_ n1_ n2_
    (try clear hb)
    (try clear hb2)
    (try clear hk)
    (try clear hi)
    refine hK.out _ _ ⟨(qE BK693.out 0).trans rfl, (qE BK693.out 1).trans rfl, (qE BK693.out 2).trans rfl, (qE BK694.out 0).trans rfl, (qE BK694.out 1).trans rfl, (qE BK694.out 2).trans rfl⟩ (fun hHeld => ?_)
    clear hK K
    refine norm_ (a' := ?_) ?_ ?_
    rotate_left
    ·show Act.put _ (some 17) _ = _
     simp only [Act.put, List.setIfInBounds_toArray, List.set_cons_zero, List.set_cons_succ, i64_w, i32_w]
     rfl
    refine one_ (i := 4) (N := some 19) #[true, true, true, true, true, false, false, false, false, false, false] rfl rfl (qCA HT_.out (by kernel_rfl)) (by decide) (fun K hK => ?_)
    refine goes_ Tryd.func20 (by kernel_rfl) rfl #[.agg #[.int .i64 a2_0, .int .i64 a2_1, .int .i64 a2_2]] (by rfl) rfl rfl (by (try simp only [List.map_toArray, List.map_cons, List.map_nil]); first | done | rfl | (simp only [List.length_drop, List.length_take]; rfl)) ?_
    with_reducible refine (qo.calls a2_0 a2_1 a2_2 t698 t699 t700 _ A8.out).mono ?_
    rintro e w29 ⟨rfl, hb⟩
    refine ⟨_, rfl, ?_⟩
    have n0_ := Aside0.mk (bb BK693 hb)
    have n1_ := Aside0.mk (bb BK694 hb)
    have n2_ := Aside0.mk (qH bl hb)
    clear BK693
    clear BK694
    clear HB
    have BK693 := n0_
    have BK694 := n1_
    have HB := n2_
    clear n0_ n1_ n2_
    (try clear hb)
    (try clear hb2)
    (try clear hk)
    (try clear hi)
    refine hK.out _ _ ⟨(qE BK693.out 0).trans rfl, (qE BK693.out 1).trans rfl, (qE BK693.out 2).trans rfl, (qE BK694.out 0).trans rfl, (qE BK694.out 1).trans rfl, (qE BK694.out 2).trans rfl⟩ (fun hHeld => ?_)
    clear hK K
    refine norm_ (a' := ?_) ?_ ?_
    rotate_left
    ·show Act.put _ (some 19) _ = _
     simp only [Act.put, List.setIfInBounds_toArray, List.set_cons_zero, List.set_cons_succ, i64_w, i32_w]
     rfl
    refine one_ (i := 5) (N := some 20) #[true, true, true, true, true, true, false, false, false, false, false] rfl rfl (qCA HT_.out (by kernel_rfl)) (by decide) (fun K hK => ?_)
    refine goes_ Tryd.func39 (by kernel_rfl) rfl #[.string a0, .agg #[.int .i64 t695, .int .i64 t696, .int .i64 t697], .agg #[.int .i64 t698, .int .i64 t699, .int .i64 t700]] (by rfl) rfl rfl (by (try simp only [List.map_toArray, List.map_cons, List.map_nil]); first | done | rfl | (simp only [List.length_drop, List.length_take]; rfl)) ?_
    with_reducible refine (qe.calls k a0 t695 t696 t697 t698 t699 t700 t701 t702 _ A9.out).mono ?_
    rintro e w30 ⟨rfl, hb⟩
    refine ⟨_, rfl, ?_⟩
    have n0_ := Aside0.mk (bb BK693 hb)
    have n1_ := Aside0.mk (bb BK694 hb)
    have n2_ := Aside0.mk (qH bl hb)
    clear BK693
    clear BK694
    clear HB
    have BK693 := n0_
    have BK694 := n1_
    have HB := n2_
    clear n0_ n1_ n2_
    (try clear hb)
    (try clear hb2)
    (try clear hk)
    (try clear hi)
    refine hK.out _ _ ⟨(qE BK693.out 0).trans rfl, (qE BK693.out 1).trans rfl, (qE BK693.out 2).trans rfl, (qE BK694.out 0).trans rfl, (qE BK694.out 1).trans rfl, (qE BK694.out 2).trans rfl⟩ (fun hHeld => ?_)
    clear hK K
    refine norm_ (a' := ?_) ?_ ?_
    rotate_left
    ·show Act.put _ (some 20) _ = _
     simp only [Act.put, List.setIfInBounds_toArray, List.set_cons_zero, List.set_cons_succ, i64_w, i32_w]
     rfl
    refine pS (i := 6) (N := some 14) #[true, true, true, true, true, true, true, false, false, false, false] HT_ ?_
    refine pS (i := 7) (N := some 21) #[true, true, true, true, true, true, true, true, false, false, false] HT_ ?_
    refine pS (i := 8) (N := some 22) #[true, true, true, true, true, true, true, true, true, false, false] HT_ ?_
    refine pS (i := 9) (N := some 7) #[true, true, true, true, true, true, true, true, true, true, false] HT_ ?_
    refine pS (i := 10) (N := some 8) #[true, true, true, true, true, true, true, true, true, true, true] HT_ ?_
    refine done_ (qbA HT_.out (by kernel_rfl)) ?_
    try go_wp2
    have n0_ := Aside0.mk (qC BK693.out)
    have n1_ := Aside0.mk (qC BK694.out)
    have n2_ := Aside0.mk (qi HB.out)
    clear BK693
    clear BK694
    clear HB
    have BK693 := n0_
    have BK694 := n1_
    have HB := n2_
    clear n0_ n1_ n2_
    refine qmA (n := 11) (S := fun w' => w'.cell? ⟨gb693, 0, none⟩ = some (.int .i64 a1_0) ∧ w'.cell? ⟨gb693, 1, none⟩ = some (.int .i64 a1_1) ∧ w'.cell? ⟨gb693, 2, none⟩ = some (.int .i64 a1_2) ∧ w'.cell? ⟨gb694, 0, none⟩ = some (.int .i64 a2_0) ∧ w'.cell? ⟨gb694, 1, none⟩ = some (.int .i64 a2_1) ∧ w'.cell? ⟨gb694, 2, none⟩ = some (.int .i64 a2_2)) (ds := []) #[false, false, false, false, false, false, false, false, false, false, false] (by kernel_rfl) rfl rfl ⟨(qE BK693.out 0).trans rfl, (qE BK693.out 1).trans rfl, (qE BK693.out 2).trans rfl, (qE BK694.out 0).trans rfl, (qE BK694.out 1).trans rfl, (qE BK694.out 2).trans rfl⟩ (fun hHeld => ?_); refine qNA qS.tab4 qS.bits4 (fun HT_ HW_ => ?_)
    generalize w30.drew = w31 at BK693 BK694 HB hHeld ⊢
    refine pS (i := 0) (N := some 24) #[true, false, false, false, false, false, false, false, false, false, false] HT_ ?_
    refine tS (i := 1) (N := some 25) #[true, true, false, false, false, false, false, false, false, false, false] HT_ HW_ hHeld ?_
    refine tS (i := 3) (N := some 27) #[true, true, false, true, false, false, false, false, false, false, false] HT_ HW_ hHeld ?_
    refine one_ (i := 2) (N := some 26) #[true, true, true, true, false, false, false, false, false, false, false] rfl rfl (qCA HT_.out (by kernel_rfl)) (by decide) (fun K hK => ?_)
    refine goes_ Tryd.func20 (by kernel_rfl) rfl #[.agg #[.int .i64 a1_0, .int .i64 a1_1, .int .i64 a1_2]] (by rfl) rfl rfl (by (try simp only [List.map_toArray, List.map_cons, List.map_nil]); first | done | rfl | (simp only [List.length_drop, List.length_take]; rfl)) ?_
    with_reducible refine (qo.calls a1_0 a1_1 a1_2 t703 t704 t705 _ A10.out).mono ?_
    rintro e w32 ⟨rfl, hb⟩
    refine ⟨_, rfl, ?_⟩
    have n0_ := Aside0.mk (bb BK693 hb)
    have n1_ := Aside0.mk (bb BK694 hb)
    have n2_ := Aside0.mk (qH bl hb)
    clear BK693
    clear BK694
    clear HB
    have BK693 := n0_
    have BK694 := n1_
    have HB := n2_
    clear n0_ n1_ n2_
    (try clear hb)
    (try clear hb2)
    (try clear hk)
    (try clear hi)
    refine hK.out _ _ ⟨(qE BK693.out 0).trans rfl, (qE BK693.out 1).trans rfl, (qE BK693.out 2).trans rfl, (qE BK694.out 0).trans rfl, (qE BK694.out 1).trans rfl, (qE BK694.out 2).trans rfl⟩ (fun hHeld => ?_)
    clear hK K
    refine norm_ (a' := ?_) ?_ ?_
    rotate_left
    ·show Act.put _ (some 26) _ = _
     simp only [Act.put, List.setIfInBounds_toArray, List.set_cons_zero, List.set_cons_succ, i64_w, i32_w]
     rfl
    refine one_ (i := 4) (N := some 28) #[true, true, true, true, true, false, false, false, false, false, false] rfl rfl (qCA HT_.out (by kernel_rfl)) (by decide) (fun K hK => ?_)
    refine goes_ Tryd.func20 (by kernel_rfl) rfl #[.agg #[.int .i64 a2_0, .int .i64 a2_1, .int .i64 a2_2]] (by rfl) rfl rfl (by (try simp only [List.map_toArray, List.map_cons, List.map_nil]); first | done | rfl | (simp only [List.length_drop, List.length_take]; rfl)) ?_
    with_reducible refine (qo.calls a2_0 a2_1 a2_2 t706 t707 t708 _ A11.out).mono ?_
    rintro e w33 ⟨rfl, hb⟩
    refine ⟨_, rfl, ?_⟩
    have n0_ := Aside0.mk (bb BK693 hb)
    have n1_ := Aside0.mk (bb BK694 hb)
    have n2_ := Aside0.mk (qH bl hb)
    clear BK693
    clear BK694
    clear HB
    have BK693 := n0_
    have BK694 := n1_
    have HB := n2_
    clear n0_ n1_ n2_
    (try clear hb)
    (try clear hb2)
    (try clear hk)
    (try clear hi)
    refine hK.out _ _ ⟨(qE BK693.out 0).trans rfl, (qE BK693.out 1).trans rfl, (qE BK693.out 2).trans rfl, (qE BK694.out 0).trans rfl, (qE BK694.out 1).trans rfl, (qE BK694.out 2).trans rfl⟩ (fun hHeld => ?_)
    clear hK K
    refine norm_ (a' := ?_) ?_ ?_
    rotate_left
    ·show Act.put _ (some 28) _ = _
     simp only [Act.put, List.setIfInBounds_toArray, List.set_cons_zero, List.set_cons_succ, i64_w, i32_w]
     rfl
    refine one_ (i := 5) (N := some 29) #[true, true, true, true, true, true, false, false, false, false, false] rfl rfl (qCA HT_.out (by kernel_rfl)) (by decide) (fun K hK => ?_)
    refine goes_ Tryd.func40 (by kernel_rfl) rfl #[.string a0, .agg #[.int .i64 t703, .int .i64 t704, .int .i64 t705], .agg #[.int .i64 t706, .int .i64 t707, .int .i64 t708]] (by rfl) rfl rfl (by (try simp only [List.map_toArray, List.map_cons, List.map_nil]); first | done | rfl | (simp only [List.length_drop, List.length_take]; rfl)) ?_
    with_reducible refine (qDA.calls k a0 t703 t704 t705 t706 t707 t708 t709 t710 _ ?side1 A12.out).mono ?_
    (case side1 => first | exact HLD.out | exact Laid.below HLD.out (by repeat (first | (with_reducible first | exact HB.out | apply qj | apply qm | apply qi | refine qVA ?_ (Aside0.out (by with_reducible assumption))) | exact HB.out)))
    rintro e w34 ⟨rfl, hb⟩
    refine ⟨_, rfl, ?_⟩
    have n0_ := Aside0.mk (bb BK693 hb)
    have n1_ := Aside0.mk (bb BK694 hb)
    have n2_ := Aside0.mk (qH bl hb)
    clear BK693
    clear BK694
    clear HB
    have BK693 := n0_
    have BK694 := n1_
    have HB := n2_
    clear n0_ n1_ n2_
    (try clear hb)
    (try clear hb2)
    (try clear hk)
    (try clear hi)
    refine hK.out _ _ ⟨(qE BK693.out 0).trans rfl, (qE BK693.out 1).trans rfl, (qE BK693.out 2).trans rfl, (qE BK694.out 0).trans rfl, (qE BK694.out 1).trans rfl, (qE BK694.out 2).trans rfl⟩ (fun hHeld => ?_)
    clear hK K
    refine norm_ (a' := ?_) ?_ ?_
    rotate_left
    ·show Act.put _ (some 29) _ = _
     simp only [Act.put, List.setIfInBounds_toArray, List.set_cons_zero, List.set_cons_succ, i64_w, i32_w]
     rfl
    refine pS (i := 6) (N := some 23) #[true, true, true, true, true, true, true, false, false, false, false] HT_ ?_
    refine pS (i := 7) (N := some 30) #[true, true, true, true, true, true, true, true, false, false, false] HT_ ?_
    refine pS (i := 8) (N := some 31) #[true, true, true, true, true, true, true, true, true, false, false] HT_ ?_
    refine pS (i := 9) (N := some 9) #[true, true, true, true, true, true, true, true, true, true, false] HT_ ?_
    refine pS (i := 10) (N := some 10) #[true, true, true, true, true, true, true, true, true, true, true] HT_ ?_
    refine done_ (qbA HT_.out (by kernel_rfl)) ?_
    try go_wp2
    go_ret
    exact ⟨by first | rfl | (simp [qL, qK] <;> rfl) | (simp [*, qL, qK] <;> rfl), bl⟩
  ·rw [if_neg c13] at H
   have c13b0 : (t709.toList == t701.toList) = false := beq_eq_false_iff_ne.mpr c13
   have c13b1 : (t709.toList != t701.toList) = true := bne_iff_ne.mpr c13
   obtain rfl := Option.some.inj H
   go_enter Tryd.func13, Tryd.ntmps13
   try go_wp2_with (first | ((with_reducible refine qa (N := 4) rfl ?_); refine qW ?hg (N := 4) ?hd (cs := #[.int .i64 a1_0, .int .i64 a1_1, .int .i64 a1_2]) (t := 24) ?hr ?_; (case hd => rfl); (case hg => rfl); (case hr => first | (go_simp; done) | (go_simp; rfl)); intro gb693 hg w35 hbox hb; have n0_ := Aside0.mk (qH bl hb); have n1_ := Aside0.mk (hbox); have n2_ := Aside0.mk ((gg hg)); have n3_ := Aside0.mk ((gg hg)); clear HB; have HB := n0_; have BK693 := n1_; have GW693 := n2_; have GE693 := n3_; clear n0_ n1_ n2_ n3_; clear hb hbox hg) | ((with_reducible refine qa (N := 5) rfl ?_); refine qW ?hg (N := 5) ?hd (cs := #[.int .i64 a2_0, .int .i64 a2_1, .int .i64 a2_2]) (t := 24) ?hr ?_; (case hd => rfl); (case hg => rfl); (case hr => first | (go_simp; done) | (go_simp; rfl)); intro gb694 hg w36 hbox hb; have n0_ := Aside0.mk (bb BK693 hb); have n1_ := Aside0.mk (qH bl hb); have n2_ := Aside0.mk (hbox); have n3_ := Aside0.mk ((gg hg)); have n4_ := Aside0.mk ((gg hg)); have n5_ := Aside0.mk ((nl BK693 hg)); have n6_ := Aside0.mk ((nr BK693 hg)); clear BK693; clear HB; have BK693 := n0_; have HB := n1_; have BK694 := n2_; have GW694 := n3_; have GE694 := n4_; have NB693_694 := n5_; have NB694_693 := n6_; clear n0_ n1_ n2_ n3_ n4_ n5_ n6_; clear hb hbox hg))
   have n0_ := Aside0.mk (qC BK693.out)
   have n1_ := Aside0.mk (qC BK694.out)
   have n2_ := Aside0.mk (qi HB.out)
   clear BK693
   clear BK694
   clear HB
   have BK693 := n0_
   have BK694 := n1_
   have HB := n2_
   clear n0_ n1_ n2_
   refine qmA (n := 11) (S := fun w' => w'.cell? ⟨gb693, 0, none⟩ = some (.int .i64 a1_0) ∧ w'.cell? ⟨gb693, 1, none⟩ = some (.int .i64 a1_1) ∧ w'.cell? ⟨gb693, 2, none⟩ = some (.int .i64 a1_2) ∧ w'.cell? ⟨gb694, 0, none⟩ = some (.int .i64 a2_0) ∧ w'.cell? ⟨gb694, 1, none⟩ = some (.int .i64 a2_1) ∧ w'.cell? ⟨gb694, 2, none⟩ = some (.int .i64 a2_2)) (ds := []) #[false, false, false, false, false, false, false, false, false, false, false] (by kernel_rfl) rfl rfl ⟨(qE BK693.out 0).trans rfl, (qE BK693.out 1).trans rfl, (qE BK693.out 2).trans rfl, (qE BK694.out 0).trans rfl, (qE BK694.out 1).trans rfl, (qE BK694.out 2).trans rfl⟩ (fun hHeld => ?_); refine qNA qS.tab3 qS.bits3 (fun HT_ HW_ => ?_)
   generalize w36.drew = w37 at BK693 BK694 HB hHeld ⊢
   refine pS (i := 0) (N := some 15) #[true, false, false, false, false, false, false, false, false, false, false] HT_ ?_
   refine tS (i := 1) (N := some 16) #[true, true, false, false, false, false, false, false, false, false, false] HT_ HW_ hHeld ?_
   refine tS (i := 3) (N := some 18) #[true, true, false, true, false, false, false, false, false, false, false] HT_ HW_ hHeld ?_
   refine one_ (i := 2) (N := some 17) #[true, true, true, true, false, false, false, false, false, false, false] rfl rfl (qCA HT_.out (by kernel_rfl)) (by decide) (fun K hK => ?_)
   refine goes_ Tryd.func20 (by kernel_rfl) rfl #[.agg #[.int .i64 a1_0, .int .i64 a1_1, .int .i64 a1_2]] (by rfl) rfl rfl (by (try simp only [List.map_toArray, List.map_cons, List.map_nil]); first | done | rfl | (simp only [List.length_drop, List.length_take]; rfl)) ?_
   with_reducible refine (qo.calls a1_0 a1_1 a1_2 t695 t696 t697 _ A7.out).mono ?_
   rintro e w38 ⟨rfl, hb⟩
   refine ⟨_, rfl, ?_⟩
   have n0_ := Aside0.mk (bb BK693 hb)
   have n1_ := Aside0.mk (bb BK694 hb)
   have n2_ := Aside0.mk (qH bl hb)
   clear BK693
   clear BK694
   clear HB
   have BK693 := n0_
   have BK694 := n1_
   have HB := n2_
   clear n0_ n1_ n2_
   (try clear hb)
   (try clear hb2)
   (try clear hk)
   (try clear hi)
   refine hK.out _ _ ⟨(qE BK693.out 0).trans rfl, (qE BK693.out 1).trans rfl, (qE BK693.out 2).trans rfl, (qE BK694.out 0).trans rfl, (qE BK694.out 1).trans rfl, (qE BK694.out 2).trans rfl⟩ (fun hHeld => ?_)
   clear hK K
   refine norm_ (a' := ?_) ?_ ?_
   rotate_left
   ·show Act.put _ (some 17) _ = _
    simp only [Act.put, List.setIfInBounds_toArray, List.set_cons_zero, List.set_cons_succ, i64_w, i32_w]
    rfl
   refine one_ (i := 4) (N := some 19) #[true, true, true, true, true, false, false, false, false, false, false] rfl rfl (qCA HT_.out (by kernel_rfl)) (by decide) (fun K hK => ?_)
   refine goes_ Tryd.func20 (by kernel_rfl) rfl #[.agg #[.int .i64 a2_0, .int .i64 a2_1, .int .i64 a2_2]] (by rfl) rfl rfl (by (try simp only [List.map_toArray, List.map_cons, List.map_nil]); first | done | rfl | (simp only [List.length_drop, List.length_take]; rfl)) ?_
   with_reducible refine (qo.calls a2_0 a2_1 a2_2 t698 t699 t700 _ A8.out).mono ?_
   rintro e w39 ⟨rfl, hb⟩
   refine ⟨_, rfl, ?_⟩
   have n0_ := Aside0.mk (bb BK693 hb)
   have n1_ := Aside0.mk (bb BK694 hb)
   have n2_ := Aside0.mk (qH bl hb)
   clear BK693
   clear BK694
   clear HB
   have BK693 := n0_
   have BK694 := n1_
   have HB := n2_
   clear n0_ n1_ n2_
   (try clear hb)
   (try clear hb2)
   (try clear hk)
   (try clear hi)
   refine hK.out _ _ ⟨(qE BK693.out 0).trans rfl, (qE BK693.out 1).trans rfl, (qE BK693.out 2).trans rfl, (qE BK694.out 0).trans rfl, (qE BK694.out 1).trans rfl, (qE BK694.out 2).trans rfl⟩ (fun hHeld => ?_)
   clear hK K
   refine norm_ (a' := ?_) ?_ ?_
   rotate_left
   ·show Act.put _ (some 19) _ = _
    simp only [Act.put, List.setIfInBounds_toArray, List.set_cons_zero, List.set_cons_succ, i64_w, i32_w]
    rfl
   refine one_ (i := 5) (N := some 20) #[true, true, true, true, true, true, false, false, false, false, false] rfl rfl (qCA HT_.out (by kernel_rfl)) (by decide) (fun K hK => ?_)
   refine goes_ Tryd.func39 (by kernel_rfl) rfl #[.string a0, .agg #[.int .i64 t695, .int .i64 t696, .int .i64 t697], .agg #[.int .i64 t698, .int .i64 t699, .int .i64 t700]] (by rfl) rfl rfl (by (try simp only [List.map_toArray, List.map_cons, List.map_nil]); first | done | rfl | (simp only [List.length_drop, List.length_take]; rfl)) ?_
   with_reducible refine (qe.calls k a0 t695 t696 t697 t698 t699 t700 t701 t702 _ A9.out).mono ?_
   rintro e w40 ⟨rfl, hb⟩
   refine ⟨_, rfl, ?_⟩
   have n0_ := Aside0.mk (bb BK693 hb)
   have n1_ := Aside0.mk (bb BK694 hb)
   have n2_ := Aside0.mk (qH bl hb)
   clear BK693
   clear BK694
   clear HB
   have BK693 := n0_
   have BK694 := n1_
   have HB := n2_
   clear n0_ n1_ n2_
   (try clear hb)
   (try clear hb2)
   (try clear hk)
   (try clear hi)
   refine hK.out _ _ ⟨(qE BK693.out 0).trans rfl, (qE BK693.out 1).trans rfl, (qE BK693.out 2).trans rfl, (qE BK694.out 0).trans rfl, (qE BK694.out 1).trans rfl, (qE BK694.out 2).trans rfl⟩ (fun hHeld => ?_)
   clear hK K
   refine norm_ (a' := ?_) ?_ ?_
   rotate_left
   ·show Act.put _ (some 20) _ = _
    simp only [Act.put, List.setIfInBounds_toArray, List.set_cons_zero, List.set_cons_succ, i64_w, i32_w]
    rfl
   refine pS (i := 6) (N := some 14) #[true, true, true, true, true, true, true, false, false, false, false] HT_ ?_
   refine pS (i := 7) (N := some 21) #[true, true, true, true, true, true, true, true, false, false, false] HT_ ?_
   refine pS (i := 8) (N := some 22) #[true, true, true, true, true, true, true, true, true, false, false] HT_ ?_
   refine pS (i := 9) (N := some 7) #[true, true, true, true, true, true, true, true, true, true, false] HT_ ?_
   refine pS (i := 10) (N := some 8) #[true, true, true, true, true, true, true, true, true, true, true] HT_ ?_
   refine done_ (qbA HT_.out (by kernel_rfl)) ?_
   try go_wp2
   have n0_ := Aside0.mk (qC BK693.out)
   have n1_ := Aside0.mk (qC BK694.out)
   have n2_ := Aside0.mk (qi HB.out)
   clear BK693
   clear BK694
   clear HB
   have BK693 := n0_
   have BK694 := n1_
   have HB := n2_
   clear n0_ n1_ n2_
   refine qmA (n := 11) (S := fun w' => w'.cell? ⟨gb693, 0, none⟩ = some (.int .i64 a1_0) ∧ w'.cell? ⟨gb693, 1, none⟩ = some (.int .i64 a1_1) ∧ w'.cell? ⟨gb693, 2, none⟩ = some (.int .i64 a1_2) ∧ w'.cell? ⟨gb694, 0, none⟩ = some (.int .i64 a2_0) ∧ w'.cell? ⟨gb694, 1, none⟩ = some (.int .i64 a2_1) ∧ w'.cell? ⟨gb694, 2, none⟩ = some (.int .i64 a2_2)) (ds := []) #[false, false, false, false, false, false, false, false, false, false, false] (by kernel_rfl) rfl rfl ⟨(qE BK693.out 0).trans rfl, (qE BK693.out 1).trans rfl, (qE BK693.out 2).trans rfl, (qE BK694.out 0).trans rfl, (qE BK694.out 1).trans rfl, (qE BK694.out 2).trans rfl⟩ (fun hHeld => ?_); refine qNA qS.tab4 qS.bits4 (fun HT_ HW_ => ?_)
   generalize w40.drew = w41 at BK693 BK694 HB hHeld ⊢
   refine pS (i := 0) (N := some 24) #[true, false, false, false, false, false, false, false, false, false, false] HT_ ?_
   refine tS (i := 1) (N := some 25) #[true, true, false, false, false, false, false, false, false, false, false] HT_ HW_ hHeld ?_
   refine tS (i := 3) (N := some 27) #[true, true, false, true, false, false, false, false, false, false, false] HT_ HW_ hHeld ?_
   refine one_ (i := 2) (N := some 26) #[true, true, true, true, false, false, false, false, false, false, false] rfl rfl (qCA HT_.out (by kernel_rfl)) (by decide) (fun K hK => ?_)
   refine goes_ Tryd.func20 (by kernel_rfl) rfl #[.agg #[.int .i64 a1_0, .int .i64 a1_1, .int .i64 a1_2]] (by rfl) rfl rfl (by (try simp only [List.map_toArray, List.map_cons, List.map_nil]); first | done | rfl | (simp only [List.length_drop, List.length_take]; rfl)) ?_
   with_reducible refine (qo.calls a1_0 a1_1 a1_2 t703 t704 t705 _ A10.out).mono ?_
   rintro e w42 ⟨rfl, hb⟩
   refine ⟨_, rfl, ?_⟩
   have n0_ := Aside0.mk (bb BK693 hb)
   have n1_ := Aside0.mk (bb BK694 hb)
   have n2_ := Aside0.mk (qH bl hb)
   clear BK693
   clear BK694
   clear HB
   have BK693 := n0_
   have BK694 := n1_
   have HB := n2_
   clear n0_ n1_ n2_
   (try clear hb)
   (try clear hb2)
   (try clear hk)
   (try clear hi)
   refine hK.out _ _ ⟨(qE BK693.out 0).trans rfl, (qE BK693.out 1).trans rfl, (qE BK693.out 2).trans rfl, (qE BK694.out 0).trans rfl, (qE BK694.out 1).trans rfl, (qE BK694.out 2).trans rfl⟩ (fun hHeld => ?_)
   clear hK K
   refine norm_ (a' := ?_) ?_ ?_
   rotate_left
   ·show Act.put _ (some 26) _ = _
    simp only [Act.put, List.setIfInBounds_toArray, List.set_cons_zero, List.set_cons_succ, i64_w, i32_w]
    rfl
   refine one_ (i := 4) (N := some 28) #[true, true, true, true, true, false, false, false, false, false, false] rfl rfl (qCA HT_.out (by kernel_rfl)) (by decide) (fun K hK => ?_)
   refine goes_ Tryd.func20 (by kernel_rfl) rfl #[.agg #[.int .i64 a2_0, .int .i64 a2_1, .int .i64 a2_2]] (by rfl) rfl rfl (by (try simp only [List.map_toArray, List.map_cons, List.map_nil]); first | done | rfl | (simp only [List.length_drop, List.length_take]; rfl)) ?_
   with_reducible refine (qo.calls a2_0 a2_1 a2_2 t706 t707 t708 _ A11.out).mono ?_
   rintro e w43 ⟨rfl, hb⟩
   refine ⟨_, rfl, ?_⟩
   have n0_ := Aside0.mk (bb BK693 hb)
   have n1_ := Aside0.mk (bb BK694 hb)
   have n2_ := Aside0.mk (qH bl hb)
   clear BK693
   clear BK694
   clear HB
   have BK693 := n0_
   have BK694 := n1_
   have HB := n2_
   clear n0_ n1_ n2_
   (try clear hb)
   (try clear hb2)
   (try clear hk)
   (try clear hi)
   refine hK.out _ _ ⟨(qE BK693.out 0).trans rfl, (qE BK693.out 1).trans rfl, (qE BK693.out 2).trans rfl, (qE BK694.out 0).trans rfl, (qE BK694.out 1).trans rfl, (qE BK694.out 2).trans rfl⟩ (fun hHeld => ?_)
   clear hK K
   refine norm_ (a' := ?_) ?_ ?_
   rotate_left
   ·show Act.put _ (some 28) _ = _
    simp only [Act.put, List.setIfInBounds_toArray, List.set_cons_zero, List.set_cons_succ, i64_w, i32_w]
    rfl
   refine one_ (i := 5) (N := some 29) #[true, true, true, true, true, true, false, false, false, false, false] rfl rfl (qCA HT_.out (by kernel_rfl)) (by decide) (fun K hK => ?_)
   refine goes_ Tryd.func40 (by kernel_rfl) rfl #[.string a0, .agg #[.int .i64 t703, .int .i64 t704, .int .i64 t705], .agg #[.int .i64 t706, .int .i64 t707, .int .i64 t708]] (by rfl) rfl rfl (by (try simp only [List.map_toArray, List.map_cons, List.map_nil]); first | done | rfl | (simp only [List.length_drop, List.length_take]; rfl)) ?_
   with_reducible refine (qDA.calls k a0 t703 t704 t705 t706 t707 t708 t709 t710 _ ?side1 A12.out).mono ?_
   (case side1 => first | exact HLD.out | exact Laid.below HLD.out (by repeat (first | (with_reducible first | exact HB.out | apply qj | apply qm | apply qi | refine qVA ?_ (Aside0.out (by with_reducible assumption))) | exact HB.out)))
   rintro e w44 ⟨rfl, hb⟩
   refine ⟨_, rfl, ?_⟩
   have n0_ := Aside0.mk (bb BK693 hb)
   have n1_ := Aside0.mk (bb BK694 hb)
   have n2_ := Aside0.mk (qH bl hb)
   clear BK693
   clear BK694
   clear HB
   have BK693 := n0_
   have BK694 := n1_
   have HB := n2_
   clear n0_ n1_ n2_
   (try clear hb)
   (try clear hb2)
   (try clear hk)
   (try clear hi)
   refine hK.out _ _ ⟨(qE BK693.out 0).trans rfl, (qE BK693.out 1).trans rfl, (qE BK693.out 2).trans rfl, (qE BK694.out 0).trans rfl, (qE BK694.out 1).trans rfl, (qE BK694.out 2).trans rfl⟩ (fun hHeld => ?_)
   clear hK K
   refine norm_ (a' := ?_) ?_ ?_
   rotate_left
   ·show Act.put _ (some 29) _ = _
    simp only [Act.put, List.setIfInBounds_toArray, List.set_cons_zero, List.set_cons_succ, i64_w, i32_w]
    rfl
   refine pS (i := 6) (N := some 23) #[true, true, true, true, true, true, true, false, false, false, false] HT_ ?_
   refine pS (i := 7) (N := some 30) #[true, true, true, true, true, true, true, true, false, false, false] HT_ ?_
   refine pS (i := 8) (N := some 31) #[true, true, true, true, true, true, true, true, true, false, false] HT_ ?_
   refine pS (i := 9) (N := some 9) #[true, true, true, true, true, true, true, true, true, true, false] HT_ ?_
   refine pS (i := 10) (N := some 10) #[true, true, true, true, true, true, true, true, true, true, true] HT_ ?_
   refine done_ (qbA HT_.out (by kernel_rfl)) ?_
   try go_wp2
   go_ret
   exact ⟨by first | rfl | (simp [qL, qK] <;> rfl) | (simp [*, qL, qK] <;> rfl), bl⟩
def qS.Pure : Prop := ∀ (a0 : ByteArray) (a1_0 : Int) (a1_1 : Int) (a1_2 : Int) (a2_0 : Int) (a2_1 : Int) (a2_2 : Int), a0.size ≤ 140737488351232 → (Lit.int .i64 a1_0).wf = true → (Lit.int .i64 a1_1).wf = true → (Lit.int .i64 a1_2).wf = true → (Lit.int .i64 a2_0).wf = true → (Lit.int .i64 a2_1).wf = true → (Lit.int .i64 a2_2).wf = true → ∃ k, qS.f k a0 a1_0 a1_1 a1_2 a2_0 a2_1 a2_2 = some true
end Go.Proofs.YtbpfhpjbeomfcaaDoor.P
namespace Go.Proofs.YtbpfhpjbeomfcaaDoor
open Go.ChangeShapes Go.WideShapes Go.Deep Go.RowKit Go.Proofs.YtbpfhpjbeomfcaaDoorW.PrintWords
set_option linter.unusedVariables false
set_option linter.unusedSimpArgs false
theorem list_of_3 : ∀ zs : List Int, zs.length = 3 → ∃ x0 x1 x2 : Int, zs = [x0, x1, x2]
 | [x0, x1, x2], _ => ⟨x0, x1, x2, rfl⟩
def laidB (P : Program) : List Field → Nat → Nat → Bool
 | [], o, n => decide (o = n)
 | f :: fs, o, n => decide (f.offset = o) && laidB P fs (o + P.cellsOf f.type) n
def flatB (P : Program) : Nat → TypeId → Bool
 | 0, _ => false
 | m + 1, t => match P.underlying t with
  | some (.int .i64) => decide (P.cellsOf t = 1)
  | some (.struct fs) => laidB P fs.toList 0 (P.cellsOf t) && fs.toList.all fun f => flatB P m f.type
  | _ => false
section
variable {H : Type} {enc : TypeId × Value → H} {P : Program} {w : World} {base : Nat} {spare : Nat → Bool} {held : Bool}
theorem fields_flat {n : Nat} (cs : List Value) (rd : TypeId → List Value → Option (DataW H × List MemPlace)) :
  ∀ (fs : List Field) (o : Nat) (xs : List (DataW H × List MemPlace)), laidB P fs o n = true → xs.length = fs.length →
   (∀ (i : Nat) (f : Field), fs[i]? = some f → rd f.type ((cs.drop f.offset).take (P.cellsOf f.type)) = xs[i]?) →
   (∀ f ∈ fs, ∀ cs' x, rd f.type cs' = some x → cs'.length = P.cellsOf f.type ∧ ∃ zs : List Int, cs' = zs.map (Value.int .i64) ∧ ∀ z ∈ zs, (Lit.int .i64 z).wf = true) →
   o ≤ n ∧ ∃ zs : List Int, (cs.drop o).take (n - o) = zs.map (Value.int .i64) ∧ ∀ z ∈ zs, (Lit.int .i64 z).wf = true
 | [], o, xs, hl, hx, hr, hi => by
  have : o = n := by simpa [laidB] using hl
  subst this
  exact ⟨Nat.le_refl _, [], by simp, by simp⟩
 | f :: fs, o, xs, hl, hx, hr, hi => by
  simp only [laidB, Bool.and_eq_true, decide_eq_true_eq] at hl
  obtain ⟨ho, hl⟩ := hl
  match xs, hx with
  | x :: xs, hx =>
   have h0 := hr 0 f rfl
   rw [ho] at h0
   obtain ⟨hlen, zs, hz, hw⟩ := hi f (by simp) _ x h0
   obtain ⟨hle, ws, hw2, hw3⟩ := fields_flat cs rd fs (o + P.cellsOf f.type) xs hl (by simpa using hx) (fun i g hg => by have := hr (i + 1) g (by simpa using hg); simpa using this) (fun g hg => hi g (by simp [hg]))
   refine ⟨by omega, zs ++ ws, ?_, fun z hz' => ?_⟩
   ·rw [List.map_append, ← hz, ← hw2, ← List.drop_drop, show n - o = P.cellsOf f.type + (n - (o + P.cellsOf f.type)) by omega, List.take_add]
   ·rcases List.mem_append.1 hz' with h | h
    ·exact hw z h
    ·exact hw3 z h
theorem trod_flat (m : Nat) : ∀ {t : TypeId} {fuel : Nat} {cs : List Value} {x : DataW H × List MemPlace}, flatB P m t = true → DataW.trod enc P w base spare held fuel t cs = some x → (∃ k, P.underlying t = some (.int k)) → cs.length = 1 ∧ ∃ zs : List Int, cs = zs.map (Value.int .i64) ∧ ∀ z ∈ zs, (Lit.int .i64 z).wf = true := by
 intro t fuel cs x hf h ⟨k, hk⟩
 cases m with
 | zero => simp [flatB] at hf
 | succ m =>
  unfold flatB at hf
  rw [hk] at hf
  have : k = .i64 := by
   cases k <;> first | rfl | (simp at hf)
  subst this
  obtain ⟨n, rfl, _, hw⟩ := DataW.trod_int hk h
  exact ⟨rfl, [n], rfl, by simpa using hw⟩
theorem trod_flat_all (m : Nat) : ∀ {t : TypeId} {fuel : Nat} {cs : List Value} {x : DataW H × List MemPlace}, flatB P m t = true → DataW.trod enc P w base spare held fuel t cs = some x →
  cs.length = P.cellsOf t ∧ ∃ zs : List Int, cs = zs.map (Value.int .i64) ∧ ∀ z ∈ zs, (Lit.int .i64 z).wf = true := by
 induction m with
 | zero => intro t fuel cs x hf h; simp [flatB] at hf
 | succ m ih =>
  intro t fuel cs x hf h
  have hf0 := hf
  unfold flatB at hf
  split at hf
  ·rename_i hu
   obtain ⟨hl, hz⟩ := trod_flat (m + 1) hf0 h ⟨_, hu⟩
   exact ⟨by rw [hl, of_decide_eq_true hf], hz⟩
  ·rename_i fs hu
   rw [Bool.and_eq_true, List.all_eq_true] at hf
   obtain ⟨hl, ha⟩ := hf
   obtain ⟨xs, n, _, _, hlen, hxl, hg⟩ := DataW.trod_struct hu h
   obtain ⟨_, zs, hz, hw⟩ := fields_flat (n := P.cellsOf t) cs (fun t cs => DataW.trod enc P w base spare held n t cs) fs.toList 0 xs hl (by simpa using hxl)
    (fun i f hf => hg i f (by simpa using hf)) (fun f hf cs' x hx => ih (ha f hf) hx)
   refine ⟨hlen, zs, ?_, hw⟩
   rw [← hz, List.drop_zero, Nat.sub_zero, ← hlen, List.take_length]
  ·cases hf
theorem open_flat {r : Reach} {b0 m : Nat} {t : TypeId} {fs : Array Field} {v : Value} {d : DataW H} {p : List MemPlace} (hu : P.underlying t = some (.struct fs)) (hf : flatB P m t = true)
  (hv : Value.okWide P w r b0 t v) (h : DataW.Trod enc P w base spare held t v d p) : ∃ zs : List Int, v = .agg (zs.map (Value.int .i64)).toArray ∧ zs.length = P.cellsOf t ∧ ∀ z ∈ zs, (Lit.int .i64 z).wf = true := by
 obtain ⟨cs, rfl, hsz⟩ := okWide_struct hu hv
 obtain ⟨fuel, hf'⟩ := h
 obtain ⟨hl, zs, hz, hw⟩ := trod_flat_all m hf hf'
 simp only [Value.cells] at hz hl
 refine ⟨zs, ?_, by rw [← hl, hz, List.length_map], hw⟩
 rw [← hz]
end
end Go.Proofs.YtbpfhpjbeomfcaaDoor
namespace Go.Proofs.YtbpfhpjbeomfcaaDoor
open Go.RowKit Go.Proofs.YtbpfhpjbeomfcaaDoorW.PrintWords Go.Proofs.YtbpfhpjbeomfcaaDoorW.PrintLast
set_option linter.unusedVariables false
set_option linter.unusedSimpArgs false
theorem Ev.at_ {α : Type} {g : Nat → Option α} {r : α} (n : Nat) (h : ∀ k, g (k + n) = some r) : Ev g r := ⟨n, fun k hk => by
 obtain ⟨m, rfl⟩ : ∃ m, k = m + n := ⟨k - n, by omega⟩
 exact h m⟩
theorem Ev.pos {α : Type} {c : Prop} [Decidable c] {g f : Nat → Option α} {r : α} (hc : c) (h : Ev g r) : Ev (fun k => if c then g k else f k) r := h.congr fun k => if_pos hc
theorem Ev.neg {α : Type} {c : Prop} [Decidable c] {g f : Nat → Option α} {r : α} (hc : ¬ c) (h : Ev f r) : Ev (fun k => if c then g k else f k) r := h.congr fun k => if_neg hc
theorem Ev.some_ {α : Type} {a r : α} (h : a = r) : Ev (fun _ => some a) r := ⟨0, fun _ _ => by rw [h]⟩
theorem Ev.bindc {α β : Type} {o : Option α} {f : Nat → α → Option β} {a : α} {r : β} (h : o = some a) (k : Ev (fun n => f n a) r) : Ev (fun n => o.bind (f n)) r := k.congr fun n => by rw [h]; rfl
theorem w64 {i : Int} (h0 : -9223372036854775808 ≤ i) (h1 : i ≤ 9223372036854775807) : wrap64 i = i := by unfold wrap64; omega
def sp (c : UInt8) : List UInt8 → List UInt8 × List (List UInt8)
 | [] => ([], [])
 | b :: r => if b = c then ([], (sp c r).1 :: (sp c r).2) else (b :: (sp c r).1, (sp c r).2)
theorem splitK_sp (c : UInt8) (l : List UInt8) : Lib.splitK [c] 0 (Lib.count l [c]) l = (sp c l).1 :: (sp c l).2 := by
 induction l with
 | nil =>
  have : Lib.count [] [c] = 0 := by rw [Lib.count_one]; rfl
  rw [this]; rfl
 | cons b l ih =>
  by_cases h : b = c
  ·subst h
   have hix : Lib.index (b :: l) [b] = 0 := by rw [Lib.index]; simp [List.isPrefixOf]
   rw [Lib.count_cons_eq, show 1 + Lib.count l [b] = Lib.count l [b] + 1 by omega, Lib.splitK, hix]
   simp only [sp, if_true]
   rw [if_neg (by decide), ← ih]
   rfl
  ·have hp : ([c] : List UInt8).isPrefixOf (b :: l) = false := by simp [List.isPrefixOf, Ne.symm h]
   have hix : Lib.index (b :: l) [c] = if Lib.index l [c] == -1 then -1 else Lib.index l [c] + 1 := by rw [Lib.index, hp]; simp
   rw [Lib.count_cons_ne b c l h]
   simp only [sp, if_neg h]
   by_cases hm : Lib.index l [c] = -1
   ·have h0 : Lib.count l [c] = 0 := Lib.count_miss hm
    rw [h0] at ih ⊢
    simp only [Lib.splitK] at ih ⊢
    injection ih with e1 e2
    rw [← e1, ← e2]
   ·have hge := Lib.index_ge l [c]
    obtain ⟨j, hj⟩ : ∃ j : Nat, Lib.index l [c] = j := ⟨(Lib.index l [c]).toNat, by omega⟩
    have hc := Lib.count_hit (sub := [c]) (by simp) hj
    obtain ⟨k, hk⟩ : ∃ k, Lib.count l [c] = k + 1 := ⟨Lib.count l [c] - 1, by omega⟩
    rw [hk] at ih ⊢
    have hne : ¬ ((j : Int) == -1) = true := by intro e; have := beq_iff_eq.1 e; omega
    have hne' : ¬ ((j : Int) + 1 == -1) = true := by intro e; have := beq_iff_eq.1 e; omega
    rw [Lib.splitK, hj, if_neg hne] at ih
    rw [Lib.splitK, hix, hj, if_neg hne, if_neg hne']
    have e1 : ((j : Int) + 1).toNat = j + 1 := by omega
    rw [e1]
    simp only [Int.toNat_natCast, Nat.add_zero, List.length_singleton] at ih ⊢
    injection ih with i1 i2
    rw [← i1, ← i2]
    rfl
theorem split_sp (a : ByteArray) (c : UInt8) : (Lib.splitB ⟨#[c]⟩ 0 (Lib.countB a ⟨#[c]⟩) a).map (·.data.toList) = (sp c a.data.toList).1 :: (sp c a.data.toList).2 := by
 rw [Lib.splitB_data]
 exact splitK_sp c a.data.toList
theorem qmB (c : UInt8) (l : List UInt8) : l.length = (sp c l).1.length + ((sp c l).2.map List.length).sum + (sp c l).2.length := by
 induction l with
 | nil => rfl
 | cons b l ih =>
  by_cases h : b = c
  ·simp only [sp, if_pos h, List.length_cons, List.length_nil, List.map_cons, List.sum_cons]; omega
  ·simp only [sp, if_neg h, List.length_cons]; omega
theorem sp_all (c : UInt8) (p : UInt8 → Bool) (l : List UInt8) (hp : p c = false) : ((sp c l).1.all p && (sp c l).2.all (·.all p)) = l.all fun b => b == c || p b := by
 induction l with
 | nil => rfl
 | cons b l ih =>
  by_cases h : b = c
  ·subst h
   simp only [sp, if_true, List.all_nil, Bool.true_and, List.all_cons, ih, beq_self_eq_true, Bool.true_or]
  ·have : (b == c) = false := by simpa using h
   simp only [sp, if_neg h, List.all_cons, Bool.and_assoc, ih, this, Bool.false_or]
theorem qrA {p : UInt8 → Bool} {e : UInt8} (he : p e = false) : ∀ l : List UInt8, e ∈ l → e ∈ l.dropWhile p
 | [], h => h
 | b :: l, h => by
  rw [List.dropWhile_cons]
  split
  ·rename_i hb
   rcases List.mem_cons.1 h with rfl | h
   ·rw [he] at hb; cases hb
   ·exact qrA he l h
  ·exact h
theorem dropWhile_all {p : UInt8 → Bool} : ∀ l : List UInt8, l.all p = true → l.dropWhile p = []
 | [], _ => rfl
 | b :: l, h => by
  rw [List.all_cons, Bool.and_eq_true] at h
  rw [List.dropWhile_cons, if_pos h.1]
  exact dropWhile_all l h.2
theorem trimS_nil (l cs : List UInt8) : (Lib.trimS l cs = []) ↔ l.all (cs.contains ·) = true := by
 unfold Lib.trimS Lib.trimLeftS Lib.trimRightS
 constructor
 ·intro h
  rw [List.all_eq_true]
  intro e he
  cases hc : cs.contains e with
  | true => rfl
  | false =>
   have h1 := qrA (p := (cs.contains ·)) (e := e) hc l.reverse (by simpa using he)
   have h2 := qrA (p := (cs.contains ·)) (e := e) hc (l.reverse.dropWhile (cs.contains ·)).reverse (by simpa using h1)
   rw [h] at h2; cases h2
 ·intro h
  rw [dropWhile_all l.reverse (by rw [List.all_reverse]; exact h)]
  rfl
end Go.Proofs.YtbpfhpjbeomfcaaDoor
namespace Go.Proofs.YtbpfhpjbeomfcaaDoor
open Go.RowKit Go.Proofs.YtbpfhpjbeomfcaaDoor.P Go.Proofs.YtbpfhpjbeomfcaaDoorW.PrintWords Go.Proofs.YtbpfhpjbeomfcaaDoorW.PrintLast
set_option linter.unusedVariables false
set_option linter.unusedSimpArgs false
theorem qZB (n a b : Int) : qQA.f n a b = some (decide (a ≤ n) && decide (n ≤ b)) := by
 unfold qQA.f
 by_cases h : a ≤ n
 ·rw [if_pos h, decide_eq_true h, Bool.true_and]
 ·rw [if_neg h, decide_eq_false h, Bool.false_and]
theorem qGC (l : List ByteArray) (i : Nat) (h : i < l.length) : rdOf ByteArray.empty l (i : Int) = l[i] := by
 unfold rdOf
 rw [Int.toNat_natCast, List.getD_eq_getElem?_getD, List.getElem?_eq_getElem h]; rfl
theorem qxA (s : ByteArray) : s.data.toList.length = s.size := by rw [Array.length_toList]; rfl
theorem gr_bt (s : ByteArray) (i : Nat) (h : i < s.data.toList.length) : bt s (i : Int) = ((s.data.toList[i]).toNat : Int) := by
 have h' : i < s.size := by rw [← qxA]; exact h
 unfold bt
 rw [dif_pos (by simpa using h')]
 simp only [Int.toNat_natCast, Array.getElem_toList]
 rfl
def fitR (C : List UInt8) (w : Nat) (r : List UInt8) : Bool := decide (r.length = w) && r.all (C.contains ·)
def szR (w h : Nat) : Bool := decide (1 ≤ h) && decide (h ≤ 7) && decide (1 ≤ w) && decide (w ≤ 7) && decide (w * h ≤ 36)
theorem rowsOf_loop (C : ByteArray) (hC : C.size < 100) (hA : (C.data.toList.all fun b => decide (b.toNat < 128)) = true) (w : Nat) (hw : w ≤ 4294967281) (L : List ByteArray) (hL : L.length ≤ 4294967281) (hs : ∀ x ∈ L, x.size ≤ 4294967281) (d : Nat) : ∀ i : Nat, i ≤ L.length → L.length - i = d →
  Ev (fun k => qAA.l0 k C (w : Int) L (L.length : Int) (i : Int)) (if (L.drop i).all (fun x => fitR C.data.toList w x.data.toList) then (L, szR w L.length) else ([], false)) := by
 induction d with
 | zero =>
  intro i hi hd
  refine Ev.step (f := fun k => _) (fun k => by rw [qAA.l0]) ?_
  refine Ev.neg (by omega) (Ev.bindc (qZB _ _ _) ?_)
  rw [List.drop_eq_nil_of_le (by omega), List.all_nil, if_pos rfl]
  by_cases h1 : 1 ≤ L.length ∧ L.length ≤ 7
  ·have e1 : (decide ((1 : Int) ≤ (L.length : Int)) && decide ((L.length : Int) ≤ 7)) = true := by rw [decide_eq_true (by omega), decide_eq_true (by omega)]; rfl
   refine Ev.pos e1 (Ev.bindc (qZB _ _ _) ?_)
   by_cases h2 : 1 ≤ w ∧ w ≤ 7
   ·have e2 : (decide ((1 : Int) ≤ (w : Int)) && decide ((w : Int) ≤ 7)) = true := by rw [decide_eq_true (by omega), decide_eq_true (by omega)]; rfl
    refine Ev.pos e2 (Ev.some_ ?_)
    have hm : w * L.length ≤ 7 * 7 := Nat.mul_le_mul h2.2 h1.2
    have hc : ((w : Int) * (L.length : Int)) = ((w * L.length : Nat) : Int) := by push_cast; rfl
    rw [hc]
    generalize hn : w * L.length = n at *
    have ew : wrap64 (n : Int) = (n : Int) := by unfold wrap64; omega
    rw [ew]
    have : szR w L.length = decide (n ≤ 36) := by
     unfold szR
     rw [hn, decide_eq_true h1.1, decide_eq_true h1.2, decide_eq_true h2.1, decide_eq_true h2.2]; rfl
    rw [this]
    congr 1
    exact decide_eq_decide.2 (by omega)
   ·refine Ev.neg (by simp only [Bool.and_eq_true, decide_eq_true_eq]; omega) (Ev.some_ ?_)
    have : szR w L.length = false := by
     unfold szR
     simp only [Bool.and_eq_false_iff, decide_eq_false_iff_not]; omega
    rw [this]
  ·refine Ev.neg (by simp only [Bool.and_eq_true, decide_eq_true_eq]; omega) (Ev.some_ ?_)
   have : szR w L.length = false := by
    unfold szR
    simp only [Bool.and_eq_false_iff, decide_eq_false_iff_not]; omega
   rw [this]
 | succ d ih =>
  intro i hi hd
  have h : i < L.length := by omega
  refine Ev.step (f := fun k => _) (fun k => by rw [qAA.l0]) ?_
  refine Ev.pos (by omega) (Ev.pos (by omega) (Ev.pos (by omega) ?_))
  rw [qGC L i h, List.drop_eq_getElem_cons h, List.all_cons, show wrap64 ((i : Int) + 1) = ((i + 1 : Nat) : Int) by unfold wrap64; omega]
  have hsz := hs _ (List.getElem_mem h)
  have ihh := ih (i + 1) (by omega) (by omega)
  generalize L[i] = x at *
  by_cases hx : x.size = w
  ·refine Ev.pos (by omega) (Ev.bindc (show qdA.f x C = some _ from by unfold qdA.f; rw [if_pos ⟨by omega, by omega, hA⟩]) ?_)
   have ht : (⟨(Lib.trimS x.data.toList C.data.toList).toArray⟩ : ByteArray).toList = Lib.trimS x.data.toList C.data.toList := by
    rw [Lib.toList_data]
   by_cases hal : x.data.toList.all (C.data.toList.contains ·) = true
   ·refine Ev.pos (by rw [ht]; exact (trimS_nil _ _).2 hal) ?_
    have : fitR C.data.toList w x.data.toList = true := by
     unfold fitR
     rw [hal, Bool.and_true, decide_eq_true (by rw [qxA]; exact hx)]
    rw [this, Bool.true_and]
    exact ihh
   ·refine Ev.neg (by rw [ht]; exact fun e => hal ((trimS_nil _ _).1 e)) (Ev.some_ ?_)
    have : fitR C.data.toList w x.data.toList = false := by
     unfold fitR
     rw [Bool.eq_false_iff.2 hal, Bool.and_false]
    rw [this]; rfl
  ·refine Ev.neg (by omega) (Ev.some_ ?_)
   have : fitR C.data.toList w x.data.toList = false := by
    unfold fitR
    rw [decide_eq_false (by rw [qxA]; exact hx), Bool.false_and]
   rw [this]; rfl
def rowsT (a : ByteArray) : List ByteArray := Lib.splitB ⟨#[47]⟩ 0 (Lib.countB a ⟨#[47]⟩) a
theorem qAB (a : ByteArray) : (rowsT a).map (·.data.toList) = (sp 47 a.data.toList).1 :: (sp 47 a.data.toList).2 := split_sp a 47
def wideT (a : ByteArray) : Nat := (sp 47 a.data.toList).1.length
def highT (a : ByteArray) : Nat := (sp 47 a.data.toList).2.length + 1
theorem qzA (a : ByteArray) : (rowsT a).length = highT a := by
 have := congrArg List.length (qAB a)
 simpa [highT] using this
def rowsFit (C : List UInt8) (a : ByteArray) : Bool := ((sp 47 a.data.toList).1 :: (sp 47 a.data.toList).2).all (fitR C (wideT a))
theorem sum_le_mem (l : List Nat) : ∀ x ∈ l, x ≤ l.sum := by
 induction l with
 | nil => intro x h; cases h
 | cons b l ih =>
  intro x h
  rw [List.sum_cons]
  rcases List.mem_cons.1 h with rfl | h
  ·omega
  ·have := ih x h; omega
theorem rowsT_size (a : ByteArray) : ∀ x ∈ rowsT a, x.size ≤ a.size := by
 intro x hx
 have h1 : x.data.toList ∈ (rowsT a).map (·.data.toList) := List.mem_map_of_mem hx
 rw [qAB] at h1
 have h2 := qmB 47 a.data.toList
 rw [qxA] at h2
 rw [← qxA x]
 rcases List.mem_cons.1 h1 with h | h
 ·rw [h]; omega
 ·have := sum_le_mem _ _ (List.mem_map_of_mem (f := List.length) h); omega
theorem rowsOf_ev (a C : ByteArray) (ha : a.size ≤ 1048576) (hC : C.size < 100) (hA : (C.data.toList.all fun b => decide (b.toNat < 128)) = true) :
  Ev (fun k => qAA.f k a C) (if rowsFit C.data.toList a then (rowsT a, szR (wideT a) (highT a)) else ([], false)) := by
 unfold qAA.f
 refine Ev.bindc (show strings_Split.f a ⟨#[47]⟩ = some (rowsT a) from by unfold strings_Split.f; rw [if_pos ⟨by omega, by decide⟩]; rfl) ?_
 have hlen := qzA a
 have hl2 := qmB 47 a.data.toList
 rw [qxA] at hl2
 have hh : highT a ≤ a.size + 1 := by unfold highT; omega
 have h0 : 0 < (rowsT a).length := by rw [hlen]; unfold highT; omega
 refine Ev.pos (by omega) ?_
 have e0 : rdOf ByteArray.empty (rowsT a) 0 = (rowsT a)[0] := qGC (rowsT a) 0 h0
 have e1 : ((rowsT a)[0]).size = wideT a := by
  have := qAB a
  have h2 : ((rowsT a).map (·.data.toList))[0]'(by simpa using h0) = (sp 47 a.data.toList).1 := by
   simp only [this, List.getElem_cons_zero]
  rw [List.getElem_map] at h2
  rw [← qxA, h2]; rfl
 rw [e0, e1]
 have hw : wideT a ≤ a.size := by rw [← e1]; exact rowsT_size a _ (List.getElem_mem h0)
 have := rowsOf_loop C hC hA (wideT a) (by omega) (rowsT a) (by omega) (fun x hx => by have := rowsT_size a x hx; omega) (rowsT a).length 0 (by omega) (by omega)
 rw [List.drop_zero] at this
 have e2 : (rowsT a).all (fun x => fitR C.data.toList (wideT a) x.data.toList) = rowsFit C.data.toList a := by
  unfold rowsFit
  rw [← qAB, List.all_map]; rfl
 rw [e2] at this
 rw [← hlen]
 exact this
abbrev RdG := Int × Int × List Int × Bool
def badG : RdG := (0, 0, [], false)
def finG (ho w h : Nat) (cs : List Int) : RdG := if 7 < w then badG else if 7 < h then badG else if 36 < cs.length then badG else if 1 < ho then badG else ((w : Int), (h : Int), cs, true)
def runG : List UInt8 → Nat → Nat → Nat → Nat → List Int → RdG
 | [], x, ho, w, h, cs => if (0 < h ∧ x ≠ w) ∨ x = 0 then badG else finG ho x (h + 1) cs
 | c :: r, x, ho, w, h, cs =>
  if c = 47 then (if (0 < h ∧ x ≠ w) ∨ x = 0 then badG else runG r 0 ho x (h + 1) cs)
  else if c = 46 ∨ c = 35 ∨ c = 45 then runG r (x + 1) ho w h (cs ++ [(c.toNat : Int)])
  else if c = 111 then runG r (x + 1) (ho + 1) w h (cs ++ [(c.toNat : Int)])
  else badG
theorem u8eq (c : UInt8) (n : Nat) (hn : n < 256) : ((c.toNat : Int) = (n : Int)) ↔ c = UInt8.ofNat n := by
 constructor
 ·intro h
  have : c.toNat = n := by omega
  rw [← this]; simp
 ·intro h
  subst h
  simp; omega
theorem bx_end (a : ByteArray) (ha : a.size ≤ 42) (ho w h : Nat) (cs : List Int) : Ev (fun k => qY.l0 k a 0 (ho : Int) ((a.size : Int) + 1) (w : Int) (h : Int) cs) (finG ho w h cs) := by
 refine Ev.step (f := fun k => _) (fun k => by rw [qY.l0]) ?_
 refine Ev.neg (by omega) ?_
 unfold finG
 by_cases h1 : 7 < w
 ·rw [if_pos h1]; exact Ev.pos (by omega) (Ev.now _)
 rw [if_neg h1]; refine Ev.neg (by omega) ?_
 by_cases h2 : 7 < h
 ·rw [if_pos h2]; exact Ev.pos (by omega) (Ev.now _)
 rw [if_neg h2]; refine Ev.neg (by omega) ?_
 by_cases h3 : 36 < cs.length
 ·rw [if_pos h3]; exact Ev.pos (by omega) (Ev.now _)
 rw [if_neg h3]; refine Ev.neg (by omega) ?_
 by_cases h4 : 1 < ho
 ·rw [if_pos h4]; exact Ev.pos (by omega) (Ev.now _)
 rw [if_neg h4]; exact Ev.neg (by omega) (Ev.now _)
theorem bx_sep (a : ByteArray) (i x ho w h : Nat) (cs : List Int) (hx : x ≤ 100) (hh : h ≤ 100) (hi : i ≤ 100) (R : RdG)
  (hR : Ev (fun k => qY.l0 k a 0 (ho : Int) ((i : Int) + 1) (x : Int) ((h + 1 : Nat) : Int) cs) R) :
  Ev (fun k => qY.j1 k a (x : Int) (ho : Int) (i : Int) false (w : Int) (h : Int) cs) (if (0 < h ∧ x ≠ w) ∨ x = 0 then badG else R) := by
 have w1 : wrap64 ((i : Int) + 1) = (i : Int) + 1 := by unfold wrap64; omega
 have w2 : wrap64 ((h : Int) + 1) = ((h + 1 : Nat) : Int) := by unfold wrap64; omega
 refine Ev.step (f := fun k => _) (fun k => by rw [qY.j1]) ?_
 refine Ev.neg (by decide) ?_
 rw [w1, w2]
 by_cases h1 : 0 < h
 ·refine Ev.pos (by omega) ?_
  by_cases h2 : x = w
  ·refine Ev.pos (by omega) ?_
   by_cases h3 : x = 0
   ·rw [if_pos (.inr h3)]; exact Ev.pos (by omega) (Ev.now _)
   ·rw [if_neg (by omega)]; exact Ev.neg (by omega) hR
  ·rw [if_pos (.inl ⟨h1, h2⟩)]; exact Ev.neg (by omega) (Ev.now _)
 ·refine Ev.neg (by omega) ?_
  by_cases h3 : x = 0
  ·rw [if_pos (.inr h3)]; exact Ev.pos (by omega) (Ev.now _)
  ·rw [if_neg (by omega)]; exact Ev.neg (by omega) hR
theorem bx_loop (a : ByteArray) (ha : a.size ≤ 42) (d : Nat) : ∀ (i x ho w h : Nat) (cs : List Int), i ≤ a.size → a.size - i = d → x ≤ i → ho ≤ i → h ≤ i → cs.length ≤ i →
  Ev (fun k => qY.l0 k a (x : Int) (ho : Int) (i : Int) (w : Int) (h : Int) cs) (runG (a.data.toList.drop i) x ho w h cs) := by
 have hsz := qxA a
 induction d with
 | zero =>
  intro i x ho w h cs hi hd hx hho hh hc
  obtain rfl : i = a.size := by omega
  refine Ev.step (f := fun k => _) (fun k => by rw [qY.l0]) ?_
  refine Ev.pos (by omega) (Ev.neg (by omega) ?_)
  rw [List.drop_eq_nil_of_le (by omega), runG]
  exact bx_sep a a.size x ho w h cs (by omega) (by omega) (by omega) _ (bx_end a ha ho x (h + 1) cs)
 | succ d ih =>
  intro i x ho w h cs hi hd hx hho hh hc
  have hl : i < a.data.toList.length := by omega
  have e1 : ((i : Int) + 1) = ((i + 1 : Nat) : Int) := by omega
  have w1 : wrap64 ((i : Int) + 1) = ((i + 1 : Nat) : Int) := by unfold wrap64; omega
  have w2 : wrap64 ((x : Int) + 1) = ((x + 1 : Nat) : Int) := by unfold wrap64; omega
  have w3 : wrap64 ((ho : Int) + 1) = ((ho + 1 : Nat) : Int) := by unfold wrap64; omega
  have hdr := List.drop_eq_getElem_cons hl
  obtain ⟨c, hcc, hb⟩ : ∃ c, a.data.toList[i] = c ∧ bt a (i : Int) = (c.toNat : Int) := ⟨_, rfl, gr_bt a i hl⟩
  rw [hcc] at hdr
  clear hcc
  have HB := Lib.hid hb
  have HW1 := Lib.hid w1
  have HW2 := Lib.hid w2
  have HW3 := Lib.hid w3
  have HD := Lib.hid hdr
  clear hb w1 w2 w3 hdr
  refine Ev.step (f := fun k => _) (fun k => by rw [qY.l0]) ?_
  refine Ev.pos (by omega) (Ev.pos (by omega) (Ev.pos (by omega) ?_))
  rw [HD.out, HB.out, runG]
  by_cases h47 : c = 47
  ·rw [show ((c.toNat : Int) != 47) = false by subst h47; rfl, if_pos h47]
   clear HB HD h47
   refine bx_sep a i x ho w h cs (by omega) (by omega) (by omega) _ ?_
   rw [e1]
   exact ih (i + 1) 0 ho x (h + 1) cs (by omega) (by omega) (by omega) (by omega) (by omega) (by omega)
  ·rw [show ((c.toNat : Int) != 47) = true by
    rw [bne_iff_ne]; intro e; exact h47 ((u8eq c 47 (by decide)).1 e), if_neg h47]
   have go1 := ih (i + 1) (x + 1) ho w h (cs ++ [(c.toNat : Int)]) (by omega) (by omega) (by omega) (by omega) (by omega) (by simp; omega)
   have go2 := ih (i + 1) (x + 1) (ho + 1) w h (cs ++ [(c.toNat : Int)]) (by omega) (by omega) (by omega) (by omega) (by omega) (by simp; omega)
   have step : ∀ R, (c = 46 ∨ c = 35 ∨ c = 45) → Ev (fun k => qY.l0 k a ((x + 1 : Nat) : Int) (ho : Int) ((i + 1 : Nat) : Int) (w : Int) (h : Int) (cs ++ [(c.toNat : Int)])) R →
     Ev (fun k => qY.j2 k a (x : Int) (ho : Int) (i : Int) (c.toNat : Int) true (w : Int) (h : Int) cs) R := fun R _ hR => by
    refine Ev.step (f := fun k => _) (fun k => by rw [qY.j2]) ?_
    refine Ev.pos rfl (Ev.pos (by omega) (Ev.pos (by omega) (Ev.pos (by omega) ?_)))
    rw [HW1.out, HW2.out, HB.out]
    exact hR
   refine Ev.step (f := fun k => _) (fun k => by rw [qY.j1]) ?_
   refine Ev.pos rfl (Ev.pos (by omega) (Ev.pos (by omega) ?_))
   rw [HB.out]
   by_cases h46 : c = 46
   ·rw [if_pos (.inl h46)]
    refine Ev.pos (by subst h46; rfl) ?_
    rw [show ((c.toNat : Int) == 46) = true by subst h46; rfl]
    exact step _ (.inl h46) go1
   ·refine Ev.neg (fun e => h46 ((u8eq c 46 (by decide)).1 e)) ?_
    by_cases h35 : c = 35
    ·rw [if_pos (.inr (.inl h35))]
     refine Ev.pos (by subst h35; rfl) ?_
     rw [show ((c.toNat : Int) == 35) = true by subst h35; rfl]
     exact step _ (.inr (.inl h35)) go1
    ·refine Ev.neg (fun e => h35 ((u8eq c 35 (by decide)).1 e)) ?_
     by_cases h45 : c = 45
     ·rw [if_pos (.inr (.inr h45)), show ((c.toNat : Int) == 45) = true by subst h45; rfl]
      exact step _ (.inr (.inr h45)) go1
     ·rw [if_neg (by simp [h46, h35, h45]), show ((c.toNat : Int) == 45) = false by
       rw [beq_eq_false_iff_ne]; intro e; exact h45 ((u8eq c 45 (by decide)).1 e)]
      refine Ev.step (f := fun k => _) (fun k => by rw [qY.j2]) ?_
      refine Ev.neg (by decide) ?_
      by_cases h111 : c = 111
      ·rw [if_pos h111]
       refine Ev.pos (by subst h111; rfl) (Ev.pos (by omega) (Ev.pos (by omega) (Ev.pos (by omega) ?_)))
       rw [HW1.out, HW2.out, HW3.out, HB.out]
       exact go2
      ·rw [if_neg h111]
       exact Ev.neg (fun e => h111 ((u8eq c 111 (by decide)).1 e)) (Ev.now _)
def cG : List UInt8 := [46, 35, 45, 111]
def numsOf (l : List UInt8) : List Int := l.map fun c => (c.toNat : Int)
def flatT (l : List UInt8) : List UInt8 := (sp 47 l).1 ++ (sp 47 l).2.flatten
theorem runG_eq (l : List UInt8) : ∀ (x ho w h : Nat) (cs : List Int), runG l x ho w h cs =
  if (l.all (fun b => b == 47 || cG.contains b)) = true ∧ x + (sp 47 l).1.length ≠ 0 ∧ (0 < h → x + (sp 47 l).1.length = w) ∧ (∀ r ∈ (sp 47 l).2, r.length = x + (sp 47 l).1.length)
  then finG (ho + l.count 111) (x + (sp 47 l).1.length) (h + ((sp 47 l).2.length + 1)) (cs ++ numsOf (flatT l)) else badG := by
 induction l with
 | nil =>
  intro x ho w h cs
  rw [runG]
  simp only [sp, List.all_nil, List.length_nil, Nat.add_zero, List.count_nil, flatT, List.flatten_nil, List.append_nil, numsOf, List.map_nil, Nat.zero_add]
  by_cases hb : (0 < h ∧ x ≠ w) ∨ x = 0
  ·rw [if_pos hb, if_neg (by rintro ⟨_, h1, h2, _⟩; exact hb.elim (fun h34 => h34.2 (h2 h34.1)) h1)]
  ·rw [if_neg hb, if_pos ⟨trivial, fun e => hb (.inr e), fun h3 => Classical.byContradiction fun h4 => hb (.inl ⟨h3, h4⟩), by simp⟩]
 | cons c r ih =>
  intro x ho w h cs
  rw [runG]
  by_cases h47 : c = 47
  ·subst h47
   rw [if_pos rfl]
   simp only [sp, if_true, List.all_cons, beq_self_eq_true, Bool.true_or, Bool.true_and, List.length_nil, Nat.add_zero, List.count_cons_of_ne (show ((47 : UInt8) ≠ 111) by decide), flatT, List.nil_append, List.flatten_cons, List.length_cons]
   by_cases hb : (0 < h ∧ x ≠ w) ∨ x = 0
   ·rw [if_pos hb, if_neg (by rintro ⟨_, h1, h2, _⟩; exact hb.elim (fun h34 => h34.2 (h2 h34.1)) h1)]
   ·rw [if_neg hb, ih]
    have hx0 : x ≠ 0 := fun e => hb (.inr e)
    have hxw : 0 < h → x = w := fun h3 => Classical.byContradiction fun h4 => hb (.inl ⟨h3, h4⟩)
    by_cases hg : (r.all (fun b => b == 47 || cG.contains b)) = true ∧ ∀ q ∈ (sp 47 r).1 :: (sp 47 r).2, q.length = x
    ·have hf : (sp 47 r).1.length = x := hg.2 _ (List.mem_cons_self)
     rw [if_pos ⟨hg.1, by omega, fun _ => by omega, fun q hq => by have := hg.2 q (List.mem_cons_of_mem _ hq); omega⟩, if_pos ⟨hg.1, hx0, hxw, hg.2⟩]
     congr 1
     ·omega
     ·omega
    ·rw [if_neg, if_neg]
     ·rintro ⟨h1, _, _, h4⟩; exact hg ⟨h1, h4⟩
     ·rintro ⟨h1, _, h3, h4⟩
      have h5 := h3 (by omega)
      refine hg ⟨h1, fun q hq => ?_⟩
      rcases List.mem_cons.1 hq with rfl | hq
      ·omega
      ·have := h4 q hq; omega
  ·rw [if_neg h47]
   have e47 : (c == 47) = false := by simpa using h47
   simp only [sp, if_neg h47, List.all_cons, e47, Bool.false_or, List.length_cons]
   have hsh : x + ((sp 47 r).1.length + 1) = x + 1 + (sp 47 r).1.length := by omega
   by_cases h3 : c = 46 ∨ c = 35 ∨ c = 45
   ·have hc : cG.contains c = true := by rcases h3 with rfl | rfl | rfl <;> decide
    have hn : c ≠ 111 := by rcases h3 with rfl | rfl | rfl <;> decide
    rw [if_pos h3, ih, hc, Bool.true_and, hsh, List.count_cons_of_ne hn]
    simp only [flatT, sp, if_neg h47, numsOf, List.cons_append, List.map_cons, List.append_assoc, List.nil_append]
   ·rw [if_neg h3]
    by_cases h111 : c = 111
    ·subst h111
     rw [if_pos rfl, ih, show cG.contains 111 = true by decide, Bool.true_and, hsh, List.count_cons_self]
     simp only [flatT, sp, if_neg h47, numsOf, List.cons_append, List.map_cons, List.append_assoc, List.nil_append, show ho + (r.count 111 + 1) = ho + 1 + r.count 111 by omega]
    ·rw [if_neg h111, if_neg]
     rintro ⟨h1, _⟩
     have : cG.contains c = false := by
      simp only [cG, List.contains_cons, List.contains_nil, Bool.or_false, Bool.or_eq_false_iff, beq_eq_false_iff_ne]
      exact ⟨fun e => h3 (.inl e), fun e => h3 (.inr (.inl e)), fun e => h3 (.inr (.inr e)), h111⟩
     rw [this] at h1; simp at h1
theorem qwB (f : Nat) : ∀ (L : List (List UInt8)), (∀ r ∈ L, r.length = f) → L.flatten.length = f * L.length ∧ (L.map List.length).sum = f * L.length
 | [], _ => by simp
 | a :: L, h => by
  obtain ⟨h1, h2⟩ := qwB f L (fun r hr => h r (List.mem_cons_of_mem _ hr))
  have h3 := h a List.mem_cons_self
  simp only [List.flatten_cons, List.length_append, List.map_cons, List.sum_cons, List.length_cons, h1, h2, h3, Nat.mul_add, Nat.mul_one]
  omega
def groundB (a : ByteArray) : Bool := rowsFit cG a && szR (wideT a) (highT a) && decide (a.data.toList.count 111 ≤ 1)
theorem qFB (a : ByteArray) : rowsFit cG a = true ↔ (a.data.toList.all (fun b => b == 47 || cG.contains b)) = true ∧ ∀ r ∈ (sp 47 a.data.toList).2, r.length = wideT a := by
 have hs := sp_all 47 (cG.contains ·) a.data.toList (by decide)
 unfold rowsFit
 rw [← hs, List.all_cons]
 unfold fitR wideT
 simp only [Bool.and_eq_true, decide_eq_true_eq, List.all_eq_true, true_and]
 constructor
 ·rintro ⟨h1, h2⟩
  exact ⟨⟨h1, fun r hr => (h2 r hr).2⟩, fun r hr => (h2 r hr).1⟩
 ·rintro ⟨⟨h1, h2⟩, h3⟩
  exact ⟨h1, fun r hr => ⟨h3 r hr, h2 r hr⟩⟩
theorem bxRead_ev (a : ByteArray) : Ev (fun k => qY.f k a) (if groundB a then ((wideT a : Int), (highT a : Int), numsOf (flatT a.data.toList), true) else badG) := by
 have hl := qmB 47 a.data.toList
 rw [qxA] at hl
 unfold qY.f
 by_cases h42 : a.size ≤ 42
 ·refine Ev.neg (by omega) ?_
  have := bx_loop a h42 a.size 0 0 0 0 0 [] (by omega) (by omega) (by omega) (by omega) (by omega) (by simp)
  rw [List.drop_zero, runG_eq] at this
  simp only [Nat.zero_add, List.nil_append, Nat.lt_irrefl, false_implies, true_and] at this
  have e : (if (a.data.toList.all (fun b => b == 47 || cG.contains b)) = true ∧ (sp 47 a.data.toList).1.length ≠ 0 ∧ (∀ r ∈ (sp 47 a.data.toList).2, r.length = (sp 47 a.data.toList).1.length) then finG (a.data.toList.count 111) (sp 47 a.data.toList).1.length ((sp 47 a.data.toList).2.length + 1) (numsOf (flatT a.data.toList)) else badG) = (if groundB a then ((wideT a : Int), (highT a : Int), numsOf (flatT a.data.toList), true) else badG) := by
   have hw : (sp 47 a.data.toList).1.length = wideT a := rfl
   have hh : (sp 47 a.data.toList).2.length + 1 = highT a := rfl
   rw [hw, hh]
   unfold groundB
   by_cases hr : rowsFit cG a = true
   ·obtain ⟨h1, h2⟩ := (qFB a).1 hr
    obtain ⟨f1, f2⟩ := qwB (wideT a) (sp 47 a.data.toList).2 h2
    have hfl : (numsOf (flatT a.data.toList)).length = wideT a * highT a := by
     simp only [numsOf, List.length_map, flatT, List.length_append, f1, hw, ← hh, Nat.mul_add, Nat.mul_one]; omega
    rw [hr, Bool.true_and]
    by_cases h0 : wideT a ≠ 0
    ·rw [if_pos ⟨h1, h0, h2⟩]
     unfold finG szR
     rw [hfl]
     have hh1 : 1 ≤ highT a := by omega
     rw [decide_eq_true hh1, Bool.true_and, decide_eq_true (show 1 ≤ wideT a by omega)]
     by_cases a1 : 7 < wideT a
     ·rw [if_pos a1, decide_eq_false (show ¬ wideT a ≤ 7 by omega)]; simp
     rw [if_neg a1, decide_eq_true (show wideT a ≤ 7 by omega)]
     by_cases a2 : 7 < highT a
     ·rw [if_pos a2, decide_eq_false (show ¬ highT a ≤ 7 by omega)]; simp
     rw [if_neg a2, decide_eq_true (show highT a ≤ 7 by omega)]
     by_cases a3 : 36 < wideT a * highT a
     ·rw [if_pos a3, decide_eq_false (show ¬ wideT a * highT a ≤ 36 by omega)]; simp
     rw [if_neg a3, decide_eq_true (show wideT a * highT a ≤ 36 by omega)]
     by_cases a4 : 1 < a.data.toList.count 111
     ·rw [if_pos a4, decide_eq_false (by omega)]; simp
     ·rw [if_neg a4, decide_eq_true (by omega)]; simp
    ·rw [if_neg (fun h => h0 h.2.1)]
     have : szR (wideT a) (highT a) = false := by
      unfold szR
      simp only [Bool.and_eq_false_iff, decide_eq_false_iff_not]; omega
     rw [this]; simp
   ·rw [if_neg (fun h => hr ((qFB a).2 ⟨h.1, h.2.2⟩)), Bool.eq_false_iff.2 hr]; simp
  rw [e] at this
  exact this
 ·refine Ev.pos (by omega) (Ev.some_ ?_)
  have : groundB a = false := by
   cases hg : groundB a with
   | false => rfl
   | true =>
    unfold groundB szR at hg
    simp only [Bool.and_eq_true, decide_eq_true_eq] at hg
    obtain ⟨⟨hr, ⟨⟨⟨g1, g2⟩, g3⟩, g4⟩, g5⟩, _⟩ := hg
    obtain ⟨h1, h2⟩ := (qFB a).1 hr
    obtain ⟨f1, f2⟩ := qwB (wideT a) (sp 47 a.data.toList).2 h2
    rw [f2] at hl
    have hw : (sp 47 a.data.toList).1.length = wideT a := rfl
    have hh : (sp 47 a.data.toList).2.length + 1 = highT a := rfl
    have : wideT a * highT a = wideT a + wideT a * (sp 47 a.data.toList).2.length := by rw [← hh, Nat.mul_add, Nat.mul_one]; omega
    omega
  rw [this]; rfl
theorem ground_ev (a : ByteArray) (ha : a.size ≤ 1048576) : ∃ rows : List ByteArray, Ev (fun k => qkA.f k a) (rows, groundB a) ∧ (groundB a = true → rows = rowsT a) := by
 have h := rowsOf_ev a ⟨#[46, 35, 45, 111]⟩ ha (by decide) (by decide)
 have hc : (⟨#[46, 35, 45, 111]⟩ : ByteArray).data.toList = cG := rfl
 rw [hc] at h
 unfold qkA.f
 unfold groundB
 cases hr : rowsFit cG a with
 | false =>
  rw [hr, if_neg (by decide)] at h
  exact ⟨[], Ev.bind h (Ev.neg (by simp) (Ev.now _)), fun e => by cases e⟩
 | true =>
  rw [hr, if_pos rfl] at h
  refine ⟨rowsT a, Ev.bind h ?_, fun _ => rfl⟩
  cases hz : szR (wideT a) (highT a) with
  | false => exact Ev.neg (by simp) (Ev.now _)
  | true =>
   refine Ev.pos rfl (Ev.bindc (show qTA.f a ⟨#[111]⟩ = some _ from rfl) (Ev.some_ ?_))
   show (rowsT a, _) = _
   congr 1
   unfold Lib.countByte
   simp only [Bool.true_and]
   exact decide_eq_decide.2 (by omega)
end Go.Proofs.YtbpfhpjbeomfcaaDoor
