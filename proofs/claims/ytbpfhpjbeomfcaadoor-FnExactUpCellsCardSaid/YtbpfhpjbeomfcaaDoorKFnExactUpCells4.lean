/- The program's UpCells returns what the reference's returns, for all texts and boxes (the law lets longer texts by). No further condition. -/
import Derived.Test.YtbpfhpjbeomfcaaDoorKFnExactUpCells3
import Derived.Shelf.SlGeneric
import Derived.Shelf.SortM.Plain
import Derived.Ground.SlgmProg
import Derived.Test.YtbpfhpjbeomfcaaDoorProg
import Derived.Shelf.SortM.SortNone
import Derived.ChangeArms
import Derived.ChangeSame
import Derived.Deep.Slices
import Derived.ProofKit
import Derived.OpenShut
import Derived.SizedLaws

namespace Go.Proofs.YtbpfhpjbeomfcaaDoor.P
open Go.RowKit Go.Proofs.YtbpfhpjbeomfcaaDoorW.PrintWords Go.Proofs.YtbpfhpjbeomfcaaDoorW.PrintLast Go.Proofs.YtbpfhpjbeomfcaaDoorW.PrintMore
attribute [local go_sem] qBA qz qKA qJA qq qp qAA qy
set_option linter.unusedVariables false
set_option linter.unusedSimpArgs false
mutual
def qQ.l0 : Nat → List (S27) → List ByteArray → Int → List ByteArray → Option ((List (S27)) × List ByteArray × Bool)
 | 0, _, _, _, _ => none
 | k + 1, x9, x10, x11, x19 => if x11 < (x9.length : Int) then (qQ.l1 k x9 x10 x11 x19 0) else (some (x9, x10, decide ((x9.length : Int) ≤ 400)))
def qQ.l1 : Nat → List (S27) → List ByteArray → Int → List ByteArray → Int → Option ((List (S27)) × List ByteArray × Bool)
 | 0, _, _, _, _, _ => none
 | k + 1, x9, x10, x11, x19, x32 => if x32 < 4 then (if 0 ≤ x11 then (if x11 < (x9.length : Int) then (if 0 ≤ x32 then ((qNA.f k x19 ((qI x9 x11).f0) ((qI x9 x11).f1) ((qI x9 x11).f2) (bt (⟨#[110, 101, 115, 119]⟩ : ByteArray) x32)).bind fun bt483 => (if bt483.2.2.2 = true then ((ql.f k x9 bt483.1 bt483.2.1 bt483.2.2.1).bind fun t488 => (if t488 = true then (qQ.l1 k x9 x10 x11 x19 (wrap64 (x32 + 1))) else ((some (([(⟨bt483.1, bt483.2.1, bt483.2.2.1⟩ : S27)] : List (S27)) : List (S27))).bind fun y489 => (if x9.length + y489.length < 5864062014805 then (if x11 < (x10.length : Int) then (if x32 ≤ (wrap64 (x32 + 1)) then (if (wrap64 (x32 + 1)) ≤ 4 then (if (rdOf ByteArray.empty x10 x11).size + ((⟨#[110, 101, 115, 119]⟩ : ByteArray).extract (x32 : Int).toNat ((wrap64 (x32 + 1)) : Int).toNat).size ≤ 9223372036854775807 then ((some (([(rdOf ByteArray.empty x10 x11) ++ ((⟨#[110, 101, 115, 119]⟩ : ByteArray).extract (x32 : Int).toNat ((wrap64 (x32 + 1)) : Int).toNat)] : List ByteArray) : List ByteArray)).bind fun y496 => (if x10.length + y496.length < 8796093022208 then (qQ.l1 k (x9 ++ y489) (x10 ++ y496) x11 x19 (wrap64 (x32 + 1))) else (none))) else (none)) else (none)) else (none)) else (none)) else (none))))) else (qQ.l1 k x9 x10 x11 x19 (wrap64 (x32 + 1))))) else (none)) else (none)) else (none)) else (qQ.l0 k x9 x10 (wrap64 (x11 + 1)) x19)
end
def qQ.f (k : Nat) (a0 : ByteArray) (a1_0 : Int) (a1_1 : Int) (a1_2 : Int) : Option ((List (S27)) × List ByteArray × Bool) := (qgA.f k a0 a1_0 a1_1 a1_2).bind fun bt472 => (if bt472.2 = true then (qQ.l0 k (([(⟨a1_0, a1_1, a1_2⟩ : S27)] : List (S27))) (([(⟨#[]⟩ : ByteArray)] : List ByteArray)) 0 bt472.1) else (some (([] : List (S27)), ([] : List ByteArray), false)))
def qQ.T11 : Bool × List (List Nat × List Nat) := (true, [([], []), ([], []), ([], []), ([1, 2], [1, 2]), ([3], [3]), ([], []), ([5], [5]), ([0, 4, 6], [0, 4, 6]), ([7], [7]), ([8], [8]), ([8], [8]), ([], []), ([11, 9, 7, 0, 1, 2, 3, 4, 5, 6, 7, 8, 9, 11], [9, 11]), ([10, 12, 0, 1, 2, 3, 4, 5, 6, 7, 8, 9, 10, 11, 12], [10])])
def qQ.B11 : List Nat := [0, 0, 0, 6, 14, 0, 32, 127, 255, 511, 511, 0, 3071, 8191]
theorem qQ.tab11 : rtab .any (opsOf Tryd.f66 11) = qQ.T11 := by kernel_rfl
theorem qQ.bits11 : waitsOk qQ.T11.2 qQ.B11 = true := by kernel_rfl
def qQ.T13 : Bool × List (List Nat × List Nat) := (true, [([], []), ([], []), ([1], [1]), ([0, 2], [0, 2]), ([], []), ([], []), ([], []), ([5, 6], [5, 6]), ([7], [7]), ([], []), ([], []), ([10], [10]), ([9, 11], [9, 11]), ([8, 12], [8, 12]), ([13], [13]), ([4, 14, 3], [4, 14]), ([3, 15, 0, 1, 2, 3], [0, 3]), ([15, 16, 0, 1, 2, 3, 4, 5, 6, 7, 8, 9, 10, 11, 12, 13, 14, 15, 16], [4, 5, 15])])
def qQ.B13 : List Nat := [0, 0, 2, 7, 0, 0, 0, 96, 224, 0, 0, 1024, 3584, 8160, 16352, 32767, 65535, 131071]
theorem qQ.tab13 : rtab .any (opsOf Tryd.f66 13) = qQ.T13 := by kernel_rfl
theorem qQ.bits13 : waitsOk qQ.T13.2 qQ.B13 = true := by kernel_rfl
set_option maxHeartbeats 8000000 in
set_option maxRecDepth 100000 in
theorem qQ.calls (k : Nat) (a0 : ByteArray) (a1_0 : Int) (a1_1 : Int) (a1_2 : Int) (r1 : List (S27)) (r2 : List ByteArray) (r3 : Bool) (w : World) (hL : Laid w) (h : qQ.f k a0 a1_0 a1_1 a1_2 = some (r1, r2, r3)) :
  Calls Tryd.prog 66 #[.string a0, .agg #[.int .i64 a1_0, .int .i64 a1_1, .int .i64 a1_2]] w fun e w' => ∃ v0_ v1_ : Value, e = .returned (.tuple #[v0_, v1_, .bool r3]) ∧ Kd.R k27 27 w' w.heap.size (fun _ => True) v0_ r1 ∧ Kd.R Kd.string 9 w' w.heap.size (fun _ => True) v1_ r2 ∧ Below w.heap.size w w' := by
 have hu27 := Tryd.underlying27
 have HLD := Aside0.mk hL
 clear hL
 have HB := Aside0.mk (Below.refl w.heap.size w)
 have H : ((qgA.f k a0 a1_0 a1_1 a1_2).bind fun bt472 => (if bt472.2 = true then (qQ.l0 k (([(⟨a1_0, a1_1, a1_2⟩ : S27)] : List (S27))) (([(⟨#[]⟩ : ByteArray)] : List ByteArray)) 0 bt472.1) else (some (([] : List (S27)), ([] : List ByteArray), false)))) = some (r1, r2, r3) := h
 clear h
 replace H := Option.bind_eq_some_iff.mp H
 obtain ⟨⟨t472, t475⟩, A30, H⟩ := H
 replace H : (if t475 = true then (qQ.l0 k (([(⟨a1_0, a1_1, a1_2⟩ : S27)] : List (S27))) (([(⟨#[]⟩ : ByteArray)] : List ByteArray)) 0 t472) else (some (([] : List (S27)), ([] : List ByteArray), false))) = some (r1, r2, r3) := H
 have A3 := Aside0.mk A30
 clear A30
 by_cases c4 : t475 = true
 ·subst c4
  have H1 : (qQ.l0 k (([(⟨a1_0, a1_1, a1_2⟩ : S27)] : List (S27))) (([(⟨#[]⟩ : ByteArray)] : List ByteArray)) 0 t472) = some (r1, r2, r3) := by rw [if_pos rfl] at H; exact H
  clear H
  have H := H1
  clear H1
  obtain ⟨y476, hy476⟩ : ∃ y_ : List (S27), y_ = (([(⟨a1_0, a1_1, a1_2⟩ : S27)] : List (S27))) := ⟨_, rfl⟩
  replace H : (qQ.l0 k y476 (([(⟨#[]⟩ : ByteArray)] : List ByteArray)) 0 t472) = some (r1, r2, r3) := by first | (rw [hy476]; with_reducible exact H) | (have H2_ := (Option.bind_some _ _).symm.trans H; rw [hy476]; with_reducible exact H2_) | (have H2_ := (Option.bind_some _ _).symm.trans H; with_reducible exact H2_) | with_reducible exact H | (rw [hy476]; exact H) | exact H
  have Ny476 := Aside0.mk hy476
  clear hy476
  obtain ⟨y479, hy479⟩ : ∃ y_ : List ByteArray, y_ = (([(⟨#[]⟩ : ByteArray)] : List ByteArray)) := ⟨_, rfl⟩
  replace H : (qQ.l0 k y476 y479 0 t472) = some (r1, r2, r3) := by first | (rw [hy479]; with_reducible exact H) | (have H2_ := (Option.bind_some _ _).symm.trans H; rw [hy479]; with_reducible exact H2_) | (have H2_ := (Option.bind_some _ _).symm.trans H; with_reducible exact H2_) | with_reducible exact H | (rw [hy479]; exact H) | exact H
  have Ny479 := Aside0.mk hy479
  clear hy479
  have H' := Aside0.mk H
  clear H
  go_enter Tryd.func66, Tryd.ntmps66
  go_wp2_with (first | ((with_reducible refine qe (N := 3) rfl ?_); refine qb ?hg (N := 3) ?hd (cs := #[.int .i64 a1_0, .int .i64 a1_1, .int .i64 a1_2]) (t := 27) ?hr ?_; (case hd => rfl); (case hg => rfl); (case hr => first | (go_simp; done) | (go_simp; rfl)); intro gb471 hg w5 hbox hb; have n0_ := Aside0.mk (qH bl hb); have n1_ := Aside0.mk (hbox); have n2_ := Aside0.mk ((gg hg)); have n3_ := Aside0.mk ((gg hg)); clear HB; have HB := n0_; have BK471 := n1_; have GW471 := n2_; have GE471 := n3_; clear n0_ n1_ n2_ n3_; clear hb hbox hg; have hcz6_0 := bc BK471 0; have hcz6_1 := bc BK471 1; have hcz6_2 := bc BK471 2; have hfz6_0 := qD BK471.out 0; have hfz6_1 := qD BK471.out 1; have hfz6_2 := qD BK471.out 2) | ((with_reducible refine qT (f := 58) rfl ?_); refine qDA (some 18) rfl rfl Tryd.func58 (by kernel_rfl) rfl #[.string a0, .agg #[.int .i64 a1_0, .int .i64 a1_1, .int .i64 a1_2]] rfl (by (try simp only [List.map_toArray, List.map_cons, List.map_nil]); first | done | rfl | (simp only [List.length_drop, List.length_take]; rfl)) ?_; (with_reducible refine (qgA.calls k a0 a1_0 a1_1 a1_2 t472 true _ ?side1 A3.out).mono ?_); (case side1 => first | exact HLD.out | exact Laid.below HLD.out (by repeat (first | (with_reducible first | exact HB.out | apply qt | apply qo | apply qk | refine qUA ?_ (Aside0.out (by with_reducible assumption))) | exact HB.out))); rintro e w7 ⟨v473, rfl, ho0, hb⟩; refine ⟨_, rfl, ?_⟩; have n0_ := Aside0.mk (Kd.qEA ho0 (qh bl)); have n1_ := Aside0.mk (bb BK471 hb); have n2_ := Aside0.mk (qH bl hb); clear BK471; clear HB; have HO474 := n0_; have BK471 := n1_; have HB := n2_; clear n0_ n1_ n2_; (try clear hb); (try clear hb2); (try clear hk); (try clear hi); (try clear ho0); have hcz8_0 := bc BK471 0; have hcz8_1 := bc BK471 1; have hcz8_2 := bc BK471 2; have hfz8_0 := qD BK471.out 0; have hfz8_1 := qD BK471.out 1; have hfz8_2 := qD BK471.out 2) | ((with_reducible refine qe (N := 24) rfl ?_); refine Kd.R_lit k27 _ 27 ?hg (N := 24) ?hd (xs := ([(⟨a1_0, a1_1, a1_2⟩ : S27)] : List (S27))) (inner := [.int .i64 a1_0, .int .i64 a1_1, .int .i64 a1_2]) (ok := fun _ => True) (okp := fun _ => True) ?hr ?hp (fun _ hk => hk) trivial (Below.refl _ _) (Nat.le_refl _) (by simp) ?_; (case hd => rfl); (case hg => rfl); (case hr => first | (go_simp; done) | (go_simp; rfl)); (case hp => exact (Reps.c3 (show Kd.M k27 _ _ _ (⟨a1_0, a1_1, a1_2⟩ : S27) [.int .i64 a1_0, .int .i64 a1_1, .int .i64 a1_2] from (qBC _ _ _ (⟨a1_0, a1_1, a1_2⟩ : S27) )) (Reps.none _ _))); intro v477 w9 ho10 hb hg_ hnew_; clear hg_ hnew_; (first | rw [← Ny476.out] at ho10 | (simp only [Int.reduceToNat] at ho10; rw [← Ny476.out] at ho10)); have n0_ := Aside0.mk (Kd.qU (by (with_reducible repeat (first | apply Kd.qF | apply Kd.qE | apply Kd.qG)); exact HO474.out) hb); have n1_ := Aside0.mk (Kd.qEA (Kd.qXB ho10 (g := gb471) (o := .cells #[.int .i64 a1_0, .int .i64 a1_1, .int .i64 a1_2] 27 (0, 0)) (by (with_reducible repeat (first | refine qB ?_ _ | refine qC ?_ | refine qA ?_ _)); exact BK471.out)) (qh bl)); have n2_ := Aside0.mk (bb BK471 hb); have n3_ := Aside0.mk (qH bl hb); clear HO474; clear BK471; clear HB; have HO474 := n0_; have HO478 := n1_; have BK471 := n2_; have HB := n3_; clear n0_ n1_ n2_ n3_; clear hb ho10) | ((with_reducible refine qe (N := 25) rfl ?_); refine Kd.R_lit Kd.string _ 9 ?hg (N := 25) ?hd (xs := ([(⟨#[]⟩ : ByteArray)] : List ByteArray)) (inner := [.string (⟨#[]⟩ : ByteArray)]) (ok := fun _ => True) (okp := fun _ => True) ?hr ?hp (fun _ hk => hk) trivial (Below.refl _ _) (Nat.le_refl _) (by simp) ?_; (case hd => rfl); (case hg => rfl); (case hr => first | (go_simp; done) | (go_simp; rfl)); (case hp => exact (Reps.one (show Kd.M Kd.string _ _ _ (⟨#[]⟩ : ByteArray) [.string (⟨#[]⟩ : ByteArray)] from rfl) (Reps.none _ _))); intro v480 w11 ho12 hb hg_ hnew_; clear hg_ hnew_; (first | rw [← Ny479.out] at ho12 | (simp only [Int.reduceToNat] at ho12; rw [← Ny479.out] at ho12)); have n0_ := Aside0.mk (Kd.qiA (by (with_reducible repeat (first | apply Kd.qF | apply Kd.qE | apply Kd.qG)); exact HO474.out) (Kd.qHB ho12) hb); have n1_ := Aside0.mk (Kd.qU (by (with_reducible repeat (first | apply Kd.qF | apply Kd.qE | apply Kd.qG)); exact HO478.out) hb); have n2_ := Aside0.mk (Kd.qEA (Kd.qGB ho12 (Kd.R_lt (by (with_reducible repeat (first | apply Kd.qF | apply Kd.qE | apply Kd.qG)); exact HO474.out))) (qh bl)); have n3_ := Aside0.mk (bb BK471 hb); have n4_ := Aside0.mk (qH bl hb); clear HO474; clear HO478; clear BK471; clear HB; have HO474 := n0_; have HO478 := n1_; have HO481 := n2_; have BK471 := n3_; have HB := n4_; clear n0_ n1_ n2_ n3_ n4_; clear hb ho12))
  go_loopg [9, 10, 11] k (fun kq v9 v10 v11 w' => ∃ (x9_1 : List (S27)) (x10_1 : List ByteArray) (x11_1 : Int), v11 = .int .i64 x11_1 ∧ Aside0 (qQ.l0 kq x9_1 x10_1 x11_1 t472 = some (r1, r2, r3)) ∧ Aside0 (kq ≤ k) ∧ Aside0 (Kd.R k27 27 w' w.heap.size (fun k_ => k_ ≠ gb471) v9 x9_1) ∧ Aside0 (Kd.R Kd.string 9 w' w.heap.size (fun k_ => some k_ ≠ (v473 : Value).ownBlock) v10 x10_1) ∧ Aside0 (Kd.R Kd.string 9 w' w.heap.size (fun k_ => some k_ ≠ (v10 : Value).ownBlock) v473 t472) ∧ Aside0 (w'.heap[gb471]? = some (.cells #[.int .i64 a1_0, .int .i64 a1_1, .int .i64 a1_2] 27 (0, 0))) ∧ Aside0 (Below w.heap.size w w'))
  case atStart => exact ⟨(y476), (y479), (0), (by first | rfl | (simp; done) | (simp [*]; done)), H', ⟨Nat.le_refl _⟩, ⟨by (with_reducible repeat (first | apply Kd.qF | apply Kd.qE | apply Kd.qG)); exact Kd.qg HO478.out (fun _ hk => hk.2)⟩, ⟨by (with_reducible repeat (first | apply Kd.qF | apply Kd.qE | apply Kd.qG)); exact Kd.qg HO481.out (fun _ hk => hk.2)⟩, ⟨by (with_reducible repeat (first | apply Kd.qF | apply Kd.qE | apply Kd.qG)); exact Kd.qg HO474.out (fun _ hk => hk.2)⟩, ⟨by (with_reducible repeat (first | refine qB ?_ _ | refine qC ?_ | refine qA ?_ _)); exact BK471.out⟩, ⟨bl⟩⟩
  case round =>
   clear H'
   try clear p2
   try clear c3
   try clear c4
   try clear c5
   try clear c6
   try clear hcz6_0
   try clear hcz6_1
   try clear hcz6_2
   try clear hcz8_0
   try clear hcz8_1
   try clear hcz8_2
   try clear hfz6_0
   try clear hfz6_1
   try clear hfz6_2
   try clear hfz8_0
   try clear hfz8_1
   try clear hfz8_2
   obtain ⟨x9_1, x10_1, x11_1, rfl, HA, HK1, HO_9, HO_10, HO_19, BK471, HB⟩ := hrel
   cases gk with
   | zero => exact absurd HA.out (by simp [qQ.l0])
   | succ k1 =>
    have H := HA.out
    clear HA
    simp only [qQ.l0] at H
    by_cases c13 : x11_1 < (x9_1.length : Int)
    ·rw [if_pos c13] at H
     have c13b0 : decide (x11_1 < (x9_1.length : Int)) = true := decide_eq_true c13
     clear c13
     have H' := Aside0.mk H
     clear H
     obtain ⟨Ao14, co14, eo14⟩ := Kd.qm HO_9.out
     subst eo14
     go_wp2
     go_loopg [9, 10, 32] k1 (fun kq v9 v10 v32 w' => ∃ (x9_2 : List (S27)) (x10_2 : List ByteArray) (x32_2 : Int), v32 = .int .i64 x32_2 ∧ Aside0 (qQ.l1 kq x9_2 x10_2 x11_1 t472 x32_2 = some (r1, r2, r3)) ∧ Aside0 (kq ≤ k1) ∧ Aside0 (Kd.R k27 27 w' w.heap.size (fun k_ => k_ ≠ gb471) v9 x9_2) ∧ Aside0 (Kd.R Kd.string 9 w' w.heap.size (fun k_ => some k_ ≠ (v473 : Value).ownBlock) v10 x10_2) ∧ Aside0 (Kd.R Kd.string 9 w' w.heap.size (fun k_ => some k_ ≠ (v10 : Value).ownBlock) v473 t472) ∧ Aside0 (w'.heap[gb471]? = some (.cells #[.int .i64 a1_0, .int .i64 a1_1, .int .i64 a1_2] 27 (0, 0))) ∧ Aside0 (Below w.heap.size w w'))
     case atStart => exact ⟨(x9_1), (x10_1), (0), (by first | rfl | (simp; done) | (simp [*]; done)), H', ⟨Nat.le_refl _⟩, ⟨by (with_reducible repeat (first | apply Kd.qF | apply Kd.qE | apply Kd.qG)); exact HO_9.out⟩, ⟨by (with_reducible repeat (first | apply Kd.qF | apply Kd.qE | apply Kd.qG)); exact HO_10.out⟩, ⟨by (with_reducible repeat (first | apply Kd.qF | apply Kd.qE | apply Kd.qG)); exact HO_19.out⟩, ⟨by (with_reducible repeat (first | refine qB ?_ _ | refine qC ?_ | refine qA ?_ _)); exact BK471.out⟩, ⟨bl⟩⟩
     case round =>
      clear H'
      try clear c1
      try clear p2
      try clear c3
      try clear c4
      try clear c5
      try clear c6
      try clear c13
      try clear c13b0
      try clear hcz6_0
      try clear hcz6_1
      try clear hcz6_2
      try clear hcz8_0
      try clear hcz8_1
      try clear hcz8_2
      try clear hfz6_0
      try clear hfz6_1
      try clear hfz6_2
      try clear hfz8_0
      try clear hfz8_1
      try clear hfz8_2
      try clear p2
      obtain ⟨x9_2, x10_2, x32_2, rfl, HA, HK2, HO_9, HO_10, HO_19, BK471, HB⟩ := hrel
      cases gk with
      | zero => exact absurd HA.out (by simp [qQ.l1])
      | succ k2 =>
       have H := HA.out
       clear HA
       simp only [qQ.l1] at H
       by_cases c15 : x32_2 < 4
       ·rw [if_pos c15] at H
        have c15b0 : decide (x32_2 < 4) = true := decide_eq_true c15
        clear c15
        by_cases c16 : 0 ≤ x11_1
        ·rw [if_pos c16] at H
         have c16b0 : decide (0 ≤ x11_1) = true := decide_eq_true c16
         clear c16
         by_cases c17 : x11_1 < (x9_2.length : Int)
         ·rw [if_pos c17] at H
          have c17b0 : decide (x11_1 < (x9_2.length : Int)) = true := decide_eq_true c17
          clear c17
          by_cases c18 : 0 ≤ x32_2
          ·rw [if_pos c18] at H
           have c18b0 : decide (0 ≤ x32_2) = true := decide_eq_true c18
           clear c18
           replace H := Option.bind_eq_some_iff.mp H
           obtain ⟨⟨t483, t484, t485, t486⟩, A200, H⟩ := H
           replace H : (if t486 = true then ((ql.f k2 x9_2 t483 t484 t485).bind fun t488 => (if t488 = true then (qQ.l1 k2 x9_2 x10_2 x11_1 t472 (wrap64 (x32_2 + 1))) else ((some (([(⟨t483, t484, t485⟩ : S27)] : List (S27)) : List (S27))).bind fun y489 => (if x9_2.length + y489.length < 5864062014805 then (if x11_1 < (x10_2.length : Int) then (if x32_2 ≤ (wrap64 (x32_2 + 1)) then (if (wrap64 (x32_2 + 1)) ≤ 4 then (if (rdOf ByteArray.empty x10_2 x11_1).size + ((⟨#[110, 101, 115, 119]⟩ : ByteArray).extract (x32_2 : Int).toNat ((wrap64 (x32_2 + 1)) : Int).toNat).size ≤ 9223372036854775807 then ((some (([(rdOf ByteArray.empty x10_2 x11_1) ++ ((⟨#[110, 101, 115, 119]⟩ : ByteArray).extract (x32_2 : Int).toNat ((wrap64 (x32_2 + 1)) : Int).toNat)] : List ByteArray) : List ByteArray)).bind fun y496 => (if x10_2.length + y496.length < 8796093022208 then (qQ.l1 k2 (x9_2 ++ y489) (x10_2 ++ y496) x11_1 t472 (wrap64 (x32_2 + 1))) else (none))) else (none)) else (none)) else (none)) else (none)) else (none))))) else (qQ.l1 k2 x9_2 x10_2 x11_1 t472 (wrap64 (x32_2 + 1)))) = some (r1, r2, r3) := H
           have A20 := Aside0.mk A200
           clear A200
           by_cases c21 : t486 = true
           ·subst c21
            have H1 : ((ql.f k2 x9_2 t483 t484 t485).bind fun t488 => (if t488 = true then (qQ.l1 k2 x9_2 x10_2 x11_1 t472 (wrap64 (x32_2 + 1))) else ((some (([(⟨t483, t484, t485⟩ : S27)] : List (S27)) : List (S27))).bind fun y489 => (if x9_2.length + y489.length < 5864062014805 then (if x11_1 < (x10_2.length : Int) then (if x32_2 ≤ (wrap64 (x32_2 + 1)) then (if (wrap64 (x32_2 + 1)) ≤ 4 then (if (rdOf ByteArray.empty x10_2 x11_1).size + ((⟨#[110, 101, 115, 119]⟩ : ByteArray).extract (x32_2 : Int).toNat ((wrap64 (x32_2 + 1)) : Int).toNat).size ≤ 9223372036854775807 then ((some (([(rdOf ByteArray.empty x10_2 x11_1) ++ ((⟨#[110, 101, 115, 119]⟩ : ByteArray).extract (x32_2 : Int).toNat ((wrap64 (x32_2 + 1)) : Int).toNat)] : List ByteArray) : List ByteArray)).bind fun y496 => (if x10_2.length + y496.length < 8796093022208 then (qQ.l1 k2 (x9_2 ++ y489) (x10_2 ++ y496) x11_1 t472 (wrap64 (x32_2 + 1))) else (none))) else (none)) else (none)) else (none)) else (none)) else (none))))) = some (r1, r2, r3) := by rw [if_pos rfl] at H; exact H
            clear H
            have H := H1
            clear H1
            replace H := Option.bind_eq_some_iff.mp H
            obtain ⟨t488, A220, H⟩ := H
            replace H : (if t488 = true then (qQ.l1 k2 x9_2 x10_2 x11_1 t472 (wrap64 (x32_2 + 1))) else ((some (([(⟨t483, t484, t485⟩ : S27)] : List (S27)) : List (S27))).bind fun y489 => (if x9_2.length + y489.length < 5864062014805 then (if x11_1 < (x10_2.length : Int) then (if x32_2 ≤ (wrap64 (x32_2 + 1)) then (if (wrap64 (x32_2 + 1)) ≤ 4 then (if (rdOf ByteArray.empty x10_2 x11_1).size + ((⟨#[110, 101, 115, 119]⟩ : ByteArray).extract (x32_2 : Int).toNat ((wrap64 (x32_2 + 1)) : Int).toNat).size ≤ 9223372036854775807 then ((some (([(rdOf ByteArray.empty x10_2 x11_1) ++ ((⟨#[110, 101, 115, 119]⟩ : ByteArray).extract (x32_2 : Int).toNat ((wrap64 (x32_2 + 1)) : Int).toNat)] : List ByteArray) : List ByteArray)).bind fun y496 => (if x10_2.length + y496.length < 8796093022208 then (qQ.l1 k2 (x9_2 ++ y489) (x10_2 ++ y496) x11_1 t472 (wrap64 (x32_2 + 1))) else (none))) else (none)) else (none)) else (none)) else (none)) else (none)))) = some (r1, r2, r3) := H
            have A22 := Aside0.mk A220
            clear A220
            by_cases c23 : t488 = true
            ·subst c23
             have H1 : (qQ.l1 k2 x9_2 x10_2 x11_1 t472 (wrap64 (x32_2 + 1))) = some (r1, r2, r3) := by rw [if_pos rfl] at H; exact H
             clear H
             have H := H1
             clear H1
             have H' := Aside0.mk H
             clear H
             obtain ⟨Ao24, co24, eo24⟩ := Kd.qm HO_19.out
             subst eo24
             try go_wp2
             have n0_ := Aside0.mk (Kd.qG HO_9.out)
             have n1_ := Aside0.mk (Kd.qG HO_10.out)
             have n2_ := Aside0.mk (Kd.qG HO_19.out)
             have n3_ := Aside0.mk (qC BK471.out)
             have n4_ := Aside0.mk (qk HB.out)
             clear HO_9
             clear HO_10
             clear HO_19
             clear BK471
             clear HB
             have HO_9 := n0_
             have HO_10 := n1_
             have HO_19 := n2_
             have BK471 := n3_
             have HB := n4_
             clear n0_ n1_ n2_ n3_ n4_
             obtain ⟨Ao26, co26, eo26⟩ := Kd.qm HO_9.out
             (first | subst eo26 | (injection eo26 with f1_ f2_ f3_; have f4_ := f1_.symm; have f5_ := f3_.symm; clear f1_ f2_ f3_; subst f4_; subst f5_))
             have p482 : 0 ≤ (x11_1 : Int) := of_decide_eq_true (by first | (with_reducible assumption) | assumption)
             have q482 : x11_1 < (x9_2.length : Int) := of_decide_eq_true (by first | (with_reducible assumption) | assumption)
             obtain ⟨ad482, e482, hx482_0, hx482_1, hx482_2⟩ := qIB (Kd.qS HO_9.out).2.2 x11_1 p482 q482
             cases e482
             replace p482 := eq_true p482
             replace q482 := eq_true q482
             have p19 : 0 ≤ (x32_2 : Int) := of_decide_eq_true (by first | (with_reducible assumption) | assumption)
             have q19 : x32_2 < (4 : Int) := of_decide_eq_true (by first | (with_reducible assumption) | assumption)
             have hx19 := bt_at (⟨#[110, 101, 115, 119]⟩ : ByteArray) x32_2
             replace p19 := eq_true p19
             replace q19 := eq_true q19
             refine qyA (n := 14) (S := fun w' => w'.cell? (ad482.add ((x11_1).toNat * 3)) = some (.int .i64 ((qI x9_2 x11_1).f0)) ∧ w'.cell? ⟨(ad482.add ((x11_1).toNat * 3)).block, (ad482.add ((x11_1).toNat * 3)).off + 1, none⟩ = some (.int .i64 ((qI x9_2 x11_1).f1)) ∧ w'.cell? ⟨(ad482.add ((x11_1).toNat * 3)).block, (ad482.add ((x11_1).toNat * 3)).off + 2, none⟩ = some (.int .i64 ((qI x9_2 x11_1).f2))) (ds := []) #[false, false, false, false, false, false, false, false, false, false, false, false, false, false] (by kernel_rfl) rfl rfl ⟨hx482_0, hx482_1, hx482_2⟩ (fun hHeld => ?_); refine qWA qQ.tab11 qQ.bits11 (fun HT_ HW_ => ?_)
             generalize wr.drew = w25 at HO_9 HO_10 HO_19 BK471 HB hx482_0 hx482_1 hx482_2 hHeld ⊢
             refine pS (i := 0) (N := some 36) #[true, false, false, false, false, false, false, false, false, false, false, false, false, false] HT_ ?_
             refine pS (i := 1) (N := some 37) #[true, true, false, false, false, false, false, false, false, false, false, false, false, false] HT_ ?_
             refine pS (i := 2) (N := some 38) #[true, true, true, false, false, false, false, false, false, false, false, false, false, false] HT_ ?_
             refine pS (i := 3) (N := some 39) #[true, true, true, true, false, false, false, false, false, false, false, false, false, false] HT_ ?_
             refine pS (i := 5) (N := some 41) #[true, true, true, true, false, true, false, false, false, false, false, false, false, false] HT_ ?_
             refine tS (i := 4) (N := some 40) #[true, true, true, true, true, true, false, false, false, false, false, false, false, false] HT_ HW_ hHeld ?_
             refine tS (i := 6) (N := some 42) #[true, true, true, true, true, true, true, false, false, false, false, false, false, false] HT_ HW_ hHeld ?_
             refine join_ (σ := Nat) 2 #[true, true, true, true, true, true, true, true, true, true, true, true, false, false] (fun s_ => [(43, .tuple #[.agg #[.int .i64 t483, .int .i64 t484, .int .i64 t485], .bool true]), (13, .pointer (some ⟨s_, 0, none⟩)), (35, .tuple #[.agg #[.int .i64 t483, .int .i64 t484, .int .i64 t485], .bool true]), (44, .agg #[.int .i64 t483, .int .i64 t484, .int .i64 t485]), (45, .bool true)]) (fun s_ w' => (w'.cell? (ad482.add ((x11_1).toNat * 3)) = some (.int .i64 ((qI x9_2 x11_1).f0)) ∧ w'.cell? ⟨(ad482.add ((x11_1).toNat * 3)).block, (ad482.add ((x11_1).toNat * 3)).off + 1, none⟩ = some (.int .i64 ((qI x9_2 x11_1).f1)) ∧ w'.cell? ⟨(ad482.add ((x11_1).toNat * 3)).block, (ad482.add ((x11_1).toNat * 3)).off + 2, none⟩ = some (.int .i64 ((qI x9_2 x11_1).f2))) ∧ (Kd.R Kd.string 9 w' w.heap.size (fun k_ => some k_ ≠ (.slice Ao24 t472.length co24 : Value).ownBlock) u10 x10_2) ∧ (Kd.R Kd.string 9 w' w.heap.size (fun k_ => some k_ ≠ (u10 : Value).ownBlock) (.slice Ao24 t472.length co24) t472) ∧ (Kd.R k27 27 w' w.heap.size (fun k_ => k_ ≠ gb471 ∧ k_ ≠ s_) (.slice (some ad482) x9_2.length co26) x9_2) ∧ (w'.heap[gb471]? = some (.cells #[.int .i64 a1_0, .int .i64 a1_1, .int .i64 a1_2] 27 (0, 0))) ∧ (w'.heap[s_]? = some (.cells #[.int .i64 0, .int .i64 0, .int .i64 0] 27 (0, 0))) ∧ (w.heap.size ≤ s_) ∧ (w.heap.size ≤ s_) ∧ (gb471 ≠ s_) ∧ (s_ ≠ gb471) ∧ (Below w.heap.size w w')) ?_ ?_
             rotate_left
             ·intro hCont
              refine two_ (i := 7) (j := 11) (Ni := some 43) (Nj := some 13) #[true, true, true, true, true, true, true, true, false, false, false, false, false, false] #[true, true, true, true, true, true, true, false, false, false, false, true, false, false] rfl rfl rfl rfl (qxB HT_.out (by kernel_rfl)) (by decide) (by decide) (fun K hK => ?_) (fun K hK => ?_)
              ·skip
               refine goes_ Tryd.func62 (by kernel_rfl) rfl #[.slice Ao24 t472.length co24, .agg #[.int .i64 ((qI x9_2 x11_1).f0), .int .i64 ((qI x9_2 x11_1).f1), .int .i64 ((qI x9_2 x11_1).f2)], .int .u8 (bt (⟨#[110, 101, 115, 119]⟩ : ByteArray) x32_2)] (by rfl) rfl rfl (by (try simp only [List.map_toArray, List.map_cons, List.map_nil]); first | done | rfl | (simp only [List.length_drop, List.length_take]; rfl)) ?_
               with_reducible refine (qNA.calls k2 _ _ t472 ((qI x9_2 x11_1).f0) ((qI x9_2 x11_1).f1) ((qI x9_2 x11_1).f2) (bt (⟨#[110, 101, 115, 119]⟩ : ByteArray) x32_2) t483 t484 t485 true _ ?side1 ?side2 A20.out).mono ?_
               (case side1 => repeat (first | exact (Kd.qS HO_19.out).2.2 | (with_reducible refine Kd.qx ?_ _) | (with_reducible refine Kd.qw ?_ _) | (with_reducible refine Kd.qLA ?_)))
               (case side2 => exact (Kd.qS HO_19.out).2.1)
               rintro e w27 ⟨rfl, hb⟩
               have HS0_ := (hb.cell (World.block_lt_of_cell? _ _ (hHeld.1))).trans (hHeld.1)
               have HS1_ := (hb.cell (World.block_lt_of_cell? _ _ (hHeld.2.1))).trans (hHeld.2.1)
               have HS2_ := (hb.cell (World.block_lt_of_cell? _ _ (hHeld.2.2))).trans (hHeld.2.2)
               refine ⟨_, rfl, ?_⟩
               have n0_ := Aside0.mk (Kd.qU (by (with_reducible repeat (first | apply Kd.qF | apply Kd.qE | apply Kd.qG)); exact HO_9.out) hb)
               have n1_ := Aside0.mk (Kd.qU (by (with_reducible repeat (first | apply Kd.qF | apply Kd.qE | apply Kd.qG)); exact HO_10.out) hb)
               have n2_ := Aside0.mk (Kd.qU (by (with_reducible repeat (first | apply Kd.qF | apply Kd.qE | apply Kd.qG)); exact HO_19.out) hb)
               have n3_ := Aside0.mk (bb BK471 hb)
               have n4_ := Aside0.mk (qH bl hb)
               clear HO_9
               clear HO_10
               clear HO_19
               clear BK471
               clear HB
               have HO_9 := n0_
               have HO_10 := n1_
               have HO_19 := n2_
               have BK471 := n3_
               have HB := n4_
               clear n0_ n1_ n2_ n3_ n4_
               (try clear hb)
               (try clear hb2)
               (try clear hk)
               (try clear hi)
               refine hK.out _ _ ⟨HS0_, HS1_, HS2_⟩ (fun hHeld => ?_)
               clear hK K
               refine norm_ (a' := ?_) ?_ ?_
               rotate_left
               ·show Act.put _ (some 43) _ = _
                simp only [Act.put, List.setIfInBounds_toArray, List.set_cons_zero, List.set_cons_succ, i64_w, i32_w]
                rfl
               refine pS (i := 8) (N := some 35) #[true, true, true, true, true, true, true, true, true, false, false, false, false, false] HT_ ?_
               refine pS (i := 9) (N := some 44) #[true, true, true, true, true, true, true, true, true, true, false, false, false, false] HT_ ?_
               refine pS (i := 10) (N := some 45) #[true, true, true, true, true, true, true, true, true, true, true, false, false, false] HT_ ?_
               refine one_ (i := 11) (N := some 13) #[true, true, true, true, true, true, true, true, true, true, true, true, false, false] rfl rfl (qPA HT_.out (by kernel_rfl)) (by decide) (fun K hK => ?_)
               refine qDB ?hg (N := 13) ?hd (cs := #[.int .i64 0, .int .i64 0, .int .i64 0]) (t := 27) ?hr ?_; (case hd => rfl); (case hg => rfl); (case hr => first | (go_simp; done) | (go_simp; rfl))
               intro gb487 hg w28 hbox hb
               have HS0_ := (hb.cell (World.block_lt_of_cell? _ _ (hHeld.1))).trans (hHeld.1)
               have HS1_ := (hb.cell (World.block_lt_of_cell? _ _ (hHeld.2.1))).trans (hHeld.2.1)
               have HS2_ := (hb.cell (World.block_lt_of_cell? _ _ (hHeld.2.2))).trans (hHeld.2.2)
               have n0_ := Aside0.mk (Kd.qU (Kd.qdA (by (with_reducible repeat (first | apply Kd.qF | apply Kd.qE | apply Kd.qG)); exact HO_9.out) gb487 (Nat.le_of_eq hg.symm)) hb)
               have n1_ := Aside0.mk (Kd.qU (by (with_reducible repeat (first | apply Kd.qF | apply Kd.qE | apply Kd.qG)); exact HO_10.out) hb)
               have n2_ := Aside0.mk (Kd.qU (by (with_reducible repeat (first | apply Kd.qF | apply Kd.qE | apply Kd.qG)); exact HO_19.out) hb)
               have n3_ := Aside0.mk (bb BK471 hb)
               have n4_ := Aside0.mk (qH bl hb)
               have n5_ := Aside0.mk (hbox)
               have n6_ := Aside0.mk ((gg hg))
               have n7_ := Aside0.mk ((gg hg))
               have n8_ := Aside0.mk ((nl BK471 hg))
               have n9_ := Aside0.mk ((nr BK471 hg))
               clear HO_9
               clear HO_10
               clear HO_19
               clear BK471
               clear HB
               have HO_9 := n0_
               have HO_10 := n1_
               have HO_19 := n2_
               have BK471 := n3_
               have HB := n4_
               have BK487 := n5_
               have GW487 := n6_
               have GE487 := n7_
               have NB471_487 := n8_
               have NB487_471 := n9_
               clear n0_ n1_ n2_ n3_ n4_ n5_ n6_ n7_ n8_ n9_
               clear hb hbox hg
               refine hK.out _ _ ⟨HS0_, HS1_, HS2_⟩ (fun hHeld => ?_)
               clear hK K
               refine norm_ (a' := ?_) ?_ ?_
               rotate_left
               ·show Act.put _ (some 13) _ = _
                simp only [Act.put, List.setIfInBounds_toArray, List.set_cons_zero, List.set_cons_succ, i64_w, i32_w]
                rfl
               exact norm_ (by simp only [putAll, Act.put, List.setIfInBounds_toArray, List.set_cons_zero, List.set_cons_succ]) (hCont (gb487) _ ⟨hHeld, (by (with_reducible repeat (first | apply Kd.qF | apply Kd.qE | apply Kd.qG)); exact HO_10.out), (by (with_reducible repeat (first | apply Kd.qF | apply Kd.qE | apply Kd.qG)); exact HO_19.out), (by (with_reducible repeat (first | apply Kd.qF | apply Kd.qE | apply Kd.qG)); exact HO_9.out), (by (with_reducible repeat (first | refine qB ?_ _ | refine qC ?_ | refine qA ?_ _)); exact BK471.out), (by (with_reducible repeat (first | refine qB ?_ _ | refine qC ?_ | refine qA ?_ _)); exact BK487.out), GW487.out, GE487.out, NB471_487.out, NB487_471.out, bl⟩)
              ·skip
               refine qDB ?hg (N := 13) ?hd (cs := #[.int .i64 0, .int .i64 0, .int .i64 0]) (t := 27) ?hr ?_; (case hd => rfl); (case hg => rfl); (case hr => first | (go_simp; done) | (go_simp; rfl))
               intro gb487 hg w27 hbox hb
               have HS0_ := (hb.cell (World.block_lt_of_cell? _ _ (hHeld.1))).trans (hHeld.1)
               have HS1_ := (hb.cell (World.block_lt_of_cell? _ _ (hHeld.2.1))).trans (hHeld.2.1)
               have HS2_ := (hb.cell (World.block_lt_of_cell? _ _ (hHeld.2.2))).trans (hHeld.2.2)
               have n0_ := Aside0.mk (Kd.qU (Kd.qdA (by (with_reducible repeat (first | apply Kd.qF | apply Kd.qE | apply Kd.qG)); exact HO_9.out) gb487 (Nat.le_of_eq hg.symm)) hb)
               have n1_ := Aside0.mk (Kd.qU (by (with_reducible repeat (first | apply Kd.qF | apply Kd.qE | apply Kd.qG)); exact HO_10.out) hb)
               have n2_ := Aside0.mk (Kd.qU (by (with_reducible repeat (first | apply Kd.qF | apply Kd.qE | apply Kd.qG)); exact HO_19.out) hb)
               have n3_ := Aside0.mk (bb BK471 hb)
               have n4_ := Aside0.mk (qH bl hb)
               have n5_ := Aside0.mk (hbox)
               have n6_ := Aside0.mk ((gg hg))
               have n7_ := Aside0.mk ((gg hg))
               have n8_ := Aside0.mk ((nl BK471 hg))
               have n9_ := Aside0.mk ((nr BK471 hg))
               clear HO_9
               clear HO_10
               clear HO_19
               clear BK471
               clear HB
               have HO_9 := n0_
               have HO_10 := n1_
               have HO_19 := n2_
               have BK471 := n3_
               have HB := n4_
               have BK487 := n5_
               have GW487 := n6_
               have GE487 := n7_
               have NB471_487 := n8_
               have NB487_471 := n9_
               clear n0_ n1_ n2_ n3_ n4_ n5_ n6_ n7_ n8_ n9_
               clear hb hbox hg
               refine hK.out _ _ ⟨HS0_, HS1_, HS2_⟩ (fun hHeld => ?_)
               clear hK K
               refine norm_ (a' := ?_) ?_ ?_
               rotate_left
               ·show Act.put _ (some 13) _ = _
                simp only [Act.put, List.setIfInBounds_toArray, List.set_cons_zero, List.set_cons_succ, i64_w, i32_w]
                rfl
               refine one_ (i := 7) (N := some 43) #[true, true, true, true, true, true, true, true, false, false, false, true, false, false] rfl rfl (qPA HT_.out (by kernel_rfl)) (by decide) (fun K hK => ?_)
               refine goes_ Tryd.func62 (by kernel_rfl) rfl #[.slice Ao24 t472.length co24, .agg #[.int .i64 ((qI x9_2 x11_1).f0), .int .i64 ((qI x9_2 x11_1).f1), .int .i64 ((qI x9_2 x11_1).f2)], .int .u8 (bt (⟨#[110, 101, 115, 119]⟩ : ByteArray) x32_2)] (by rfl) rfl rfl (by (try simp only [List.map_toArray, List.map_cons, List.map_nil]); first | done | rfl | (simp only [List.length_drop, List.length_take]; rfl)) ?_
               with_reducible refine (qNA.calls k2 _ _ t472 ((qI x9_2 x11_1).f0) ((qI x9_2 x11_1).f1) ((qI x9_2 x11_1).f2) (bt (⟨#[110, 101, 115, 119]⟩ : ByteArray) x32_2) t483 t484 t485 true _ ?side1 ?side2 A20.out).mono ?_
               (case side1 => repeat (first | exact (Kd.qS HO_19.out).2.2 | (with_reducible refine Kd.qx ?_ _) | (with_reducible refine Kd.qw ?_ _) | (with_reducible refine Kd.qLA ?_)))
               (case side2 => exact (Kd.qS HO_19.out).2.1)
               rintro e w28 ⟨rfl, hb⟩
               have HS0_ := (hb.cell (World.block_lt_of_cell? _ _ (hHeld.1))).trans (hHeld.1)
               have HS1_ := (hb.cell (World.block_lt_of_cell? _ _ (hHeld.2.1))).trans (hHeld.2.1)
               have HS2_ := (hb.cell (World.block_lt_of_cell? _ _ (hHeld.2.2))).trans (hHeld.2.2)
               refine ⟨_, rfl, ?_⟩
               have n0_ := Aside0.mk (Kd.qU (by (with_reducible repeat (first | apply Kd.qF | apply Kd.qE | apply Kd.qG)); exact HO_9.out) hb)
               have n1_ := Aside0.mk (Kd.qU (by (with_reducible repeat (first | apply Kd.qF | apply Kd.qE | apply Kd.qG)); exact HO_10.out) hb)
               have n2_ := Aside0.mk (Kd.qU (by (with_reducible repeat (first | apply Kd.qF | apply Kd.qE | apply Kd.qG)); exact HO_19.out) hb)
               have n3_ := Aside0.mk (bb BK471 hb)
               have n4_ := Aside0.mk (bb BK487 hb)
               have n5_ := Aside0.mk (qH bl hb)
               clear HO_9
               clear HO_10
               clear HO_19
               clear BK471
               clear BK487
               clear HB
               have HO_9 := n0_
               have HO_10 := n1_
               have HO_19 := n2_
               have BK471 := n3_
               have BK487 := n4_
               have HB := n5_
               clear n0_ n1_ n2_ n3_ n4_ n5_
               (try clear hb)
               (try clear hb2)
               (try clear hk)
               (try clear hi)
               refine hK.out _ _ ⟨HS0_, HS1_, HS2_⟩ (fun hHeld => ?_)
               clear hK K
               refine norm_ (a' := ?_) ?_ ?_
               rotate_left
               ·show Act.put _ (some 43) _ = _
                simp only [Act.put, List.setIfInBounds_toArray, List.set_cons_zero, List.set_cons_succ, i64_w, i32_w]
                rfl
               refine pS (i := 8) (N := some 35) #[true, true, true, true, true, true, true, true, true, false, false, true, false, false] HT_ ?_
               refine pS (i := 9) (N := some 44) #[true, true, true, true, true, true, true, true, true, true, false, true, false, false] HT_ ?_
               refine pS (i := 10) (N := some 45) #[true, true, true, true, true, true, true, true, true, true, true, true, false, false] HT_ ?_
               exact norm_ (by simp only [putAll, Act.put, List.setIfInBounds_toArray, List.set_cons_zero, List.set_cons_succ]) (hCont (gb487) _ ⟨hHeld, (by (with_reducible repeat (first | apply Kd.qF | apply Kd.qE | apply Kd.qG)); exact HO_10.out), (by (with_reducible repeat (first | apply Kd.qF | apply Kd.qE | apply Kd.qG)); exact HO_19.out), (by (with_reducible repeat (first | apply Kd.qF | apply Kd.qE | apply Kd.qG)); exact HO_9.out), (by (with_reducible repeat (first | refine qB ?_ _ | refine qC ?_ | refine qA ?_ _)); exact BK471.out), (by (with_reducible repeat (first | refine qB ?_ _ | refine qC ?_ | refine qA ?_ _)); exact BK487.out), GW487.out, GE487.out, NB471_487.out, NB487_471.out, bl⟩)
             rintro gb487 w29 ⟨hS_, h0_, h1_, h2_, h3_, h4_, h5_, h6_, h7_, h8_, h9_⟩
             have n0_ : Aside0 (Kd.R Kd.string 9 w29 w.heap.size (fun k_ => some k_ ≠ (.slice Ao24 t472.length co24 : Value).ownBlock) u10 x10_2) := ⟨h0_⟩
             have n1_ : Aside0 (Kd.R Kd.string 9 w29 w.heap.size (fun k_ => some k_ ≠ (u10 : Value).ownBlock) (.slice Ao24 t472.length co24) t472) := ⟨h1_⟩
             have n2_ : Aside0 (Kd.R k27 27 w29 w.heap.size (fun k_ => k_ ≠ gb471 ∧ k_ ≠ gb487) (.slice (some ad482) x9_2.length co26) x9_2) := ⟨h2_⟩
             have n3_ : Aside0 (w29.heap[gb471]? = some (.cells #[.int .i64 a1_0, .int .i64 a1_1, .int .i64 a1_2] 27 (0, 0))) := ⟨h3_⟩
             have n4_ : Aside0 (w29.heap[gb487]? = some (.cells #[.int .i64 0, .int .i64 0, .int .i64 0] 27 (0, 0))) := ⟨h4_⟩
             have n5_ : Aside0 (w.heap.size ≤ gb487) := ⟨h5_⟩
             have n6_ : Aside0 (w.heap.size ≤ gb487) := ⟨h6_⟩
             have n7_ : Aside0 (gb471 ≠ gb487) := ⟨h7_⟩
             have n8_ : Aside0 (gb487 ≠ gb471) := ⟨h8_⟩
             have n9_ : Aside0 (Below w.heap.size w w29) := ⟨h9_⟩
             clear HO_9
             clear HO_10
             clear HO_19
             clear BK471
             clear HB
             clear h0_ h1_ h2_ h3_ h4_ h5_ h6_ h7_ h8_ h9_
             have HO_10 := n0_
             have HO_19 := n1_
             have HO_9 := n2_
             have BK471 := n3_
             have BK487 := n4_
             have GW487 := n5_
             have GE487 := n6_
             have NB471_487 := n7_
             have NB487_471 := n8_
             have HB := n9_
             clear n0_ n1_ n2_ n3_ n4_ n5_ n6_ n7_ n8_ n9_
             have hHeld : w29.cell? (ad482.add ((x11_1).toNat * 3)) = some (.int .i64 ((qI x9_2 x11_1).f0)) ∧ w29.cell? ⟨(ad482.add ((x11_1).toNat * 3)).block, (ad482.add ((x11_1).toNat * 3)).off + 1, none⟩ = some (.int .i64 ((qI x9_2 x11_1).f1)) ∧ w29.cell? ⟨(ad482.add ((x11_1).toNat * 3)).block, (ad482.add ((x11_1).toNat * 3)).off + 2, none⟩ = some (.int .i64 ((qI x9_2 x11_1).f2)) := hS_
             refine norm_ (a' := ?_) ?_ ?_
             rotate_left
             ·simp only [putAll, Act.put, List.setIfInBounds_toArray, List.set_cons_zero, List.set_cons_succ]
              rfl
             refine one_ (i := 12) (N := none) #[true, true, true, true, true, true, true, true, true, true, true, true, true, false] rfl rfl (qPA HT_.out (by kernel_rfl)) (by decide) (fun K hK => ?_)
             have hs30 : w29.cell? ⟨gb487, 0, none⟩ = some (.int .i64 0) := (qJ BK487.out 0).trans rfl
             have hfs30 := qD BK487.out 0
             have hns30_0 := NB471_487.out
             have hms30_0 := NB487_471.out
             have hs31 : w29.cell? ⟨gb487, 1, none⟩ = some (.int .i64 0) := (qJ BK487.out 1).trans rfl
             have hfs31 := qD BK487.out 1
             have hns31_0 := NB471_487.out
             have hms31_0 := NB487_471.out
             have hs32 : w29.cell? ⟨gb487, 2, none⟩ = some (.int .i64 0) := (qJ BK487.out 2).trans rfl
             have hfs32 := qD BK487.out 2
             have hns32_0 := NB471_487.out
             have hms32_0 := NB487_471.out
             refine skip_ (w1 := ?_) (by rfl) rfl ?_ ?_
             rotate_left
             ·go_simp
              rfl
             refine hK.out _ _ ⟨((qR (p := ⟨gb487, _, none⟩) (by first | exact Kd.qO (Kd.qW HO_9.out (fun _ hk => hk.2)) | (rw [qX]; exact Kd.qO (Kd.qW HO_9.out (fun _ hk => hk.2))) | (show (Addr.add _ _).block ≠ _; rw [qX]; exact Kd.qO (Kd.qW HO_9.out (fun _ hk => hk.2))) | (dsimp only; exact Kd.qO (Kd.qW HO_9.out (fun _ hk => hk.2)))) _).trans (((qR (p := ⟨gb487, _, none⟩) (by first | exact Kd.qO (Kd.qW HO_9.out (fun _ hk => hk.2)) | (rw [qX]; exact Kd.qO (Kd.qW HO_9.out (fun _ hk => hk.2))) | (show (Addr.add _ _).block ≠ _; rw [qX]; exact Kd.qO (Kd.qW HO_9.out (fun _ hk => hk.2))) | (dsimp only; exact Kd.qO (Kd.qW HO_9.out (fun _ hk => hk.2)))) _).trans (((qR (p := ⟨gb487, _, none⟩) (by first | exact Kd.qO (Kd.qW HO_9.out (fun _ hk => hk.2)) | (rw [qX]; exact Kd.qO (Kd.qW HO_9.out (fun _ hk => hk.2))) | (show (Addr.add _ _).block ≠ _; rw [qX]; exact Kd.qO (Kd.qW HO_9.out (fun _ hk => hk.2))) | (dsimp only; exact Kd.qO (Kd.qW HO_9.out (fun _ hk => hk.2)))) _).trans (hHeld.1)))))), ((qR (p := ⟨gb487, _, none⟩) (by first | exact Kd.qO (Kd.qW HO_9.out (fun _ hk => hk.2)) | (rw [qX]; exact Kd.qO (Kd.qW HO_9.out (fun _ hk => hk.2))) | (show (Addr.add _ _).block ≠ _; rw [qX]; exact Kd.qO (Kd.qW HO_9.out (fun _ hk => hk.2))) | (dsimp only; exact Kd.qO (Kd.qW HO_9.out (fun _ hk => hk.2)))) _).trans (((qR (p := ⟨gb487, _, none⟩) (by first | exact Kd.qO (Kd.qW HO_9.out (fun _ hk => hk.2)) | (rw [qX]; exact Kd.qO (Kd.qW HO_9.out (fun _ hk => hk.2))) | (show (Addr.add _ _).block ≠ _; rw [qX]; exact Kd.qO (Kd.qW HO_9.out (fun _ hk => hk.2))) | (dsimp only; exact Kd.qO (Kd.qW HO_9.out (fun _ hk => hk.2)))) _).trans (((qR (p := ⟨gb487, _, none⟩) (by first | exact Kd.qO (Kd.qW HO_9.out (fun _ hk => hk.2)) | (rw [qX]; exact Kd.qO (Kd.qW HO_9.out (fun _ hk => hk.2))) | (show (Addr.add _ _).block ≠ _; rw [qX]; exact Kd.qO (Kd.qW HO_9.out (fun _ hk => hk.2))) | (dsimp only; exact Kd.qO (Kd.qW HO_9.out (fun _ hk => hk.2)))) _).trans (hHeld.2.1)))))), ((qR (p := ⟨gb487, _, none⟩) (by first | exact Kd.qO (Kd.qW HO_9.out (fun _ hk => hk.2)) | (rw [qX]; exact Kd.qO (Kd.qW HO_9.out (fun _ hk => hk.2))) | (show (Addr.add _ _).block ≠ _; rw [qX]; exact Kd.qO (Kd.qW HO_9.out (fun _ hk => hk.2))) | (dsimp only; exact Kd.qO (Kd.qW HO_9.out (fun _ hk => hk.2)))) _).trans (((qR (p := ⟨gb487, _, none⟩) (by first | exact Kd.qO (Kd.qW HO_9.out (fun _ hk => hk.2)) | (rw [qX]; exact Kd.qO (Kd.qW HO_9.out (fun _ hk => hk.2))) | (show (Addr.add _ _).block ≠ _; rw [qX]; exact Kd.qO (Kd.qW HO_9.out (fun _ hk => hk.2))) | (dsimp only; exact Kd.qO (Kd.qW HO_9.out (fun _ hk => hk.2)))) _).trans (((qR (p := ⟨gb487, _, none⟩) (by first | exact Kd.qO (Kd.qW HO_9.out (fun _ hk => hk.2)) | (rw [qX]; exact Kd.qO (Kd.qW HO_9.out (fun _ hk => hk.2))) | (show (Addr.add _ _).block ≠ _; rw [qX]; exact Kd.qO (Kd.qW HO_9.out (fun _ hk => hk.2))) | (dsimp only; exact Kd.qO (Kd.qW HO_9.out (fun _ hk => hk.2)))) _).trans (hHeld.2.2))))))⟩ (fun hHeld => ?_)
             clear hK K
             refine pS (i := 13) (N := some 14) #[true, true, true, true, true, true, true, true, true, true, true, true, true, true] HT_ ?_
             refine done_ (qqA HT_.out (by kernel_rfl)) ?_
             have hnb33 := NB487_471.out
             have hnc33 := NB471_487.out
             have hcz34_0 := bc BK487 0
             have hcz34_1 := bc BK487 1
             have hcz34_2 := bc BK487 2
             have hfz34_0 := qD BK487.out 0
             have hfz34_1 := qD BK487.out 1
             have hfz34_2 := qD BK487.out 2
             try go_wp2_with (first | (go_at_call 91; (with_reducible refine (ql.calls k2 _ _ x9_2 t483 t484 t485 true _ ?side1 ?side2 A22.out).mono ?_); (case side1 => refine (Kd.qS (e := 27) (base := w.heap.size) (ok := fun k_ => (k_ ≠ gb471 ∧ k_ ≠ gb487)) (n := x9_2.length) (c := co26) ?_).2.2; exact (by (with_reducible repeat (first | apply Kd.qF | apply Kd.qE | apply Kd.qG)); exact (Kd.qg (Kd.R_far (p := ⟨gb487, 2, none⟩) (Kd.R_far (p := ⟨gb487, 1, none⟩) (Kd.R_far (p := ⟨gb487, 0, none⟩) (Kd.qg HO_9.out (fun k_ hk => (⟨hk, hk.2⟩ : _ ∧ k_ ≠ gb487))) (fun _ hk => hk.2) (.int .i64 t483)) (fun _ hk => hk.2) (.int .i64 t484)) (fun _ hk => hk.2) (.int .i64 t485)) (fun _ h_ => h_.1)))); (case side2 => exact (Kd.qS HO_9.out).2.1); rintro e w35 ⟨rfl, hb⟩; have n0_ := Aside0.mk (Kd.qU (by (with_reducible repeat (first | apply Kd.qF | apply Kd.qE | apply Kd.qG)); exact (Kd.qg (Kd.R_far (p := ⟨gb487, 2, none⟩) (Kd.R_far (p := ⟨gb487, 1, none⟩) (Kd.R_far (p := ⟨gb487, 0, none⟩) (Kd.qg HO_9.out (fun k_ hk => (⟨hk, hk.2⟩ : _ ∧ k_ ≠ gb487))) (fun _ hk => hk.2) (.int .i64 t483)) (fun _ hk => hk.2) (.int .i64 t484)) (fun _ hk => hk.2) (.int .i64 t485)) (fun _ h_ => h_.1))) hb); have n1_ := Aside0.mk (Kd.qU (by (with_reducible repeat (first | apply Kd.qF | apply Kd.qE | apply Kd.qG)); exact (Kd.qg (Kd.R_far (p := ⟨gb487, 2, none⟩) (Kd.R_far (p := ⟨gb487, 1, none⟩) (Kd.R_far (p := ⟨gb487, 0, none⟩) (Kd.qn HO_10.out BK487.out (by decide)) (fun _ hk => hk.2) (.int .i64 t483)) (fun _ hk => hk.2) (.int .i64 t484)) (fun _ hk => hk.2) (.int .i64 t485)) (fun _ h_ => h_.1))) hb); have n2_ := Aside0.mk (Kd.qU (by (with_reducible repeat (first | apply Kd.qF | apply Kd.qE | apply Kd.qG)); exact (Kd.qg (Kd.R_far (p := ⟨gb487, 2, none⟩) (Kd.R_far (p := ⟨gb487, 1, none⟩) (Kd.R_far (p := ⟨gb487, 0, none⟩) (Kd.qn HO_19.out BK487.out (by decide)) (fun _ hk => hk.2) (.int .i64 t483)) (fun _ hk => hk.2) (.int .i64 t484)) (fun _ hk => hk.2) (.int .i64 t485)) (fun _ h_ => h_.1))) hb); have n3_ := Aside0.mk (qTA (g := gb471) (o := .cells #[.int .i64 a1_0, .int .i64 a1_1, .int .i64 a1_2] 27 (0, 0)) (by (with_reducible repeat (first | refine qB ?_ _ | refine qC ?_ | refine qA ?_ _)); refine qM ?_ NB471_487.out _; (with_reducible repeat (first | refine qB ?_ _ | refine qC ?_ | refine qA ?_ _)); refine qM ?_ NB471_487.out _; (with_reducible repeat (first | refine qB ?_ _ | refine qC ?_ | refine qA ?_ _)); refine qM ?_ NB471_487.out _; (with_reducible repeat (first | refine qB ?_ _ | refine qC ?_ | refine qA ?_ _)); exact BK471.out) hb); have n4_ := Aside0.mk (qTA (g := gb487) (o := .cells #[.int .i64 t483, .int .i64 t484, .int .i64 t485] 27 (0, 0)) (by (with_reducible repeat (first | refine qB ?_ _ | refine qC ?_ | refine qA ?_ _)); refine qP (cs := #[.int .i64 t483, .int .i64 t484, .int .i64 0]) ?_ 2 _ rfl; (with_reducible repeat (first | refine qB ?_ _ | refine qC ?_ | refine qA ?_ _)); refine qP (cs := #[.int .i64 t483, .int .i64 0, .int .i64 0]) ?_ 1 _ rfl; (with_reducible repeat (first | refine qB ?_ _ | refine qC ?_ | refine qA ?_ _)); refine qP (cs := #[.int .i64 0, .int .i64 0, .int .i64 0]) ?_ 0 _ rfl; (with_reducible repeat (first | refine qB ?_ _ | refine qC ?_ | refine qA ?_ _)); exact BK487.out) hb); have n5_ := Aside0.mk (qH bl hb); clear HO_9; clear HO_10; clear HO_19; clear BK471; clear BK487; clear HB; have HO_9 := n0_; have HO_10 := n1_; have HO_19 := n2_; have BK471 := n3_; have BK487 := n4_; have HB := n5_; clear n0_ n1_ n2_ n3_ n4_ n5_; (try clear hb); (try clear hb2); (try clear hk); (try clear hi)))
             go_roundg k2
             case measure => have := HK1.out; have := HK2.out; omega
             case rel => exact ⟨(x9_2), (x10_2), (wrap64 (x32_2 + 1)), (by first | rfl | (simp; done) | (simp [*]; done)), H', ⟨by have := HK1.out; have := HK2.out; omega⟩, ⟨by (with_reducible repeat (first | apply Kd.qF | apply Kd.qE | apply Kd.qG)); exact Kd.qg HO_9.out (fun _ hk => hk.1)⟩, ⟨by (with_reducible repeat (first | apply Kd.qF | apply Kd.qE | apply Kd.qG)); exact HO_10.out⟩, ⟨by (with_reducible repeat (first | apply Kd.qF | apply Kd.qE | apply Kd.qG)); exact HO_19.out⟩, ⟨by (with_reducible repeat (first | refine qB ?_ _ | refine qC ?_ | refine qA ?_ _)); exact BK471.out⟩, ⟨bl⟩⟩
            ·replace c23 := Bool.eq_false_iff.mpr c23
             subst c23
             have H1 : ((some (([(⟨t483, t484, t485⟩ : S27)] : List (S27)) : List (S27))).bind fun y489 => (if x9_2.length + y489.length < 5864062014805 then (if x11_1 < (x10_2.length : Int) then (if x32_2 ≤ (wrap64 (x32_2 + 1)) then (if (wrap64 (x32_2 + 1)) ≤ 4 then (if (rdOf ByteArray.empty x10_2 x11_1).size + ((⟨#[110, 101, 115, 119]⟩ : ByteArray).extract (x32_2 : Int).toNat ((wrap64 (x32_2 + 1)) : Int).toNat).size ≤ 9223372036854775807 then ((some (([(rdOf ByteArray.empty x10_2 x11_1) ++ ((⟨#[110, 101, 115, 119]⟩ : ByteArray).extract (x32_2 : Int).toNat ((wrap64 (x32_2 + 1)) : Int).toNat)] : List ByteArray) : List ByteArray)).bind fun y496 => (if x10_2.length + y496.length < 8796093022208 then (qQ.l1 k2 (x9_2 ++ y489) (x10_2 ++ y496) x11_1 t472 (wrap64 (x32_2 + 1))) else (none))) else (none)) else (none)) else (none)) else (none)) else (none))) = some (r1, r2, r3) := by rw [if_neg (show ¬ (false = true) by decide)] at H; exact H
             clear H
             have H := H1
             clear H1
             obtain ⟨y489, hy489⟩ : ∃ y_ : List (S27), y_ = (([(⟨t483, t484, t485⟩ : S27)] : List (S27))) := ⟨_, rfl⟩
             replace H : (if x9_2.length + y489.length < 5864062014805 then (if x11_1 < (x10_2.length : Int) then (if x32_2 ≤ (wrap64 (x32_2 + 1)) then (if (wrap64 (x32_2 + 1)) ≤ 4 then (if (rdOf ByteArray.empty x10_2 x11_1).size + ((⟨#[110, 101, 115, 119]⟩ : ByteArray).extract (x32_2 : Int).toNat ((wrap64 (x32_2 + 1)) : Int).toNat).size ≤ 9223372036854775807 then ((some (([(rdOf ByteArray.empty x10_2 x11_1) ++ ((⟨#[110, 101, 115, 119]⟩ : ByteArray).extract (x32_2 : Int).toNat ((wrap64 (x32_2 + 1)) : Int).toNat)] : List ByteArray) : List ByteArray)).bind fun y496 => (if x10_2.length + y496.length < 8796093022208 then (qQ.l1 k2 (x9_2 ++ y489) (x10_2 ++ y496) x11_1 t472 (wrap64 (x32_2 + 1))) else (none))) else (none)) else (none)) else (none)) else (none)) else (none)) = some (r1, r2, r3) := by first | (rw [hy489]; with_reducible exact H) | (have H2_ := (Option.bind_some _ _).symm.trans H; rw [hy489]; with_reducible exact H2_) | (have H2_ := (Option.bind_some _ _).symm.trans H; with_reducible exact H2_) | with_reducible exact H | (rw [hy489]; exact H) | exact H
             have Ny489 := Aside0.mk hy489
             clear hy489
             by_cases c36 : x9_2.length + y489.length < 5864062014805
             ·rw [if_pos c36] at H
              have LMc36 := Aside0.mk c36
              clear c36
              obtain ⟨y492, hy492⟩ : ∃ y_ : List (S27), y_ = (x9_2 ++ y489) := ⟨_, rfl⟩
              replace H : (if x11_1 < (x10_2.length : Int) then (if x32_2 ≤ (wrap64 (x32_2 + 1)) then (if (wrap64 (x32_2 + 1)) ≤ 4 then (if (rdOf ByteArray.empty x10_2 x11_1).size + ((⟨#[110, 101, 115, 119]⟩ : ByteArray).extract (x32_2 : Int).toNat ((wrap64 (x32_2 + 1)) : Int).toNat).size ≤ 9223372036854775807 then ((some (([(rdOf ByteArray.empty x10_2 x11_1) ++ ((⟨#[110, 101, 115, 119]⟩ : ByteArray).extract (x32_2 : Int).toNat ((wrap64 (x32_2 + 1)) : Int).toNat)] : List ByteArray) : List ByteArray)).bind fun y496 => (if x10_2.length + y496.length < 8796093022208 then (qQ.l1 k2 y492 (x10_2 ++ y496) x11_1 t472 (wrap64 (x32_2 + 1))) else (none))) else (none)) else (none)) else (none)) else (none)) = some (r1, r2, r3) := by first | (rw [hy492]; with_reducible exact H) | (have H2_ := (Option.bind_some _ _).symm.trans H; rw [hy492]; with_reducible exact H2_) | (have H2_ := (Option.bind_some _ _).symm.trans H; with_reducible exact H2_) | with_reducible exact H | (rw [hy492]; exact H) | exact H
              have Ny492 := Aside0.mk hy492
              clear hy492
              by_cases c37 : x11_1 < (x10_2.length : Int)
              ·rw [if_pos c37] at H
               have c37b0 : decide (x11_1 < (x10_2.length : Int)) = true := decide_eq_true c37
               clear c37
               have c38b0 := eq_true (of_decide_eq_true (by first | (with_reducible assumption) | assumption) : 0 ≤ x32_2)
               by_cases c39 : x32_2 ≤ (wrap64 (x32_2 + 1))
               ·rw [if_pos c39] at H
                have c39b0 := eq_true c39
                have c39b1 : decide (x32_2 ≤ (wrap64 (x32_2 + 1))) = true := decide_eq_true c39
                by_cases c40 : (wrap64 (x32_2 + 1)) ≤ 4
                ·rw [if_pos c40] at H
                 have c40b0 := eq_true c40
                 have c40b1 : decide ((wrap64 (x32_2 + 1)) ≤ 4) = true := decide_eq_true c40
                 by_cases c41 : (rdOf ByteArray.empty x10_2 x11_1).size + ((⟨#[110, 101, 115, 119]⟩ : ByteArray).extract (x32_2 : Int).toNat ((wrap64 (x32_2 + 1)) : Int).toNat).size ≤ 9223372036854775807
                 ·rw [if_pos c41] at H
                  have c41b0 := eq_true c41
                  have c41b1 : decide ((rdOf ByteArray.empty x10_2 x11_1).size + ((⟨#[110, 101, 115, 119]⟩ : ByteArray).extract (x32_2 : Int).toNat ((wrap64 (x32_2 + 1)) : Int).toNat).size ≤ 9223372036854775807) = true := decide_eq_true c41
                  try have c41b2 : (9223372036854775807 < (rdOf ByteArray.empty x10_2 x11_1).size + ((⟨#[110, 101, 115, 119]⟩ : ByteArray).extract (x32_2 : Int).toNat ((wrap64 (x32_2 + 1)) : Int).toNat).size) = False := eq_false (Nat.not_lt.2 c41)
                  obtain ⟨y496, hy496⟩ : ∃ y_ : List ByteArray, y_ = (([(rdOf ByteArray.empty x10_2 x11_1) ++ ((⟨#[110, 101, 115, 119]⟩ : ByteArray).extract (x32_2 : Int).toNat ((wrap64 (x32_2 + 1)) : Int).toNat)] : List ByteArray)) := ⟨_, rfl⟩
                  replace H : (if x10_2.length + y496.length < 8796093022208 then (qQ.l1 k2 y492 (x10_2 ++ y496) x11_1 t472 (wrap64 (x32_2 + 1))) else (none)) = some (r1, r2, r3) := by first | (rw [hy496]; with_reducible exact H) | (have H2_ := (Option.bind_some _ _).symm.trans H; rw [hy496]; with_reducible exact H2_) | (have H2_ := (Option.bind_some _ _).symm.trans H; with_reducible exact H2_) | with_reducible exact H | (rw [hy496]; exact H) | exact H
                  have Ny496 := Aside0.mk hy496
                  clear hy496
                  by_cases c42 : x10_2.length + y496.length < 8796093022208
                  ·rw [if_pos c42] at H
                   have LMc42 := Aside0.mk c42
                   clear c42
                   obtain ⟨y499, hy499⟩ : ∃ y_ : List ByteArray, y_ = (x10_2 ++ y496) := ⟨_, rfl⟩
                   replace H : (qQ.l1 k2 y492 y499 x11_1 t472 (wrap64 (x32_2 + 1))) = some (r1, r2, r3) := by first | (rw [hy499]; with_reducible exact H) | (have H2_ := (Option.bind_some _ _).symm.trans H; rw [hy499]; with_reducible exact H2_) | (have H2_ := (Option.bind_some _ _).symm.trans H; with_reducible exact H2_) | with_reducible exact H | (rw [hy499]; exact H) | exact H
                   have Ny499 := Aside0.mk hy499
                   clear hy499
                   have H' := Aside0.mk H
                   clear H
                   obtain ⟨Ao43, co43, eo43⟩ := Kd.qm HO_19.out
                   subst eo43
                   try go_wp2
                   have n0_ := Aside0.mk (Kd.qG HO_9.out)
                   have n1_ := Aside0.mk (Kd.qG HO_10.out)
                   have n2_ := Aside0.mk (Kd.qG HO_19.out)
                   have n3_ := Aside0.mk (qC BK471.out)
                   have n4_ := Aside0.mk (qk HB.out)
                   clear HO_9
                   clear HO_10
                   clear HO_19
                   clear BK471
                   clear HB
                   have HO_9 := n0_
                   have HO_10 := n1_
                   have HO_19 := n2_
                   have BK471 := n3_
                   have HB := n4_
                   clear n0_ n1_ n2_ n3_ n4_
                   obtain ⟨Ao45, co45, eo45⟩ := Kd.qm HO_9.out
                   (first | subst eo45 | (injection eo45 with f1_ f2_ f3_; have f4_ := f1_.symm; have f5_ := f3_.symm; clear f1_ f2_ f3_; subst f4_; subst f5_))
                   have p482 : 0 ≤ (x11_1 : Int) := of_decide_eq_true (by first | (with_reducible assumption) | assumption)
                   have q482 : x11_1 < (x9_2.length : Int) := of_decide_eq_true (by first | (with_reducible assumption) | assumption)
                   obtain ⟨ad482, e482, hx482_0, hx482_1, hx482_2⟩ := qIB (Kd.qS HO_9.out).2.2 x11_1 p482 q482
                   cases e482
                   replace p482 := eq_true p482
                   replace q482 := eq_true q482
                   have p19 : 0 ≤ (x32_2 : Int) := of_decide_eq_true (by first | (with_reducible assumption) | assumption)
                   have q19 : x32_2 < (4 : Int) := of_decide_eq_true (by first | (with_reducible assumption) | assumption)
                   have hx19 := bt_at (⟨#[110, 101, 115, 119]⟩ : ByteArray) x32_2
                   replace p19 := eq_true p19
                   replace q19 := eq_true q19
                   refine qyA (n := 14) (S := fun w' => w'.cell? (ad482.add ((x11_1).toNat * 3)) = some (.int .i64 ((qI x9_2 x11_1).f0)) ∧ w'.cell? ⟨(ad482.add ((x11_1).toNat * 3)).block, (ad482.add ((x11_1).toNat * 3)).off + 1, none⟩ = some (.int .i64 ((qI x9_2 x11_1).f1)) ∧ w'.cell? ⟨(ad482.add ((x11_1).toNat * 3)).block, (ad482.add ((x11_1).toNat * 3)).off + 2, none⟩ = some (.int .i64 ((qI x9_2 x11_1).f2))) (ds := []) #[false, false, false, false, false, false, false, false, false, false, false, false, false, false] (by kernel_rfl) rfl rfl ⟨hx482_0, hx482_1, hx482_2⟩ (fun hHeld => ?_); refine qWA qQ.tab11 qQ.bits11 (fun HT_ HW_ => ?_)
                   generalize wr.drew = w44 at HO_9 HO_10 HO_19 BK471 HB hx482_0 hx482_1 hx482_2 hHeld ⊢
                   refine pS (i := 0) (N := some 36) #[true, false, false, false, false, false, false, false, false, false, false, false, false, false] HT_ ?_
                   refine pS (i := 1) (N := some 37) #[true, true, false, false, false, false, false, false, false, false, false, false, false, false] HT_ ?_
                   refine pS (i := 2) (N := some 38) #[true, true, true, false, false, false, false, false, false, false, false, false, false, false] HT_ ?_
                   refine pS (i := 3) (N := some 39) #[true, true, true, true, false, false, false, false, false, false, false, false, false, false] HT_ ?_
                   refine pS (i := 5) (N := some 41) #[true, true, true, true, false, true, false, false, false, false, false, false, false, false] HT_ ?_
                   refine tS (i := 4) (N := some 40) #[true, true, true, true, true, true, false, false, false, false, false, false, false, false] HT_ HW_ hHeld ?_
                   refine tS (i := 6) (N := some 42) #[true, true, true, true, true, true, true, false, false, false, false, false, false, false] HT_ HW_ hHeld ?_
                   refine join_ (σ := Nat) 2 #[true, true, true, true, true, true, true, true, true, true, true, true, false, false] (fun s_ => [(43, .tuple #[.agg #[.int .i64 t483, .int .i64 t484, .int .i64 t485], .bool true]), (13, .pointer (some ⟨s_, 0, none⟩)), (35, .tuple #[.agg #[.int .i64 t483, .int .i64 t484, .int .i64 t485], .bool true]), (44, .agg #[.int .i64 t483, .int .i64 t484, .int .i64 t485]), (45, .bool true)]) (fun s_ w' => (w'.cell? (ad482.add ((x11_1).toNat * 3)) = some (.int .i64 ((qI x9_2 x11_1).f0)) ∧ w'.cell? ⟨(ad482.add ((x11_1).toNat * 3)).block, (ad482.add ((x11_1).toNat * 3)).off + 1, none⟩ = some (.int .i64 ((qI x9_2 x11_1).f1)) ∧ w'.cell? ⟨(ad482.add ((x11_1).toNat * 3)).block, (ad482.add ((x11_1).toNat * 3)).off + 2, none⟩ = some (.int .i64 ((qI x9_2 x11_1).f2))) ∧ (Kd.R Kd.string 9 w' w.heap.size (fun k_ => some k_ ≠ (.slice Ao43 t472.length co43 : Value).ownBlock) u10 x10_2) ∧ (Kd.R Kd.string 9 w' w.heap.size (fun k_ => some k_ ≠ (u10 : Value).ownBlock) (.slice Ao43 t472.length co43) t472) ∧ (Kd.R k27 27 w' w.heap.size (fun k_ => k_ ≠ gb471 ∧ k_ ≠ s_) (.slice (some ad482) x9_2.length co45) x9_2) ∧ (w'.heap[gb471]? = some (.cells #[.int .i64 a1_0, .int .i64 a1_1, .int .i64 a1_2] 27 (0, 0))) ∧ (w'.heap[s_]? = some (.cells #[.int .i64 0, .int .i64 0, .int .i64 0] 27 (0, 0))) ∧ (w.heap.size ≤ s_) ∧ (w.heap.size ≤ s_) ∧ (gb471 ≠ s_) ∧ (s_ ≠ gb471) ∧ (Below w.heap.size w w')) ?_ ?_
                   rotate_left
                   ·intro hCont
                    refine two_ (i := 7) (j := 11) (Ni := some 43) (Nj := some 13) #[true, true, true, true, true, true, true, true, false, false, false, false, false, false] #[true, true, true, true, true, true, true, false, false, false, false, true, false, false] rfl rfl rfl rfl (qxB HT_.out (by kernel_rfl)) (by decide) (by decide) (fun K hK => ?_) (fun K hK => ?_)
                    ·skip
                     refine goes_ Tryd.func62 (by kernel_rfl) rfl #[.slice Ao43 t472.length co43, .agg #[.int .i64 ((qI x9_2 x11_1).f0), .int .i64 ((qI x9_2 x11_1).f1), .int .i64 ((qI x9_2 x11_1).f2)], .int .u8 (bt (⟨#[110, 101, 115, 119]⟩ : ByteArray) x32_2)] (by rfl) rfl rfl (by (try simp only [List.map_toArray, List.map_cons, List.map_nil]); first | done | rfl | (simp only [List.length_drop, List.length_take]; rfl)) ?_
                     with_reducible refine (qNA.calls k2 _ _ t472 ((qI x9_2 x11_1).f0) ((qI x9_2 x11_1).f1) ((qI x9_2 x11_1).f2) (bt (⟨#[110, 101, 115, 119]⟩ : ByteArray) x32_2) t483 t484 t485 true _ ?side1 ?side2 A20.out).mono ?_
                     (case side1 => repeat (first | exact (Kd.qS HO_19.out).2.2 | (with_reducible refine Kd.qx ?_ _) | (with_reducible refine Kd.qw ?_ _) | (with_reducible refine Kd.qLA ?_)))
                     (case side2 => exact (Kd.qS HO_19.out).2.1)
                     rintro e w46 ⟨rfl, hb⟩
                     have HS0_ := (hb.cell (World.block_lt_of_cell? _ _ (hHeld.1))).trans (hHeld.1)
                     have HS1_ := (hb.cell (World.block_lt_of_cell? _ _ (hHeld.2.1))).trans (hHeld.2.1)
                     have HS2_ := (hb.cell (World.block_lt_of_cell? _ _ (hHeld.2.2))).trans (hHeld.2.2)
                     refine ⟨_, rfl, ?_⟩
                     have n0_ := Aside0.mk (Kd.qU (by (with_reducible repeat (first | apply Kd.qF | apply Kd.qE | apply Kd.qG)); exact HO_9.out) hb)
                     have n1_ := Aside0.mk (Kd.qU (by (with_reducible repeat (first | apply Kd.qF | apply Kd.qE | apply Kd.qG)); exact HO_10.out) hb)
                     have n2_ := Aside0.mk (Kd.qU (by (with_reducible repeat (first | apply Kd.qF | apply Kd.qE | apply Kd.qG)); exact HO_19.out) hb)
                     have n3_ := Aside0.mk (bb BK471 hb)
                     have n4_ := Aside0.mk (qH bl hb)
                     clear HO_9
                     clear HO_10
                     clear HO_19
                     clear BK471
                     clear HB
                     have HO_9 := n0_
                     have HO_10 := n1_
                     have HO_19 := n2_
                     have BK471 := n3_
                     have HB := n4_
                     clear n0_ n1_ n2_ n3_ n4_
                     (try clear hb)
                     (try clear hb2)
                     (try clear hk)
                     (try clear hi)
                     refine hK.out _ _ ⟨HS0_, HS1_, HS2_⟩ (fun hHeld => ?_)
                     clear hK K
                     refine norm_ (a' := ?_) ?_ ?_
                     rotate_left
                     ·show Act.put _ (some 43) _ = _
                      simp only [Act.put, List.setIfInBounds_toArray, List.set_cons_zero, List.set_cons_succ, i64_w, i32_w]
                      rfl
                     refine pS (i := 8) (N := some 35) #[true, true, true, true, true, true, true, true, true, false, false, false, false, false] HT_ ?_
                     refine pS (i := 9) (N := some 44) #[true, true, true, true, true, true, true, true, true, true, false, false, false, false] HT_ ?_
                     refine pS (i := 10) (N := some 45) #[true, true, true, true, true, true, true, true, true, true, true, false, false, false] HT_ ?_
                     refine one_ (i := 11) (N := some 13) #[true, true, true, true, true, true, true, true, true, true, true, true, false, false] rfl rfl (qPA HT_.out (by kernel_rfl)) (by decide) (fun K hK => ?_)
                     refine qDB ?hg (N := 13) ?hd (cs := #[.int .i64 0, .int .i64 0, .int .i64 0]) (t := 27) ?hr ?_; (case hd => rfl); (case hg => rfl); (case hr => first | (go_simp; done) | (go_simp; rfl))
                     intro gb487 hg w47 hbox hb
                     have HS0_ := (hb.cell (World.block_lt_of_cell? _ _ (hHeld.1))).trans (hHeld.1)
                     have HS1_ := (hb.cell (World.block_lt_of_cell? _ _ (hHeld.2.1))).trans (hHeld.2.1)
                     have HS2_ := (hb.cell (World.block_lt_of_cell? _ _ (hHeld.2.2))).trans (hHeld.2.2)
                     have n0_ := Aside0.mk (Kd.qU (Kd.qdA (by (with_reducible repeat (first | apply Kd.qF | apply Kd.qE | apply Kd.qG)); exact HO_9.out) gb487 (Nat.le_of_eq hg.symm)) hb)
                     have n1_ := Aside0.mk (Kd.qU (by (with_reducible repeat (first | apply Kd.qF | apply Kd.qE | apply Kd.qG)); exact HO_10.out) hb)
                     have n2_ := Aside0.mk (Kd.qU (by (with_reducible repeat (first | apply Kd.qF | apply Kd.qE | apply Kd.qG)); exact HO_19.out) hb)
                     have n3_ := Aside0.mk (bb BK471 hb)
                     have n4_ := Aside0.mk (qH bl hb)
                     have n5_ := Aside0.mk (hbox)
                     have n6_ := Aside0.mk ((gg hg))
                     have n7_ := Aside0.mk ((gg hg))
                     have n8_ := Aside0.mk ((nl BK471 hg))
                     have n9_ := Aside0.mk ((nr BK471 hg))
                     clear HO_9
                     clear HO_10
                     clear HO_19
                     clear BK471
                     clear HB
                     have HO_9 := n0_
                     have HO_10 := n1_
                     have HO_19 := n2_
                     have BK471 := n3_
                     have HB := n4_
                     have BK487 := n5_
                     have GW487 := n6_
                     have GE487 := n7_
                     have NB471_487 := n8_
                     have NB487_471 := n9_
                     clear n0_ n1_ n2_ n3_ n4_ n5_ n6_ n7_ n8_ n9_
                     clear hb hbox hg
                     refine hK.out _ _ ⟨HS0_, HS1_, HS2_⟩ (fun hHeld => ?_)
                     clear hK K
                     refine norm_ (a' := ?_) ?_ ?_
                     rotate_left
                     ·show Act.put _ (some 13) _ = _
                      simp only [Act.put, List.setIfInBounds_toArray, List.set_cons_zero, List.set_cons_succ, i64_w, i32_w]
                      rfl
                     exact norm_ (by simp only [putAll, Act.put, List.setIfInBounds_toArray, List.set_cons_zero, List.set_cons_succ]) (hCont (gb487) _ ⟨hHeld, (by (with_reducible repeat (first | apply Kd.qF | apply Kd.qE | apply Kd.qG)); exact HO_10.out), (by (with_reducible repeat (first | apply Kd.qF | apply Kd.qE | apply Kd.qG)); exact HO_19.out), (by (with_reducible repeat (first | apply Kd.qF | apply Kd.qE | apply Kd.qG)); exact HO_9.out), (by (with_reducible repeat (first | refine qB ?_ _ | refine qC ?_ | refine qA ?_ _)); exact BK471.out), (by (with_reducible repeat (first | refine qB ?_ _ | refine qC ?_ | refine qA ?_ _)); exact BK487.out), GW487.out, GE487.out, NB471_487.out, NB487_471.out, bl⟩)
                    ·skip
                     refine qDB ?hg (N := 13) ?hd (cs := #[.int .i64 0, .int .i64 0, .int .i64 0]) (t := 27) ?hr ?_; (case hd => rfl); (case hg => rfl); (case hr => first | (go_simp; done) | (go_simp; rfl))
                     intro gb487 hg w46 hbox hb
                     have HS0_ := (hb.cell (World.block_lt_of_cell? _ _ (hHeld.1))).trans (hHeld.1)
                     have HS1_ := (hb.cell (World.block_lt_of_cell? _ _ (hHeld.2.1))).trans (hHeld.2.1)
                     have HS2_ := (hb.cell (World.block_lt_of_cell? _ _ (hHeld.2.2))).trans (hHeld.2.2)
                     have n0_ := Aside0.mk (Kd.qU (Kd.qdA (by (with_reducible repeat (first | apply Kd.qF | apply Kd.qE | apply Kd.qG)); exact HO_9.out) gb487 (Nat.le_of_eq hg.symm)) hb)
                     have n1_ := Aside0.mk (Kd.qU (by (with_reducible repeat (first | apply Kd.qF | apply Kd.qE | apply Kd.qG)); exact HO_10.out) hb)
                     have n2_ := Aside0.mk (Kd.qU (by (with_reducible repeat (first | apply Kd.qF | apply Kd.qE | apply Kd.qG)); exact HO_19.out) hb)
                     have n3_ := Aside0.mk (bb BK471 hb)
                     have n4_ := Aside0.mk (qH bl hb)
                     have n5_ := Aside0.mk (hbox)
                     have n6_ := Aside0.mk ((gg hg))
                     have n7_ := Aside0.mk ((gg hg))
                     have n8_ := Aside0.mk ((nl BK471 hg))
                     have n9_ := Aside0.mk ((nr BK471 hg))
                     clear HO_9
                     clear HO_10
                     clear HO_19
                     clear BK471
                     clear HB
                     have HO_9 := n0_
                     have HO_10 := n1_
                     have HO_19 := n2_
                     have BK471 := n3_
                     have HB := n4_
                     have BK487 := n5_
                     have GW487 := n6_
                     have GE487 := n7_
                     have NB471_487 := n8_
                     have NB487_471 := n9_
                     clear n0_ n1_ n2_ n3_ n4_ n5_ n6_ n7_ n8_ n9_
                     clear hb hbox hg
                     refine hK.out _ _ ⟨HS0_, HS1_, HS2_⟩ (fun hHeld => ?_)
                     clear hK K
                     refine norm_ (a' := ?_) ?_ ?_
                     rotate_left
                     ·show Act.put _ (some 13) _ = _
                      simp only [Act.put, List.setIfInBounds_toArray, List.set_cons_zero, List.set_cons_succ, i64_w, i32_w]
                      rfl
                     refine one_ (i := 7) (N := some 43) #[true, true, true, true, true, true, true, true, false, false, false, true, false, false] rfl rfl (qPA HT_.out (by kernel_rfl)) (by decide) (fun K hK => ?_)
                     refine goes_ Tryd.func62 (by kernel_rfl) rfl #[.slice Ao43 t472.length co43, .agg #[.int .i64 ((qI x9_2 x11_1).f0), .int .i64 ((qI x9_2 x11_1).f1), .int .i64 ((qI x9_2 x11_1).f2)], .int .u8 (bt (⟨#[110, 101, 115, 119]⟩ : ByteArray) x32_2)] (by rfl) rfl rfl (by (try simp only [List.map_toArray, List.map_cons, List.map_nil]); first | done | rfl | (simp only [List.length_drop, List.length_take]; rfl)) ?_
                     with_reducible refine (qNA.calls k2 _ _ t472 ((qI x9_2 x11_1).f0) ((qI x9_2 x11_1).f1) ((qI x9_2 x11_1).f2) (bt (⟨#[110, 101, 115, 119]⟩ : ByteArray) x32_2) t483 t484 t485 true _ ?side1 ?side2 A20.out).mono ?_
                     (case side1 => repeat (first | exact (Kd.qS HO_19.out).2.2 | (with_reducible refine Kd.qx ?_ _) | (with_reducible refine Kd.qw ?_ _) | (with_reducible refine Kd.qLA ?_)))
                     (case side2 => exact (Kd.qS HO_19.out).2.1)
                     rintro e w47 ⟨rfl, hb⟩
                     have HS0_ := (hb.cell (World.block_lt_of_cell? _ _ (hHeld.1))).trans (hHeld.1)
                     have HS1_ := (hb.cell (World.block_lt_of_cell? _ _ (hHeld.2.1))).trans (hHeld.2.1)
                     have HS2_ := (hb.cell (World.block_lt_of_cell? _ _ (hHeld.2.2))).trans (hHeld.2.2)
                     refine ⟨_, rfl, ?_⟩
                     have n0_ := Aside0.mk (Kd.qU (by (with_reducible repeat (first | apply Kd.qF | apply Kd.qE | apply Kd.qG)); exact HO_9.out) hb)
                     have n1_ := Aside0.mk (Kd.qU (by (with_reducible repeat (first | apply Kd.qF | apply Kd.qE | apply Kd.qG)); exact HO_10.out) hb)
                     have n2_ := Aside0.mk (Kd.qU (by (with_reducible repeat (first | apply Kd.qF | apply Kd.qE | apply Kd.qG)); exact HO_19.out) hb)
                     have n3_ := Aside0.mk (bb BK471 hb)
                     have n4_ := Aside0.mk (bb BK487 hb)
                     have n5_ := Aside0.mk (qH bl hb)
                     clear HO_9
                     clear HO_10
                     clear HO_19
                     clear BK471
                     clear BK487
                     clear HB
                     have HO_9 := n0_
                     have HO_10 := n1_
                     have HO_19 := n2_
                     have BK471 := n3_
                     have BK487 := n4_
                     have HB := n5_
                     clear n0_ n1_ n2_ n3_ n4_ n5_
                     (try clear hb)
                     (try clear hb2)
                     (try clear hk)
                     (try clear hi)
                     refine hK.out _ _ ⟨HS0_, HS1_, HS2_⟩ (fun hHeld => ?_)
                     clear hK K
                     refine norm_ (a' := ?_) ?_ ?_
                     rotate_left
                     ·show Act.put _ (some 43) _ = _
                      simp only [Act.put, List.setIfInBounds_toArray, List.set_cons_zero, List.set_cons_succ, i64_w, i32_w]
                      rfl
                     refine pS (i := 8) (N := some 35) #[true, true, true, true, true, true, true, true, true, false, false, true, false, false] HT_ ?_
                     refine pS (i := 9) (N := some 44) #[true, true, true, true, true, true, true, true, true, true, false, true, false, false] HT_ ?_
                     refine pS (i := 10) (N := some 45) #[true, true, true, true, true, true, true, true, true, true, true, true, false, false] HT_ ?_
                     exact norm_ (by simp only [putAll, Act.put, List.setIfInBounds_toArray, List.set_cons_zero, List.set_cons_succ]) (hCont (gb487) _ ⟨hHeld, (by (with_reducible repeat (first | apply Kd.qF | apply Kd.qE | apply Kd.qG)); exact HO_10.out), (by (with_reducible repeat (first | apply Kd.qF | apply Kd.qE | apply Kd.qG)); exact HO_19.out), (by (with_reducible repeat (first | apply Kd.qF | apply Kd.qE | apply Kd.qG)); exact HO_9.out), (by (with_reducible repeat (first | refine qB ?_ _ | refine qC ?_ | refine qA ?_ _)); exact BK471.out), (by (with_reducible repeat (first | refine qB ?_ _ | refine qC ?_ | refine qA ?_ _)); exact BK487.out), GW487.out, GE487.out, NB471_487.out, NB487_471.out, bl⟩)
                   rintro gb487 w48 ⟨hS_, h0_, h1_, h2_, h3_, h4_, h5_, h6_, h7_, h8_, h9_⟩
                   have n0_ : Aside0 (Kd.R Kd.string 9 w48 w.heap.size (fun k_ => some k_ ≠ (.slice Ao43 t472.length co43 : Value).ownBlock) u10 x10_2) := ⟨h0_⟩
                   have n1_ : Aside0 (Kd.R Kd.string 9 w48 w.heap.size (fun k_ => some k_ ≠ (u10 : Value).ownBlock) (.slice Ao43 t472.length co43) t472) := ⟨h1_⟩
                   have n2_ : Aside0 (Kd.R k27 27 w48 w.heap.size (fun k_ => k_ ≠ gb471 ∧ k_ ≠ gb487) (.slice (some ad482) x9_2.length co45) x9_2) := ⟨h2_⟩
                   have n3_ : Aside0 (w48.heap[gb471]? = some (.cells #[.int .i64 a1_0, .int .i64 a1_1, .int .i64 a1_2] 27 (0, 0))) := ⟨h3_⟩
                   have n4_ : Aside0 (w48.heap[gb487]? = some (.cells #[.int .i64 0, .int .i64 0, .int .i64 0] 27 (0, 0))) := ⟨h4_⟩
                   have n5_ : Aside0 (w.heap.size ≤ gb487) := ⟨h5_⟩
                   have n6_ : Aside0 (w.heap.size ≤ gb487) := ⟨h6_⟩
                   have n7_ : Aside0 (gb471 ≠ gb487) := ⟨h7_⟩
                   have n8_ : Aside0 (gb487 ≠ gb471) := ⟨h8_⟩
                   have n9_ : Aside0 (Below w.heap.size w w48) := ⟨h9_⟩
                   clear HO_9
                   clear HO_10
                   clear HO_19
                   clear BK471
                   clear HB
                   clear h0_ h1_ h2_ h3_ h4_ h5_ h6_ h7_ h8_ h9_
                   have HO_10 := n0_
                   have HO_19 := n1_
                   have HO_9 := n2_
                   have BK471 := n3_
                   have BK487 := n4_
                   have GW487 := n5_
                   have GE487 := n6_
                   have NB471_487 := n7_
                   have NB487_471 := n8_
                   have HB := n9_
                   clear n0_ n1_ n2_ n3_ n4_ n5_ n6_ n7_ n8_ n9_
                   have hHeld : w48.cell? (ad482.add ((x11_1).toNat * 3)) = some (.int .i64 ((qI x9_2 x11_1).f0)) ∧ w48.cell? ⟨(ad482.add ((x11_1).toNat * 3)).block, (ad482.add ((x11_1).toNat * 3)).off + 1, none⟩ = some (.int .i64 ((qI x9_2 x11_1).f1)) ∧ w48.cell? ⟨(ad482.add ((x11_1).toNat * 3)).block, (ad482.add ((x11_1).toNat * 3)).off + 2, none⟩ = some (.int .i64 ((qI x9_2 x11_1).f2)) := hS_
                   refine norm_ (a' := ?_) ?_ ?_
                   rotate_left
                   ·simp only [putAll, Act.put, List.setIfInBounds_toArray, List.set_cons_zero, List.set_cons_succ]
                    rfl
                   refine one_ (i := 12) (N := none) #[true, true, true, true, true, true, true, true, true, true, true, true, true, false] rfl rfl (qPA HT_.out (by kernel_rfl)) (by decide) (fun K hK => ?_)
                   have hs49 : w48.cell? ⟨gb487, 0, none⟩ = some (.int .i64 0) := (qJ BK487.out 0).trans rfl
                   have hfs49 := qD BK487.out 0
                   have hns49_0 := NB471_487.out
                   have hms49_0 := NB487_471.out
                   have hs50 : w48.cell? ⟨gb487, 1, none⟩ = some (.int .i64 0) := (qJ BK487.out 1).trans rfl
                   have hfs50 := qD BK487.out 1
                   have hns50_0 := NB471_487.out
                   have hms50_0 := NB487_471.out
                   have hs51 : w48.cell? ⟨gb487, 2, none⟩ = some (.int .i64 0) := (qJ BK487.out 2).trans rfl
                   have hfs51 := qD BK487.out 2
                   have hns51_0 := NB471_487.out
                   have hms51_0 := NB487_471.out
                   refine skip_ (w1 := ?_) (by rfl) rfl ?_ ?_
                   rotate_left
                   ·go_simp
                    rfl
                   refine hK.out _ _ ⟨((qR (p := ⟨gb487, _, none⟩) (by first | exact Kd.qO (Kd.qW HO_9.out (fun _ hk => hk.2)) | (rw [qX]; exact Kd.qO (Kd.qW HO_9.out (fun _ hk => hk.2))) | (show (Addr.add _ _).block ≠ _; rw [qX]; exact Kd.qO (Kd.qW HO_9.out (fun _ hk => hk.2))) | (dsimp only; exact Kd.qO (Kd.qW HO_9.out (fun _ hk => hk.2)))) _).trans (((qR (p := ⟨gb487, _, none⟩) (by first | exact Kd.qO (Kd.qW HO_9.out (fun _ hk => hk.2)) | (rw [qX]; exact Kd.qO (Kd.qW HO_9.out (fun _ hk => hk.2))) | (show (Addr.add _ _).block ≠ _; rw [qX]; exact Kd.qO (Kd.qW HO_9.out (fun _ hk => hk.2))) | (dsimp only; exact Kd.qO (Kd.qW HO_9.out (fun _ hk => hk.2)))) _).trans (((qR (p := ⟨gb487, _, none⟩) (by first | exact Kd.qO (Kd.qW HO_9.out (fun _ hk => hk.2)) | (rw [qX]; exact Kd.qO (Kd.qW HO_9.out (fun _ hk => hk.2))) | (show (Addr.add _ _).block ≠ _; rw [qX]; exact Kd.qO (Kd.qW HO_9.out (fun _ hk => hk.2))) | (dsimp only; exact Kd.qO (Kd.qW HO_9.out (fun _ hk => hk.2)))) _).trans (hHeld.1)))))), ((qR (p := ⟨gb487, _, none⟩) (by first | exact Kd.qO (Kd.qW HO_9.out (fun _ hk => hk.2)) | (rw [qX]; exact Kd.qO (Kd.qW HO_9.out (fun _ hk => hk.2))) | (show (Addr.add _ _).block ≠ _; rw [qX]; exact Kd.qO (Kd.qW HO_9.out (fun _ hk => hk.2))) | (dsimp only; exact Kd.qO (Kd.qW HO_9.out (fun _ hk => hk.2)))) _).trans (((qR (p := ⟨gb487, _, none⟩) (by first | exact Kd.qO (Kd.qW HO_9.out (fun _ hk => hk.2)) | (rw [qX]; exact Kd.qO (Kd.qW HO_9.out (fun _ hk => hk.2))) | (show (Addr.add _ _).block ≠ _; rw [qX]; exact Kd.qO (Kd.qW HO_9.out (fun _ hk => hk.2))) | (dsimp only; exact Kd.qO (Kd.qW HO_9.out (fun _ hk => hk.2)))) _).trans (((qR (p := ⟨gb487, _, none⟩) (by first | exact Kd.qO (Kd.qW HO_9.out (fun _ hk => hk.2)) | (rw [qX]; exact Kd.qO (Kd.qW HO_9.out (fun _ hk => hk.2))) | (show (Addr.add _ _).block ≠ _; rw [qX]; exact Kd.qO (Kd.qW HO_9.out (fun _ hk => hk.2))) | (dsimp only; exact Kd.qO (Kd.qW HO_9.out (fun _ hk => hk.2)))) _).trans (hHeld.2.1)))))), ((qR (p := ⟨gb487, _, none⟩) (by first | exact Kd.qO (Kd.qW HO_9.out (fun _ hk => hk.2)) | (rw [qX]; exact Kd.qO (Kd.qW HO_9.out (fun _ hk => hk.2))) | (show (Addr.add _ _).block ≠ _; rw [qX]; exact Kd.qO (Kd.qW HO_9.out (fun _ hk => hk.2))) | (dsimp only; exact Kd.qO (Kd.qW HO_9.out (fun _ hk => hk.2)))) _).trans (((qR (p := ⟨gb487, _, none⟩) (by first | exact Kd.qO (Kd.qW HO_9.out (fun _ hk => hk.2)) | (rw [qX]; exact Kd.qO (Kd.qW HO_9.out (fun _ hk => hk.2))) | (show (Addr.add _ _).block ≠ _; rw [qX]; exact Kd.qO (Kd.qW HO_9.out (fun _ hk => hk.2))) | (dsimp only; exact Kd.qO (Kd.qW HO_9.out (fun _ hk => hk.2)))) _).trans (((qR (p := ⟨gb487, _, none⟩) (by first | exact Kd.qO (Kd.qW HO_9.out (fun _ hk => hk.2)) | (rw [qX]; exact Kd.qO (Kd.qW HO_9.out (fun _ hk => hk.2))) | (show (Addr.add _ _).block ≠ _; rw [qX]; exact Kd.qO (Kd.qW HO_9.out (fun _ hk => hk.2))) | (dsimp only; exact Kd.qO (Kd.qW HO_9.out (fun _ hk => hk.2)))) _).trans (hHeld.2.2))))))⟩ (fun hHeld => ?_)
                   clear hK K
                   refine pS (i := 13) (N := some 14) #[true, true, true, true, true, true, true, true, true, true, true, true, true, true] HT_ ?_
                   refine done_ (qqA HT_.out (by kernel_rfl)) ?_
                   have hnb52 := NB487_471.out
                   have hnc52 := NB471_487.out
                   have hcz53_0 := bc BK487 0
                   have hcz53_1 := bc BK487 1
                   have hcz53_2 := bc BK487 2
                   have hfz53_0 := qD BK487.out 0
                   have hfz53_1 := qD BK487.out 1
                   have hfz53_2 := qD BK487.out 2
                   try go_wp2_with (first | (go_at_call 91; (with_reducible refine (ql.calls k2 _ _ x9_2 t483 t484 t485 false _ ?side1 ?side2 A22.out).mono ?_); (case side1 => refine (Kd.qS (e := 27) (base := w.heap.size) (ok := fun k_ => (k_ ≠ gb471 ∧ k_ ≠ gb487)) (n := x9_2.length) (c := co45) ?_).2.2; exact (by (with_reducible repeat (first | apply Kd.qF | apply Kd.qE | apply Kd.qG)); exact (Kd.qg (Kd.R_far (p := ⟨gb487, 2, none⟩) (Kd.R_far (p := ⟨gb487, 1, none⟩) (Kd.R_far (p := ⟨gb487, 0, none⟩) (Kd.qg HO_9.out (fun k_ hk => (⟨hk, hk.2⟩ : _ ∧ k_ ≠ gb487))) (fun _ hk => hk.2) (.int .i64 t483)) (fun _ hk => hk.2) (.int .i64 t484)) (fun _ hk => hk.2) (.int .i64 t485)) (fun _ h_ => h_.1)))); (case side2 => exact (Kd.qS HO_9.out).2.1); rintro e w54 ⟨rfl, hb⟩; have n0_ := Aside0.mk (Kd.qU (by (with_reducible repeat (first | apply Kd.qF | apply Kd.qE | apply Kd.qG)); exact (Kd.qg (Kd.R_far (p := ⟨gb487, 2, none⟩) (Kd.R_far (p := ⟨gb487, 1, none⟩) (Kd.R_far (p := ⟨gb487, 0, none⟩) (Kd.qg HO_9.out (fun k_ hk => (⟨hk, hk.2⟩ : _ ∧ k_ ≠ gb487))) (fun _ hk => hk.2) (.int .i64 t483)) (fun _ hk => hk.2) (.int .i64 t484)) (fun _ hk => hk.2) (.int .i64 t485)) (fun _ h_ => h_.1))) hb); have n1_ := Aside0.mk (Kd.qU (by (with_reducible repeat (first | apply Kd.qF | apply Kd.qE | apply Kd.qG)); exact (Kd.qg (Kd.R_far (p := ⟨gb487, 2, none⟩) (Kd.R_far (p := ⟨gb487, 1, none⟩) (Kd.R_far (p := ⟨gb487, 0, none⟩) (Kd.qn HO_10.out BK487.out (by decide)) (fun _ hk => hk.2) (.int .i64 t483)) (fun _ hk => hk.2) (.int .i64 t484)) (fun _ hk => hk.2) (.int .i64 t485)) (fun _ h_ => h_.1))) hb); have n2_ := Aside0.mk (Kd.qU (by (with_reducible repeat (first | apply Kd.qF | apply Kd.qE | apply Kd.qG)); exact (Kd.qg (Kd.R_far (p := ⟨gb487, 2, none⟩) (Kd.R_far (p := ⟨gb487, 1, none⟩) (Kd.R_far (p := ⟨gb487, 0, none⟩) (Kd.qn HO_19.out BK487.out (by decide)) (fun _ hk => hk.2) (.int .i64 t483)) (fun _ hk => hk.2) (.int .i64 t484)) (fun _ hk => hk.2) (.int .i64 t485)) (fun _ h_ => h_.1))) hb); have n3_ := Aside0.mk (qTA (g := gb471) (o := .cells #[.int .i64 a1_0, .int .i64 a1_1, .int .i64 a1_2] 27 (0, 0)) (by (with_reducible repeat (first | refine qB ?_ _ | refine qC ?_ | refine qA ?_ _)); refine qM ?_ NB471_487.out _; (with_reducible repeat (first | refine qB ?_ _ | refine qC ?_ | refine qA ?_ _)); refine qM ?_ NB471_487.out _; (with_reducible repeat (first | refine qB ?_ _ | refine qC ?_ | refine qA ?_ _)); refine qM ?_ NB471_487.out _; (with_reducible repeat (first | refine qB ?_ _ | refine qC ?_ | refine qA ?_ _)); exact BK471.out) hb); have n4_ := Aside0.mk (qTA (g := gb487) (o := .cells #[.int .i64 t483, .int .i64 t484, .int .i64 t485] 27 (0, 0)) (by (with_reducible repeat (first | refine qB ?_ _ | refine qC ?_ | refine qA ?_ _)); refine qP (cs := #[.int .i64 t483, .int .i64 t484, .int .i64 0]) ?_ 2 _ rfl; (with_reducible repeat (first | refine qB ?_ _ | refine qC ?_ | refine qA ?_ _)); refine qP (cs := #[.int .i64 t483, .int .i64 0, .int .i64 0]) ?_ 1 _ rfl; (with_reducible repeat (first | refine qB ?_ _ | refine qC ?_ | refine qA ?_ _)); refine qP (cs := #[.int .i64 0, .int .i64 0, .int .i64 0]) ?_ 0 _ rfl; (with_reducible repeat (first | refine qB ?_ _ | refine qC ?_ | refine qA ?_ _)); exact BK487.out) hb); have n5_ := Aside0.mk (qH bl hb); clear HO_9; clear HO_10; clear HO_19; clear BK471; clear BK487; clear HB; have HO_9 := n0_; have HO_10 := n1_; have HO_19 := n2_; have BK471 := n3_; have BK487 := n4_; have HB := n5_; clear n0_ n1_ n2_ n3_ n4_ n5_; (try clear hb); (try clear hb2); (try clear hk); (try clear hi); obtain ⟨Ao55, co55, eo55⟩ := Kd.qm HO_10.out; subst eo55))
                   have n0_ := Aside0.mk (Kd.qG HO_9.out)
                   have n1_ := Aside0.mk (Kd.qG HO_10.out)
                   have n2_ := Aside0.mk (Kd.qG HO_19.out)
                   have n3_ := Aside0.mk (qC BK471.out)
                   have n4_ := Aside0.mk (qC BK487.out)
                   have n5_ := Aside0.mk (qk HB.out)
                   clear HO_9
                   clear HO_10
                   clear HO_19
                   clear BK471
                   clear BK487
                   clear HB
                   have HO_9 := n0_
                   have HO_10 := n1_
                   have HO_19 := n2_
                   have BK471 := n3_
                   have BK487 := n4_
                   have HB := n5_
                   clear n0_ n1_ n2_ n3_ n4_ n5_
                   have p495 : 0 ≤ (x11_1 : Int) := of_decide_eq_true (by first | (with_reducible assumption) | assumption)
                   have q495 : x11_1 < (x10_2.length : Int) := of_decide_eq_true (by first | (with_reducible assumption) | assumption)
                   obtain ⟨ad495, e495, hx495_0⟩ := Kd.qAB (Kd.qS HO_10.out).2.2 x11_1 p495 q495
                   cases e495
                   replace p495 := eq_true p495
                   replace q495 := eq_true q495
                   have hof495 := Aside0.mk (R_off1 _ HO_10.out (by rfl) x11_1 (of_eq_true p495) (of_eq_true q495))
                   have hnr495_HO_9 := Aside0.mk (R_apart1 _ _ HO_10.out HO_9.out (by decide) (x11_1).toNat)
                   refine qyA (n := 18) (S := fun w' => w'.cell? ⟨gb487, 0, none⟩ = some (.int .i64 t483) ∧ w'.cell? ⟨gb487, 1, none⟩ = some (.int .i64 t484) ∧ w'.cell? ⟨gb487, 2, none⟩ = some (.int .i64 t485) ∧ w'.cell? (ad495.add (x11_1).toNat) = some (.string (rdOf ByteArray.empty x10_2 x11_1))) (ds := []) #[false, false, false, false, false, false, false, false, false, false, false, false, false, false, false, false, false, false] (by kernel_rfl) rfl rfl ⟨(qJ BK487.out 0).trans rfl, (qJ BK487.out 1).trans rfl, (qJ BK487.out 2).trans rfl, hx495_0⟩ (fun hHeld => ?_); refine qWA qQ.tab13 qQ.bits13 (fun HT_ HW_ => ?_)
                   generalize w54.drew = w56 at HO_9 HO_10 HO_19 BK471 BK487 HB hx495_0 hHeld ⊢
                   refine pS (i := 0) (N := some 53) #[true, false, false, false, false, false, false, false, false, false, false, false, false, false, false, false, false, false] HT_ ?_
                   refine pS (i := 4) (N := some 57) #[true, false, false, false, true, false, false, false, false, false, false, false, false, false, false, false, false, false] HT_ ?_
                   refine pS (i := 5) (N := some 58) #[true, false, false, false, true, true, false, false, false, false, false, false, false, false, false, false, false, false] HT_ ?_
                   refine pS (i := 6) (N := some 59) #[true, false, false, false, true, true, true, false, false, false, false, false, false, false, false, false, false, false] HT_ ?_
                   refine pS (i := 7) (N := some 60) #[true, false, false, false, true, true, true, true, false, false, false, false, false, false, false, false, false, false] HT_ ?_
                   refine pS (i := 9) (N := some 62) #[true, false, false, false, true, true, true, true, false, true, false, false, false, false, false, false, false, false] HT_ ?_
                   refine pS (i := 10) (N := some 63) #[true, false, false, false, true, true, true, true, false, true, true, false, false, false, false, false, false, false] HT_ ?_
                   refine pS (i := 11) (N := some 64) #[true, false, false, false, true, true, true, true, false, true, true, true, false, false, false, false, false, false] HT_ ?_
                   refine pS (i := 12) (N := some 65) #[true, false, false, false, true, true, true, true, false, true, true, true, true, false, false, false, false, false] HT_ ?_
                   refine tS (i := 1) (N := some 54) #[true, true, false, false, true, true, true, true, false, true, true, true, true, false, false, false, false, false] HT_ HW_ hHeld ?_
                   refine tS (i := 8) (N := some 61) #[true, true, false, false, true, true, true, true, true, true, true, true, true, false, false, false, false, false] HT_ HW_ hHeld ?_
                   refine pS (i := 13) (N := some 66) #[true, true, false, false, true, true, true, true, true, true, true, true, true, true, false, false, false, false] HT_ ?_
                   refine join_ (σ := Value × Value × Value) 3 #[true, true, true, true, true, true, true, true, true, true, true, true, true, true, true, false, false, false] (fun s_ => [(55, s_.1), (56, s_.2.1), (67, s_.2.2)]) (fun s_ w' => (w'.cell? ⟨gb487, 0, none⟩ = some (.int .i64 t483) ∧ w'.cell? ⟨gb487, 1, none⟩ = some (.int .i64 t484) ∧ w'.cell? ⟨gb487, 2, none⟩ = some (.int .i64 t485) ∧ w'.cell? (ad495.add (x11_1).toNat) = some (.string (rdOf ByteArray.empty x10_2 x11_1))) ∧ (Kd.R k27 27 w' w.heap.size (fun k_ => some k_ ≠ (s_.2.1 : Value).ownBlock ∧ k_ ≠ gb471 ∧ k_ ≠ gb487) s_.1 y489) ∧ (Kd.R k27 27 w' w.heap.size (fun k_ => some k_ ≠ (s_.1 : Value).ownBlock ∧ k_ ≠ gb471 ∧ k_ ≠ gb487) s_.2.1 y492) ∧ (Kd.R Kd.string 9 w' w.heap.size (fun k_ => some k_ ≠ (.slice (some ad495) x10_2.length co55 : Value).ownBlock ∧ some k_ ≠ (.slice Ao43 t472.length co43 : Value).ownBlock) s_.2.2 y496) ∧ (Kd.R Kd.string 9 w' w.heap.size (fun k_ => some k_ ≠ (s_.2.2 : Value).ownBlock ∧ some k_ ≠ (.slice Ao43 t472.length co43 : Value).ownBlock) (.slice (some ad495) x10_2.length co55) x10_2) ∧ (Kd.R Kd.string 9 w' w.heap.size (fun k_ => some k_ ≠ (s_.2.2 : Value).ownBlock ∧ some k_ ≠ (.slice (some ad495) x10_2.length co55 : Value).ownBlock) (.slice Ao43 t472.length co43) t472) ∧ (w'.heap[gb471]? = some (.cells #[.int .i64 a1_0, .int .i64 a1_1, .int .i64 a1_2] 27 (0, 0))) ∧ (w'.heap[gb487]? = some (.cells #[.int .i64 t483, .int .i64 t484, .int .i64 t485] 27 (0, 0))) ∧ (Below w.heap.size w w')) ?_ ?_
                   rotate_left
                   ·intro hCont
                    refine two_ (i := 2) (j := 14) (Ni := some 55) (Nj := some 67) #[true, true, true, false, true, true, true, true, true, true, true, true, true, true, false, false, false, false] #[true, true, false, false, true, true, true, true, true, true, true, true, true, true, true, false, false, false] rfl rfl rfl rfl (qxB HT_.out (by kernel_rfl)) (by decide) (by decide) (fun K hK => ?_) (fun K hK => ?_)
                    ·skip
                     refine Kd.qRB k27 _ 27 ?hg (N := 55) ?hd (xs := ([(⟨t483, t484, t485⟩ : S27)] : List (S27))) (inner := [.int .i64 t483, .int .i64 t484, .int .i64 t485]) (ok := fun _ => True) (okp := fun _ => True) ?hr ?hp (fun _ hk => hk) trivial (Below.refl _ _) (Nat.le_refl _) (by simp) ?_; (case hd => rfl); (case hg => rfl); (case hr => first | (go_simp; done) | (go_simp; rfl)); (case hp => exact (Reps.c3 (show Kd.M k27 _ _ _ (⟨t483, t484, t485⟩ : S27) [.int .i64 t483, .int .i64 t484, .int .i64 t485] from (qBC _ _ _ (⟨t483, t484, t485⟩ : S27) )) (Reps.none _ _)))
                     intro v490 w57 ho58 hb hg_ hnew_
                     have HS3_ := (hb.cell (World.block_lt_of_cell? _ _ (hHeld.2.2.2))).trans (hHeld.2.2.2)
                     clear hg_ hnew_
                     (first | rw [← Ny489.out] at ho58 | (simp only [Int.reduceToNat] at ho58; rw [← Ny489.out] at ho58))
                     have n0_ := Aside0.mk (Kd.qiA (by (with_reducible repeat (first | apply Kd.qF | apply Kd.qE | apply Kd.qG)); exact HO_9.out) (Kd.qHB ho58) hb)
                     have n1_ := Aside0.mk (Kd.qU (by (with_reducible repeat (first | apply Kd.qF | apply Kd.qE | apply Kd.qG)); exact HO_10.out) hb)
                     have n2_ := Aside0.mk (Kd.qU (by (with_reducible repeat (first | apply Kd.qF | apply Kd.qE | apply Kd.qG)); exact HO_19.out) hb)
                     have n3_ := Aside0.mk (Kd.qEA (Kd.qXB (Kd.qXB (Kd.qGB ho58 (Kd.R_lt (by (with_reducible repeat (first | apply Kd.qF | apply Kd.qE | apply Kd.qG)); exact HO_9.out))) (g := gb471) (o := .cells #[.int .i64 a1_0, .int .i64 a1_1, .int .i64 a1_2] 27 (0, 0)) (by (with_reducible repeat (first | refine qB ?_ _ | refine qC ?_ | refine qA ?_ _)); exact BK471.out)) (g := gb487) (o := .cells #[.int .i64 t483, .int .i64 t484, .int .i64 t485] 27 (0, 0)) (by (with_reducible repeat (first | refine qB ?_ _ | refine qC ?_ | refine qA ?_ _)); exact BK487.out)) (qh bl))
                     have n4_ := Aside0.mk (bb BK471 hb)
                     have n5_ := Aside0.mk (bb BK487 hb)
                     have n6_ := Aside0.mk (qH bl hb)
                     clear HO_9
                     clear HO_10
                     clear HO_19
                     clear BK471
                     clear BK487
                     clear HB
                     have HO_9 := n0_
                     have HO_10 := n1_
                     have HO_19 := n2_
                     have HO491 := n3_
                     have BK471 := n4_
                     have BK487 := n5_
                     have HB := n6_
                     clear n0_ n1_ n2_ n3_ n4_ n5_ n6_
                     clear hb ho58
                     obtain ⟨Ao60, co60, eo60⟩ := Kd.qm HO491.out
                     (first | subst eo60 | (injection eo60 with f1_ f2_ f3_; have f4_ := f1_.symm; have f5_ := f3_.symm; clear f1_ f2_ f3_; subst f4_; subst f5_))
                     refine hK.out _ _ ⟨(qJ BK487.out 0).trans rfl, (qJ BK487.out 1).trans rfl, (qJ BK487.out 2).trans rfl, HS3_⟩ (fun hHeld => ?_)
                     clear hK K
                     refine norm_ (a' := ?_) ?_ ?_
                     rotate_left
                     ·show Act.put _ (some 55) _ = _
                      simp only [Act.put, List.setIfInBounds_toArray, List.set_cons_zero, List.set_cons_succ, i64_w, i32_w]
                      rfl
                     refine two_ (i := 3) (j := 14) (Ni := some 56) (Nj := some 67) #[true, true, true, true, true, true, true, true, true, true, true, true, true, true, false, false, false, false] #[true, true, true, false, true, true, true, true, true, true, true, true, true, true, true, false, false, false] rfl rfl rfl rfl (qxB HT_.out (by kernel_rfl)) (by decide) (by decide) (fun K hK => ?_) (fun K hK => ?_)
                     ·skip
                      refine qrA k27 (w0 := w) w.heap.size (by rfl) (.tmp 53) (.tmp 55) 50 27 (.agg #[(.int .i64 0), (.int .i64 0), (.int .i64 0)]) 24 rfl Tryd.underlying50 info27 rfl (by decide) (by omega) (.slice (some ad482) x9_2.length co45) x9_2 y489 _ _ _ (fun k_ => some k_ ≠ (.slice Ao60 y489.length co60 : Value).ownBlock ∧ k_ ≠ gb471 ∧ k_ ≠ gb487) (fun _ => False) rfl rfl ?aO ?aR (fun _ _ h => h) (fun _ h => h.elim) ?aF ?aB ?aS ?aL ?_
                      (case aR => repeat (first | exact (Kd.qS HO491.out).2.2 | (with_reducible refine Kd.qx ?_ _) | (with_reducible refine Kd.qw ?_ _) | (with_reducible refine Kd.qLA ?_)))
                      (case aB => exact bl)
                      (case aF => exact (fun k_ hk => ⟨Kd.fresh' (Kd.R_lt (by (with_reducible repeat (first | apply Kd.qF | apply Kd.qE | apply Kd.qG)); exact HO491.out)) k_ hk, Kd.freshB (g := gb471) (o := .cells #[.int .i64 a1_0, .int .i64 a1_1, .int .i64 a1_2] 27 (0, 0)) (by (with_reducible repeat (first | refine qB ?_ _ | refine qC ?_ | refine qA ?_ _)); exact BK471.out) k_ hk, Kd.freshB (g := gb487) (o := .cells #[.int .i64 t483, .int .i64 t484, .int .i64 t485] 27 (0, 0)) (by (with_reducible repeat (first | refine qB ?_ _ | refine qC ?_ | refine qA ?_ _)); exact BK487.out) k_ hk⟩))
                      (case aO => exact (by (with_reducible repeat (first | apply Kd.qF | apply Kd.qE | apply Kd.qG)); exact Kd.qg HO_9.out (fun _ hk => ⟨hk.2, ⟨hk.1.1, hk.1.2⟩⟩)))
                      (case aS => exact (qh bl))
                      (case aL => have := LMc36.out; omega)
                      intro v493 w59 ho hb hg hat hkp_
                      have HS3_ := hkp_ _ _ (hHeld.2.2.2) (fun e_ => absurd e_ hnr495_HO_9.out)
                      clear hkp_
                      rw [← Ny492.out] at ho
                      have n0_ := Aside0.mk (Kd.quA (by (with_reducible repeat (first | apply Kd.qF | apply Kd.qE | apply Kd.qG)); exact HO_10.out) (Kd.qoA (by (with_reducible repeat (first | apply Kd.qF | apply Kd.qE | apply Kd.qG)); exact HO_9.out)) (by decide) hg)
                      have n1_ := Aside0.mk (Kd.quA (by (with_reducible repeat (first | apply Kd.qF | apply Kd.qE | apply Kd.qG)); exact HO_19.out) (Kd.qoA (by (with_reducible repeat (first | apply Kd.qF | apply Kd.qE | apply Kd.qG)); exact HO_9.out)) (by decide) hg)
                      have n2_ := Aside0.mk (qv (g := gb471) (o := .cells #[.int .i64 a1_0, .int .i64 a1_1, .int .i64 a1_2] 27 (0, 0)) (by (with_reducible repeat (first | refine qB ?_ _ | refine qC ?_ | refine qA ?_ _)); exact BK471.out) hg (Kd.qW HO_9.out (fun _ hk => hk.1.1)))
                      have n3_ := Aside0.mk (qv (g := gb487) (o := .cells #[.int .i64 t483, .int .i64 t484, .int .i64 t485] 27 (0, 0)) (by (with_reducible repeat (first | refine qB ?_ _ | refine qC ?_ | refine qA ?_ _)); exact BK487.out) hg (Kd.qW HO_9.out (fun _ hk => hk.1.2)))
                      have n4_ := Aside0.mk (Kd.qkA (ok := (fun k_ => k_ ≠ gb471 ∧ k_ ≠ gb487)) (by (with_reducible repeat (first | apply Kd.qF | apply Kd.qE | apply Kd.qG)); exact Kd.qg HO491.out (fun _ hk => ⟨⟨hk.1.2, hk.2⟩, hk.1.1.2⟩)) hg hat)
                      have n5_ := Aside0.mk (hb)
                      have n6_ := Aside0.mk (ho)
                      clear HO_10
                      clear HO_19
                      clear BK471
                      clear BK487
                      clear HO491
                      clear HB
                      clear HO_9
                      have HO_10 := n0_
                      have HO_19 := n1_
                      have BK471 := n2_
                      have BK487 := n3_
                      have HO491 := n4_
                      have HB := n5_
                      have HO494 := n6_
                      clear n0_ n1_ n2_ n3_ n4_ n5_ n6_
                      clear ho hb hg hat
                      refine hK.out _ _ ⟨(qJ BK487.out 0).trans rfl, (qJ BK487.out 1).trans rfl, (qJ BK487.out 2).trans rfl, HS3_⟩ (fun hHeld => ?_)
                      clear hK K
                      refine norm_ (a' := ?_) ?_ ?_
                      rotate_left
                      ·show Act.put _ (some 56) _ = _
                       simp only [Act.put, List.setIfInBounds_toArray, List.set_cons_zero, List.set_cons_succ, i64_w, i32_w]
                       rfl
                      refine one_ (i := 14) (N := some 67) #[true, true, true, true, true, true, true, true, true, true, true, true, true, true, true, false, false, false] rfl rfl (qPA HT_.out (by kernel_rfl)) (by decide) (fun K hK => ?_)
                      refine Kd.qRB Kd.string _ 9 ?hg (N := 67) ?hd (xs := ([(rdOf ByteArray.empty x10_2 x11_1) ++ ((⟨#[110, 101, 115, 119]⟩ : ByteArray).extract (x32_2 : Int).toNat ((wrap64 (x32_2 + 1)) : Int).toNat)] : List ByteArray)) (inner := [.string ((rdOf ByteArray.empty x10_2 x11_1) ++ ((⟨#[110, 101, 115, 119]⟩ : ByteArray).extract (x32_2 : Int).toNat ((wrap64 (x32_2 + 1)) : Int).toNat))]) (ok := fun _ => True) (okp := fun _ => True) ?hr ?hp (fun _ hk => hk) trivial (Below.refl _ _) (Nat.le_refl _) (by simp) ?_; (case hd => rfl); (case hg => rfl); (case hr => first | (go_simp; done) | (go_simp; rfl)); (case hp => exact (Reps.one (show Kd.M Kd.string _ _ _ ((rdOf ByteArray.empty x10_2 x11_1) ++ ((⟨#[110, 101, 115, 119]⟩ : ByteArray).extract (x32_2 : Int).toNat ((wrap64 (x32_2 + 1)) : Int).toNat)) [.string ((rdOf ByteArray.empty x10_2 x11_1) ++ ((⟨#[110, 101, 115, 119]⟩ : ByteArray).extract (x32_2 : Int).toNat ((wrap64 (x32_2 + 1)) : Int).toNat))] from rfl) (Reps.none _ _)))
                      intro v497 w61 ho62 hb hg_ hnew_
                      have HS3_ := (hb.cell (World.block_lt_of_cell? _ _ (hHeld.2.2.2))).trans (hHeld.2.2.2)
                      clear hg_ hnew_
                      (first | rw [← Ny496.out] at ho62 | (simp only [Int.reduceToNat] at ho62; rw [← Ny496.out] at ho62))
                      have n0_ := Aside0.mk (Kd.qiA (by (with_reducible repeat (first | apply Kd.qF | apply Kd.qE | apply Kd.qG)); exact HO_10.out) (Kd.qHB ho62) hb)
                      have n1_ := Aside0.mk (Kd.qiA (by (with_reducible repeat (first | apply Kd.qF | apply Kd.qE | apply Kd.qG)); exact HO_19.out) (Kd.qHB ho62) hb)
                      have n2_ := Aside0.mk (Kd.qU (by (with_reducible repeat (first | apply Kd.qF | apply Kd.qE | apply Kd.qG)); exact HO491.out) hb)
                      have n3_ := Aside0.mk (Kd.qU (by (with_reducible repeat (first | apply Kd.qF | apply Kd.qE | apply Kd.qG)); exact HO494.out) hb)
                      have n4_ := Aside0.mk (Kd.qEA (Kd.qGB (Kd.qGB ho62 (Kd.R_lt (by (with_reducible repeat (first | apply Kd.qF | apply Kd.qE | apply Kd.qG)); exact HO_10.out))) (Kd.R_lt (by (with_reducible repeat (first | apply Kd.qF | apply Kd.qE | apply Kd.qG)); exact HO_19.out))) (qh bl))
                      have n5_ := Aside0.mk (bb BK471 hb)
                      have n6_ := Aside0.mk (bb BK487 hb)
                      have n7_ := Aside0.mk (qH bl hb)
                      clear HO_10
                      clear HO_19
                      clear HO491
                      clear HO494
                      clear BK471
                      clear BK487
                      clear HB
                      have HO_10 := n0_
                      have HO_19 := n1_
                      have HO491 := n2_
                      have HO494 := n3_
                      have HO498 := n4_
                      have BK471 := n5_
                      have BK487 := n6_
                      have HB := n7_
                      clear n0_ n1_ n2_ n3_ n4_ n5_ n6_ n7_
                      clear hb ho62
                      refine hK.out _ _ ⟨(qJ BK487.out 0).trans rfl, (qJ BK487.out 1).trans rfl, (qJ BK487.out 2).trans rfl, HS3_⟩ (fun hHeld => ?_)
                      clear hK K
                      refine norm_ (a' := ?_) ?_ ?_
                      rotate_left
                      ·show Act.put _ (some 67) _ = _
                       simp only [Act.put, List.setIfInBounds_toArray, List.set_cons_zero, List.set_cons_succ, i64_w, i32_w]
                       rfl
                      exact norm_ (by simp only [putAll, Act.put, List.setIfInBounds_toArray, List.set_cons_zero, List.set_cons_succ]) (hCont (.slice Ao60 y489.length co60, v493, v497) _ ⟨hHeld, (by (with_reducible repeat (first | apply Kd.qF | apply Kd.qE | apply Kd.qG)); exact Kd.qg HO491.out (fun _ hk => ⟨hk.2, ⟨hk.1.1, hk.1.2⟩⟩)), (by (with_reducible repeat (first | apply Kd.qF | apply Kd.qE | apply Kd.qG)); exact HO494.out), (by (with_reducible repeat (first | apply Kd.qF | apply Kd.qE | apply Kd.qG)); exact Kd.qg HO498.out (fun _ hk => ⟨hk.1.2, hk.2⟩)), (by (with_reducible repeat (first | apply Kd.qF | apply Kd.qE | apply Kd.qG)); exact Kd.qg HO_10.out (fun _ hk => ⟨hk.2, hk.1⟩)), (by (with_reducible repeat (first | apply Kd.qF | apply Kd.qE | apply Kd.qG)); exact Kd.qg HO_19.out (fun _ hk => ⟨hk.2, hk.1⟩)), (by (with_reducible repeat (first | refine qB ?_ _ | refine qC ?_ | refine qA ?_ _)); exact BK471.out), (by (with_reducible repeat (first | refine qB ?_ _ | refine qC ?_ | refine qA ?_ _)); exact BK487.out), bl⟩)
                     ·skip
                      refine Kd.qRB Kd.string _ 9 ?hg (N := 67) ?hd (xs := ([(rdOf ByteArray.empty x10_2 x11_1) ++ ((⟨#[110, 101, 115, 119]⟩ : ByteArray).extract (x32_2 : Int).toNat ((wrap64 (x32_2 + 1)) : Int).toNat)] : List ByteArray)) (inner := [.string ((rdOf ByteArray.empty x10_2 x11_1) ++ ((⟨#[110, 101, 115, 119]⟩ : ByteArray).extract (x32_2 : Int).toNat ((wrap64 (x32_2 + 1)) : Int).toNat))]) (ok := fun _ => True) (okp := fun _ => True) ?hr ?hp (fun _ hk => hk) trivial (Below.refl _ _) (Nat.le_refl _) (by simp) ?_; (case hd => rfl); (case hg => rfl); (case hr => first | (go_simp; done) | (go_simp; rfl)); (case hp => exact (Reps.one (show Kd.M Kd.string _ _ _ ((rdOf ByteArray.empty x10_2 x11_1) ++ ((⟨#[110, 101, 115, 119]⟩ : ByteArray).extract (x32_2 : Int).toNat ((wrap64 (x32_2 + 1)) : Int).toNat)) [.string ((rdOf ByteArray.empty x10_2 x11_1) ++ ((⟨#[110, 101, 115, 119]⟩ : ByteArray).extract (x32_2 : Int).toNat ((wrap64 (x32_2 + 1)) : Int).toNat))] from rfl) (Reps.none _ _)))
                      intro v497 w59 ho60 hb hg_ hnew_
                      have HS3_ := (hb.cell (World.block_lt_of_cell? _ _ (hHeld.2.2.2))).trans (hHeld.2.2.2)
                      clear hg_ hnew_
                      (first | rw [← Ny496.out] at ho60 | (simp only [Int.reduceToNat] at ho60; rw [← Ny496.out] at ho60))
                      have n0_ := Aside0.mk (Kd.qU (by (with_reducible repeat (first | apply Kd.qF | apply Kd.qE | apply Kd.qG)); exact HO_9.out) hb)
                      have n1_ := Aside0.mk (Kd.qiA (by (with_reducible repeat (first | apply Kd.qF | apply Kd.qE | apply Kd.qG)); exact HO_10.out) (Kd.qHB ho60) hb)
                      have n2_ := Aside0.mk (Kd.qiA (by (with_reducible repeat (first | apply Kd.qF | apply Kd.qE | apply Kd.qG)); exact HO_19.out) (Kd.qHB ho60) hb)
                      have n3_ := Aside0.mk (Kd.qU (by (with_reducible repeat (first | apply Kd.qF | apply Kd.qE | apply Kd.qG)); exact HO491.out) hb)
                      have n4_ := Aside0.mk (Kd.qEA (Kd.qGB (Kd.qGB ho60 (Kd.R_lt (by (with_reducible repeat (first | apply Kd.qF | apply Kd.qE | apply Kd.qG)); exact HO_10.out))) (Kd.R_lt (by (with_reducible repeat (first | apply Kd.qF | apply Kd.qE | apply Kd.qG)); exact HO_19.out))) (qh bl))
                      have n5_ := Aside0.mk (bb BK471 hb)
                      have n6_ := Aside0.mk (bb BK487 hb)
                      have n7_ := Aside0.mk (qH bl hb)
                      clear HO_9
                      clear HO_10
                      clear HO_19
                      clear HO491
                      clear BK471
                      clear BK487
                      clear HB
                      have HO_9 := n0_
                      have HO_10 := n1_
                      have HO_19 := n2_
                      have HO491 := n3_
                      have HO498 := n4_
                      have BK471 := n5_
                      have BK487 := n6_
                      have HB := n7_
                      clear n0_ n1_ n2_ n3_ n4_ n5_ n6_ n7_
                      clear hb ho60
                      obtain ⟨Ao62, co62, eo62⟩ := Kd.qm HO491.out
                      (first | subst eo62 | (injection eo62 with f1_ f2_ f3_; have f4_ := f1_.symm; have f5_ := f3_.symm; clear f1_ f2_ f3_; subst f4_; subst f5_))
                      refine hK.out _ _ ⟨(qJ BK487.out 0).trans rfl, (qJ BK487.out 1).trans rfl, (qJ BK487.out 2).trans rfl, HS3_⟩ (fun hHeld => ?_)
                      clear hK K
                      refine norm_ (a' := ?_) ?_ ?_
                      rotate_left
                      ·show Act.put _ (some 67) _ = _
                       simp only [Act.put, List.setIfInBounds_toArray, List.set_cons_zero, List.set_cons_succ, i64_w, i32_w]
                       rfl
                      refine one_ (i := 3) (N := some 56) #[true, true, true, true, true, true, true, true, true, true, true, true, true, true, true, false, false, false] rfl rfl (qPA HT_.out (by kernel_rfl)) (by decide) (fun K hK => ?_)
                      refine qrA k27 (w0 := w) w.heap.size (by rfl) (.tmp 53) (.tmp 55) 50 27 (.agg #[(.int .i64 0), (.int .i64 0), (.int .i64 0)]) 24 rfl Tryd.underlying50 info27 rfl (by decide) (by omega) (.slice (some ad482) x9_2.length co45) x9_2 y489 _ _ _ (fun k_ => some k_ ≠ (.slice Ao62 y489.length co62 : Value).ownBlock ∧ k_ ≠ gb471 ∧ k_ ≠ gb487) (fun _ => False) rfl rfl ?aO ?aR (fun _ _ h => h) (fun _ h => h.elim) ?aF ?aB ?aS ?aL ?_
                      (case aR => repeat (first | exact (Kd.qS HO491.out).2.2 | (with_reducible refine Kd.qx ?_ _) | (with_reducible refine Kd.qw ?_ _) | (with_reducible refine Kd.qLA ?_)))
                      (case aB => exact bl)
                      (case aF => exact (fun k_ hk => ⟨Kd.fresh' (Kd.R_lt (by (with_reducible repeat (first | apply Kd.qF | apply Kd.qE | apply Kd.qG)); exact HO491.out)) k_ hk, Kd.freshB (g := gb471) (o := .cells #[.int .i64 a1_0, .int .i64 a1_1, .int .i64 a1_2] 27 (0, 0)) (by (with_reducible repeat (first | refine qB ?_ _ | refine qC ?_ | refine qA ?_ _)); exact BK471.out) k_ hk, Kd.freshB (g := gb487) (o := .cells #[.int .i64 t483, .int .i64 t484, .int .i64 t485] 27 (0, 0)) (by (with_reducible repeat (first | refine qB ?_ _ | refine qC ?_ | refine qA ?_ _)); exact BK487.out) k_ hk⟩))
                      (case aO => exact (by (with_reducible repeat (first | apply Kd.qF | apply Kd.qE | apply Kd.qG)); exact Kd.qg HO_9.out (fun _ hk => ⟨hk.2, ⟨hk.1.1, hk.1.2⟩⟩)))
                      (case aS => exact (qh bl))
                      (case aL => have := LMc36.out; omega)
                      intro v493 w61 ho hb hg hat hkp_
                      have HS3_ := hkp_ _ _ (hHeld.2.2.2) (fun e_ => absurd e_ hnr495_HO_9.out)
                      clear hkp_
                      rw [← Ny492.out] at ho
                      have n0_ := Aside0.mk (Kd.quA (by (with_reducible repeat (first | apply Kd.qF | apply Kd.qE | apply Kd.qG)); exact HO_10.out) (Kd.qoA (by (with_reducible repeat (first | apply Kd.qF | apply Kd.qE | apply Kd.qG)); exact HO_9.out)) (by decide) hg)
                      have n1_ := Aside0.mk (Kd.quA (by (with_reducible repeat (first | apply Kd.qF | apply Kd.qE | apply Kd.qG)); exact HO_19.out) (Kd.qoA (by (with_reducible repeat (first | apply Kd.qF | apply Kd.qE | apply Kd.qG)); exact HO_9.out)) (by decide) hg)
                      have n2_ := Aside0.mk (qv (g := gb471) (o := .cells #[.int .i64 a1_0, .int .i64 a1_1, .int .i64 a1_2] 27 (0, 0)) (by (with_reducible repeat (first | refine qB ?_ _ | refine qC ?_ | refine qA ?_ _)); exact BK471.out) hg (Kd.qW HO_9.out (fun _ hk => hk.1.1)))
                      have n3_ := Aside0.mk (qv (g := gb487) (o := .cells #[.int .i64 t483, .int .i64 t484, .int .i64 t485] 27 (0, 0)) (by (with_reducible repeat (first | refine qB ?_ _ | refine qC ?_ | refine qA ?_ _)); exact BK487.out) hg (Kd.qW HO_9.out (fun _ hk => hk.1.2)))
                      have n4_ := Aside0.mk (Kd.qkA (ok := (fun k_ => k_ ≠ gb471 ∧ k_ ≠ gb487)) (by (with_reducible repeat (first | apply Kd.qF | apply Kd.qE | apply Kd.qG)); exact Kd.qg HO491.out (fun _ hk => ⟨⟨hk.1.2, hk.2⟩, hk.1.1.2⟩)) hg hat)
                      have n5_ := Aside0.mk (Kd.quA (by (with_reducible repeat (first | apply Kd.qF | apply Kd.qE | apply Kd.qG)); exact HO498.out) (Kd.qoA (by (with_reducible repeat (first | apply Kd.qF | apply Kd.qE | apply Kd.qG)); exact HO_9.out)) (by decide) hg)
                      have n6_ := Aside0.mk (hb)
                      have n7_ := Aside0.mk (ho)
                      clear HO_10
                      clear HO_19
                      clear BK471
                      clear BK487
                      clear HO491
                      clear HO498
                      clear HB
                      clear HO_9
                      have HO_10 := n0_
                      have HO_19 := n1_
                      have BK471 := n2_
                      have BK487 := n3_
                      have HO491 := n4_
                      have HO498 := n5_
                      have HB := n6_
                      have HO494 := n7_
                      clear n0_ n1_ n2_ n3_ n4_ n5_ n6_ n7_
                      clear ho hb hg hat
                      refine hK.out _ _ ⟨(qJ BK487.out 0).trans rfl, (qJ BK487.out 1).trans rfl, (qJ BK487.out 2).trans rfl, HS3_⟩ (fun hHeld => ?_)
                      clear hK K
                      refine norm_ (a' := ?_) ?_ ?_
                      rotate_left
                      ·show Act.put _ (some 56) _ = _
                       simp only [Act.put, List.setIfInBounds_toArray, List.set_cons_zero, List.set_cons_succ, i64_w, i32_w]
                       rfl
                      exact norm_ (by simp only [putAll, Act.put, List.setIfInBounds_toArray, List.set_cons_zero, List.set_cons_succ]) (hCont (.slice Ao62 y489.length co62, v493, v497) _ ⟨hHeld, (by (with_reducible repeat (first | apply Kd.qF | apply Kd.qE | apply Kd.qG)); exact Kd.qg HO491.out (fun _ hk => ⟨hk.2, ⟨hk.1.1, hk.1.2⟩⟩)), (by (with_reducible repeat (first | apply Kd.qF | apply Kd.qE | apply Kd.qG)); exact HO494.out), (by (with_reducible repeat (first | apply Kd.qF | apply Kd.qE | apply Kd.qG)); exact Kd.qg HO498.out (fun _ hk => ⟨hk.1.2, hk.2⟩)), (by (with_reducible repeat (first | apply Kd.qF | apply Kd.qE | apply Kd.qG)); exact Kd.qg HO_10.out (fun _ hk => ⟨hk.2, hk.1⟩)), (by (with_reducible repeat (first | apply Kd.qF | apply Kd.qE | apply Kd.qG)); exact Kd.qg HO_19.out (fun _ hk => ⟨hk.2, hk.1⟩)), (by (with_reducible repeat (first | refine qB ?_ _ | refine qC ?_ | refine qA ?_ _)); exact BK471.out), (by (with_reducible repeat (first | refine qB ?_ _ | refine qC ?_ | refine qA ?_ _)); exact BK487.out), bl⟩)
                    ·skip
                     refine Kd.qRB Kd.string _ 9 ?hg (N := 67) ?hd (xs := ([(rdOf ByteArray.empty x10_2 x11_1) ++ ((⟨#[110, 101, 115, 119]⟩ : ByteArray).extract (x32_2 : Int).toNat ((wrap64 (x32_2 + 1)) : Int).toNat)] : List ByteArray)) (inner := [.string ((rdOf ByteArray.empty x10_2 x11_1) ++ ((⟨#[110, 101, 115, 119]⟩ : ByteArray).extract (x32_2 : Int).toNat ((wrap64 (x32_2 + 1)) : Int).toNat))]) (ok := fun _ => True) (okp := fun _ => True) ?hr ?hp (fun _ hk => hk) trivial (Below.refl _ _) (Nat.le_refl _) (by simp) ?_; (case hd => rfl); (case hg => rfl); (case hr => first | (go_simp; done) | (go_simp; rfl)); (case hp => exact (Reps.one (show Kd.M Kd.string _ _ _ ((rdOf ByteArray.empty x10_2 x11_1) ++ ((⟨#[110, 101, 115, 119]⟩ : ByteArray).extract (x32_2 : Int).toNat ((wrap64 (x32_2 + 1)) : Int).toNat)) [.string ((rdOf ByteArray.empty x10_2 x11_1) ++ ((⟨#[110, 101, 115, 119]⟩ : ByteArray).extract (x32_2 : Int).toNat ((wrap64 (x32_2 + 1)) : Int).toNat))] from rfl) (Reps.none _ _)))
                     intro v497 w57 ho58 hb hg_ hnew_
                     have HS3_ := (hb.cell (World.block_lt_of_cell? _ _ (hHeld.2.2.2))).trans (hHeld.2.2.2)
                     clear hg_ hnew_
                     (first | rw [← Ny496.out] at ho58 | (simp only [Int.reduceToNat] at ho58; rw [← Ny496.out] at ho58))
                     have n0_ := Aside0.mk (Kd.qU (by (with_reducible repeat (first | apply Kd.qF | apply Kd.qE | apply Kd.qG)); exact HO_9.out) hb)
                     have n1_ := Aside0.mk (Kd.qiA (by (with_reducible repeat (first | apply Kd.qF | apply Kd.qE | apply Kd.qG)); exact HO_10.out) (Kd.qHB ho58) hb)
                     have n2_ := Aside0.mk (Kd.qiA (by (with_reducible repeat (first | apply Kd.qF | apply Kd.qE | apply Kd.qG)); exact HO_19.out) (Kd.qHB ho58) hb)
                     have n3_ := Aside0.mk (Kd.qEA (Kd.qGB (Kd.qGB ho58 (Kd.R_lt (by (with_reducible repeat (first | apply Kd.qF | apply Kd.qE | apply Kd.qG)); exact HO_10.out))) (Kd.R_lt (by (with_reducible repeat (first | apply Kd.qF | apply Kd.qE | apply Kd.qG)); exact HO_19.out))) (qh bl))
                     have n4_ := Aside0.mk (bb BK471 hb)
                     have n5_ := Aside0.mk (bb BK487 hb)
                     have n6_ := Aside0.mk (qH bl hb)
                     clear HO_9
                     clear HO_10
                     clear HO_19
                     clear BK471
                     clear BK487
                     clear HB
                     have HO_9 := n0_
                     have HO_10 := n1_
                     have HO_19 := n2_
                     have HO498 := n3_
                     have BK471 := n4_
                     have BK487 := n5_
                     have HB := n6_
                     clear n0_ n1_ n2_ n3_ n4_ n5_ n6_
                     clear hb ho58
                     refine hK.out _ _ ⟨(qJ BK487.out 0).trans rfl, (qJ BK487.out 1).trans rfl, (qJ BK487.out 2).trans rfl, HS3_⟩ (fun hHeld => ?_)
                     clear hK K
                     refine norm_ (a' := ?_) ?_ ?_
                     rotate_left
                     ·show Act.put _ (some 67) _ = _
                      simp only [Act.put, List.setIfInBounds_toArray, List.set_cons_zero, List.set_cons_succ, i64_w, i32_w]
                      rfl
                     refine one_ (i := 2) (N := some 55) #[true, true, true, false, true, true, true, true, true, true, true, true, true, true, true, false, false, false] rfl rfl (qPA HT_.out (by kernel_rfl)) (by decide) (fun K hK => ?_)
                     refine Kd.qRB k27 _ 27 ?hg (N := 55) ?hd (xs := ([(⟨t483, t484, t485⟩ : S27)] : List (S27))) (inner := [.int .i64 t483, .int .i64 t484, .int .i64 t485]) (ok := fun _ => True) (okp := fun _ => True) ?hr ?hp (fun _ hk => hk) trivial (Below.refl _ _) (Nat.le_refl _) (by simp) ?_; (case hd => rfl); (case hg => rfl); (case hr => first | (go_simp; done) | (go_simp; rfl)); (case hp => exact (Reps.c3 (show Kd.M k27 _ _ _ (⟨t483, t484, t485⟩ : S27) [.int .i64 t483, .int .i64 t484, .int .i64 t485] from (qBC _ _ _ (⟨t483, t484, t485⟩ : S27) )) (Reps.none _ _)))
                     intro v490 w59 ho60 hb hg_ hnew_
                     have HS3_ := (hb.cell (World.block_lt_of_cell? _ _ (hHeld.2.2.2))).trans (hHeld.2.2.2)
                     clear hg_ hnew_
                     (first | rw [← Ny489.out] at ho60 | (simp only [Int.reduceToNat] at ho60; rw [← Ny489.out] at ho60))
                     have n0_ := Aside0.mk (Kd.qiA (by (with_reducible repeat (first | apply Kd.qF | apply Kd.qE | apply Kd.qG)); exact HO_9.out) (Kd.qHB ho60) hb)
                     have n1_ := Aside0.mk (Kd.qU (by (with_reducible repeat (first | apply Kd.qF | apply Kd.qE | apply Kd.qG)); exact HO_10.out) hb)
                     have n2_ := Aside0.mk (Kd.qU (by (with_reducible repeat (first | apply Kd.qF | apply Kd.qE | apply Kd.qG)); exact HO_19.out) hb)
                     have n3_ := Aside0.mk (Kd.qU (by (with_reducible repeat (first | apply Kd.qF | apply Kd.qE | apply Kd.qG)); exact HO498.out) hb)
                     have n4_ := Aside0.mk (Kd.qEA (Kd.qXB (Kd.qXB (Kd.qGB ho60 (Kd.R_lt (by (with_reducible repeat (first | apply Kd.qF | apply Kd.qE | apply Kd.qG)); exact HO_9.out))) (g := gb471) (o := .cells #[.int .i64 a1_0, .int .i64 a1_1, .int .i64 a1_2] 27 (0, 0)) (by (with_reducible repeat (first | refine qB ?_ _ | refine qC ?_ | refine qA ?_ _)); exact BK471.out)) (g := gb487) (o := .cells #[.int .i64 t483, .int .i64 t484, .int .i64 t485] 27 (0, 0)) (by (with_reducible repeat (first | refine qB ?_ _ | refine qC ?_ | refine qA ?_ _)); exact BK487.out)) (qh bl))
                     have n5_ := Aside0.mk (bb BK471 hb)
                     have n6_ := Aside0.mk (bb BK487 hb)
                     have n7_ := Aside0.mk (qH bl hb)
                     clear HO_9
                     clear HO_10
                     clear HO_19
                     clear HO498
                     clear BK471
                     clear BK487
                     clear HB
                     have HO_9 := n0_
                     have HO_10 := n1_
                     have HO_19 := n2_
                     have HO498 := n3_
                     have HO491 := n4_
                     have BK471 := n5_
                     have BK487 := n6_
                     have HB := n7_
                     clear n0_ n1_ n2_ n3_ n4_ n5_ n6_ n7_
                     clear hb ho60
                     obtain ⟨Ao62, co62, eo62⟩ := Kd.qm HO491.out
                     (first | subst eo62 | (injection eo62 with f1_ f2_ f3_; have f4_ := f1_.symm; have f5_ := f3_.symm; clear f1_ f2_ f3_; subst f4_; subst f5_))
                     refine hK.out _ _ ⟨(qJ BK487.out 0).trans rfl, (qJ BK487.out 1).trans rfl, (qJ BK487.out 2).trans rfl, HS3_⟩ (fun hHeld => ?_)
                     clear hK K
                     refine norm_ (a' := ?_) ?_ ?_
                     rotate_left
                     ·show Act.put _ (some 55) _ = _
                      simp only [Act.put, List.setIfInBounds_toArray, List.set_cons_zero, List.set_cons_succ, i64_w, i32_w]
                      rfl
                     refine one_ (i := 3) (N := some 56) #[true, true, true, true, true, true, true, true, true, true, true, true, true, true, true, false, false, false] rfl rfl (qPA HT_.out (by kernel_rfl)) (by decide) (fun K hK => ?_)
                     refine qrA k27 (w0 := w) w.heap.size (by rfl) (.tmp 53) (.tmp 55) 50 27 (.agg #[(.int .i64 0), (.int .i64 0), (.int .i64 0)]) 24 rfl Tryd.underlying50 info27 rfl (by decide) (by omega) (.slice (some ad482) x9_2.length co45) x9_2 y489 _ _ _ (fun k_ => some k_ ≠ (.slice Ao62 y489.length co62 : Value).ownBlock ∧ k_ ≠ gb471 ∧ k_ ≠ gb487) (fun _ => False) rfl rfl ?aO ?aR (fun _ _ h => h) (fun _ h => h.elim) ?aF ?aB ?aS ?aL ?_
                     (case aR => repeat (first | exact (Kd.qS HO491.out).2.2 | (with_reducible refine Kd.qx ?_ _) | (with_reducible refine Kd.qw ?_ _) | (with_reducible refine Kd.qLA ?_)))
                     (case aB => exact bl)
                     (case aF => exact (fun k_ hk => ⟨Kd.fresh' (Kd.R_lt (by (with_reducible repeat (first | apply Kd.qF | apply Kd.qE | apply Kd.qG)); exact HO491.out)) k_ hk, Kd.freshB (g := gb471) (o := .cells #[.int .i64 a1_0, .int .i64 a1_1, .int .i64 a1_2] 27 (0, 0)) (by (with_reducible repeat (first | refine qB ?_ _ | refine qC ?_ | refine qA ?_ _)); exact BK471.out) k_ hk, Kd.freshB (g := gb487) (o := .cells #[.int .i64 t483, .int .i64 t484, .int .i64 t485] 27 (0, 0)) (by (with_reducible repeat (first | refine qB ?_ _ | refine qC ?_ | refine qA ?_ _)); exact BK487.out) k_ hk⟩))
                     (case aO => exact (by (with_reducible repeat (first | apply Kd.qF | apply Kd.qE | apply Kd.qG)); exact Kd.qg HO_9.out (fun _ hk => ⟨hk.2, ⟨hk.1.1, hk.1.2⟩⟩)))
                     (case aS => exact (qh bl))
                     (case aL => have := LMc36.out; omega)
                     intro v493 w61 ho hb hg hat hkp_
                     have HS3_ := hkp_ _ _ (hHeld.2.2.2) (fun e_ => absurd e_ hnr495_HO_9.out)
                     clear hkp_
                     rw [← Ny492.out] at ho
                     have n0_ := Aside0.mk (Kd.quA (by (with_reducible repeat (first | apply Kd.qF | apply Kd.qE | apply Kd.qG)); exact HO_10.out) (Kd.qoA (by (with_reducible repeat (first | apply Kd.qF | apply Kd.qE | apply Kd.qG)); exact HO_9.out)) (by decide) hg)
                     have n1_ := Aside0.mk (Kd.quA (by (with_reducible repeat (first | apply Kd.qF | apply Kd.qE | apply Kd.qG)); exact HO_19.out) (Kd.qoA (by (with_reducible repeat (first | apply Kd.qF | apply Kd.qE | apply Kd.qG)); exact HO_9.out)) (by decide) hg)
                     have n2_ := Aside0.mk (qv (g := gb471) (o := .cells #[.int .i64 a1_0, .int .i64 a1_1, .int .i64 a1_2] 27 (0, 0)) (by (with_reducible repeat (first | refine qB ?_ _ | refine qC ?_ | refine qA ?_ _)); exact BK471.out) hg (Kd.qW HO_9.out (fun _ hk => hk.1.1)))
                     have n3_ := Aside0.mk (qv (g := gb487) (o := .cells #[.int .i64 t483, .int .i64 t484, .int .i64 t485] 27 (0, 0)) (by (with_reducible repeat (first | refine qB ?_ _ | refine qC ?_ | refine qA ?_ _)); exact BK487.out) hg (Kd.qW HO_9.out (fun _ hk => hk.1.2)))
                     have n4_ := Aside0.mk (Kd.quA (by (with_reducible repeat (first | apply Kd.qF | apply Kd.qE | apply Kd.qG)); exact HO498.out) (Kd.qoA (by (with_reducible repeat (first | apply Kd.qF | apply Kd.qE | apply Kd.qG)); exact HO_9.out)) (by decide) hg)
                     have n5_ := Aside0.mk (Kd.qkA (ok := (fun k_ => k_ ≠ gb471 ∧ k_ ≠ gb487)) (by (with_reducible repeat (first | apply Kd.qF | apply Kd.qE | apply Kd.qG)); exact Kd.qg HO491.out (fun _ hk => ⟨⟨hk.1.2, hk.2⟩, hk.1.1.2⟩)) hg hat)
                     have n6_ := Aside0.mk (hb)
                     have n7_ := Aside0.mk (ho)
                     clear HO_10
                     clear HO_19
                     clear BK471
                     clear BK487
                     clear HO498
                     clear HO491
                     clear HB
                     clear HO_9
                     have HO_10 := n0_
                     have HO_19 := n1_
                     have BK471 := n2_
                     have BK487 := n3_
                     have HO498 := n4_
                     have HO491 := n5_
                     have HB := n6_
                     have HO494 := n7_
                     clear n0_ n1_ n2_ n3_ n4_ n5_ n6_ n7_
                     clear ho hb hg hat
                     refine hK.out _ _ ⟨(qJ BK487.out 0).trans rfl, (qJ BK487.out 1).trans rfl, (qJ BK487.out 2).trans rfl, HS3_⟩ (fun hHeld => ?_)
                     clear hK K
                     refine norm_ (a' := ?_) ?_ ?_
                     rotate_left
                     ·show Act.put _ (some 56) _ = _
                      simp only [Act.put, List.setIfInBounds_toArray, List.set_cons_zero, List.set_cons_succ, i64_w, i32_w]
                      rfl
                     exact norm_ (by simp only [putAll, Act.put, List.setIfInBounds_toArray, List.set_cons_zero, List.set_cons_succ]) (hCont (.slice Ao62 y489.length co62, v493, v497) _ ⟨hHeld, (by (with_reducible repeat (first | apply Kd.qF | apply Kd.qE | apply Kd.qG)); exact Kd.qg HO491.out (fun _ hk => ⟨hk.2, ⟨hk.1.1, hk.1.2⟩⟩)), (by (with_reducible repeat (first | apply Kd.qF | apply Kd.qE | apply Kd.qG)); exact HO494.out), (by (with_reducible repeat (first | apply Kd.qF | apply Kd.qE | apply Kd.qG)); exact Kd.qg HO498.out (fun _ hk => ⟨hk.1.2, hk.2⟩)), (by (with_reducible repeat (first | apply Kd.qF | apply Kd.qE | apply Kd.qG)); exact Kd.qg HO_10.out (fun _ hk => ⟨hk.2, hk.1⟩)), (by (with_reducible repeat (first | apply Kd.qF | apply Kd.qE | apply Kd.qG)); exact Kd.qg HO_19.out (fun _ hk => ⟨hk.2, hk.1⟩)), (by (with_reducible repeat (first | refine qB ?_ _ | refine qC ?_ | refine qA ?_ _)); exact BK471.out), (by (with_reducible repeat (first | refine qB ?_ _ | refine qC ?_ | refine qA ?_ _)); exact BK487.out), bl⟩)
                   rintro ⟨v490, v493, v497⟩ w63 ⟨hS_, h0_, h1_, h2_, h3_, h4_, h5_, h6_, h7_⟩
                   have n0_ : Aside0 (Kd.R k27 27 w63 w.heap.size (fun k_ => some k_ ≠ (v493 : Value).ownBlock ∧ k_ ≠ gb471 ∧ k_ ≠ gb487) v490 y489) := ⟨h0_⟩
                   have n1_ : Aside0 (Kd.R k27 27 w63 w.heap.size (fun k_ => some k_ ≠ (v490 : Value).ownBlock ∧ k_ ≠ gb471 ∧ k_ ≠ gb487) v493 y492) := ⟨h1_⟩
                   have n2_ : Aside0 (Kd.R Kd.string 9 w63 w.heap.size (fun k_ => some k_ ≠ (.slice (some ad495) x10_2.length co55 : Value).ownBlock ∧ some k_ ≠ (.slice Ao43 t472.length co43 : Value).ownBlock) v497 y496) := ⟨h2_⟩
                   have n3_ : Aside0 (Kd.R Kd.string 9 w63 w.heap.size (fun k_ => some k_ ≠ (v497 : Value).ownBlock ∧ some k_ ≠ (.slice Ao43 t472.length co43 : Value).ownBlock) (.slice (some ad495) x10_2.length co55) x10_2) := ⟨h3_⟩
                   have n4_ : Aside0 (Kd.R Kd.string 9 w63 w.heap.size (fun k_ => some k_ ≠ (v497 : Value).ownBlock ∧ some k_ ≠ (.slice (some ad495) x10_2.length co55 : Value).ownBlock) (.slice Ao43 t472.length co43) t472) := ⟨h4_⟩
                   have n5_ : Aside0 (w63.heap[gb471]? = some (.cells #[.int .i64 a1_0, .int .i64 a1_1, .int .i64 a1_2] 27 (0, 0))) := ⟨h5_⟩
                   have n6_ : Aside0 (w63.heap[gb487]? = some (.cells #[.int .i64 t483, .int .i64 t484, .int .i64 t485] 27 (0, 0))) := ⟨h6_⟩
                   have n7_ : Aside0 (Below w.heap.size w w63) := ⟨h7_⟩
                   clear HO_9
                   clear HO_10
                   clear HO_19
                   clear BK471
                   clear BK487
                   clear HB
                   clear h0_ h1_ h2_ h3_ h4_ h5_ h6_ h7_
                   have HO491 := n0_
                   have HO494 := n1_
                   have HO498 := n2_
                   have HO_10 := n3_
                   have HO_19 := n4_
                   have BK471 := n5_
                   have BK487 := n6_
                   have HB := n7_
                   clear n0_ n1_ n2_ n3_ n4_ n5_ n6_ n7_
                   have hHeld : w63.cell? ⟨gb487, 0, none⟩ = some (.int .i64 t483) ∧ w63.cell? ⟨gb487, 1, none⟩ = some (.int .i64 t484) ∧ w63.cell? ⟨gb487, 2, none⟩ = some (.int .i64 t485) ∧ w63.cell? (ad495.add (x11_1).toNat) = some (.string (rdOf ByteArray.empty x10_2 x11_1)) := hS_
                   obtain ⟨Ao65, co65, eo65⟩ := Kd.qm HO498.out
                   (first | subst eo65 | (injection eo65 with f1_ f2_ f3_; have f4_ := f1_.symm; have f5_ := f3_.symm; clear f1_ f2_ f3_; subst f4_; subst f5_))
                   refine norm_ (a' := ?_) ?_ ?_
                   rotate_left
                   ·simp only [putAll, Act.put, List.setIfInBounds_toArray, List.set_cons_zero, List.set_cons_succ]
                    rfl
                   refine one_ (i := 15) (N := some 68) #[true, true, true, true, true, true, true, true, true, true, true, true, true, true, true, true, false, false] rfl rfl (qPA HT_.out (by kernel_rfl)) (by decide) (fun K hK => ?_)
                   refine qrA Kd.string (w0 := w) w.heap.size (by rfl) (.tmp 57) (.tmp 67) 60 9 (.string ⟨#[]⟩) 16 rfl Tryd.underlying60 info9 rfl (by decide) (by omega) (.slice (some ad495) x10_2.length co55) x10_2 y496 _ _ _ (fun k_ => some k_ ≠ (.slice Ao43 t472.length co43 : Value).ownBlock ∧ some k_ ≠ (.slice Ao65 y496.length co65 : Value).ownBlock) (fun _ => False) rfl rfl ?aO ?aR (fun _ _ h => h) (fun _ h => h.elim) ?aF ?aB ?aS ?aL ?_
                   (case aR => repeat (first | exact (Kd.qS HO498.out).2.2 | (with_reducible refine Kd.qx ?_ _) | (with_reducible refine Kd.qw ?_ _) | (with_reducible refine Kd.qLA ?_)))
                   (case aB => exact bl)
                   (case aF => exact (fun k_ hk => ⟨Kd.fresh' (Kd.R_lt (by (with_reducible repeat (first | apply Kd.qF | apply Kd.qE | apply Kd.qG)); exact HO_19.out)) k_ hk, Kd.fresh' (Kd.R_lt (by (with_reducible repeat (first | apply Kd.qF | apply Kd.qE | apply Kd.qG)); exact HO498.out)) k_ hk⟩))
                   (case aO => exact (by (with_reducible repeat (first | apply Kd.qF | apply Kd.qE | apply Kd.qG)); exact Kd.qg HO_10.out (fun _ hk => ⟨hk.2, hk.1⟩)))
                   (case aS => exact (qh bl))
                   (case aL => have := LMc42.out; omega)
                   intro v500 w64 ho hb hg hat hkp_
                   have HS3_ := hkp_ _ _ (hHeld.2.2.2) (fun _ => hof495.out)
                   clear hkp_
                   rw [← Ny499.out] at ho
                   have n0_ := Aside0.mk (Kd.qkA (ok := (fun k_ => some k_ ≠ (.slice Ao65 y496.length co65 : Value).ownBlock)) (by (with_reducible repeat (first | apply Kd.qF | apply Kd.qE | apply Kd.qG)); exact HO_19.out) hg hat)
                   have n1_ := Aside0.mk (qv (g := gb471) (o := .cells #[.int .i64 a1_0, .int .i64 a1_1, .int .i64 a1_2] 27 (0, 0)) (by (with_reducible repeat (first | refine qB ?_ _ | refine qC ?_ | refine qA ?_ _)); exact BK471.out) hg (Kd.R_ne HO_10.out BK471.out (by decide)))
                   have n2_ := Aside0.mk (qv (g := gb487) (o := .cells #[.int .i64 t483, .int .i64 t484, .int .i64 t485] 27 (0, 0)) (by (with_reducible repeat (first | refine qB ?_ _ | refine qC ?_ | refine qA ?_ _)); exact BK487.out) hg (Kd.R_ne HO_10.out BK487.out (by decide)))
                   have n3_ := Aside0.mk (Kd.quA (by (with_reducible repeat (first | apply Kd.qF | apply Kd.qE | apply Kd.qG)); exact HO491.out) (Kd.qoA (by (with_reducible repeat (first | apply Kd.qF | apply Kd.qE | apply Kd.qG)); exact HO_10.out)) (by decide) hg)
                   have n4_ := Aside0.mk (Kd.quA (by (with_reducible repeat (first | apply Kd.qF | apply Kd.qE | apply Kd.qG)); exact HO494.out) (Kd.qoA (by (with_reducible repeat (first | apply Kd.qF | apply Kd.qE | apply Kd.qG)); exact HO_10.out)) (by decide) hg)
                   have n5_ := Aside0.mk (Kd.qkA (ok := (fun k_ => some k_ ≠ (.slice Ao43 t472.length co43 : Value).ownBlock)) (by (with_reducible repeat (first | apply Kd.qF | apply Kd.qE | apply Kd.qG)); exact Kd.qg HO498.out (fun _ hk => ⟨hk.2, hk.1⟩)) hg hat)
                   have n6_ := Aside0.mk (hb)
                   have n7_ := Aside0.mk (ho)
                   clear HO_19
                   clear BK471
                   clear BK487
                   clear HO491
                   clear HO494
                   clear HO498
                   clear HB
                   clear HO_10
                   have HO_19 := n0_
                   have BK471 := n1_
                   have BK487 := n2_
                   have HO491 := n3_
                   have HO494 := n4_
                   have HO498 := n5_
                   have HB := n6_
                   have HO501 := n7_
                   clear n0_ n1_ n2_ n3_ n4_ n5_ n6_ n7_
                   clear ho hb hg hat
                   refine hK.out _ _ ⟨(qJ BK487.out 0).trans rfl, (qJ BK487.out 1).trans rfl, (qJ BK487.out 2).trans rfl, HS3_⟩ (fun hHeld => ?_)
                   clear hK K
                   refine norm_ (a' := ?_) ?_ ?_
                   rotate_left
                   ·show Act.put _ (some 68) _ = _
                    simp only [Act.put, List.setIfInBounds_toArray, List.set_cons_zero, List.set_cons_succ, i64_w, i32_w]
                    rfl
                   refine pS (i := 16) (N := some 9) #[true, true, true, true, true, true, true, true, true, true, true, true, true, true, true, true, true, false] HT_ ?_
                   refine pS (i := 17) (N := some 10) #[true, true, true, true, true, true, true, true, true, true, true, true, true, true, true, true, true, true] HT_ ?_
                   refine done_ (qqA HT_.out (by kernel_rfl)) ?_
                   try go_wp2
                   go_roundg k2
                   case measure => have := HK1.out; have := HK2.out; omega
                   case rel => exact ⟨(y492), (y499), (wrap64 (x32_2 + 1)), (by first | rfl | (simp; done) | (simp [*]; done)), H', ⟨by have := HK1.out; have := HK2.out; omega⟩, ⟨by (with_reducible repeat (first | apply Kd.qF | apply Kd.qE | apply Kd.qG)); exact Kd.qg HO494.out (fun _ hk => hk.2.1)⟩, ⟨by (with_reducible repeat (first | apply Kd.qF | apply Kd.qE | apply Kd.qG)); exact Kd.qg HO501.out (fun _ hk => hk.1)⟩, ⟨by (with_reducible repeat (first | apply Kd.qF | apply Kd.qE | apply Kd.qG)); exact Kd.qg HO_19.out (fun _ hk => hk.2)⟩, ⟨by (with_reducible repeat (first | refine qB ?_ _ | refine qC ?_ | refine qA ?_ _)); exact BK471.out⟩, ⟨bl⟩⟩
                  ·rw [if_neg c42] at H
                   exact absurd H (by simp)
                 ·rw [if_neg c41] at H
                  exact absurd H (by simp)
                ·rw [if_neg c40] at H
                 exact absurd H (by simp)
               ·rw [if_neg c39] at H
                exact absurd H (by simp)
              ·rw [if_neg c37] at H
               exact absurd H (by simp)
             ·rw [if_neg c36] at H
              exact absurd H (by simp)
           ·replace c21 := Bool.eq_false_iff.mpr c21
            subst c21
            have H1 : (qQ.l1 k2 x9_2 x10_2 x11_1 t472 (wrap64 (x32_2 + 1))) = some (r1, r2, r3) := by rw [if_neg (show ¬ (false = true) by decide)] at H; exact H
            clear H
            have H := H1
            clear H1
            have H' := Aside0.mk H
            clear H
            obtain ⟨Ao66, co66, eo66⟩ := Kd.qm HO_19.out
            subst eo66
            try go_wp2
            have n0_ := Aside0.mk (Kd.qG HO_9.out)
            have n1_ := Aside0.mk (Kd.qG HO_10.out)
            have n2_ := Aside0.mk (Kd.qG HO_19.out)
            have n3_ := Aside0.mk (qC BK471.out)
            have n4_ := Aside0.mk (qk HB.out)
            clear HO_9
            clear HO_10
            clear HO_19
            clear BK471
            clear HB
            have HO_9 := n0_
            have HO_10 := n1_
            have HO_19 := n2_
            have BK471 := n3_
            have HB := n4_
            clear n0_ n1_ n2_ n3_ n4_
            obtain ⟨Ao68, co68, eo68⟩ := Kd.qm HO_9.out
            (first | subst eo68 | (injection eo68 with f1_ f2_ f3_; have f4_ := f1_.symm; have f5_ := f3_.symm; clear f1_ f2_ f3_; subst f4_; subst f5_))
            have p482 : 0 ≤ (x11_1 : Int) := of_decide_eq_true (by first | (with_reducible assumption) | assumption)
            have q482 : x11_1 < (x9_2.length : Int) := of_decide_eq_true (by first | (with_reducible assumption) | assumption)
            obtain ⟨ad482, e482, hx482_0, hx482_1, hx482_2⟩ := qIB (Kd.qS HO_9.out).2.2 x11_1 p482 q482
            cases e482
            replace p482 := eq_true p482
            replace q482 := eq_true q482
            have p19 : 0 ≤ (x32_2 : Int) := of_decide_eq_true (by first | (with_reducible assumption) | assumption)
            have q19 : x32_2 < (4 : Int) := of_decide_eq_true (by first | (with_reducible assumption) | assumption)
            have hx19 := bt_at (⟨#[110, 101, 115, 119]⟩ : ByteArray) x32_2
            replace p19 := eq_true p19
            replace q19 := eq_true q19
            refine qyA (n := 14) (S := fun w' => w'.cell? (ad482.add ((x11_1).toNat * 3)) = some (.int .i64 ((qI x9_2 x11_1).f0)) ∧ w'.cell? ⟨(ad482.add ((x11_1).toNat * 3)).block, (ad482.add ((x11_1).toNat * 3)).off + 1, none⟩ = some (.int .i64 ((qI x9_2 x11_1).f1)) ∧ w'.cell? ⟨(ad482.add ((x11_1).toNat * 3)).block, (ad482.add ((x11_1).toNat * 3)).off + 2, none⟩ = some (.int .i64 ((qI x9_2 x11_1).f2))) (ds := []) #[false, false, false, false, false, false, false, false, false, false, false, false, false, false] (by kernel_rfl) rfl rfl ⟨hx482_0, hx482_1, hx482_2⟩ (fun hHeld => ?_); refine qWA qQ.tab11 qQ.bits11 (fun HT_ HW_ => ?_)
            generalize wr.drew = w67 at HO_9 HO_10 HO_19 BK471 HB hx482_0 hx482_1 hx482_2 hHeld ⊢
            refine pS (i := 0) (N := some 36) #[true, false, false, false, false, false, false, false, false, false, false, false, false, false] HT_ ?_
            refine pS (i := 1) (N := some 37) #[true, true, false, false, false, false, false, false, false, false, false, false, false, false] HT_ ?_
            refine pS (i := 2) (N := some 38) #[true, true, true, false, false, false, false, false, false, false, false, false, false, false] HT_ ?_
            refine pS (i := 3) (N := some 39) #[true, true, true, true, false, false, false, false, false, false, false, false, false, false] HT_ ?_
            refine pS (i := 5) (N := some 41) #[true, true, true, true, false, true, false, false, false, false, false, false, false, false] HT_ ?_
            refine tS (i := 4) (N := some 40) #[true, true, true, true, true, true, false, false, false, false, false, false, false, false] HT_ HW_ hHeld ?_
            refine tS (i := 6) (N := some 42) #[true, true, true, true, true, true, true, false, false, false, false, false, false, false] HT_ HW_ hHeld ?_
            refine join_ (σ := Nat) 2 #[true, true, true, true, true, true, true, true, true, true, true, true, false, false] (fun s_ => [(43, .tuple #[.agg #[.int .i64 t483, .int .i64 t484, .int .i64 t485], .bool false]), (13, .pointer (some ⟨s_, 0, none⟩)), (35, .tuple #[.agg #[.int .i64 t483, .int .i64 t484, .int .i64 t485], .bool false]), (44, .agg #[.int .i64 t483, .int .i64 t484, .int .i64 t485]), (45, .bool false)]) (fun s_ w' => (w'.cell? (ad482.add ((x11_1).toNat * 3)) = some (.int .i64 ((qI x9_2 x11_1).f0)) ∧ w'.cell? ⟨(ad482.add ((x11_1).toNat * 3)).block, (ad482.add ((x11_1).toNat * 3)).off + 1, none⟩ = some (.int .i64 ((qI x9_2 x11_1).f1)) ∧ w'.cell? ⟨(ad482.add ((x11_1).toNat * 3)).block, (ad482.add ((x11_1).toNat * 3)).off + 2, none⟩ = some (.int .i64 ((qI x9_2 x11_1).f2))) ∧ (Kd.R Kd.string 9 w' w.heap.size (fun k_ => some k_ ≠ (.slice Ao66 t472.length co66 : Value).ownBlock) u10 x10_2) ∧ (Kd.R Kd.string 9 w' w.heap.size (fun k_ => some k_ ≠ (u10 : Value).ownBlock) (.slice Ao66 t472.length co66) t472) ∧ (Kd.R k27 27 w' w.heap.size (fun k_ => k_ ≠ gb471 ∧ k_ ≠ s_) (.slice (some ad482) x9_2.length co68) x9_2) ∧ (w'.heap[gb471]? = some (.cells #[.int .i64 a1_0, .int .i64 a1_1, .int .i64 a1_2] 27 (0, 0))) ∧ (w'.heap[s_]? = some (.cells #[.int .i64 0, .int .i64 0, .int .i64 0] 27 (0, 0))) ∧ (w.heap.size ≤ s_) ∧ (w.heap.size ≤ s_) ∧ (gb471 ≠ s_) ∧ (s_ ≠ gb471) ∧ (Below w.heap.size w w')) ?_ ?_
            rotate_left
            ·intro hCont
             refine two_ (i := 7) (j := 11) (Ni := some 43) (Nj := some 13) #[true, true, true, true, true, true, true, true, false, false, false, false, false, false] #[true, true, true, true, true, true, true, false, false, false, false, true, false, false] rfl rfl rfl rfl (qxB HT_.out (by kernel_rfl)) (by decide) (by decide) (fun K hK => ?_) (fun K hK => ?_)
             ·skip
              refine goes_ Tryd.func62 (by kernel_rfl) rfl #[.slice Ao66 t472.length co66, .agg #[.int .i64 ((qI x9_2 x11_1).f0), .int .i64 ((qI x9_2 x11_1).f1), .int .i64 ((qI x9_2 x11_1).f2)], .int .u8 (bt (⟨#[110, 101, 115, 119]⟩ : ByteArray) x32_2)] (by rfl) rfl rfl (by (try simp only [List.map_toArray, List.map_cons, List.map_nil]); first | done | rfl | (simp only [List.length_drop, List.length_take]; rfl)) ?_
              with_reducible refine (qNA.calls k2 _ _ t472 ((qI x9_2 x11_1).f0) ((qI x9_2 x11_1).f1) ((qI x9_2 x11_1).f2) (bt (⟨#[110, 101, 115, 119]⟩ : ByteArray) x32_2) t483 t484 t485 false _ ?side1 ?side2 A20.out).mono ?_
              (case side1 => repeat (first | exact (Kd.qS HO_19.out).2.2 | (with_reducible refine Kd.qx ?_ _) | (with_reducible refine Kd.qw ?_ _) | (with_reducible refine Kd.qLA ?_)))
              (case side2 => exact (Kd.qS HO_19.out).2.1)
              rintro e w69 ⟨rfl, hb⟩
              have HS0_ := (hb.cell (World.block_lt_of_cell? _ _ (hHeld.1))).trans (hHeld.1)
              have HS1_ := (hb.cell (World.block_lt_of_cell? _ _ (hHeld.2.1))).trans (hHeld.2.1)
              have HS2_ := (hb.cell (World.block_lt_of_cell? _ _ (hHeld.2.2))).trans (hHeld.2.2)
              refine ⟨_, rfl, ?_⟩
              have n0_ := Aside0.mk (Kd.qU (by (with_reducible repeat (first | apply Kd.qF | apply Kd.qE | apply Kd.qG)); exact HO_9.out) hb)
              have n1_ := Aside0.mk (Kd.qU (by (with_reducible repeat (first | apply Kd.qF | apply Kd.qE | apply Kd.qG)); exact HO_10.out) hb)
              have n2_ := Aside0.mk (Kd.qU (by (with_reducible repeat (first | apply Kd.qF | apply Kd.qE | apply Kd.qG)); exact HO_19.out) hb)
              have n3_ := Aside0.mk (bb BK471 hb)
              have n4_ := Aside0.mk (qH bl hb)
              clear HO_9
              clear HO_10
              clear HO_19
              clear BK471
              clear HB
              have HO_9 := n0_
              have HO_10 := n1_
              have HO_19 := n2_
              have BK471 := n3_
              have HB := n4_
              clear n0_ n1_ n2_ n3_ n4_
              (try clear hb)
              (try clear hb2)
              (try clear hk)
              (try clear hi)
              refine hK.out _ _ ⟨HS0_, HS1_, HS2_⟩ (fun hHeld => ?_)
              clear hK K
              refine norm_ (a' := ?_) ?_ ?_
              rotate_left
              ·show Act.put _ (some 43) _ = _
               simp only [Act.put, List.setIfInBounds_toArray, List.set_cons_zero, List.set_cons_succ, i64_w, i32_w]
               rfl
              refine pS (i := 8) (N := some 35) #[true, true, true, true, true, true, true, true, true, false, false, false, false, false] HT_ ?_
              refine pS (i := 9) (N := some 44) #[true, true, true, true, true, true, true, true, true, true, false, false, false, false] HT_ ?_
              refine pS (i := 10) (N := some 45) #[true, true, true, true, true, true, true, true, true, true, true, false, false, false] HT_ ?_
              refine one_ (i := 11) (N := some 13) #[true, true, true, true, true, true, true, true, true, true, true, true, false, false] rfl rfl (qPA HT_.out (by kernel_rfl)) (by decide) (fun K hK => ?_)
              refine qDB ?hg (N := 13) ?hd (cs := #[.int .i64 0, .int .i64 0, .int .i64 0]) (t := 27) ?hr ?_; (case hd => rfl); (case hg => rfl); (case hr => first | (go_simp; done) | (go_simp; rfl))
              intro gb487 hg w70 hbox hb
              have HS0_ := (hb.cell (World.block_lt_of_cell? _ _ (hHeld.1))).trans (hHeld.1)
              have HS1_ := (hb.cell (World.block_lt_of_cell? _ _ (hHeld.2.1))).trans (hHeld.2.1)
              have HS2_ := (hb.cell (World.block_lt_of_cell? _ _ (hHeld.2.2))).trans (hHeld.2.2)
              have n0_ := Aside0.mk (Kd.qU (Kd.qdA (by (with_reducible repeat (first | apply Kd.qF | apply Kd.qE | apply Kd.qG)); exact HO_9.out) gb487 (Nat.le_of_eq hg.symm)) hb)
              have n1_ := Aside0.mk (Kd.qU (by (with_reducible repeat (first | apply Kd.qF | apply Kd.qE | apply Kd.qG)); exact HO_10.out) hb)
              have n2_ := Aside0.mk (Kd.qU (by (with_reducible repeat (first | apply Kd.qF | apply Kd.qE | apply Kd.qG)); exact HO_19.out) hb)
              have n3_ := Aside0.mk (bb BK471 hb)
              have n4_ := Aside0.mk (qH bl hb)
              have n5_ := Aside0.mk (hbox)
              have n6_ := Aside0.mk ((gg hg))
              have n7_ := Aside0.mk ((gg hg))
              have n8_ := Aside0.mk ((nl BK471 hg))
              have n9_ := Aside0.mk ((nr BK471 hg))
              clear HO_9
              clear HO_10
              clear HO_19
              clear BK471
              clear HB
              have HO_9 := n0_
              have HO_10 := n1_
              have HO_19 := n2_
              have BK471 := n3_
              have HB := n4_
              have BK487 := n5_
              have GW487 := n6_
              have GE487 := n7_
              have NB471_487 := n8_
              have NB487_471 := n9_
              clear n0_ n1_ n2_ n3_ n4_ n5_ n6_ n7_ n8_ n9_
              clear hb hbox hg
              refine hK.out _ _ ⟨HS0_, HS1_, HS2_⟩ (fun hHeld => ?_)
              clear hK K
              refine norm_ (a' := ?_) ?_ ?_
              rotate_left
              ·show Act.put _ (some 13) _ = _
               simp only [Act.put, List.setIfInBounds_toArray, List.set_cons_zero, List.set_cons_succ, i64_w, i32_w]
               rfl
              exact norm_ (by simp only [putAll, Act.put, List.setIfInBounds_toArray, List.set_cons_zero, List.set_cons_succ]) (hCont (gb487) _ ⟨hHeld, (by (with_reducible repeat (first | apply Kd.qF | apply Kd.qE | apply Kd.qG)); exact HO_10.out), (by (with_reducible repeat (first | apply Kd.qF | apply Kd.qE | apply Kd.qG)); exact HO_19.out), (by (with_reducible repeat (first | apply Kd.qF | apply Kd.qE | apply Kd.qG)); exact HO_9.out), (by (with_reducible repeat (first | refine qB ?_ _ | refine qC ?_ | refine qA ?_ _)); exact BK471.out), (by (with_reducible repeat (first | refine qB ?_ _ | refine qC ?_ | refine qA ?_ _)); exact BK487.out), GW487.out, GE487.out, NB471_487.out, NB487_471.out, bl⟩)
             ·skip
              refine qDB ?hg (N := 13) ?hd (cs := #[.int .i64 0, .int .i64 0, .int .i64 0]) (t := 27) ?hr ?_; (case hd => rfl); (case hg => rfl); (case hr => first | (go_simp; done) | (go_simp; rfl))
              intro gb487 hg w69 hbox hb
              have HS0_ := (hb.cell (World.block_lt_of_cell? _ _ (hHeld.1))).trans (hHeld.1)
              have HS1_ := (hb.cell (World.block_lt_of_cell? _ _ (hHeld.2.1))).trans (hHeld.2.1)
              have HS2_ := (hb.cell (World.block_lt_of_cell? _ _ (hHeld.2.2))).trans (hHeld.2.2)
              have n0_ := Aside0.mk (Kd.qU (Kd.qdA (by (with_reducible repeat (first | apply Kd.qF | apply Kd.qE | apply Kd.qG)); exact HO_9.out) gb487 (Nat.le_of_eq hg.symm)) hb)
              have n1_ := Aside0.mk (Kd.qU (by (with_reducible repeat (first | apply Kd.qF | apply Kd.qE | apply Kd.qG)); exact HO_10.out) hb)
              have n2_ := Aside0.mk (Kd.qU (by (with_reducible repeat (first | apply Kd.qF | apply Kd.qE | apply Kd.qG)); exact HO_19.out) hb)
              have n3_ := Aside0.mk (bb BK471 hb)
              have n4_ := Aside0.mk (qH bl hb)
              have n5_ := Aside0.mk (hbox)
              have n6_ := Aside0.mk ((gg hg))
              have n7_ := Aside0.mk ((gg hg))
              have n8_ := Aside0.mk ((nl BK471 hg))
              have n9_ := Aside0.mk ((nr BK471 hg))
              clear HO_9
              clear HO_10
              clear HO_19
              clear BK471
              clear HB
              have HO_9 := n0_
              have HO_10 := n1_
              have HO_19 := n2_
              have BK471 := n3_
              have HB := n4_
              have BK487 := n5_
              have GW487 := n6_
              have GE487 := n7_
              have NB471_487 := n8_
              have NB487_471 := n9_
              clear n0_ n1_ n2_ n3_ n4_ n5_ n6_ n7_ n8_ n9_
              clear hb hbox hg
              refine hK.out _ _ ⟨HS0_, HS1_, HS2_⟩ (fun hHeld => ?_)
              clear hK K
              refine norm_ (a' := ?_) ?_ ?_
              rotate_left
              ·show Act.put _ (some 13) _ = _
               simp only [Act.put, List.setIfInBounds_toArray, List.set_cons_zero, List.set_cons_succ, i64_w, i32_w]
               rfl
              refine one_ (i := 7) (N := some 43) #[true, true, true, true, true, true, true, true, false, false, false, true, false, false] rfl rfl (qPA HT_.out (by kernel_rfl)) (by decide) (fun K hK => ?_)
              refine goes_ Tryd.func62 (by kernel_rfl) rfl #[.slice Ao66 t472.length co66, .agg #[.int .i64 ((qI x9_2 x11_1).f0), .int .i64 ((qI x9_2 x11_1).f1), .int .i64 ((qI x9_2 x11_1).f2)], .int .u8 (bt (⟨#[110, 101, 115, 119]⟩ : ByteArray) x32_2)] (by rfl) rfl rfl (by (try simp only [List.map_toArray, List.map_cons, List.map_nil]); first | done | rfl | (simp only [List.length_drop, List.length_take]; rfl)) ?_
              with_reducible refine (qNA.calls k2 _ _ t472 ((qI x9_2 x11_1).f0) ((qI x9_2 x11_1).f1) ((qI x9_2 x11_1).f2) (bt (⟨#[110, 101, 115, 119]⟩ : ByteArray) x32_2) t483 t484 t485 false _ ?side1 ?side2 A20.out).mono ?_
              (case side1 => repeat (first | exact (Kd.qS HO_19.out).2.2 | (with_reducible refine Kd.qx ?_ _) | (with_reducible refine Kd.qw ?_ _) | (with_reducible refine Kd.qLA ?_)))
              (case side2 => exact (Kd.qS HO_19.out).2.1)
              rintro e w70 ⟨rfl, hb⟩
              have HS0_ := (hb.cell (World.block_lt_of_cell? _ _ (hHeld.1))).trans (hHeld.1)
              have HS1_ := (hb.cell (World.block_lt_of_cell? _ _ (hHeld.2.1))).trans (hHeld.2.1)
              have HS2_ := (hb.cell (World.block_lt_of_cell? _ _ (hHeld.2.2))).trans (hHeld.2.2)
              refine ⟨_, rfl, ?_⟩
              have n0_ := Aside0.mk (Kd.qU (by (with_reducible repeat (first | apply Kd.qF | apply Kd.qE | apply Kd.qG)); exact HO_9.out) hb)
              have n1_ := Aside0.mk (Kd.qU (by (with_reducible repeat (first | apply Kd.qF | apply Kd.qE | apply Kd.qG)); exact HO_10.out) hb)
              have n2_ := Aside0.mk (Kd.qU (by (with_reducible repeat (first | apply Kd.qF | apply Kd.qE | apply Kd.qG)); exact HO_19.out) hb)
              have n3_ := Aside0.mk (bb BK471 hb)
              have n4_ := Aside0.mk (bb BK487 hb)
              have n5_ := Aside0.mk (qH bl hb)
              clear HO_9
              clear HO_10
              clear HO_19
              clear BK471
              clear BK487
              clear HB
              have HO_9 := n0_
              have HO_10 := n1_
              have HO_19 := n2_
              have BK471 := n3_
              have BK487 := n4_
              have HB := n5_
              clear n0_ n1_ n2_ n3_ n4_ n5_
              (try clear hb)
              (try clear hb2)
              (try clear hk)
              (try clear hi)
              refine hK.out _ _ ⟨HS0_, HS1_, HS2_⟩ (fun hHeld => ?_)
              clear hK K
              refine norm_ (a' := ?_) ?_ ?_
              rotate_left
              ·show Act.put _ (some 43) _ = _
               simp only [Act.put, List.setIfInBounds_toArray, List.set_cons_zero, List.set_cons_succ, i64_w, i32_w]
               rfl
              refine pS (i := 8) (N := some 35) #[true, true, true, true, true, true, true, true, true, false, false, true, false, false] HT_ ?_
              refine pS (i := 9) (N := some 44) #[true, true, true, true, true, true, true, true, true, true, false, true, false, false] HT_ ?_
              refine pS (i := 10) (N := some 45) #[true, true, true, true, true, true, true, true, true, true, true, true, false, false] HT_ ?_
              exact norm_ (by simp only [putAll, Act.put, List.setIfInBounds_toArray, List.set_cons_zero, List.set_cons_succ]) (hCont (gb487) _ ⟨hHeld, (by (with_reducible repeat (first | apply Kd.qF | apply Kd.qE | apply Kd.qG)); exact HO_10.out), (by (with_reducible repeat (first | apply Kd.qF | apply Kd.qE | apply Kd.qG)); exact HO_19.out), (by (with_reducible repeat (first | apply Kd.qF | apply Kd.qE | apply Kd.qG)); exact HO_9.out), (by (with_reducible repeat (first | refine qB ?_ _ | refine qC ?_ | refine qA ?_ _)); exact BK471.out), (by (with_reducible repeat (first | refine qB ?_ _ | refine qC ?_ | refine qA ?_ _)); exact BK487.out), GW487.out, GE487.out, NB471_487.out, NB487_471.out, bl⟩)
            rintro gb487 w71 ⟨hS_, h0_, h1_, h2_, h3_, h4_, h5_, h6_, h7_, h8_, h9_⟩
            have n0_ : Aside0 (Kd.R Kd.string 9 w71 w.heap.size (fun k_ => some k_ ≠ (.slice Ao66 t472.length co66 : Value).ownBlock) u10 x10_2) := ⟨h0_⟩
            have n1_ : Aside0 (Kd.R Kd.string 9 w71 w.heap.size (fun k_ => some k_ ≠ (u10 : Value).ownBlock) (.slice Ao66 t472.length co66) t472) := ⟨h1_⟩
            have n2_ : Aside0 (Kd.R k27 27 w71 w.heap.size (fun k_ => k_ ≠ gb471 ∧ k_ ≠ gb487) (.slice (some ad482) x9_2.length co68) x9_2) := ⟨h2_⟩
            have n3_ : Aside0 (w71.heap[gb471]? = some (.cells #[.int .i64 a1_0, .int .i64 a1_1, .int .i64 a1_2] 27 (0, 0))) := ⟨h3_⟩
            have n4_ : Aside0 (w71.heap[gb487]? = some (.cells #[.int .i64 0, .int .i64 0, .int .i64 0] 27 (0, 0))) := ⟨h4_⟩
            have n5_ : Aside0 (w.heap.size ≤ gb487) := ⟨h5_⟩
            have n6_ : Aside0 (w.heap.size ≤ gb487) := ⟨h6_⟩
            have n7_ : Aside0 (gb471 ≠ gb487) := ⟨h7_⟩
            have n8_ : Aside0 (gb487 ≠ gb471) := ⟨h8_⟩
            have n9_ : Aside0 (Below w.heap.size w w71) := ⟨h9_⟩
            clear HO_9
            clear HO_10
            clear HO_19
            clear BK471
            clear HB
            clear h0_ h1_ h2_ h3_ h4_ h5_ h6_ h7_ h8_ h9_
            have HO_10 := n0_
            have HO_19 := n1_
            have HO_9 := n2_
            have BK471 := n3_
            have BK487 := n4_
            have GW487 := n5_
            have GE487 := n6_
            have NB471_487 := n7_
            have NB487_471 := n8_
            have HB := n9_
            clear n0_ n1_ n2_ n3_ n4_ n5_ n6_ n7_ n8_ n9_
            have hHeld : w71.cell? (ad482.add ((x11_1).toNat * 3)) = some (.int .i64 ((qI x9_2 x11_1).f0)) ∧ w71.cell? ⟨(ad482.add ((x11_1).toNat * 3)).block, (ad482.add ((x11_1).toNat * 3)).off + 1, none⟩ = some (.int .i64 ((qI x9_2 x11_1).f1)) ∧ w71.cell? ⟨(ad482.add ((x11_1).toNat * 3)).block, (ad482.add ((x11_1).toNat * 3)).off + 2, none⟩ = some (.int .i64 ((qI x9_2 x11_1).f2)) := hS_
            refine norm_ (a' := ?_) ?_ ?_
            rotate_left
            ·simp only [putAll, Act.put, List.setIfInBounds_toArray, List.set_cons_zero, List.set_cons_succ]
             rfl
            refine one_ (i := 12) (N := none) #[true, true, true, true, true, true, true, true, true, true, true, true, true, false] rfl rfl (qPA HT_.out (by kernel_rfl)) (by decide) (fun K hK => ?_)
            have hs72 : w71.cell? ⟨gb487, 0, none⟩ = some (.int .i64 0) := (qJ BK487.out 0).trans rfl
            have hfs72 := qD BK487.out 0
            have hns72_0 := NB471_487.out
            have hms72_0 := NB487_471.out
            have hs73 : w71.cell? ⟨gb487, 1, none⟩ = some (.int .i64 0) := (qJ BK487.out 1).trans rfl
            have hfs73 := qD BK487.out 1
            have hns73_0 := NB471_487.out
            have hms73_0 := NB487_471.out
            have hs74 : w71.cell? ⟨gb487, 2, none⟩ = some (.int .i64 0) := (qJ BK487.out 2).trans rfl
            have hfs74 := qD BK487.out 2
            have hns74_0 := NB471_487.out
            have hms74_0 := NB487_471.out
            refine skip_ (w1 := ?_) (by rfl) rfl ?_ ?_
            rotate_left
            ·go_simp
             rfl
            refine hK.out _ _ ⟨((qR (p := ⟨gb487, _, none⟩) (by first | exact Kd.qO (Kd.qW HO_9.out (fun _ hk => hk.2)) | (rw [qX]; exact Kd.qO (Kd.qW HO_9.out (fun _ hk => hk.2))) | (show (Addr.add _ _).block ≠ _; rw [qX]; exact Kd.qO (Kd.qW HO_9.out (fun _ hk => hk.2))) | (dsimp only; exact Kd.qO (Kd.qW HO_9.out (fun _ hk => hk.2)))) _).trans (((qR (p := ⟨gb487, _, none⟩) (by first | exact Kd.qO (Kd.qW HO_9.out (fun _ hk => hk.2)) | (rw [qX]; exact Kd.qO (Kd.qW HO_9.out (fun _ hk => hk.2))) | (show (Addr.add _ _).block ≠ _; rw [qX]; exact Kd.qO (Kd.qW HO_9.out (fun _ hk => hk.2))) | (dsimp only; exact Kd.qO (Kd.qW HO_9.out (fun _ hk => hk.2)))) _).trans (((qR (p := ⟨gb487, _, none⟩) (by first | exact Kd.qO (Kd.qW HO_9.out (fun _ hk => hk.2)) | (rw [qX]; exact Kd.qO (Kd.qW HO_9.out (fun _ hk => hk.2))) | (show (Addr.add _ _).block ≠ _; rw [qX]; exact Kd.qO (Kd.qW HO_9.out (fun _ hk => hk.2))) | (dsimp only; exact Kd.qO (Kd.qW HO_9.out (fun _ hk => hk.2)))) _).trans (hHeld.1)))))), ((qR (p := ⟨gb487, _, none⟩) (by first | exact Kd.qO (Kd.qW HO_9.out (fun _ hk => hk.2)) | (rw [qX]; exact Kd.qO (Kd.qW HO_9.out (fun _ hk => hk.2))) | (show (Addr.add _ _).block ≠ _; rw [qX]; exact Kd.qO (Kd.qW HO_9.out (fun _ hk => hk.2))) | (dsimp only; exact Kd.qO (Kd.qW HO_9.out (fun _ hk => hk.2)))) _).trans (((qR (p := ⟨gb487, _, none⟩) (by first | exact Kd.qO (Kd.qW HO_9.out (fun _ hk => hk.2)) | (rw [qX]; exact Kd.qO (Kd.qW HO_9.out (fun _ hk => hk.2))) | (show (Addr.add _ _).block ≠ _; rw [qX]; exact Kd.qO (Kd.qW HO_9.out (fun _ hk => hk.2))) | (dsimp only; exact Kd.qO (Kd.qW HO_9.out (fun _ hk => hk.2)))) _).trans (((qR (p := ⟨gb487, _, none⟩) (by first | exact Kd.qO (Kd.qW HO_9.out (fun _ hk => hk.2)) | (rw [qX]; exact Kd.qO (Kd.qW HO_9.out (fun _ hk => hk.2))) | (show (Addr.add _ _).block ≠ _; rw [qX]; exact Kd.qO (Kd.qW HO_9.out (fun _ hk => hk.2))) | (dsimp only; exact Kd.qO (Kd.qW HO_9.out (fun _ hk => hk.2)))) _).trans (hHeld.2.1)))))), ((qR (p := ⟨gb487, _, none⟩) (by first | exact Kd.qO (Kd.qW HO_9.out (fun _ hk => hk.2)) | (rw [qX]; exact Kd.qO (Kd.qW HO_9.out (fun _ hk => hk.2))) | (show (Addr.add _ _).block ≠ _; rw [qX]; exact Kd.qO (Kd.qW HO_9.out (fun _ hk => hk.2))) | (dsimp only; exact Kd.qO (Kd.qW HO_9.out (fun _ hk => hk.2)))) _).trans (((qR (p := ⟨gb487, _, none⟩) (by first | exact Kd.qO (Kd.qW HO_9.out (fun _ hk => hk.2)) | (rw [qX]; exact Kd.qO (Kd.qW HO_9.out (fun _ hk => hk.2))) | (show (Addr.add _ _).block ≠ _; rw [qX]; exact Kd.qO (Kd.qW HO_9.out (fun _ hk => hk.2))) | (dsimp only; exact Kd.qO (Kd.qW HO_9.out (fun _ hk => hk.2)))) _).trans (((qR (p := ⟨gb487, _, none⟩) (by first | exact Kd.qO (Kd.qW HO_9.out (fun _ hk => hk.2)) | (rw [qX]; exact Kd.qO (Kd.qW HO_9.out (fun _ hk => hk.2))) | (show (Addr.add _ _).block ≠ _; rw [qX]; exact Kd.qO (Kd.qW HO_9.out (fun _ hk => hk.2))) | (dsimp only; exact Kd.qO (Kd.qW HO_9.out (fun _ hk => hk.2)))) _).trans (hHeld.2.2))))))⟩ (fun hHeld => ?_)
            clear hK K
            refine pS (i := 13) (N := some 14) #[true, true, true, true, true, true, true, true, true, true, true, true, true, true] HT_ ?_
            refine done_ (qqA HT_.out (by kernel_rfl)) ?_
            try go_wp2
            go_roundg k2
            case measure => have := HK1.out; have := HK2.out; omega
            case rel => exact ⟨(x9_2), (x10_2), (wrap64 (x32_2 + 1)), (by first | rfl | (simp; done) | (simp [*]; done)), H', ⟨by have := HK1.out; have := HK2.out; omega⟩, ⟨by (with_reducible repeat (first | apply Kd.qF | apply Kd.qE | apply Kd.qG)); exact Kd.qg (Kd.R_far (p := ⟨gb487, 2, none⟩) (Kd.R_far (p := ⟨gb487, 1, none⟩) (Kd.R_far (p := ⟨gb487, 0, none⟩) (Kd.qg HO_9.out (fun k_ hk => (⟨hk, hk.2⟩ : _ ∧ k_ ≠ gb487))) (fun _ hk => hk.2) (.int .i64 t483)) (fun _ hk => hk.2) (.int .i64 t484)) (fun _ hk => hk.2) (.int .i64 t485)) (fun _ hk => hk.1.1)⟩, ⟨by (with_reducible repeat (first | apply Kd.qF | apply Kd.qE | apply Kd.qG)); exact Kd.qg (Kd.R_far (p := ⟨gb487, 2, none⟩) (Kd.R_far (p := ⟨gb487, 1, none⟩) (Kd.R_far (p := ⟨gb487, 0, none⟩) (Kd.qn HO_10.out BK487.out (by decide)) (fun _ hk => hk.2) (.int .i64 t483)) (fun _ hk => hk.2) (.int .i64 t484)) (fun _ hk => hk.2) (.int .i64 t485)) (fun _ hk => hk.1)⟩, ⟨by (with_reducible repeat (first | apply Kd.qF | apply Kd.qE | apply Kd.qG)); exact Kd.qg (Kd.R_far (p := ⟨gb487, 2, none⟩) (Kd.R_far (p := ⟨gb487, 1, none⟩) (Kd.R_far (p := ⟨gb487, 0, none⟩) (Kd.qn HO_19.out BK487.out (by decide)) (fun _ hk => hk.2) (.int .i64 t483)) (fun _ hk => hk.2) (.int .i64 t484)) (fun _ hk => hk.2) (.int .i64 t485)) (fun _ hk => hk.1)⟩, ⟨by (with_reducible repeat (first | refine qB ?_ _ | refine qC ?_ | refine qA ?_ _)); refine qM ?_ NB471_487.out _; (with_reducible repeat (first | refine qB ?_ _ | refine qC ?_ | refine qA ?_ _)); refine qM ?_ NB471_487.out _; (with_reducible repeat (first | refine qB ?_ _ | refine qC ?_ | refine qA ?_ _)); refine qM ?_ NB471_487.out _; (with_reducible repeat (first | refine qB ?_ _ | refine qC ?_ | refine qA ?_ _)); exact BK471.out⟩, ⟨bl⟩⟩
          ·rw [if_neg c18] at H
           exact absurd H (by simp)
         ·rw [if_neg c17] at H
          exact absurd H (by simp)
        ·rw [if_neg c16] at H
         exact absurd H (by simp)
       ·rw [if_neg c15] at H
        have c15b0 : decide (x32_2 < 4) = false := decide_eq_false c15
        clear c15
        have H' := Aside0.mk H
        clear H
        go_wp2
        go_roundg k2
        case measure => have := HK1.out; have := HK2.out; omega
        case rel => exact ⟨(x9_2), (x10_2), (wrap64 (x11_1 + 1)), (by first | rfl | (simp; done) | (simp [*]; done)), H', ⟨by have := HK1.out; have := HK2.out; omega⟩, ⟨by (with_reducible repeat (first | apply Kd.qF | apply Kd.qE | apply Kd.qG)); exact HO_9.out⟩, ⟨by (with_reducible repeat (first | apply Kd.qF | apply Kd.qE | apply Kd.qG)); exact HO_10.out⟩, ⟨by (with_reducible repeat (first | apply Kd.qF | apply Kd.qE | apply Kd.qG)); exact HO_19.out⟩, ⟨by (with_reducible repeat (first | refine qB ?_ _ | refine qC ?_ | refine qA ?_ _)); exact BK471.out⟩, ⟨bl⟩⟩
    ·rw [if_neg c13] at H
     have c13b0 : decide (x11_1 < (x9_1.length : Int)) = false := decide_eq_false c13
     clear c13
     simp only [Option.some.injEq, Prod.mk.injEq] at H
     obtain ⟨rfl, rfl, rfl⟩ := H
     obtain ⟨Ao75, co75, eo75⟩ := Kd.qm HO_9.out
     subst eo75
     go_wp2
     go_ret3
     exact ⟨_, _, by first | rfl | (simp [qL, qK] <;> rfl) | (simp [*, qL, qK] <;> rfl), by (with_reducible repeat (first | apply Kd.qF | apply Kd.qE | apply Kd.qG)); exact Kd.qg HO_9.out (fun _ hk => trivial), by (with_reducible repeat (first | apply Kd.qF | apply Kd.qE | apply Kd.qG)); exact Kd.qg HO_10.out (fun _ hk => trivial), bl⟩
 ·replace c4 := Bool.eq_false_iff.mpr c4
  subst c4
  have H1 : (some (([] : List (S27)), ([] : List ByteArray), false)) = some (r1, r2, r3) := by rw [if_neg (show ¬ (false = true) by decide)] at H; exact H
  clear H
  have H := H1
  clear H1
  simp only [Option.some.injEq, Prod.mk.injEq] at H
  obtain ⟨rfl, rfl, rfl⟩ := H
  go_enter Tryd.func66, Tryd.ntmps66
  go_wp2_with (first | ((with_reducible refine qe (N := 3) rfl ?_); refine qb ?hg (N := 3) ?hd (cs := #[.int .i64 a1_0, .int .i64 a1_1, .int .i64 a1_2]) (t := 27) ?hr ?_; (case hd => rfl); (case hg => rfl); (case hr => first | (go_simp; done) | (go_simp; rfl)); intro gb471 hg w76 hbox hb; have n0_ := Aside0.mk (qH bl hb); have n1_ := Aside0.mk (hbox); have n2_ := Aside0.mk ((gg hg)); have n3_ := Aside0.mk ((gg hg)); clear HB; have HB := n0_; have BK471 := n1_; have GW471 := n2_; have GE471 := n3_; clear n0_ n1_ n2_ n3_; clear hb hbox hg; have hcz77_0 := bc BK471 0; have hcz77_1 := bc BK471 1; have hcz77_2 := bc BK471 2; have hfz77_0 := qD BK471.out 0; have hfz77_1 := qD BK471.out 1; have hfz77_2 := qD BK471.out 2) | ((with_reducible refine qT (f := 58) rfl ?_); refine qDA (some 18) rfl rfl Tryd.func58 (by kernel_rfl) rfl #[.string a0, .agg #[.int .i64 a1_0, .int .i64 a1_1, .int .i64 a1_2]] rfl (by (try simp only [List.map_toArray, List.map_cons, List.map_nil]); first | done | rfl | (simp only [List.length_drop, List.length_take]; rfl)) ?_; (with_reducible refine (qgA.calls k a0 a1_0 a1_1 a1_2 t472 false _ ?side1 A3.out).mono ?_); (case side1 => first | exact HLD.out | exact Laid.below HLD.out (by repeat (first | (with_reducible first | exact HB.out | apply qt | apply qo | apply qk | refine qUA ?_ (Aside0.out (by with_reducible assumption))) | exact HB.out))); rintro e w78 ⟨v473, rfl, ho0, hb⟩; refine ⟨_, rfl, ?_⟩; have n0_ := Aside0.mk (Kd.qEA ho0 (qh bl)); have n1_ := Aside0.mk (bb BK471 hb); have n2_ := Aside0.mk (qH bl hb); clear BK471; clear HB; have HO474 := n0_; have BK471 := n1_; have HB := n2_; clear n0_ n1_ n2_; (try clear hb); (try clear hb2); (try clear hk); (try clear hi); (try clear ho0)))
  go_ret3
  exact ⟨_, _, by first | rfl | (simp [qL, qK] <;> rfl) | (simp [*, qL, qK] <;> rfl), by first | exact Kd.R_nil _ _ _ _ _ | exact Kd.N_nil _ _ _ _ _ | exact Kd.V_nil _ _ _ _ _ | exact Kd.Q_nil _ _ _ _ _ | exact Kd.S_nil _ _ _ _ _, by first | exact Kd.R_nil _ _ _ _ _ | exact Kd.N_nil _ _ _ _ _ | exact Kd.V_nil _ _ _ _ _ | exact Kd.Q_nil _ _ _ _ _ | exact Kd.S_nil _ _ _ _ _, bl⟩
end Go.Proofs.YtbpfhpjbeomfcaaDoor.P
namespace Go.Proofs
open Go.Shelf
def Tryd.sortI_ren : Go.Shelf.Ren := ⟨fun | 5 => 75 | 8 => 99 | 7 => 98 | 19 => 121 | 20 => 122 | 10 => 112 | 11 => 113 | 12 => 114 | 13 => 115 | 14 => 116 | 15 => 117 | 16 => 118 | 17 => 119 | 18 => 120 | 30 => 141 | 31 => 142 | 32 => 143 | 33 => 144 | 34 => 145 | 35 => 140 | 40 => 158 | n => n, fun | 23 => 45 | 25 => 3 | 3 => 3 | 32 => 110 | 22 => 45 | 0 => 0 | 44 => 128 | 46 => 130 | 4 => 4 | 36 => 122 | 35 => 121 | 41 => 30 | 5 => 5 | 9 => 9 | 53 => 145 | 57 => 149 | 63 => 159 | 64 => 68 | n => n, fun | n => n⟩
theorem Tryd.sortI : Go.Proofs.SlLaysM.n5 Tryd.prog Tryd.sortI_ren := {
 mixed := by kernel_rfl
 f5 := ⟨Tryd.f75.name, by decide, Tryd.func75.trans (congrArg some (by kernel_rfl))⟩
 f7 := ⟨Tryd.f98.name, by decide, Tryd.func98.trans (congrArg some (by kernel_rfl))⟩
 f8 := Tryd.func99.trans (congrArg some (by kernel_rfl))
 f10 := ⟨Tryd.f112.name, by decide, Tryd.func112.trans (congrArg some (by kernel_rfl))⟩
 f11 := ⟨Tryd.f113.name, by decide, Tryd.func113.trans (congrArg some (by kernel_rfl))⟩
 f12 := ⟨Tryd.f114.name, by decide, Tryd.func114.trans (congrArg some (by kernel_rfl))⟩
 f13 := ⟨Tryd.f115.name, by decide, Tryd.func115.trans (congrArg some (by kernel_rfl))⟩
 f14 := ⟨Tryd.f116.name, by decide, Tryd.func116.trans (congrArg some (by kernel_rfl))⟩
 f15 := ⟨Tryd.f117.name, by decide, Tryd.func117.trans (congrArg some (by kernel_rfl))⟩
 f16 := ⟨Tryd.f118.name, by decide, Tryd.func118.trans (congrArg some (by kernel_rfl))⟩
 f17 := ⟨Tryd.f119.name, by decide, Tryd.func119.trans (congrArg some (by kernel_rfl))⟩
 f18 := ⟨Tryd.f120.name, by decide, Tryd.func120.trans (congrArg some (by kernel_rfl))⟩
 f19 := Tryd.func121.trans (congrArg some (by kernel_rfl))
 f20 := Tryd.func122.trans (congrArg some (by kernel_rfl))
 f30 := ⟨Tryd.f141.name, by decide, Tryd.func141.trans (congrArg some (by kernel_rfl))⟩
 f31 := Tryd.func142.trans (congrArg some (by kernel_rfl))
 f32 := Tryd.func143.trans (congrArg some (by kernel_rfl))
 f33 := ⟨Tryd.f144.name, by decide, Tryd.func144.trans (congrArg some (by kernel_rfl))⟩
 f34 := ⟨Tryd.f145.name, by decide, Tryd.func145.trans (congrArg some (by kernel_rfl))⟩
 f35 := ⟨Tryd.f140.name, by decide, Tryd.func140.trans (congrArg some (by kernel_rfl))⟩
 f40 := ⟨Tryd.f158.name, by decide, Tryd.func158.trans (congrArg some (by kernel_rfl))⟩
 t0 := Tryd.underlying0
 a0 := Tryd.isAgg0
 z0 := Tryd.sizeOf0
 v0 := Tryd.zeroValue0
 t3 := Tryd.underlying3
 a3 := Tryd.isAgg3
 z3 := Tryd.sizeOf3
 v3 := Tryd.zeroValue3
 t4 := Tryd.underlying4
 a4 := Tryd.isAgg4
 z4 := Tryd.sizeOf4
 v4 := Tryd.zeroValue4
 t5 := Tryd.underlying5
 a5 := Tryd.isAgg5
 z5 := Tryd.sizeOf5
 v5 := Tryd.zeroValue5
 t9 := Tryd.underlying9
 a9 := Tryd.isAgg9
 z9 := Tryd.sizeOf9
 v9 := Tryd.zeroValue9
 t22 := Tryd.underlying45
 a22 := Tryd.isAgg45
 z22 := Tryd.sizeOf45
 v22 := Tryd.zeroValue45
 t23 := Tryd.underlying45
 a23 := Tryd.isAgg45
 z23 := Tryd.sizeOf45
 v23 := Tryd.zeroValue45
 t25 := Tryd.underlying3
 a25 := Tryd.isAgg3
 z25 := Tryd.sizeOf3
 v25 := Tryd.zeroValue3
 t32 := Tryd.underlying110
 a32 := Tryd.isAgg110
 z32 := Tryd.sizeOf110
 v32 := Tryd.zeroValue110
 t35 := Tryd.underlying121
 a35 := Tryd.isAgg121
 z35 := Tryd.sizeOf121
 v35 := Tryd.zeroValue121
 t36 := Tryd.underlying122
 a36 := Tryd.isAgg122
 z36 := Tryd.sizeOf122
 v36 := Tryd.zeroValue122
 t41 := Tryd.underlying30
 a41 := Tryd.isAgg30
 z41 := Tryd.sizeOf30
 v41 := Tryd.zeroValue30
 t44 := Tryd.underlying128
 a44 := Tryd.isAgg128
 z44 := Tryd.sizeOf128
 v44 := Tryd.zeroValue128
 t46 := Tryd.underlying130
 a46 := Tryd.isAgg130
 z46 := Tryd.sizeOf130
 v46 := Tryd.zeroValue130
 t53 := Tryd.underlying145
 a53 := Tryd.isAgg145
 z53 := Tryd.sizeOf145
 v53 := Tryd.zeroValue145
 t57 := Tryd.underlying149
 a57 := Tryd.isAgg149
 z57 := Tryd.sizeOf149
 v57 := Tryd.zeroValue149
 t63 := Tryd.underlying159
 a63 := Tryd.isAgg159
 z63 := Tryd.sizeOf159
 v63 := Tryd.zeroValue159
 t64 := Tryd.underlying68
 a64 := Tryd.isAgg68
 z64 := Tryd.sizeOf68
 v64 := Tryd.zeroValue68 }
end Go.Proofs
namespace Go.Proofs.YtbpfhpjbeomfcaaDoor
open Go.RowKit Go.Sort Go.Proofs.YtbpfhpjbeomfcaaDoorW.PrintWords Go.Proofs.YtbpfhpjbeomfcaaDoorW.PrintLast
set_option linter.unusedVariables false
set_option linter.unusedSimpArgs false
def qOA.f (l0 : List Int) : Option (List Int) := if l0.length < 4611686018427387904 then some (l0.mergeSort fun x y => decide (x ≤ y)) else none
theorem sortI_reps {xs : List Int} {cs : List Value} {w : World} {base : Nat} {ok : Nat → Prop} (h : Reps ((Kd.int .i64).M w base ok) 1 xs cs) : cs = xs.map (Value.int .i64) := by
 obtain ⟨hl, hc⟩ := h
 rw [Nat.mul_one] at hl
 refine List.ext_getElem? fun i => ?_
 rw [List.getElem?_map]
 by_cases hi : i < xs.length
 ·have h1 : (cs.drop (i * 1)).take 1 = [Value.int .i64 xs[i]] := hc i xs[i] (List.getElem?_eq_getElem hi)
  rw [List.getElem?_eq_getElem hi, Option.map_some]
  have h2 : ((cs.drop (i * 1)).take 1)[0]? = some (Value.int .i64 xs[i]) := by rw [h1]; rfl
  rw [List.getElem?_take, if_pos (by omega), List.getElem?_drop] at h2
  simpa using h2
 ·rw [List.getElem?_eq_none (by omega), List.getElem?_eq_none (by omega)]; rfl
theorem sortI_made {xs : List Int} {w : World} {base : Nat} {ok : Nat → Prop} : Reps ((Kd.int .i64).M w base ok) 1 xs (xs.map (Value.int .i64)) := by
 refine ⟨by simp, fun j p hp => ?_⟩
 show _ = [Value.int .i64 p]
 have hj : j < xs.length := (List.getElem?_eq_some_iff.1 hp).1
 have hv : xs[j] = p := by rw [List.getElem?_eq_getElem hj] at hp; injection hp
 rw [Nat.mul_one, List.drop_eq_getElem_cons (by simpa using hj)]
 simp [hv]
theorem sortI_holds {w : World} {g : Nat} {cur : Array Value} {t : TypeId} {xs : List Int} (hh : w.heap[g]? = some (.cells cur t (0, 0))) (ht : cur.toList.take xs.length = xs.map (Value.int .i64)) : Holds (Value.int .i64) w g 0 xs.toArray := by
 intro j hj
 have hj' : j < xs.length := by simpa using hj
 have h1 : cur[j]? = some (Value.int .i64 xs[j]) := by
  have : (cur.toList.take xs.length)[j]? = some (Value.int .i64 xs[j]) := by rw [ht, List.getElem?_map, List.getElem?_eq_getElem hj']; rfl
  rw [List.getElem?_take, if_pos hj'] at this
  simpa using this
 refine ⟨?_, ?_⟩
 ·simp only [World.cell?, hh, Nat.zero_add]
  rw [h1]
  simp [hj']
 ·simp [World.frozen?, hh]
theorem sortI_put {cur : Array Value} {xs ys : List Int} (hlen : ys.length = xs.length) (hc : xs.length ≤ cur.size) :
  (putCells (Value.int .i64) 0 ys.toArray cur).toList.take xs.length = ys.map (Value.int .i64) := by
 refine List.ext_getElem? fun i => ?_
 rw [List.getElem?_map, List.getElem?_take]
 by_cases hi : i < xs.length
 ·rw [if_pos hi, List.getElem?_eq_getElem (show i < ys.length by omega), Option.map_some]
  rw [Array.getElem?_toList]
  simp only [putCells, Array.getElem?_mapIdx]
  rw [Array.getElem?_eq_getElem (show i < cur.size by omega), Option.map_some, if_pos (by constructor; exact Nat.zero_le _; simp; omega)]
  simp [show i < ys.length by omega]
 ·rw [if_neg hi, List.getElem?_eq_none (by omega)]; rfl
theorem qOA.calls (P0_ : Nat → Prop) (u9000_ : Value) (l0 : List Int) (r : List Int) (w0 w : World) (hB : Below w0.heap.size w0 w) (ho0 : Kd.R (Kd.int .i64) 3 w w0.heap.size P0_ u9000_ l0) (h : qOA.f l0 = some r) :
  Calls Tryd.prog 75 #[u9000_] w fun e w' => e = .returned (.tuple #[]) ∧ Kd.R (Kd.int .i64) 3 w' w0.heap.size (fun k_ => (P0_ k_ ∨ w.heap.size ≤ k_)) u9000_ r ∧ Below w0.heap.size w0 w' ∧ Kept w w' (fun k_ => P0_ k_) := by
 unfold qOA.f at h
 by_cases hs : l0.length < 4611686018427387904
 case neg => rw [if_neg hs] at h; cases h
 rw [if_pos hs] at h
 obtain rfl := Option.some.inj h
 obtain ⟨hok, inner, hown, hr⟩ := ho0
 have hi := sortI_reps hr
 rcases hown.2 with ⟨hv, hn⟩ | ⟨g, cap, cur, hv, hbase, hheap, hncap, hmax, hsize, htake⟩
 ·subst hv
  have hl : l0 = [] := List.eq_nil_of_length_eq_zero hn
  subst hl
  refine (AnyM.slices_Sort_int_none Tryd.sortI none 0 w).mono fun e w' hq => ?_
  obtain ⟨he, rfl⟩ := hq
  exact ⟨he, by simpa using Kd.R_nil (Kd.int .i64) 3 w' w0.heap.size _, hB, Kept.refl _ _⟩
 ·subst hv
  have hsz : (Kd.int .i64).sz = 1 := rfl
  rw [hsz, Nat.mul_one] at htake hsize
  have ht : cur.toList.take l0.length = l0.map (Value.int .i64) := by rw [htake, hi]
  have hg : g < w.heap.size := by
   rcases Nat.lt_or_ge g w.heap.size with h1 | h1
   ·exact h1
   ·rw [Array.getElem?_eq_none h1] at hheap; cases hheap
  refine (AnyM.slices_Sort_int Tryd.sortI g 0 cap l0 w (sortI_holds hheap ht) hg hs).mono fun e w' hq => ?_
  obtain ⟨he, n, os, rfl⟩ := hq
  have hoth : ∀ k, k < w.heap.size → k ≠ g → (grow (putRow (Value.int .i64) (Sort.ahead w n) g 0 (l0.mergeSort fun x y => decide (x ≤ y)).toArray) os).heap[k]? = w.heap[k]? := by
   intro k hk hne
   rw [heap_grow_old _ _ (by simpa using hk)]
   simp only [putRow, mapBlock, Array.getElem?_modify, if_neg (Ne.symm hne), heap_ahead]
  have hown' : (grow (putRow (Value.int .i64) (Sort.ahead w n) g 0 (l0.mergeSort fun x y => decide (x ≤ y)).toArray) os).heap[g]? = some (.cells (putCells (Value.int .i64) 0 (l0.mergeSort fun x y => decide (x ≤ y)).toArray cur) 3 (0, 0)) := by
   rw [heap_grow_old _ _ (by simpa using hg)]
   simp only [putRow, mapBlock, Array.getElem?_modify, heap_ahead, hheap, if_true, Option.map_some, onCells]
  have hlen : (l0.mergeSort fun x y => decide (x ≤ y)).length = l0.length := List.length_mergeSort l0
  refine ⟨he, ⟨fun k hk => .inl (hok k hk), (l0.mergeSort fun x y => decide (x ≤ y)).map (Value.int .i64), ⟨by simp [hsz], .inr ⟨g, cap, _, by rw [hlen], hbase, hown', by rw [hlen]; exact hncap, hmax, by rw [hsz, Nat.mul_one]; simpa [putCells] using hsize, ?_⟩⟩, sortI_made⟩, ⟨hB.os, hB.tape, hB.output, Nat.le_trans hB.size (by simp), ?_⟩, ⟨by simp, ?_⟩⟩
  ·rw [hsz, Nat.mul_one, hlen]
   exact sortI_put hlen (by omega)
  ·intro k hk
   rw [hoth k (Nat.lt_of_lt_of_le hk hB.size) (by omega)]
   exact hB.block k hk
  ·intro k hk hn
   exact hoth k hk (fun e => hn (e ▸ hok g rfl))
end Go.Proofs.YtbpfhpjbeomfcaaDoor
namespace Go.Proofs.YtbpfhpjbeomfcaaDoor.P
open Go.RowKit Go.Proofs.YtbpfhpjbeomfcaaDoorW.PrintWords Go.Proofs.YtbpfhpjbeomfcaaDoorW.PrintLast Go.Proofs.YtbpfhpjbeomfcaaDoorW.PrintMore
attribute [local go_sem] qBA qz qKA qJA qq qp qAA qy
set_option linter.unusedVariables false
set_option linter.unusedSimpArgs false
def qj.l0 : Nat → List Int → List (S27) → List ByteArray → Int → Int → Option (List Int × Bool)
 | 0, _, _, _, _, _ => none
 | k + 1, x11, x18, x26, x30, x31 => if x31 < x30 then (if 0 ≤ x31 then (if x31 < (x18.length : Int) then (if ((qI x18 x31).f2) = 0 then (if 0 < (x26.length : Int) then (if x11.length < 17592186044416 then (qj.l0 k (x11 ++ [wrap64 ((wrap64 (((qI x18 x31).f1) * ((rdOf ByteArray.empty x26 0).size : Int))) + ((qI x18 x31).f0))]) x18 x26 x30 (wrap64 (x31 + 1))) else (none)) else (none)) else (qj.l0 k x11 x18 x26 x30 (wrap64 (x31 + 1)))) else (none)) else (none)) else ((qOA.f x11).bind fun t1034 => (some (t1034, true)))
def qj.f (k : Nat) (a0 : ByteArray) (a1_0 : Int) (a1_1 : Int) (a1_2 : Int) : Option (List Int × Bool) := (qQ.f k a0 a1_0 a1_1 a1_2).bind fun bt1014 => (if bt1014.2.2 = true then ((qXA.f k a0).bind fun bt1021 => (qj.l0 k (([] : List Int)) bt1014.1 bt1021.1 (bt1014.1.length : Int) 0)) else (some (([] : List Int), false)))
def qj.T10 : Bool × List (List Nat × List Nat) := (true, [([], []), ([], []), ([1], [1]), ([], []), ([3], [3]), ([4], [4]), ([5], [5]), ([2, 6], [2, 6]), ([], []), ([8], [8]), ([7, 9], [7, 9]), ([10], [10]), ([0, 11], [0, 11]), ([12, 12, 0, 1, 2, 3, 4, 5, 6, 7, 8, 9, 10, 11, 12], [0, 12])])
def qj.B10 : List Nat := [0, 0, 2, 0, 8, 24, 56, 126, 0, 256, 1022, 2046, 4095, 8191]
theorem qj.tab10 : rtab .any (opsOf Tryd.f44 10) = qj.T10 := by kernel_rfl
theorem qj.bits10 : waitsOk qj.T10.2 qj.B10 = true := by kernel_rfl
set_option maxHeartbeats 8000000 in
set_option maxRecDepth 100000 in
theorem qj.calls (k : Nat) (a0 : ByteArray) (a1_0 : Int) (a1_1 : Int) (a1_2 : Int) (r1 : List Int) (r2 : Bool) (w : World) (hL : Laid w) (h : qj.f k a0 a1_0 a1_1 a1_2 = some (r1, r2)) :
  Calls Tryd.prog 44 #[.string a0, .agg #[.int .i64 a1_0, .int .i64 a1_1, .int .i64 a1_2]] w fun e w' => ∃ v0_ : Value, e = .returned (.tuple #[v0_, .bool r2]) ∧ Kd.R (Kd.int .i64) 3 w' w.heap.size (fun _ => True) v0_ r1 ∧ Below w.heap.size w w' := by
 have hu27 := Tryd.underlying27
 have HLD := Aside0.mk hL
 clear hL
 have HB := Aside0.mk (Below.refl w.heap.size w)
 have H : ((qQ.f k a0 a1_0 a1_1 a1_2).bind fun bt1014 => (if bt1014.2.2 = true then ((qXA.f k a0).bind fun bt1021 => (qj.l0 k (([] : List Int)) bt1014.1 bt1021.1 (bt1014.1.length : Int) 0)) else (some (([] : List Int), false)))) = some (r1, r2) := h
 clear h
 replace H := Option.bind_eq_some_iff.mp H
 obtain ⟨⟨t1014, t1017, t1020⟩, A30, H⟩ := H
 replace H : (if t1020 = true then ((qXA.f k a0).bind fun bt1021 => (qj.l0 k (([] : List Int)) t1014 bt1021.1 (t1014.length : Int) 0)) else (some (([] : List Int), false))) = some (r1, r2) := H
 have A3 := Aside0.mk A30
 clear A30
 by_cases c4 : t1020 = true
 ·subst c4
  have H1 : ((qXA.f k a0).bind fun bt1021 => (qj.l0 k (([] : List Int)) t1014 bt1021.1 (t1014.length : Int) 0)) = some (r1, r2) := by rw [if_pos rfl] at H; exact H
  clear H
  have H := H1
  clear H1
  replace H := Option.bind_eq_some_iff.mp H
  obtain ⟨⟨t1021, t1022⟩, A50, H⟩ := H
  replace H : (qj.l0 k (([] : List Int)) t1014 t1021 (t1014.length : Int) 0) = some (r1, r2) := H
  have A5 := Aside0.mk A50
  clear A50
  obtain ⟨y1025, hy1025⟩ : ∃ y_ : List Int, y_ = (([] : List Int)) := ⟨_, rfl⟩
  replace H : (qj.l0 k y1025 t1014 t1021 (t1014.length : Int) 0) = some (r1, r2) := by first | (rw [hy1025]; with_reducible exact H) | (have H2_ := (Option.bind_some _ _).symm.trans H; rw [hy1025]; with_reducible exact H2_) | (have H2_ := (Option.bind_some _ _).symm.trans H; with_reducible exact H2_) | with_reducible exact H | (rw [hy1025]; exact H) | exact H
  have Ny1025 := Aside0.mk hy1025
  clear hy1025
  have H' := Aside0.mk H
  clear H
  go_enter Tryd.func44, Tryd.ntmps44
  go_wp2_with (first | ((with_reducible refine qe (N := 3) rfl ?_); refine qb ?hg (N := 3) ?hd (cs := #[.int .i64 a1_0, .int .i64 a1_1, .int .i64 a1_2]) (t := 27) ?hr ?_; (case hd => rfl); (case hg => rfl); (case hr => first | (go_simp; done) | (go_simp; rfl)); intro gb1013 hg w6 hbox hb; have n0_ := Aside0.mk (qH bl hb); have n1_ := Aside0.mk (hbox); have n2_ := Aside0.mk ((gg hg)); have n3_ := Aside0.mk ((gg hg)); clear HB; have HB := n0_; have BK1013 := n1_; have GW1013 := n2_; have GE1013 := n3_; clear n0_ n1_ n2_ n3_; clear hb hbox hg; have hcz7_0 := bc BK1013 0; have hcz7_1 := bc BK1013 1; have hcz7_2 := bc BK1013 2; have hfz7_0 := qD BK1013.out 0; have hfz7_1 := qD BK1013.out 1; have hfz7_2 := qD BK1013.out 2) | ((with_reducible refine qT (f := 66) rfl ?_); refine qDA (some 17) rfl rfl Tryd.func66 (by kernel_rfl) rfl #[.string a0, .agg #[.int .i64 a1_0, .int .i64 a1_1, .int .i64 a1_2]] rfl (by (try simp only [List.map_toArray, List.map_cons, List.map_nil]); first | done | rfl | (simp only [List.length_drop, List.length_take]; rfl)) ?_; (with_reducible refine (qQ.calls k a0 a1_0 a1_1 a1_2 t1014 t1017 true _ ?side1 A3.out).mono ?_); (case side1 => first | exact HLD.out | exact Laid.below HLD.out (by repeat (first | (with_reducible first | exact HB.out | apply qt | apply qo | apply qk | refine qUA ?_ (Aside0.out (by with_reducible assumption))) | exact HB.out))); rintro e w8 ⟨v1015, v1018, rfl, ho0, ho1, hb⟩; refine ⟨_, rfl, ?_⟩; have n0_ := Aside0.mk (Kd.qEA (Kd.qXB ho0 (g := gb1013) (o := .cells #[.int .i64 a1_0, .int .i64 a1_1, .int .i64 a1_2] 27 (0, 0)) (by (with_reducible repeat (first | refine qB ?_ _ | refine qC ?_ | refine qA ?_ _)); exact BK1013.out)) (qh bl)); have n1_ := Aside0.mk (Kd.qEA ho1 (qh bl)); have n2_ := Aside0.mk (bb BK1013 hb); have n3_ := Aside0.mk (qH bl hb); clear BK1013; clear HB; have HO1016 := n0_; have HO1019 := n1_; have BK1013 := n2_; have HB := n3_; clear n0_ n1_ n2_ n3_; (try clear hb); (try clear hb2); (try clear hk); (try clear hi); (try clear ho0); (try clear ho1)) | ((with_reducible refine qT (f := 54) rfl ?_); refine qDA (some 25) rfl rfl Tryd.func54 (by kernel_rfl) rfl #[.string a0] rfl (by (try simp only [List.map_toArray, List.map_cons, List.map_nil]); first | done | rfl | (simp only [List.length_drop, List.length_take]; rfl)) ?_; (with_reducible refine (qXA.calls k a0 t1021 t1022 _ ?side1 A5.out).mono ?_); (case side1 => first | exact HLD.out | exact Laid.below HLD.out (by repeat (first | (with_reducible first | exact HB.out | apply qt | apply qo | apply qk | refine qUA ?_ (Aside0.out (by with_reducible assumption))) | exact HB.out))); rintro e w9 ⟨v1023, rfl, ho0, hb⟩; refine ⟨_, rfl, ?_⟩; have n0_ := Aside0.mk (Kd.qU (by (with_reducible repeat (first | apply Kd.qF | apply Kd.qE | apply Kd.qG)); exact HO1016.out) hb); have n1_ := Aside0.mk (Kd.qiA (by (with_reducible repeat (first | apply Kd.qF | apply Kd.qE | apply Kd.qG)); exact HO1019.out) (Kd.qHB ho0) hb); have n2_ := Aside0.mk (Kd.qEA (Kd.qGB ho0 (Kd.R_lt (by (with_reducible repeat (first | apply Kd.qF | apply Kd.qE | apply Kd.qG)); exact HO1019.out))) (qh bl)); have n3_ := Aside0.mk (bb BK1013 hb); have n4_ := Aside0.mk (qH bl hb); clear HO1016; clear HO1019; clear BK1013; clear HB; have HO1016 := n0_; have HO1019 := n1_; have HO1024 := n2_; have BK1013 := n3_; have HB := n4_; clear n0_ n1_ n2_ n3_ n4_; (try clear hb); (try clear hb2); (try clear hk); (try clear hi); (try clear ho0)) | ((with_reducible refine qe (N := 28) rfl ?_); refine Kd.R_lit (Kd.int .i64) _ 3 ?hg (N := 28) ?hd (xs := ([] : List Int)) (inner := []) (ok := fun _ => True) (okp := fun _ => True) ?hr ?hp (fun _ hk => hk) trivial (Below.refl _ _) (Nat.le_refl _) (by simp) ?_; (case hd => rfl); (case hg => rfl); (case hr => first | (go_simp; done) | (go_simp; rfl)); (case hp => exact (Reps.none _ _)); intro v1026 w10 ho11 hb hg_ hnew_; clear hg_ hnew_; (first | rw [← Ny1025.out] at ho11 | (simp only [Int.reduceToNat] at ho11; rw [← Ny1025.out] at ho11)); have n0_ := Aside0.mk (Kd.qU (by (with_reducible repeat (first | apply Kd.qF | apply Kd.qE | apply Kd.qG)); exact HO1016.out) hb); have n1_ := Aside0.mk (Kd.qU (by (with_reducible repeat (first | apply Kd.qF | apply Kd.qE | apply Kd.qG)); exact HO1019.out) hb); have n2_ := Aside0.mk (Kd.qU (by (with_reducible repeat (first | apply Kd.qF | apply Kd.qE | apply Kd.qG)); exact HO1024.out) hb); have n3_ := Aside0.mk (Kd.qEA ho11 (qh bl)); have n4_ := Aside0.mk (bb BK1013 hb); have n5_ := Aside0.mk (qH bl hb); clear HO1016; clear HO1019; clear HO1024; clear BK1013; clear HB; have HO1016 := n0_; have HO1019 := n1_; have HO1024 := n2_; have HO1027 := n3_; have BK1013 := n4_; have HB := n5_; clear n0_ n1_ n2_ n3_ n4_ n5_; clear hb ho11; obtain ⟨Ao12, co12, eo12⟩ := Kd.qm HO1016.out; subst eo12))
  go_loopg [11, 31] k (fun kq v11 v31 w' => ∃ (x11_1 : List Int) (x31_1 : Int), v31 = .int .i64 x31_1 ∧ Aside0 (qj.l0 kq x11_1 t1014 t1021 (t1014.length : Int) x31_1 = some (r1, r2)) ∧ Aside0 (kq ≤ k) ∧ Aside0 (Kd.R (Kd.int .i64) 3 w' w.heap.size (fun _ => True) v11 x11_1) ∧ Aside0 (Kd.R k27 27 w' w.heap.size (fun k_ => k_ ≠ gb1013) (.slice Ao12 t1014.length co12) t1014) ∧ Aside0 (Kd.R Kd.string 9 w' w.heap.size (fun _ => True) v1023 t1021) ∧ Aside0 (w'.heap[gb1013]? = some (.cells #[.int .i64 a1_0, .int .i64 a1_1, .int .i64 a1_2] 27 (0, 0))) ∧ Aside0 (Below w.heap.size w w'))
  case atStart => exact ⟨(y1025), (0), (by first | rfl | (simp; done) | (simp [*]; done)), H', ⟨Nat.le_refl _⟩, ⟨by (with_reducible repeat (first | apply Kd.qF | apply Kd.qE | apply Kd.qG)); exact HO1027.out⟩, ⟨by (with_reducible repeat (first | apply Kd.qF | apply Kd.qE | apply Kd.qG)); exact Kd.qg HO1016.out (fun _ hk => hk.2)⟩, ⟨by (with_reducible repeat (first | apply Kd.qF | apply Kd.qE | apply Kd.qG)); exact Kd.qg HO1024.out (fun _ hk => trivial)⟩, ⟨by (with_reducible repeat (first | refine qB ?_ _ | refine qC ?_ | refine qA ?_ _)); exact BK1013.out⟩, ⟨bl⟩⟩
  case round =>
   clear H'
   try clear p2
   try clear c4
   try clear c5
   try clear c6
   try clear hcz7_0
   try clear hcz7_1
   try clear hcz7_2
   try clear hfz7_0
   try clear hfz7_1
   try clear hfz7_2
   obtain ⟨x11_1, x31_1, rfl, HA, HK1, HO_11, HO_18, HO_26, BK1013, HB⟩ := hrel
   cases gk with
   | zero => exact absurd HA.out (by simp [qj.l0])
   | succ k1 =>
    have H := HA.out
    clear HA
    simp only [qj.l0] at H
    by_cases c13 : x31_1 < (t1014.length : Int)
    ·rw [if_pos c13] at H
     have c13b0 : decide (x31_1 < (t1014.length : Int)) = true := decide_eq_true c13
     clear c13
     by_cases c14 : 0 ≤ x31_1
     ·rw [if_pos c14] at H
      have c14b0 : decide (0 ≤ x31_1) = true := decide_eq_true c14
      clear c14
      by_cases c15 : x31_1 < (t1014.length : Int)
      ·rw [if_pos c15] at H
       have c15b0 : decide (x31_1 < (t1014.length : Int)) = true := decide_eq_true c15
       clear c15
       by_cases c16 : ((qI t1014 x31_1).f2) = 0
       ·rw [if_pos c16] at H
        have c16b0 : (((qI t1014 x31_1).f2) == 0) = true := beq_iff_eq.mpr c16
        have c16b1 : (((qI t1014 x31_1).f2) != 0) = false := bne_eq_false_iff_eq.mpr c16
        clear c16
        by_cases c17 : 0 < (t1021.length : Int)
        ·rw [if_pos c17] at H
         have c17b0 : decide (0 < (t1021.length : Int)) = true := decide_eq_true c17
         have c17b1 : decide (0 < t1021.length) = true := decide_eq_true (by omega)
         clear c17
         by_cases c18 : x11_1.length < 17592186044416
         ·rw [if_pos c18] at H
          have LMc18 := Aside0.mk c18
          clear c18
          obtain ⟨y1031, hy1031⟩ : ∃ y_ : List Int, y_ = (x11_1 ++ [wrap64 ((wrap64 (((qI t1014 x31_1).f1) * ((rdOf ByteArray.empty t1021 0).size : Int))) + ((qI t1014 x31_1).f0))]) := ⟨_, rfl⟩
          replace H : (qj.l0 k1 y1031 t1014 t1021 (t1014.length : Int) (wrap64 (x31_1 + 1))) = some (r1, r2) := by first | (rw [hy1031]; with_reducible exact H) | (have H2_ := (Option.bind_some _ _).symm.trans H; rw [hy1031]; with_reducible exact H2_) | (have H2_ := (Option.bind_some _ _).symm.trans H; with_reducible exact H2_) | with_reducible exact H | (rw [hy1031]; exact H) | exact H
          have Ny1031 := Aside0.mk hy1031
          clear hy1031
          have H' := Aside0.mk H
          clear H
          have p1028 : 0 ≤ (x31_1 : Int) := of_decide_eq_true (by first | (with_reducible assumption) | assumption)
          have q1028 : x31_1 < (t1014.length : Int) := of_decide_eq_true (by first | (with_reducible assumption) | assumption)
          obtain ⟨ad1028, e1028, hx1028_0, hx1028_1, hx1028_2⟩ := qIB (Kd.qS HO_18.out).2.2 x31_1 p1028 q1028
          cases e1028
          replace p1028 := eq_true p1028
          replace q1028 := eq_true q1028
          try go_wp2_with (first | ((with_reducible refine qe (N := 13) rfl ?_); refine qb ?hg (N := 13) ?hd (cs := #[.int .i64 0, .int .i64 0, .int .i64 0]) (t := 27) ?hr ?_; (case hd => rfl); (case hg => rfl); (case hr => first | (go_simp; done) | (go_simp; rfl)); intro gb1029 hg w19 hbox hb; have n0_ := Aside0.mk (Kd.qU (by (with_reducible repeat (first | apply Kd.qF | apply Kd.qE | apply Kd.qG)); exact HO_11.out) hb); have n1_ := Aside0.mk (Kd.qU (Kd.qdA (by (with_reducible repeat (first | apply Kd.qF | apply Kd.qE | apply Kd.qG)); exact HO_18.out) gb1029 (Nat.le_of_eq hg.symm)) hb); have n2_ := Aside0.mk (Kd.qU (by (with_reducible repeat (first | apply Kd.qF | apply Kd.qE | apply Kd.qG)); exact HO_26.out) hb); have n3_ := Aside0.mk (bb BK1013 hb); have n4_ := Aside0.mk (qH bl hb); have n5_ := Aside0.mk (hbox); have n6_ := Aside0.mk ((gg hg)); have n7_ := Aside0.mk ((gg hg)); have n8_ := Aside0.mk ((nl BK1013 hg)); have n9_ := Aside0.mk ((nr BK1013 hg)); clear HO_11; clear HO_18; clear HO_26; clear BK1013; clear HB; have HO_11 := n0_; have HO_18 := n1_; have HO_26 := n2_; have BK1013 := n3_; have HB := n4_; have BK1029 := n5_; have GW1029 := n6_; have GE1029 := n7_; have NB1013_1029 := n8_; have NB1029_1013 := n9_; clear n0_ n1_ n2_ n3_ n4_ n5_ n6_ n7_ n8_ n9_; clear hb hbox hg; have hnb20 := NB1029_1013.out; have hnc20 := NB1013_1029.out; have hcz21_0 := bc BK1029 0; have hcz21_1 := bc BK1029 1; have hcz21_2 := bc BK1029 2; have hfz21_0 := qD BK1029.out 0; have hfz21_1 := qD BK1029.out 1; have hfz21_2 := qD BK1029.out 2))
          have n0_ : Aside0 (Kd.R (Kd.int .i64) 3 (((w19.setCell ⟨gb1029, 0, none⟩ (.int .i64 ((qI t1014 x31_1).f0))).setCell ⟨gb1029, 1, none⟩ (.int .i64 ((qI t1014 x31_1).f1))).setCell ⟨gb1029, 2, none⟩ (.int .i64 ((qI t1014 x31_1).f2))) w.heap.size (fun _ => True) u11 x11_1) := ⟨by (with_reducible repeat (first | apply Kd.qF | apply Kd.qE | apply Kd.qG)); exact Kd.qg (Kd.R_far (p := ⟨gb1029, 2, none⟩) (Kd.R_far (p := ⟨gb1029, 1, none⟩) (Kd.R_far (p := ⟨gb1029, 0, none⟩) (Kd.qn HO_11.out BK1029.out (by decide)) (fun _ hk => hk.2) (.int .i64 ((qI t1014 x31_1).f0))) (fun _ hk => hk.2) (.int .i64 ((qI t1014 x31_1).f1))) (fun _ hk => hk.2) (.int .i64 ((qI t1014 x31_1).f2))) (fun _ hk => trivial)⟩
          have n1_ : Aside0 (Kd.R k27 27 (((w19.setCell ⟨gb1029, 0, none⟩ (.int .i64 ((qI t1014 x31_1).f0))).setCell ⟨gb1029, 1, none⟩ (.int .i64 ((qI t1014 x31_1).f1))).setCell ⟨gb1029, 2, none⟩ (.int .i64 ((qI t1014 x31_1).f2))) w.heap.size (fun k_ => k_ ≠ gb1013 ∧ k_ ≠ gb1029) (.slice (some ad1028) t1014.length co12) t1014) := ⟨by (with_reducible repeat (first | apply Kd.qF | apply Kd.qE | apply Kd.qG)); exact Kd.qg (Kd.R_far (p := ⟨gb1029, 2, none⟩) (Kd.R_far (p := ⟨gb1029, 1, none⟩) (Kd.R_far (p := ⟨gb1029, 0, none⟩) (Kd.qg HO_18.out (fun k_ hk => (⟨hk, hk.2⟩ : _ ∧ k_ ≠ gb1029))) (fun _ hk => hk.2) (.int .i64 ((qI t1014 x31_1).f0))) (fun _ hk => hk.2) (.int .i64 ((qI t1014 x31_1).f1))) (fun _ hk => hk.2) (.int .i64 ((qI t1014 x31_1).f2))) (fun _ hk => ⟨hk.1.1, hk.1.2⟩)⟩
          have n2_ : Aside0 (Kd.R Kd.string 9 (((w19.setCell ⟨gb1029, 0, none⟩ (.int .i64 ((qI t1014 x31_1).f0))).setCell ⟨gb1029, 1, none⟩ (.int .i64 ((qI t1014 x31_1).f1))).setCell ⟨gb1029, 2, none⟩ (.int .i64 ((qI t1014 x31_1).f2))) w.heap.size (fun _ => True) v1023 t1021) := ⟨by (with_reducible repeat (first | apply Kd.qF | apply Kd.qE | apply Kd.qG)); exact Kd.qg (Kd.R_far (p := ⟨gb1029, 2, none⟩) (Kd.R_far (p := ⟨gb1029, 1, none⟩) (Kd.R_far (p := ⟨gb1029, 0, none⟩) (Kd.qn HO_26.out BK1029.out (by decide)) (fun _ hk => hk.2) (.int .i64 ((qI t1014 x31_1).f0))) (fun _ hk => hk.2) (.int .i64 ((qI t1014 x31_1).f1))) (fun _ hk => hk.2) (.int .i64 ((qI t1014 x31_1).f2))) (fun _ hk => trivial)⟩
          have n3_ : Aside0 ((((w19.setCell ⟨gb1029, 0, none⟩ (.int .i64 ((qI t1014 x31_1).f0))).setCell ⟨gb1029, 1, none⟩ (.int .i64 ((qI t1014 x31_1).f1))).setCell ⟨gb1029, 2, none⟩ (.int .i64 ((qI t1014 x31_1).f2))).heap[gb1013]? = some (.cells #[.int .i64 a1_0, .int .i64 a1_1, .int .i64 a1_2] 27 (0, 0))) := ⟨by (with_reducible repeat (first | refine qB ?_ _ | refine qC ?_ | refine qA ?_ _)); refine qM ?_ NB1013_1029.out _; (with_reducible repeat (first | refine qB ?_ _ | refine qC ?_ | refine qA ?_ _)); refine qM ?_ NB1013_1029.out _; (with_reducible repeat (first | refine qB ?_ _ | refine qC ?_ | refine qA ?_ _)); refine qM ?_ NB1013_1029.out _; (with_reducible repeat (first | refine qB ?_ _ | refine qC ?_ | refine qA ?_ _)); exact BK1013.out⟩
          have n4_ : Aside0 ((((w19.setCell ⟨gb1029, 0, none⟩ (.int .i64 ((qI t1014 x31_1).f0))).setCell ⟨gb1029, 1, none⟩ (.int .i64 ((qI t1014 x31_1).f1))).setCell ⟨gb1029, 2, none⟩ (.int .i64 ((qI t1014 x31_1).f2))).heap[gb1029]? = some (.cells #[.int .i64 ((qI t1014 x31_1).f0), .int .i64 ((qI t1014 x31_1).f1), .int .i64 ((qI t1014 x31_1).f2)] 27 (0, 0))) := ⟨by (with_reducible repeat (first | refine qB ?_ _ | refine qC ?_ | refine qA ?_ _)); refine qP (cs := #[.int .i64 ((qI t1014 x31_1).f0), .int .i64 ((qI t1014 x31_1).f1), .int .i64 0]) ?_ 2 _ rfl; (with_reducible repeat (first | refine qB ?_ _ | refine qC ?_ | refine qA ?_ _)); refine qP (cs := #[.int .i64 ((qI t1014 x31_1).f0), .int .i64 0, .int .i64 0]) ?_ 1 _ rfl; (with_reducible repeat (first | refine qB ?_ _ | refine qC ?_ | refine qA ?_ _)); refine qP (cs := #[.int .i64 0, .int .i64 0, .int .i64 0]) ?_ 0 _ rfl; (with_reducible repeat (first | refine qB ?_ _ | refine qC ?_ | refine qA ?_ _)); exact BK1029.out⟩
          have n5_ : Aside0 (Below w.heap.size w (((w19.setCell ⟨gb1029, 0, none⟩ (.int .i64 ((qI t1014 x31_1).f0))).setCell ⟨gb1029, 1, none⟩ (.int .i64 ((qI t1014 x31_1).f1))).setCell ⟨gb1029, 2, none⟩ (.int .i64 ((qI t1014 x31_1).f2)))) := ⟨bl⟩
          (try clear HO_11)
          (try clear HO_18)
          (try clear HO_26)
          (try clear BK1013)
          (try clear BK1029)
          (try clear HB)
          generalize (((w19.setCell ⟨gb1029, 0, none⟩ (.int .i64 ((qI t1014 x31_1).f0))).setCell ⟨gb1029, 1, none⟩ (.int .i64 ((qI t1014 x31_1).f1))).setCell ⟨gb1029, 2, none⟩ (.int .i64 ((qI t1014 x31_1).f2))) = w22 at n0_ n1_ n2_ n3_ n4_ n5_ ⊢
          have HO_11 := n0_
          have HO_18 := n1_
          have HO_26 := n2_
          have BK1013 := n3_
          have BK1029 := n4_
          have HB := n5_
          clear n0_ n1_ n2_ n3_ n4_ n5_
          have n0_ := Aside0.mk (Kd.qG HO_11.out)
          have n1_ := Aside0.mk (Kd.qG HO_18.out)
          have n2_ := Aside0.mk (Kd.qG HO_26.out)
          have n3_ := Aside0.mk (qC BK1013.out)
          have n4_ := Aside0.mk (qC BK1029.out)
          have n5_ := Aside0.mk (qk HB.out)
          clear HO_11
          clear HO_18
          clear HO_26
          clear BK1013
          clear BK1029
          clear HB
          have HO_11 := n0_
          have HO_18 := n1_
          have HO_26 := n2_
          have BK1013 := n3_
          have BK1029 := n4_
          have HB := n5_
          clear n0_ n1_ n2_ n3_ n4_ n5_
          obtain ⟨Ao24, co24, eo24⟩ := Kd.qm HO_26.out
          (first | subst eo24 | (injection eo24 with f1_ f2_ f3_; have f4_ := f1_.symm; have f5_ := f3_.symm; clear f1_ f2_ f3_; subst f4_; subst f5_))
          have p1030 : 0 ≤ (0 : Int) := (by omega)
          have q1030 : 0 < (t1021.length : Int) := of_decide_eq_true (by first | (with_reducible assumption) | assumption)
          obtain ⟨ad1030, e1030, hx1030_0⟩ := Kd.qAB (Kd.qS HO_26.out).2.2 0 p1030 q1030
          cases e1030
          have qi1030 : (0 < t1021.length) = True := eq_true (by omega)
          (try rw [show ((0 : Int)).toNat = 0 from rfl] at hx1030_0)
          (try rw [Addr.add_zero'] at hx1030_0)
          replace p1030 := eq_true p1030
          replace q1030 := eq_true q1030
          refine qyA (n := 14) (S := fun w' => w'.cell? ⟨gb1029, 0, none⟩ = some (.int .i64 ((qI t1014 x31_1).f0)) ∧ w'.cell? ⟨gb1029, 1, none⟩ = some (.int .i64 ((qI t1014 x31_1).f1)) ∧ w'.cell? ⟨gb1029, 2, none⟩ = some (.int .i64 ((qI t1014 x31_1).f2)) ∧ w'.cell? ad1030 = some (.string (rdOf ByteArray.empty t1021 0))) (ds := [11, 12]) #[false, false, false, false, false, false, false, false, false, false, false, false, false, false] (by kernel_rfl) rfl rfl ⟨(qJ BK1029.out 0).trans rfl, (qJ BK1029.out 1).trans rfl, (qJ BK1029.out 2).trans rfl, hx1030_0⟩ (fun hHeld => ?_); refine qWA qj.tab10 qj.bits10 (fun HT_ HW_ => ?_)
          generalize w22.drew = w23 at HO_11 HO_18 HO_26 BK1013 BK1029 HB hx1030_0 hHeld ⊢
          refine pS (i := 0) (N := some 38) #[true, false, false, false, false, false, false, false, false, false, false, false, false, false] HT_ ?_
          refine pS (i := 1) (N := some 39) #[true, true, false, false, false, false, false, false, false, false, false, false, false, false] HT_ ?_
          refine pS (i := 3) (N := some 41) #[true, true, false, true, false, false, false, false, false, false, false, false, false, false] HT_ ?_
          refine pS (i := 4) (N := some 42) #[true, true, false, true, true, false, false, false, false, false, false, false, false, false] HT_ ?_
          refine pS (i := 8) (N := some 46) #[true, true, false, true, true, false, false, false, true, false, false, false, false, false] HT_ ?_
          refine tS (i := 2) (N := some 40) #[true, true, true, true, true, false, false, false, true, false, false, false, false, false] HT_ HW_ hHeld ?_
          refine tS (i := 5) (N := some 43) #[true, true, true, true, true, true, false, false, true, false, false, false, false, false] HT_ HW_ hHeld ?_
          refine pS (i := 6) (N := some 44) #[true, true, true, true, true, true, true, false, true, false, false, false, false, false] HT_ ?_
          refine pS (i := 7) (N := some 45) #[true, true, true, true, true, true, true, true, true, false, false, false, false, false] HT_ ?_
          refine tS (i := 9) (N := some 47) #[true, true, true, true, true, true, true, true, true, true, false, false, false, false] HT_ HW_ hHeld ?_
          refine pS (i := 10) (N := some 48) #[true, true, true, true, true, true, true, true, true, true, true, false, false, false] HT_ ?_
          refine last_ (i := 11) (N := some 49) #[true, true, true, true, true, true, true, true, true, true, true, true, false, false] rfl rfl (qPA HT_.out (by kernel_rfl)) (by decide) (fun K hK => ?_)
          refine qTC (w1 := ?_) (v := ?_) (by rfl) rfl ?_ ?_
          rotate_left 2
          ·go_simp
           constructor
           ·rfl
           ·rfl
          refine hK.out _ _ ?_
          clear hK K
          refine norm_ (a' := ?_) ?_ ?_
          rotate_left
          ·show Act.put _ (some 49) _ = _
           simp only [Act.put, List.setIfInBounds_toArray, List.set_cons_zero, List.set_cons_succ, i64_w, i32_w]
           rfl
          refine last_ (i := 12) (N := some 50) #[true, true, true, true, true, true, true, true, true, true, true, true, true, false] rfl rfl (qPA HT_.out (by kernel_rfl)) (by decide) (fun K hK => ?_)
          refine Kd.qKB (Kd.int .i64) (w0 := w) w.heap.size (by rfl) (.tmp 38) (.tmp 49) 45 3 (.int .i64 0) 8 rfl Tryd.underlying45 info3 rfl (by decide) (by omega) u11 x11_1 (wrap64 ((wrap64 (((qI t1014 x31_1).f1) * ((rdOf ByteArray.empty t1021 0).size : Int))) + ((qI t1014 x31_1).f0))) [.int .i64 (wrap64 ((wrap64 (((qI t1014 x31_1).f1) * ((rdOf ByteArray.empty t1021 0).size : Int))) + ((qI t1014 x31_1).f0)))] (fun _ => True) (fun _ => False) rfl rfl ?aP (fun _ hk => hk.elim) ?aF ?aO ?aB ?aS ?aL ?_
          (case aP => exact rfl)
          (case aB => exact bl)
          (case aF => exact (fun _ _ => trivial))
          (case aO => exact (by (with_reducible repeat (first | apply Kd.qF | apply Kd.qE | apply Kd.qG)); exact HO_11.out))
          (case aS => exact (qh bl))
          (case aL => have := LMc18.out; omega)
          intro v1032 w25 ho hb hg hat
          rw [← Ny1031.out] at ho
          have n0_ := Aside0.mk (Kd.quA (by (with_reducible repeat (first | apply Kd.qF | apply Kd.qE | apply Kd.qG)); exact HO_18.out) (Kd.qoA (by (with_reducible repeat (first | apply Kd.qF | apply Kd.qE | apply Kd.qG)); exact HO_11.out)) (by decide) hg)
          have n1_ := Aside0.mk (Kd.quA (by (with_reducible repeat (first | apply Kd.qF | apply Kd.qE | apply Kd.qG)); exact HO_26.out) (Kd.qoA (by (with_reducible repeat (first | apply Kd.qF | apply Kd.qE | apply Kd.qG)); exact HO_11.out)) (by decide) hg)
          have n2_ := Aside0.mk (qv (g := gb1013) (o := .cells #[.int .i64 a1_0, .int .i64 a1_1, .int .i64 a1_2] 27 (0, 0)) (by (with_reducible repeat (first | refine qB ?_ _ | refine qC ?_ | refine qA ?_ _)); exact BK1013.out) hg (Kd.R_ne HO_11.out BK1013.out (by decide)))
          have n3_ := Aside0.mk (qv (g := gb1029) (o := .cells #[.int .i64 ((qI t1014 x31_1).f0), .int .i64 ((qI t1014 x31_1).f1), .int .i64 ((qI t1014 x31_1).f2)] 27 (0, 0)) (by (with_reducible repeat (first | refine qB ?_ _ | refine qC ?_ | refine qA ?_ _)); exact BK1029.out) hg (Kd.R_ne HO_11.out BK1029.out (by decide)))
          have n4_ := Aside0.mk (hb)
          have n5_ := Aside0.mk (ho)
          clear HO_18
          clear HO_26
          clear BK1013
          clear BK1029
          clear HB
          clear HO_11
          have HO_18 := n0_
          have HO_26 := n1_
          have BK1013 := n2_
          have BK1029 := n3_
          have HB := n4_
          have HO1033 := n5_
          clear n0_ n1_ n2_ n3_ n4_ n5_
          clear ho hb hg hat
          refine hK.out _ _ ?_
          clear hK K
          refine norm_ (a' := ?_) ?_ ?_
          rotate_left
          ·show Act.put _ (some 50) _ = _
           simp only [Act.put, List.setIfInBounds_toArray, List.set_cons_zero, List.set_cons_succ, i64_w, i32_w]
           rfl
          refine pS (i := 13) (N := some 11) #[true, true, true, true, true, true, true, true, true, true, true, true, true, true] HT_ ?_
          refine done_ (qqA HT_.out (by kernel_rfl)) ?_
          try go_wp2
          go_roundg k1
          case measure => have := HK1.out; omega
          case rel => exact ⟨(y1031), (wrap64 (x31_1 + 1)), (by first | rfl | (simp; done) | (simp [*]; done)), H', ⟨by have := HK1.out; omega⟩, ⟨by (with_reducible repeat (first | apply Kd.qF | apply Kd.qE | apply Kd.qG)); exact HO1033.out⟩, ⟨by (with_reducible repeat (first | apply Kd.qF | apply Kd.qE | apply Kd.qG)); exact Kd.qg HO_18.out (fun _ hk => hk.1)⟩, ⟨by (with_reducible repeat (first | apply Kd.qF | apply Kd.qE | apply Kd.qG)); exact HO_26.out⟩, ⟨by (with_reducible repeat (first | refine qB ?_ _ | refine qC ?_ | refine qA ?_ _)); exact BK1013.out⟩, ⟨bl⟩⟩
         ·rw [if_neg c18] at H
          exact absurd H (by simp)
        ·rw [if_neg c17] at H
         exact absurd H (by simp)
       ·rw [if_neg c16] at H
        have c16b0 : (((qI t1014 x31_1).f2) == 0) = false := beq_eq_false_iff_ne.mpr c16
        have c16b1 : (((qI t1014 x31_1).f2) != 0) = true := bne_iff_ne.mpr c16
        have H' := Aside0.mk H
        clear H
        have p1028 : 0 ≤ (x31_1 : Int) := of_decide_eq_true (by first | (with_reducible assumption) | assumption)
        have q1028 : x31_1 < (t1014.length : Int) := of_decide_eq_true (by first | (with_reducible assumption) | assumption)
        obtain ⟨ad1028, e1028, hx1028_0, hx1028_1, hx1028_2⟩ := qIB (Kd.qS HO_18.out).2.2 x31_1 p1028 q1028
        cases e1028
        replace p1028 := eq_true p1028
        replace q1028 := eq_true q1028
        go_wp2_with (first | ((with_reducible refine qe (N := 13) rfl ?_); refine qb ?hg (N := 13) ?hd (cs := #[.int .i64 0, .int .i64 0, .int .i64 0]) (t := 27) ?hr ?_; (case hd => rfl); (case hg => rfl); (case hr => first | (go_simp; done) | (go_simp; rfl)); intro gb1029 hg w26 hbox hb; have n0_ := Aside0.mk (Kd.qU (by (with_reducible repeat (first | apply Kd.qF | apply Kd.qE | apply Kd.qG)); exact HO_11.out) hb); have n1_ := Aside0.mk (Kd.qU (Kd.qdA (by (with_reducible repeat (first | apply Kd.qF | apply Kd.qE | apply Kd.qG)); exact HO_18.out) gb1029 (Nat.le_of_eq hg.symm)) hb); have n2_ := Aside0.mk (Kd.qU (by (with_reducible repeat (first | apply Kd.qF | apply Kd.qE | apply Kd.qG)); exact HO_26.out) hb); have n3_ := Aside0.mk (bb BK1013 hb); have n4_ := Aside0.mk (qH bl hb); have n5_ := Aside0.mk (hbox); have n6_ := Aside0.mk ((gg hg)); have n7_ := Aside0.mk ((gg hg)); have n8_ := Aside0.mk ((nl BK1013 hg)); have n9_ := Aside0.mk ((nr BK1013 hg)); clear HO_11; clear HO_18; clear HO_26; clear BK1013; clear HB; have HO_11 := n0_; have HO_18 := n1_; have HO_26 := n2_; have BK1013 := n3_; have HB := n4_; have BK1029 := n5_; have GW1029 := n6_; have GE1029 := n7_; have NB1013_1029 := n8_; have NB1029_1013 := n9_; clear n0_ n1_ n2_ n3_ n4_ n5_ n6_ n7_ n8_ n9_; clear hb hbox hg; have hnb27 := NB1029_1013.out; have hnc27 := NB1013_1029.out; have hcz28_0 := bc BK1029 0; have hcz28_1 := bc BK1029 1; have hcz28_2 := bc BK1029 2; have hfz28_0 := qD BK1029.out 0; have hfz28_1 := qD BK1029.out 1; have hfz28_2 := qD BK1029.out 2))
        go_roundg k1
        case measure => have := HK1.out; omega
        case rel => exact ⟨(x11_1), (wrap64 (x31_1 + 1)), (by first | rfl | (simp; done) | (simp [*]; done)), H', ⟨by have := HK1.out; omega⟩, ⟨by (with_reducible repeat (first | apply Kd.qF | apply Kd.qE | apply Kd.qG)); exact Kd.qg (Kd.R_far (p := ⟨gb1029, 2, none⟩) (Kd.R_far (p := ⟨gb1029, 1, none⟩) (Kd.R_far (p := ⟨gb1029, 0, none⟩) (Kd.qn HO_11.out BK1029.out (by decide)) (fun _ hk => hk.2) (.int .i64 ((qI t1014 x31_1).f0))) (fun _ hk => hk.2) (.int .i64 ((qI t1014 x31_1).f1))) (fun _ hk => hk.2) (.int .i64 ((qI t1014 x31_1).f2))) (fun _ hk => trivial)⟩, ⟨by (with_reducible repeat (first | apply Kd.qF | apply Kd.qE | apply Kd.qG)); exact Kd.qg (Kd.R_far (p := ⟨gb1029, 2, none⟩) (Kd.R_far (p := ⟨gb1029, 1, none⟩) (Kd.R_far (p := ⟨gb1029, 0, none⟩) (Kd.qg HO_18.out (fun k_ hk => (⟨hk, hk.2⟩ : _ ∧ k_ ≠ gb1029))) (fun _ hk => hk.2) (.int .i64 ((qI t1014 x31_1).f0))) (fun _ hk => hk.2) (.int .i64 ((qI t1014 x31_1).f1))) (fun _ hk => hk.2) (.int .i64 ((qI t1014 x31_1).f2))) (fun _ hk => hk.1.1)⟩, ⟨by (with_reducible repeat (first | apply Kd.qF | apply Kd.qE | apply Kd.qG)); exact Kd.qg (Kd.R_far (p := ⟨gb1029, 2, none⟩) (Kd.R_far (p := ⟨gb1029, 1, none⟩) (Kd.R_far (p := ⟨gb1029, 0, none⟩) (Kd.qn HO_26.out BK1029.out (by decide)) (fun _ hk => hk.2) (.int .i64 ((qI t1014 x31_1).f0))) (fun _ hk => hk.2) (.int .i64 ((qI t1014 x31_1).f1))) (fun _ hk => hk.2) (.int .i64 ((qI t1014 x31_1).f2))) (fun _ hk => trivial)⟩, ⟨by (with_reducible repeat (first | refine qB ?_ _ | refine qC ?_ | refine qA ?_ _)); refine qM ?_ NB1013_1029.out _; (with_reducible repeat (first | refine qB ?_ _ | refine qC ?_ | refine qA ?_ _)); refine qM ?_ NB1013_1029.out _; (with_reducible repeat (first | refine qB ?_ _ | refine qC ?_ | refine qA ?_ _)); refine qM ?_ NB1013_1029.out _; (with_reducible repeat (first | refine qB ?_ _ | refine qC ?_ | refine qA ?_ _)); exact BK1013.out⟩, ⟨bl⟩⟩
      ·rw [if_neg c15] at H
       exact absurd H (by simp)
     ·rw [if_neg c14] at H
      exact absurd H (by simp)
    ·rw [if_neg c13] at H
     have c13b0 : decide (x31_1 < (t1014.length : Int)) = false := decide_eq_false c13
     clear c13
     replace H := Option.bind_eq_some_iff.mp H
     obtain ⟨t1034, A290, H⟩ := H
     replace H : (some (t1034, true)) = some (r1, r2) := H
     have A29 := Aside0.mk A290
     clear A290
     simp only [Option.some.injEq, Prod.mk.injEq] at H
     obtain ⟨rfl, rfl⟩ := H
     obtain ⟨Ao30, co30, eo30⟩ := Kd.qm HO_11.out
     subst eo30
     go_wp2_with (first | ((with_reducible refine qT (f := 75) rfl ?_); refine qDA (some 53) rfl rfl Tryd.func75 (by kernel_rfl) rfl #[.slice Ao30 x11_1.length co30] rfl (by (try simp only [List.map_toArray, List.map_cons, List.map_nil]); first | done | rfl | (simp only [List.length_drop, List.length_take]; rfl)) ?_; (with_reducible refine (qOA.calls (fun k_ => some k_ = (.slice Ao30 x11_1.length co30 : Value).ownBlock) (.slice Ao30 x11_1.length co30) x11_1 t1034 w _ ?side1 ?side2 A29.out).mono ?_); (case side1 => repeat (first | (with_reducible first | exact HB.out | apply qt | apply qo | apply qk | refine qUA ?_ GE1013.out) | exact HB.out)); (case side2 => exact Kd.qFC rfl HO_11.out); rintro e w31 ⟨rfl, hy0, hb, hkp⟩; refine ⟨_, rfl, ?_⟩; have n0_ := Aside0.mk (Kd.qXC rfl hy0 (fun k_ e_ => HO_11.out.1 k_ e_)); have n1_ := Aside0.mk (Kd.qg (ok' := fun k_ => k_ ≠ gb1013) (Kd.qGC ((Kd.R_apart' HO_18.out (Kd.qoA HO_11.out) (by decide))) hkp (fun k_ hk_ hs_ => (hk_.2) hs_)) (fun k_ hk_ => hk_.1.1)); have n2_ := Aside0.mk (Kd.qg (ok' := fun k_ => True) (Kd.qGC ((Kd.R_apart' HO_26.out (Kd.qoA HO_11.out) (by decide))) hkp (fun k_ hk_ hs_ => (hk_.2) hs_)) (fun k_ hk_ => trivial)); have n3_ := Aside0.mk (qvB (by (with_reducible repeat (first | refine qB ?_ _ | refine qC ?_ | refine qA ?_ _)); exact BK1013.out) hkp (fun hs_ => (fun e_ => (Kd.R_ne HO_11.out BK1013.out (by decide)) e_) hs_)); have n4_ := Aside0.mk (hb); clear HO_11; clear HO_18; clear HO_26; clear BK1013; clear HB; have HO_11 := n0_; have HO_18 := n1_; have HO_26 := n2_; have BK1013 := n3_; have HB := n4_; clear n0_ n1_ n2_ n3_ n4_; (try clear hb); (try clear hkp); (try clear hy0)))
     go_ret2
     exact ⟨_, by first | rfl | (simp [qL, qK] <;> rfl) | (simp [*, qL, qK] <;> rfl), by (with_reducible repeat (first | apply Kd.qF | apply Kd.qE | apply Kd.qG)); exact HO_11.out, bl⟩
 ·replace c4 := Bool.eq_false_iff.mpr c4
  subst c4
  have H1 : (some (([] : List Int), false)) = some (r1, r2) := by rw [if_neg (show ¬ (false = true) by decide)] at H; exact H
  clear H
  have H := H1
  clear H1
  simp only [Option.some.injEq, Prod.mk.injEq] at H
  obtain ⟨rfl, rfl⟩ := H
  go_enter Tryd.func44, Tryd.ntmps44
  go_wp2_with (first | ((with_reducible refine qe (N := 3) rfl ?_); refine qb ?hg (N := 3) ?hd (cs := #[.int .i64 a1_0, .int .i64 a1_1, .int .i64 a1_2]) (t := 27) ?hr ?_; (case hd => rfl); (case hg => rfl); (case hr => first | (go_simp; done) | (go_simp; rfl)); intro gb1013 hg w32 hbox hb; have n0_ := Aside0.mk (qH bl hb); have n1_ := Aside0.mk (hbox); have n2_ := Aside0.mk ((gg hg)); have n3_ := Aside0.mk ((gg hg)); clear HB; have HB := n0_; have BK1013 := n1_; have GW1013 := n2_; have GE1013 := n3_; clear n0_ n1_ n2_ n3_; clear hb hbox hg; have hcz33_0 := bc BK1013 0; have hcz33_1 := bc BK1013 1; have hcz33_2 := bc BK1013 2; have hfz33_0 := qD BK1013.out 0; have hfz33_1 := qD BK1013.out 1; have hfz33_2 := qD BK1013.out 2) | ((with_reducible refine qT (f := 66) rfl ?_); refine qDA (some 17) rfl rfl Tryd.func66 (by kernel_rfl) rfl #[.string a0, .agg #[.int .i64 a1_0, .int .i64 a1_1, .int .i64 a1_2]] rfl (by (try simp only [List.map_toArray, List.map_cons, List.map_nil]); first | done | rfl | (simp only [List.length_drop, List.length_take]; rfl)) ?_; (with_reducible refine (qQ.calls k a0 a1_0 a1_1 a1_2 t1014 t1017 false _ ?side1 A3.out).mono ?_); (case side1 => first | exact HLD.out | exact Laid.below HLD.out (by repeat (first | (with_reducible first | exact HB.out | apply qt | apply qo | apply qk | refine qUA ?_ (Aside0.out (by with_reducible assumption))) | exact HB.out))); rintro e w34 ⟨v1015, v1018, rfl, ho0, ho1, hb⟩; refine ⟨_, rfl, ?_⟩; have n0_ := Aside0.mk (Kd.qEA (Kd.qXB ho0 (g := gb1013) (o := .cells #[.int .i64 a1_0, .int .i64 a1_1, .int .i64 a1_2] 27 (0, 0)) (by (with_reducible repeat (first | refine qB ?_ _ | refine qC ?_ | refine qA ?_ _)); exact BK1013.out)) (qh bl)); have n1_ := Aside0.mk (Kd.qEA ho1 (qh bl)); have n2_ := Aside0.mk (bb BK1013 hb); have n3_ := Aside0.mk (qH bl hb); clear BK1013; clear HB; have HO1016 := n0_; have HO1019 := n1_; have BK1013 := n2_; have HB := n3_; clear n0_ n1_ n2_ n3_; (try clear hb); (try clear hb2); (try clear hk); (try clear hi); (try clear ho0); (try clear ho1)))
  go_ret2
  exact ⟨_, by first | rfl | (simp [qL, qK] <;> rfl) | (simp [*, qL, qK] <;> rfl), by first | exact Kd.R_nil _ _ _ _ _ | exact Kd.N_nil _ _ _ _ _ | exact Kd.V_nil _ _ _ _ _ | exact Kd.Q_nil _ _ _ _ _ | exact Kd.S_nil _ _ _ _ _, bl⟩
def qu.l0 : Nat → List Int → List Int → Int → Option (Bool)
 | 0, _, _, _ => none
 | k + 1, x0, x1, x5 => if x5 < (x0.length : Int) then (if 0 ≤ x5 then (if x5 < (x1.length : Int) then (if (rd x0 x5) = (rd x1 x5) then (qu.l0 k x0 x1 (wrap64 (x5 + 1))) else (some false)) else (none)) else (none)) else (some true)
def qu.f (k : Nat) (l0 : List Int) (l1 : List Int) : Option (Bool) := if (l0.length : Int) = (l1.length : Int) then (qu.l0 k l0 l1 0) else (some false)
set_option maxHeartbeats 8000000 in
set_option maxRecDepth 100000 in
theorem qu.calls (k : Nat) (A0 : Option Addr) (c0 : Nat) (l0 : List Int) (A1 : Option Addr) (c1 : Nat) (l1 : List Int) (r : Bool) (w : World) (hr0 : Kd.C (Kd.int .i64) w A0 l0.length l0) (hc0 : l0.length ≤ c0) (hr1 : Kd.C (Kd.int .i64) w A1 l1.length l1) (hc1 : l1.length ≤ c1) (h : qu.f k l0 l1 = some r) :
  Calls Tryd.prog 45 #[.slice A0 l0.length c0, .slice A1 l1.length c1] w fun e w' => e = .returned (.bool r) ∧ Drawn0 w w' := by
 have HR0 := Aside0.mk hr0
 have HC0 := Aside0.mk hc0
 clear hr0 hc0
 have HR1 := Aside0.mk hr1
 have HC1 := Aside0.mk hc1
 clear hr1 hc1
 have H : (if (l0.length : Int) = (l1.length : Int) then (qu.l0 k l0 l1 0) else (some false)) = some r := h
 clear h
 by_cases c3 : (l0.length : Int) = (l1.length : Int)
 ·rw [if_pos c3] at H
  have c3b0 : ((l0.length : Int) == (l1.length : Int)) = true := beq_iff_eq.mpr c3
  have c3b1 : ((l0.length : Int) != (l1.length : Int)) = false := bne_eq_false_iff_eq.mpr c3
  have c3b2 : (l0.length == l1.length) = true := by first | simpa using c3 | (simp at c3 ⊢; omega)
  clear c3
  have H' := Aside0.mk H
  clear H
  go_enter Tryd.func45, Tryd.ntmps45
  go_wp2
  repeat (go_quiet (fail); try go_wp2)
  go_loopg [5] k (fun kq v5 w' => ∃ (x5_1 : Int), v5 = .int .i64 x5_1 ∧ Aside0 (qu.l0 kq l0 l1 x5_1 = some r) ∧ Aside0 (kq ≤ k) ∧ Drawn0 w w')
  case atStart => exact ⟨(0), (by first | rfl | (simp; done) | (simp [*]; done)), H', ⟨Nat.le_refl _⟩, by repeat (first | exact Drawn0.refl _ | apply Drawn0.step)⟩
  case round =>
   clear H'
   try clear c1
   try clear p2
   try clear c3
   try clear c3b0
   try clear c3b1
   try clear c3b2
   obtain ⟨x5_1, rfl, HA, HK1, ⟨m1, rfl⟩⟩ := hrel
   cases gk with
   | zero => exact absurd HA.out (by simp [qu.l0])
   | succ k1 =>
    have H := HA.out
    clear HA
    simp only [qu.l0] at H
    by_cases c4 : x5_1 < (l0.length : Int)
    ·rw [if_pos c4] at H
     have c4b0 : decide (x5_1 < (l0.length : Int)) = true := decide_eq_true c4
     clear c4
     by_cases c5 : 0 ≤ x5_1
     ·rw [if_pos c5] at H
      have c5b0 : decide (0 ≤ x5_1) = true := decide_eq_true c5
      clear c5
      by_cases c6 : x5_1 < (l1.length : Int)
      ·rw [if_pos c6] at H
       have c6b0 : decide (x5_1 < (l1.length : Int)) = true := decide_eq_true c6
       clear c6
       by_cases c7 : (rd l0 x5_1) = (rd l1 x5_1)
       ·rw [if_pos c7] at H
        have c7b0 : ((rd l0 x5_1) == (rd l1 x5_1)) = true := beq_iff_eq.mpr c7
        have c7b1 : ((rd l0 x5_1) != (rd l1 x5_1)) = false := bne_eq_false_iff_eq.mpr c7
        clear c7
        have H' := Aside0.mk H
        clear H
        have p1035 : 0 ≤ (x5_1 : Int) := of_decide_eq_true (by first | (with_reducible assumption) | assumption)
        have q1035 : x5_1 < (l0.length : Int) := of_decide_eq_true (by first | (with_reducible assumption) | assumption)
        obtain ⟨ad1035, e1035, hx1035_0⟩ := Kd.qtA HR0.out x5_1 p1035 q1035
        cases e1035
        replace p1035 := eq_true p1035
        replace q1035 := eq_true q1035
        have p1036 : 0 ≤ (x5_1 : Int) := of_decide_eq_true (by first | (with_reducible assumption) | assumption)
        have q1036 : x5_1 < (l1.length : Int) := of_decide_eq_true (by first | (with_reducible assumption) | assumption)
        obtain ⟨ad1036, e1036, hx1036_0⟩ := Kd.qtA HR1.out x5_1 p1036 q1036
        cases e1036
        replace p1036 := eq_true p1036
        replace q1036 := eq_true q1036
        go_wp2
        repeat (go_quiet (fail); try go_wp2)
        go_roundg k1
        case measure => have := HK1.out; omega
        case rel => exact ⟨(wrap64 (x5_1 + 1)), (by first | rfl | (simp; done) | (simp [*]; done)), H', ⟨by have := HK1.out; omega⟩, by repeat (first | exact Drawn0.refl _ | apply Drawn0.step)⟩
       ·rw [if_neg c7] at H
        have c7b0 : ((rd l0 x5_1) == (rd l1 x5_1)) = false := beq_eq_false_iff_ne.mpr c7
        have c7b1 : ((rd l0 x5_1) != (rd l1 x5_1)) = true := bne_iff_ne.mpr c7
        obtain rfl := Option.some.inj H
        have p1035 : 0 ≤ (x5_1 : Int) := of_decide_eq_true (by first | (with_reducible assumption) | assumption)
        have q1035 : x5_1 < (l0.length : Int) := of_decide_eq_true (by first | (with_reducible assumption) | assumption)
        obtain ⟨ad1035, e1035, hx1035_0⟩ := Kd.qtA HR0.out x5_1 p1035 q1035
        cases e1035
        replace p1035 := eq_true p1035
        replace q1035 := eq_true q1035
        have p1036 : 0 ≤ (x5_1 : Int) := of_decide_eq_true (by first | (with_reducible assumption) | assumption)
        have q1036 : x5_1 < (l1.length : Int) := of_decide_eq_true (by first | (with_reducible assumption) | assumption)
        obtain ⟨ad1036, e1036, hx1036_0⟩ := Kd.qtA HR1.out x5_1 p1036 q1036
        cases e1036
        replace p1036 := eq_true p1036
        replace q1036 := eq_true q1036
        go_wp2
        repeat (go_quiet (fail); try go_wp2)
        go_ret
        exact ⟨by first | rfl | (simp; done) | (simp [*]; done), by repeat (first | exact Drawn0.refl _ | apply Drawn0.step)⟩
      ·rw [if_neg c6] at H
       exact absurd H (by simp)
     ·rw [if_neg c5] at H
      exact absurd H (by simp)
    ·rw [if_neg c4] at H
     have c4b0 : decide (x5_1 < (l0.length : Int)) = false := decide_eq_false c4
     clear c4
     obtain rfl := Option.some.inj H
     go_wp2
     repeat (go_quiet (fail); try go_wp2)
     go_ret
     exact ⟨by first | rfl | (simp; done) | (simp [*]; done), by repeat (first | exact Drawn0.refl _ | apply Drawn0.step)⟩
 ·rw [if_neg c3] at H
  have c3b0 : ((l0.length : Int) == (l1.length : Int)) = false := beq_eq_false_iff_ne.mpr c3
  have c3b1 : ((l0.length : Int) != (l1.length : Int)) = true := bne_iff_ne.mpr c3
  have c3b2 : (l0.length == l1.length) = false := by first | simpa using c3 | (simp at c3 ⊢; omega)
  obtain rfl := Option.some.inj H
  go_enter Tryd.func45, Tryd.ntmps45
  go_wp2
  repeat (go_quiet (fail); try go_wp2)
  go_ret
  exact ⟨by first | rfl | (simp; done) | (simp [*]; done), by repeat (first | exact Drawn0.refl _ | apply Drawn0.step)⟩
def qFA.l0 : Nat → List Int → Int → Int → Option (Int × List Int)
 | 0, _, _, _ => none
 | k + 1, x0, x1, x5 => if x5 < (x0.length : Int) then (if 0 ≤ x5 then (qFA.l0 k (x0.set (x5 : Int).toNat x1) (wrap64 (x1 + 1)) (wrap64 (x5 + 1))) else (none)) else (some (x1, x0))
def qFA.f (k : Nat) (l0 : List Int) (a1 : Int) : Option (Int × List Int) := qFA.l0 k l0 a1 0
set_option maxHeartbeats 8000000 in
set_option maxRecDepth 100000 in
theorem qFA.calls (k : Nat) (P0_ : Nat → Prop) (u9000_ : Value) (l0 : List Int) (a1 : Int) (r1 : Int) (r2 : List Int) (w0 w : World) (hB : Below w0.heap.size w0 w) (ho0 : Kd.R (Kd.int .i64) 3 w w0.heap.size P0_ u9000_ l0) (h : qFA.f k l0 a1 = some (r1, r2)) :
  Calls Tryd.prog 46 #[u9000_, .int .i64 a1] w fun e w' => e = .returned (.int .i64 r1) ∧ Kd.R (Kd.int .i64) 3 w' w0.heap.size (fun k_ => (P0_ k_ ∨ w.heap.size ≤ k_)) u9000_ r2 ∧ Below w0.heap.size w0 w' ∧ Kept w w' (fun k_ => P0_ k_) := by
 have HO0 := Aside0.mk (show Kd.R (Kd.int .i64) 3 w w0.heap.size (fun k_ => (P0_ k_ ∨ w.heap.size ≤ k_)) u9000_ l0 from Kd.qg ho0 (fun k_ hk => (.inl hk)))
 have HK := Aside0.mk (Kept.refl w (fun k_ => P0_ k_))
 have HW0 := Aside0.mk hB.size
 have HB := Aside0.mk hB
 clear hB
 have H : (qFA.l0 k l0 a1 0) = some (r1, r2) := h
 clear h
 have H' := Aside0.mk H
 clear H
 go_enter Tryd.func46, Tryd.ntmps46
 go_wp2
 go_loopg [1, 5] k (fun kq v1 v5 w' => ∃ (x0_1 : List Int) (x1_1 : Int) (x5_1 : Int), v1 = .int .i64 x1_1 ∧ v5 = .int .i64 x5_1 ∧ Aside0 (qFA.l0 kq x0_1 x1_1 x5_1 = some (r1, r2)) ∧ Aside0 (kq ≤ k) ∧ Aside0 (Kd.R (Kd.int .i64) 3 w' w0.heap.size (fun k_ => (P0_ k_ ∨ w.heap.size ≤ k_)) u9000_ x0_1) ∧ Aside0 (Kept w w' (fun k_ => P0_ k_)) ∧ Aside0 (Below w0.heap.size w0 w'))
 case atStart => exact ⟨(l0), (a1), (0), (by first | rfl | (simp; done) | (simp [*]; done)), (by first | rfl | (simp; done) | (simp [*]; done)), H', ⟨Nat.le_refl _⟩, ⟨by (with_reducible repeat (first | apply Kd.qF | apply Kd.qE | apply Kd.qG)); exact HO0.out⟩, ⟨by repeat (first | (with_reducible first | exact HK.out | apply Kept.alloc | apply Kept.drewN | apply Kept.drew) | exact HK.out)⟩, ⟨bl⟩⟩
 case round =>
  clear H'
  try clear p2
  obtain ⟨x0_1, x1_1, x5_1, rfl, rfl, HA, HK1, HO_0, HK, HB⟩ := hrel
  cases gk with
  | zero => exact absurd HA.out (by simp [qFA.l0])
  | succ k1 =>
   have H := HA.out
   clear HA
   simp only [qFA.l0] at H
   by_cases c3 : x5_1 < (x0_1.length : Int)
   ·rw [if_pos c3] at H
    have c3b0 : decide (x5_1 < (x0_1.length : Int)) = true := decide_eq_true c3
    clear c3
    by_cases c4 : 0 ≤ x5_1
    ·rw [if_pos c4] at H
     have c4b0 : decide (0 ≤ x5_1) = true := decide_eq_true c4
     clear c4
     obtain ⟨y1037, hy1037⟩ : ∃ y_ : List Int, y_ = (x0_1.set (x5_1 : Int).toNat x1_1) := ⟨_, rfl⟩
     replace H : (qFA.l0 k1 y1037 (wrap64 (x1_1 + 1)) (wrap64 (x5_1 + 1))) = some (r1, r2) := by first | (rw [hy1037]; with_reducible exact H) | (have H2_ := (Option.bind_some _ _).symm.trans H; rw [hy1037]; with_reducible exact H2_) | (have H2_ := (Option.bind_some _ _).symm.trans H; with_reducible exact H2_) | with_reducible exact H | (rw [hy1037]; exact H) | exact H
     have Ny1037 := Aside0.mk hy1037
     clear hy1037
     have H' := Aside0.mk H
     clear H
     obtain ⟨Ao6, co6, eo6⟩ := Kd.qm HO_0.out
     subst eo6
     have p5 : 0 ≤ (x5_1 : Int) := of_decide_eq_true (by first | (with_reducible assumption) | assumption)
     have q5 : (x5_1 : Int) < ((x0_1.length : Int) : Int) := of_decide_eq_true (by first | (with_reducible assumption) | assumption)
     obtain ⟨go5, co5, eo5, gb5, gl5, cl5, HG5⟩ := Kd.R_form HO_0.out (by omega)
     (first | cases eo5 | (injection eo5 with ea_ en_ ec_; (first | subst ea_ | (injection ea_ with ea_; subst ea_)); subst ec_; clear en_))
     have GB5 := Aside0.mk gb5
     have GG5 := Aside0.mk HG5
     clear gb5 gl5 HG5
     have HMgo5 := Aside0.mk (show (P0_ go5 ∨ w.heap.size ≤ go5) from (HO_0.out.1 _ rfl))
     obtain ⟨hx5_0, hf5_0⟩ := Kd.R_celln 0 HO_0.out (x5_1 : Int) p5 q5
     replace p5 := eq_true p5
     replace q5 := eq_true q5
     have HP7 := Kd.R_putg HO_0.out (x5_1 : Int) x1_1
     go_wp2_with (first | ((with_reducible refine gate_store (t := 3) (p := 15) rfl ?_); refine store_event (t := 3) (p := 15) (v := ?vo_w8) (w1 := (wr.setCell ⟨go5, (x5_1 : Int).toNat, none⟩ (.int .i64 x1_1))) ?hg ?ho ?hn ?hr ?_; (case ho => rfl); (case hg => rfl); (case hn => rfl); (case hr => first | (go_simp; done) | (go_simp; rfl)); intro w8 hw; have hg : wr.grownBy w8 (some go5) := (by rw [hw]; exact HP7.2); have hp_ : Kd.R (Kd.int .i64) 3 w8 w0.heap.size (fun k_ => (P0_ k_ ∨ w.heap.size ≤ k_)) (.slice (some ⟨go5, 0, none⟩) x0_1.length co6) y1037 := (by rw [hw, Ny1037.out]; exact HP7.1); clear HP7; have n0_ := Aside0.mk (hp_); have n1_ := Aside0.mk ((by rw [hw]; exact qUA (HB.out) GB5.out : Below w0.heap.size w0 w8)); have n2_ := Aside0.mk (Kept.of_grown (S := (fun k_ => P0_ k_)) hg (by repeat (first | (with_reducible first | exact HK.out | apply Kept.alloc | apply Kept.drewN | apply Kept.drew) | exact HK.out)) (fun k_ e_ => (HO_0.out.1 k_ e_))); clear HO_0; clear HB; clear HK; have HO_0 := n0_; have HB := n1_; have HK := n2_; clear n0_ n1_ n2_; clear hg hw hp_))
     go_roundg k1
     case measure => have := HK1.out; omega
     case rel => exact ⟨(y1037), (wrap64 (x1_1 + 1)), (wrap64 (x5_1 + 1)), (by first | rfl | (simp; done) | (simp [*]; done)), (by first | rfl | (simp; done) | (simp [*]; done)), H', ⟨by have := HK1.out; omega⟩, ⟨by (with_reducible repeat (first | apply Kd.qF | apply Kd.qE | apply Kd.qG)); exact HO_0.out⟩, ⟨by repeat (first | (with_reducible first | exact HK.out | apply Kept.alloc | apply Kept.drewN | apply Kept.drew) | exact HK.out)⟩, ⟨bl⟩⟩
    ·rw [if_neg c4] at H
     exact absurd H (by simp)
   ·rw [if_neg c3] at H
    have c3b0 : decide (x5_1 < (x0_1.length : Int)) = false := decide_eq_false c3
    clear c3
    simp only [Option.some.injEq, Prod.mk.injEq] at H
    obtain ⟨rfl, rfl⟩ := H
    obtain ⟨Ao9, co9, eo9⟩ := Kd.qm HO_0.out
    subst eo9
    go_wp2
    go_ret
    exact ⟨by first | rfl | (simp [qL, qK] <;> rfl) | (simp [*, qL, qK] <;> rfl), by (with_reducible repeat (first | apply Kd.qF | apply Kd.qE | apply Kd.qG)); exact HO_0.out, bl, by repeat (first | (with_reducible first | exact HK.out | apply Kept.alloc | apply Kept.drewN | apply Kept.drew) | exact HK.out)⟩
def qr.l0 : Nat → List Int → Int → Int → Option (Int)
 | 0, _, _, _ => none
 | k + 1, x0, x1, x5 => if x5 < (x0.length : Int) then (if 0 ≤ x5 then (if (rd x0 x5) = x1 then (qr.l0 k x0 (wrap64 (x1 + 1)) (wrap64 (x5 + 1))) else (some (-1))) else (none)) else (some x1)
def qr.f (k : Nat) (l0 : List Int) (a1 : Int) : Option (Int) := qr.l0 k l0 a1 0
set_option maxHeartbeats 8000000 in
set_option maxRecDepth 100000 in
theorem qr.calls (k : Nat) (A0 : Option Addr) (c0 : Nat) (l0 : List Int) (a1 : Int) (r : Int) (w : World) (hr0 : Kd.C (Kd.int .i64) w A0 l0.length l0) (hc0 : l0.length ≤ c0) (h : qr.f k l0 a1 = some r) :
  Calls Tryd.prog 47 #[.slice A0 l0.length c0, .int .i64 a1] w fun e w' => e = .returned (.int .i64 r) ∧ Drawn0 w w' := by
 have HR0 := Aside0.mk hr0
 have HC0 := Aside0.mk hc0
 clear hr0 hc0
 have H : (qr.l0 k l0 a1 0) = some r := h
 clear h
 have H' := Aside0.mk H
 clear H
 go_enter Tryd.func47, Tryd.ntmps47
 go_wp2
 go_loopg [1, 5] k (fun kq v1 v5 w' => ∃ (x1_1 : Int) (x5_1 : Int), v1 = .int .i64 x1_1 ∧ v5 = .int .i64 x5_1 ∧ Aside0 (qr.l0 kq l0 x1_1 x5_1 = some r) ∧ Aside0 (kq ≤ k) ∧ Drawn0 w w')
 case atStart => exact ⟨(a1), (0), (by first | rfl | (simp; done) | (simp [*]; done)), (by first | rfl | (simp; done) | (simp [*]; done)), H', ⟨Nat.le_refl _⟩, by repeat (first | exact Drawn0.refl _ | apply Drawn0.step)⟩
 case round =>
  clear H'
  try clear p2
  obtain ⟨x1_1, x5_1, rfl, rfl, HA, HK1, ⟨m1, rfl⟩⟩ := hrel
  cases gk with
  | zero => exact absurd HA.out (by simp [qr.l0])
  | succ k1 =>
   have H := HA.out
   clear HA
   simp only [qr.l0] at H
   by_cases c3 : x5_1 < (l0.length : Int)
   ·rw [if_pos c3] at H
    have c3b0 : decide (x5_1 < (l0.length : Int)) = true := decide_eq_true c3
    clear c3
    by_cases c4 : 0 ≤ x5_1
    ·rw [if_pos c4] at H
     have c4b0 : decide (0 ≤ x5_1) = true := decide_eq_true c4
     clear c4
     by_cases c5 : (rd l0 x5_1) = x1_1
     ·rw [if_pos c5] at H
      have c5b0 : ((rd l0 x5_1) == x1_1) = true := beq_iff_eq.mpr c5
      have c5b1 : ((rd l0 x5_1) != x1_1) = false := bne_eq_false_iff_eq.mpr c5
      clear c5
      have H' := Aside0.mk H
      clear H
      have p1038 : 0 ≤ (x5_1 : Int) := of_decide_eq_true (by first | (with_reducible assumption) | assumption)
      have q1038 : x5_1 < (l0.length : Int) := of_decide_eq_true (by first | (with_reducible assumption) | assumption)
      obtain ⟨ad1038, e1038, hx1038_0⟩ := Kd.qtA HR0.out x5_1 p1038 q1038
      cases e1038
      replace p1038 := eq_true p1038
      replace q1038 := eq_true q1038
      go_wp2
      go_roundg k1
      case measure => have := HK1.out; omega
      case rel => exact ⟨(wrap64 (x1_1 + 1)), (wrap64 (x5_1 + 1)), (by first | rfl | (simp; done) | (simp [*]; done)), (by first | rfl | (simp; done) | (simp [*]; done)), H', ⟨by have := HK1.out; omega⟩, by repeat (first | exact Drawn0.refl _ | apply Drawn0.step)⟩
     ·rw [if_neg c5] at H
      have c5b0 : ((rd l0 x5_1) == x1_1) = false := beq_eq_false_iff_ne.mpr c5
      have c5b1 : ((rd l0 x5_1) != x1_1) = true := bne_iff_ne.mpr c5
      obtain rfl := Option.some.inj H
      have p1038 : 0 ≤ (x5_1 : Int) := of_decide_eq_true (by first | (with_reducible assumption) | assumption)
      have q1038 : x5_1 < (l0.length : Int) := of_decide_eq_true (by first | (with_reducible assumption) | assumption)
      obtain ⟨ad1038, e1038, hx1038_0⟩ := Kd.qtA HR0.out x5_1 p1038 q1038
      cases e1038
      replace p1038 := eq_true p1038
      replace q1038 := eq_true q1038
      go_wp2
      go_ret
      exact ⟨by first | rfl | (simp; done) | (simp [*]; done), by repeat (first | exact Drawn0.refl _ | apply Drawn0.step)⟩
    ·rw [if_neg c4] at H
     exact absurd H (by simp)
   ·rw [if_neg c3] at H
    have c3b0 : decide (x5_1 < (l0.length : Int)) = false := decide_eq_false c3
    clear c3
    obtain rfl := Option.some.inj H
    go_wp2
    go_ret
    exact ⟨by first | rfl | (simp; done) | (simp [*]; done), by repeat (first | exact Drawn0.refl _ | apply Drawn0.step)⟩
mutual
def qN.j0 : Nat → ByteArray → List Int → Bool → List Int → Bool → Int → Int → Int → Option (Bool)
 | 0, _, _, _, _, _, _, _, _ => none
 | k + 1, x0, x5, x6, x7, x38, x1040000, x1040001, x1040002 => if x38 = true then (some false) else ((qFA.f k x7 1).bind fun bt1055 => ((qr.f k bt1055.2 1).bind fun t1057 => (if t1057 < 0 then (some false) else (if t1057 = bt1055.1 then ((qRA.f x1040000 x1040001 x1040002).bind fun bt1058 => ((qj.f k x0 bt1058.1 bt1058.2.1 bt1058.2.2).bind fun bt1061 => ((qu.f k bt1061.1 x5).bind fun t1065 => (if t1065 = true then (qN.j1 k bt1055.2 bt1055.1 (bt1061.2 != x6)) else (qN.j1 k bt1055.2 bt1055.1 true))))) else (some false)))))
def qN.j1 : Nat → List Int → Int → Bool → Option (Bool)
 | 0, _, _, _ => none
 | k + 1, x7, x9, x65 => if x65 = true then (some false) else ((qr.f k x7 1).bind fun t1066 => (if t1066 < 0 then (some false) else (if t1066 = x9 then (some true) else (some false))))
end
def qN.f (k : Nat) (a0 : ByteArray) (a1_0 : Int) (a1_1 : Int) (a1_2 : Int) : Option (Bool) := if (a0.size : Int) > 1048576 then (some true) else ((qRA.f a1_0 a1_1 a1_2).bind fun bt1040 => ((qCA.f k a0 bt1040.1 bt1040.2.1 bt1040.2.2).bind fun bt1043 => ((qRA.f a1_0 a1_1 a1_2).bind fun bt1047 => ((qj.f k a0 bt1047.1 bt1047.2.1 bt1047.2.2).bind fun bt1050 => ((qu.f k bt1050.1 bt1043.1).bind fun t1054 => (if t1054 = true then (qN.j0 k a0 bt1043.1 bt1043.2 bt1050.1 (bt1050.2 != bt1043.2) a1_0 a1_1 a1_2) else (qN.j0 k a0 bt1043.1 bt1043.2 bt1050.1 true a1_0 a1_1 a1_2)))))))
set_option maxHeartbeats 8000000 in
set_option maxRecDepth 100000 in
theorem qN.calls (k : Nat) (a0 : ByteArray) (a1_0 : Int) (a1_1 : Int) (a1_2 : Int) (r : Bool) (w : World) (hL : Laid w) (h : qN.f k a0 a1_0 a1_1 a1_2 = some r) :
  Calls Tryd.prog 15 #[.string a0, .agg #[.int .i64 a1_0, .int .i64 a1_1, .int .i64 a1_2]] w fun e w' => e = .returned (.bool r) ∧ Below w.heap.size w w' := by
 have hu24 := Tryd.underlying24
 have HLD := Aside0.mk hL
 clear hL
 have HB := Aside0.mk (Below.refl w.heap.size w)
 have H : (if (a0.size : Int) > 1048576 then (some true) else ((qRA.f a1_0 a1_1 a1_2).bind fun bt1040 => ((qCA.f k a0 bt1040.1 bt1040.2.1 bt1040.2.2).bind fun bt1043 => ((qRA.f a1_0 a1_1 a1_2).bind fun bt1047 => ((qj.f k a0 bt1047.1 bt1047.2.1 bt1047.2.2).bind fun bt1050 => ((qu.f k bt1050.1 bt1043.1).bind fun t1054 => (if t1054 = true then (qN.j0 k a0 bt1043.1 bt1043.2 bt1050.1 (bt1050.2 != bt1043.2) a1_0 a1_1 a1_2) else (qN.j0 k a0 bt1043.1 bt1043.2 bt1050.1 true a1_0 a1_1 a1_2)))))))) = some r := h
 clear h
 by_cases c3 : (a0.size : Int) > 1048576
 ·rw [if_pos c3] at H
  have c3b0 : decide (1048576 < (a0.size : Int)) = true := decide_eq_true c3
  have c3b1 : decide (1048576 < a0.size) = true := decide_eq_true (by omega)
  clear c3
  obtain rfl := Option.some.inj H
  go_enter Tryd.func15, Tryd.ntmps15
  go_wp2_with (first | ((with_reducible refine qe (N := 3) rfl ?_); refine qb ?hg (N := 3) ?hd (cs := #[.int .i64 a1_0, .int .i64 a1_1, .int .i64 a1_2]) (t := 24) ?hr ?_; (case hd => rfl); (case hg => rfl); (case hr => first | (go_simp; done) | (go_simp; rfl)); intro gb1039 hg w4 hbox hb; have n0_ := Aside0.mk (qH bl hb); have n1_ := Aside0.mk (hbox); have n2_ := Aside0.mk ((gg hg)); have n3_ := Aside0.mk ((gg hg)); clear HB; have HB := n0_; have BK1039 := n1_; have GW1039 := n2_; have GE1039 := n3_; clear n0_ n1_ n2_ n3_; clear hb hbox hg))
  go_ret
  exact ⟨by first | rfl | (simp [qL, qK] <;> rfl) | (simp [*, qL, qK] <;> rfl), bl⟩
 ·rw [if_neg c3] at H
  have c3b0 : decide (1048576 < (a0.size : Int)) = false := decide_eq_false c3
  have c3b1 : decide (1048576 < a0.size) = false := decide_eq_false (by omega)
  clear c3
  replace H := Option.bind_eq_some_iff.mp H
  obtain ⟨⟨t1040, t1041, t1042⟩, A50, H⟩ := H
  replace H : ((qCA.f k a0 t1040 t1041 t1042).bind fun bt1043 => ((qRA.f a1_0 a1_1 a1_2).bind fun bt1047 => ((qj.f k a0 bt1047.1 bt1047.2.1 bt1047.2.2).bind fun bt1050 => ((qu.f k bt1050.1 bt1043.1).bind fun t1054 => (if t1054 = true then (qN.j0 k a0 bt1043.1 bt1043.2 bt1050.1 (bt1050.2 != bt1043.2) a1_0 a1_1 a1_2) else (qN.j0 k a0 bt1043.1 bt1043.2 bt1050.1 true a1_0 a1_1 a1_2)))))) = some r := H
  have A5 := Aside0.mk A50
  clear A50
  replace H := Option.bind_eq_some_iff.mp H
  obtain ⟨⟨t1043, t1046⟩, A60, H⟩ := H
  replace H : ((qRA.f a1_0 a1_1 a1_2).bind fun bt1047 => ((qj.f k a0 bt1047.1 bt1047.2.1 bt1047.2.2).bind fun bt1050 => ((qu.f k bt1050.1 t1043).bind fun t1054 => (if t1054 = true then (qN.j0 k a0 t1043 t1046 bt1050.1 (bt1050.2 != t1046) a1_0 a1_1 a1_2) else (qN.j0 k a0 t1043 t1046 bt1050.1 true a1_0 a1_1 a1_2))))) = some r := H
  have A6 := Aside0.mk A60
  clear A60
  replace H := Option.bind_eq_some_iff.mp H
  obtain ⟨⟨t1047, t1048, t1049⟩, A70, H⟩ := H
  replace H : ((qj.f k a0 t1047 t1048 t1049).bind fun bt1050 => ((qu.f k bt1050.1 t1043).bind fun t1054 => (if t1054 = true then (qN.j0 k a0 t1043 t1046 bt1050.1 (bt1050.2 != t1046) a1_0 a1_1 a1_2) else (qN.j0 k a0 t1043 t1046 bt1050.1 true a1_0 a1_1 a1_2)))) = some r := H
  have A7 := Aside0.mk A70
  clear A70
  replace H := Option.bind_eq_some_iff.mp H
  obtain ⟨⟨t1050, t1053⟩, A80, H⟩ := H
  replace H : ((qu.f k t1050 t1043).bind fun t1054 => (if t1054 = true then (qN.j0 k a0 t1043 t1046 t1050 (t1053 != t1046) a1_0 a1_1 a1_2) else (qN.j0 k a0 t1043 t1046 t1050 true a1_0 a1_1 a1_2))) = some r := H
  have A8 := Aside0.mk A80
  clear A80
  have HC9 := Aside0.mk H
  clear H
  go_enter Tryd.func15, Tryd.ntmps15
  go_upto_region 5 with (first | ((with_reducible refine qe (N := 3) rfl ?_); refine qb ?hg (N := 3) ?hd (cs := #[.int .i64 a1_0, .int .i64 a1_1, .int .i64 a1_2]) (t := 24) ?hr ?_; (case hd => rfl); (case hg => rfl); (case hr => first | (go_simp; done) | (go_simp; rfl)); intro gb1039 hg w10 hbox hb; have n0_ := Aside0.mk (qH bl hb); have n1_ := Aside0.mk (hbox); have n2_ := Aside0.mk ((gg hg)); have n3_ := Aside0.mk ((gg hg)); clear HB; have HB := n0_; have BK1039 := n1_; have GW1039 := n2_; have GE1039 := n3_; clear n0_ n1_ n2_ n3_; clear hb hbox hg; have hcz11_0 := bc BK1039 0; have hcz11_1 := bc BK1039 1; have hcz11_2 := bc BK1039 2; have hfz11_0 := qD BK1039.out 0; have hfz11_1 := qD BK1039.out 1; have hfz11_2 := qD BK1039.out 2) | ((with_reducible refine qT (f := 20) rfl ?_); refine qDA (some 19) rfl rfl Tryd.func20 (by kernel_rfl) rfl #[.agg #[.int .i64 a1_0, .int .i64 a1_1, .int .i64 a1_2]] rfl (by (try simp only [List.map_toArray, List.map_cons, List.map_nil]); first | done | rfl | (simp only [List.length_drop, List.length_take]; rfl)) ?_; (with_reducible refine (qRA.calls a1_0 a1_1 a1_2 t1040 t1041 t1042 _ A5.out).mono ?_); rintro e w12 ⟨rfl, hb⟩; refine ⟨_, rfl, ?_⟩; have n0_ := Aside0.mk (bb BK1039 hb); have n1_ := Aside0.mk (qH bl hb); clear BK1039; clear HB; have BK1039 := n0_; have HB := n1_; clear n0_ n1_; (try clear hb); (try clear hb2); (try clear hk); (try clear hi)) | ((with_reducible refine qT (f := 43) rfl ?_); refine qDA (some 20) rfl rfl Tryd.func43 (by kernel_rfl) rfl #[.string a0, .agg #[.int .i64 t1040, .int .i64 t1041, .int .i64 t1042]] rfl (by (try simp only [List.map_toArray, List.map_cons, List.map_nil]); first | done | rfl | (simp only [List.length_drop, List.length_take]; rfl)) ?_; (with_reducible refine (qCA.calls k a0 t1040 t1041 t1042 t1043 t1046 _ A6.out).mono ?_); rintro e w13 ⟨v1044, rfl, ho0, hb⟩; refine ⟨_, rfl, ?_⟩; have n0_ := Aside0.mk (Kd.qEA ho0 (qh bl)); have n1_ := Aside0.mk (bb BK1039 hb); have n2_ := Aside0.mk (qH bl hb); clear BK1039; clear HB; have HO1045 := n0_; have BK1039 := n1_; have HB := n2_; clear n0_ n1_ n2_; (try clear hb); (try clear hb2); (try clear hk); (try clear hi); (try clear ho0); have hcz14_0 := bc BK1039 0; have hcz14_1 := bc BK1039 1; have hcz14_2 := bc BK1039 2; have hfz14_0 := qD BK1039.out 0; have hfz14_1 := qD BK1039.out 1; have hfz14_2 := qD BK1039.out 2) | ((with_reducible refine qT (f := 20) rfl ?_); refine qDA (some 26) rfl rfl Tryd.func20 (by kernel_rfl) rfl #[.agg #[.int .i64 a1_0, .int .i64 a1_1, .int .i64 a1_2]] rfl (by (try simp only [List.map_toArray, List.map_cons, List.map_nil]); first | done | rfl | (simp only [List.length_drop, List.length_take]; rfl)) ?_; (with_reducible refine (qRA.calls a1_0 a1_1 a1_2 t1047 t1048 t1049 _ A7.out).mono ?_); rintro e w15 ⟨rfl, hb⟩; refine ⟨_, rfl, ?_⟩; have n0_ := Aside0.mk (Kd.qU (by (with_reducible repeat (first | apply Kd.qF | apply Kd.qE | apply Kd.qG)); exact HO1045.out) hb); have n1_ := Aside0.mk (bb BK1039 hb); have n2_ := Aside0.mk (qH bl hb); clear HO1045; clear BK1039; clear HB; have HO1045 := n0_; have BK1039 := n1_; have HB := n2_; clear n0_ n1_ n2_; (try clear hb); (try clear hb2); (try clear hk); (try clear hi)) | ((with_reducible refine qT (f := 44) rfl ?_); refine qDA (some 27) rfl rfl Tryd.func44 (by kernel_rfl) rfl #[.string a0, .agg #[.int .i64 t1047, .int .i64 t1048, .int .i64 t1049]] rfl (by (try simp only [List.map_toArray, List.map_cons, List.map_nil]); first | done | rfl | (simp only [List.length_drop, List.length_take]; rfl)) ?_; (with_reducible refine (qj.calls k a0 t1047 t1048 t1049 t1050 t1053 _ ?side1 A8.out).mono ?_); (case side1 => first | exact HLD.out | exact Laid.below HLD.out (by repeat (first | (with_reducible first | exact HB.out | apply qt | apply qo | apply qk | refine qUA ?_ (Aside0.out (by with_reducible assumption))) | exact HB.out))); rintro e w16 ⟨v1051, rfl, ho0, hb⟩; refine ⟨_, rfl, ?_⟩; have n0_ := Aside0.mk (Kd.qiA (by (with_reducible repeat (first | apply Kd.qF | apply Kd.qE | apply Kd.qG)); exact HO1045.out) (Kd.qHB ho0) hb); have n1_ := Aside0.mk (Kd.qEA (Kd.qGB ho0 (Kd.R_lt (by (with_reducible repeat (first | apply Kd.qF | apply Kd.qE | apply Kd.qG)); exact HO1045.out))) (qh bl)); have n2_ := Aside0.mk (bb BK1039 hb); have n3_ := Aside0.mk (qH bl hb); clear HO1045; clear BK1039; clear HB; have HO1045 := n0_; have HO1052 := n1_; have BK1039 := n2_; have HB := n3_; clear n0_ n1_ n2_ n3_; (try clear hb); (try clear hb2); (try clear hk); (try clear hi); (try clear ho0)))
  (try simp only [Act.put, List.setIfInBounds_toArray, List.set_cons_zero, List.set_cons_succ])
  go_cut [38] (fun v38 wc => ∃ (kq : Nat) (x38_8 : Bool), v38 = .bool x38_8 ∧ Aside0 (qN.j0 kq a0 t1043 t1046 t1050 x38_8 a1_0 a1_1 a1_2 = some r) ∧ Aside0 (kq ≤ k) ∧ Aside0 (Kd.R (Kd.int .i64) 3 wc w.heap.size (fun k_ => some k_ ≠ (v1051 : Value).ownBlock) v1044 t1043) ∧ Aside0 (Kd.R (Kd.int .i64) 3 wc w.heap.size (fun k_ => some k_ ≠ (v1044 : Value).ownBlock) v1051 t1050) ∧ Aside0 (wc.heap[gb1039]? = some (.cells #[.int .i64 a1_0, .int .i64 a1_1, .int .i64 a1_2] 24 (0, 0))) ∧ Aside0 (Below w.heap.size w wc))
  case first =>
   have H := HC9.out
   clear HC9
   replace H := Option.bind_eq_some_iff.mp H
   obtain ⟨t1054, A170, H⟩ := H
   replace H : (if t1054 = true then (qN.j0 k a0 t1043 t1046 t1050 (t1053 != t1046) a1_0 a1_1 a1_2) else (qN.j0 k a0 t1043 t1046 t1050 true a1_0 a1_1 a1_2)) = some r := H
   have A17 := Aside0.mk A170
   clear A170
   by_cases c18 : t1054 = true
   ·subst c18
    have H1 : (qN.j0 k a0 t1043 t1046 t1050 (t1053 != t1046) a1_0 a1_1 a1_2) = some r := by rw [if_pos rfl] at H; exact H
    clear H
    have H := H1
    clear H1
    have H' := Aside0.mk H
    clear H
    obtain ⟨Ao19, co19, eo19⟩ := Kd.qm HO1052.out
    subst eo19
    obtain ⟨Ao20, co20, eo20⟩ := Kd.qm HO1045.out
    subst eo20
    go_wp2_with (first | ((with_reducible refine qT (f := 45) rfl ?_); refine qDA (some 32) rfl rfl Tryd.func45 (by kernel_rfl) rfl #[.slice Ao19 t1050.length co19, .slice Ao20 t1043.length co20] rfl (by (try simp only [List.map_toArray, List.map_cons, List.map_nil]); first | done | rfl | (simp only [List.length_drop, List.length_take]; rfl)) ?_; (with_reducible refine (qu.calls k _ _ t1050 _ _ t1043 true _ ?side1 ?side2 ?side3 ?side4 A17.out).mono ?_); (case side1 => repeat (first | exact (Kd.qS HO1052.out).2.2 | (with_reducible refine Kd.qx ?_ _) | (with_reducible refine Kd.qw ?_ _) | (with_reducible refine Kd.qLA ?_))); (case side2 => exact (Kd.qS HO1052.out).2.1); (case side3 => repeat (first | exact (Kd.qS HO1045.out).2.2 | (with_reducible refine Kd.qx ?_ _) | (with_reducible refine Kd.qw ?_ _) | (with_reducible refine Kd.qLA ?_))); (case side4 => exact (Kd.qS HO1045.out).2.1); rintro e w' ⟨rfl, ⟨nd, rfl⟩⟩; refine ⟨_, rfl, ?_⟩))
    go_meet
    case rel => exact ⟨_, ((t1053 != t1046)), (by first | rfl | (simp; done) | (simp [*]; done)), H', ⟨by first | omega | exact Nat.le_refl _⟩, ⟨by (with_reducible repeat (first | apply Kd.qF | apply Kd.qE | apply Kd.qG)); exact Kd.qg HO1045.out (fun _ hk => hk.2)⟩, ⟨by (with_reducible repeat (first | apply Kd.qF | apply Kd.qE | apply Kd.qG)); exact Kd.qg HO1052.out (fun _ hk => hk.2)⟩, ⟨by (with_reducible repeat (first | refine qB ?_ _ | refine qC ?_ | refine qA ?_ _)); exact BK1039.out⟩, ⟨bl⟩⟩
   ·replace c18 := Bool.eq_false_iff.mpr c18
    subst c18
    have H1 : (qN.j0 k a0 t1043 t1046 t1050 true a1_0 a1_1 a1_2) = some r := by rw [if_neg (show ¬ (false = true) by decide)] at H; exact H
    clear H
    have H := H1
    clear H1
    have H' := Aside0.mk H
    clear H
    obtain ⟨Ao21, co21, eo21⟩ := Kd.qm HO1052.out
    subst eo21
    obtain ⟨Ao22, co22, eo22⟩ := Kd.qm HO1045.out
    subst eo22
    go_wp2_with (first | ((with_reducible refine qT (f := 45) rfl ?_); refine qDA (some 32) rfl rfl Tryd.func45 (by kernel_rfl) rfl #[.slice Ao21 t1050.length co21, .slice Ao22 t1043.length co22] rfl (by (try simp only [List.map_toArray, List.map_cons, List.map_nil]); first | done | rfl | (simp only [List.length_drop, List.length_take]; rfl)) ?_; (with_reducible refine (qu.calls k _ _ t1050 _ _ t1043 false _ ?side1 ?side2 ?side3 ?side4 A17.out).mono ?_); (case side1 => repeat (first | exact (Kd.qS HO1052.out).2.2 | (with_reducible refine Kd.qx ?_ _) | (with_reducible refine Kd.qw ?_ _) | (with_reducible refine Kd.qLA ?_))); (case side2 => exact (Kd.qS HO1052.out).2.1); (case side3 => repeat (first | exact (Kd.qS HO1045.out).2.2 | (with_reducible refine Kd.qx ?_ _) | (with_reducible refine Kd.qw ?_ _) | (with_reducible refine Kd.qLA ?_))); (case side4 => exact (Kd.qS HO1045.out).2.1); rintro e w' ⟨rfl, ⟨nd, rfl⟩⟩; refine ⟨_, rfl, ?_⟩))
    go_meet
    case rel => exact ⟨_, (true), (by first | rfl | (simp; done) | (simp [*]; done)), H', ⟨by first | omega | exact Nat.le_refl _⟩, ⟨by (with_reducible repeat (first | apply Kd.qF | apply Kd.qE | apply Kd.qG)); exact Kd.qg HO1045.out (fun _ hk => hk.2)⟩, ⟨by (with_reducible repeat (first | apply Kd.qF | apply Kd.qE | apply Kd.qG)); exact Kd.qg HO1052.out (fun _ hk => hk.2)⟩, ⟨by (with_reducible repeat (first | refine qB ?_ _ | refine qC ?_ | refine qA ?_ _)); exact BK1039.out⟩, ⟨bl⟩⟩
  case rest =>
   clear HC9
   try clear c1
   try clear c2
   try clear p2
   try clear c3
   try clear c3b0
   try clear c3b1
   try clear c4
   try clear c15
   try clear c18
   try clear c20
   try clear hcz11_0
   try clear hcz11_1
   try clear hcz11_2
   try clear hcz14_0
   try clear hcz14_1
   try clear hcz14_2
   try clear hfz11_0
   try clear hfz11_1
   try clear hfz11_2
   try clear hfz14_0
   try clear hfz14_1
   try clear hfz14_2
   obtain ⟨kq, x38_8, rfl, HA, HJ8, HO_5, HO_7, BK1039, HB⟩ := hcut
   cases kq with
   | zero => exact absurd HA.out (by simp [qN.j0])
   | succ kj8 =>
    have H := HA.out
    clear HA
    simp only [qN.j0] at H
    by_cases c23 : x38_8 = true
    ·subst c23
     have H1 : (some false) = some r := by rw [if_pos rfl] at H; exact H
     clear H
     have H := H1
     clear H1
     obtain rfl := Option.some.inj H
     go_wp2
     go_ret
     exact ⟨by first | rfl | (simp [qL, qK] <;> rfl) | (simp [*, qL, qK] <;> rfl), bl⟩
    ·replace c23 := Bool.eq_false_iff.mpr c23
     subst c23
     have H1 : ((qFA.f kj8 t1050 1).bind fun bt1055 => ((qr.f kj8 bt1055.2 1).bind fun t1057 => (if t1057 < 0 then (some false) else (if t1057 = bt1055.1 then ((qRA.f a1_0 a1_1 a1_2).bind fun bt1058 => ((qj.f kj8 a0 bt1058.1 bt1058.2.1 bt1058.2.2).bind fun bt1061 => ((qu.f kj8 bt1061.1 t1043).bind fun t1065 => (if t1065 = true then (qN.j1 kj8 bt1055.2 bt1055.1 (bt1061.2 != t1046)) else (qN.j1 kj8 bt1055.2 bt1055.1 true))))) else (some false))))) = some r := by rw [if_neg (show ¬ (false = true) by decide)] at H; exact H
     clear H
     have H := H1
     clear H1
     replace H := Option.bind_eq_some_iff.mp H
     obtain ⟨⟨t1055, t1056⟩, A240, H⟩ := H
     replace H : ((qr.f kj8 t1056 1).bind fun t1057 => (if t1057 < 0 then (some false) else (if t1057 = t1055 then ((qRA.f a1_0 a1_1 a1_2).bind fun bt1058 => ((qj.f kj8 a0 bt1058.1 bt1058.2.1 bt1058.2.2).bind fun bt1061 => ((qu.f kj8 bt1061.1 t1043).bind fun t1065 => (if t1065 = true then (qN.j1 kj8 t1056 t1055 (bt1061.2 != t1046)) else (qN.j1 kj8 t1056 t1055 true))))) else (some false)))) = some r := H
     have A24 := Aside0.mk A240
     clear A240
     replace H := Option.bind_eq_some_iff.mp H
     obtain ⟨t1057, A250, H⟩ := H
     replace H : (if t1057 < 0 then (some false) else (if t1057 = t1055 then ((qRA.f a1_0 a1_1 a1_2).bind fun bt1058 => ((qj.f kj8 a0 bt1058.1 bt1058.2.1 bt1058.2.2).bind fun bt1061 => ((qu.f kj8 bt1061.1 t1043).bind fun t1065 => (if t1065 = true then (qN.j1 kj8 t1056 t1055 (bt1061.2 != t1046)) else (qN.j1 kj8 t1056 t1055 true))))) else (some false))) = some r := H
     have A25 := Aside0.mk A250
     clear A250
     by_cases c26 : t1057 < 0
     ·rw [if_pos c26] at H
      have c26b0 : decide (t1057 < 0) = true := decide_eq_true c26
      clear c26
      obtain rfl := Option.some.inj H
      obtain ⟨Ao27, co27, eo27⟩ := Kd.qm HO_7.out
      subst eo27
      go_wp2_with (first | ((with_reducible refine qT (f := 46) rfl ?_); refine qDA (some 41) rfl rfl Tryd.func46 (by kernel_rfl) rfl #[.slice Ao27 t1050.length co27, .int .i64 1] rfl (by (try simp only [List.map_toArray, List.map_cons, List.map_nil]); first | done | rfl | (simp only [List.length_drop, List.length_take]; rfl)) ?_; (with_reducible refine (qFA.calls kj8 (fun k_ => some k_ = (.slice Ao27 t1050.length co27 : Value).ownBlock) (.slice Ao27 t1050.length co27) t1050 1 t1055 t1056 w _ ?side1 ?side2 A24.out).mono ?_); (case side1 => repeat (first | (with_reducible first | exact HB.out | apply qt | apply qo | apply qk | refine qUA ?_ GE1039.out) | exact HB.out)); (case side2 => exact Kd.qFC rfl HO_7.out); rintro e w28 ⟨rfl, hy0, hb, hkp⟩; refine ⟨_, rfl, ?_⟩; have n0_ := Aside0.mk (Kd.qg (ok' := fun k_ => some k_ ≠ (.slice Ao27 t1050.length co27 : Value).ownBlock) (Kd.qGC (HO_5.out) hkp (fun k_ hk_ hs_ => (hk_) hs_)) (fun k_ hk_ => hk_.1)); have n1_ := Aside0.mk (Kd.qXC rfl hy0 (fun k_ e_ => HO_7.out.1 k_ e_)); have n2_ := Aside0.mk (qvB (by (with_reducible repeat (first | refine qB ?_ _ | refine qC ?_ | refine qA ?_ _)); exact BK1039.out) hkp (fun hs_ => (fun e_ => (Kd.R_ne HO_7.out BK1039.out (by decide)) e_) hs_)); have n3_ := Aside0.mk (hb); clear HO_5; clear HO_7; clear BK1039; clear HB; have HO_5 := n0_; have HO_7 := n1_; have BK1039 := n2_; have HB := n3_; clear n0_ n1_ n2_ n3_; (try clear hb); (try clear hkp); (try clear hy0)) | ((with_reducible refine qT (f := 47) rfl ?_); refine qDA (some 44) rfl rfl Tryd.func47 (by kernel_rfl) rfl #[.slice Ao27 t1056.length co27, .int .i64 1] rfl (by (try simp only [List.map_toArray, List.map_cons, List.map_nil]); first | done | (rw [show t1056.length = t1050.length from (Kd.qS HO_7.out).1.symm] <;> rfl) | rfl | (simp only [List.length_drop, List.length_take]; rfl)) ?_; (with_reducible refine (qr.calls kj8 _ _ t1056 1 t1057 _ ?side1 ?side2 A25.out).mono ?_); (case side1 => repeat (first | exact (Kd.qS HO_7.out).2.2 | (with_reducible refine Kd.qx ?_ _) | (with_reducible refine Kd.qw ?_ _) | (with_reducible refine Kd.qLA ?_))); (case side2 => rw [show t1056.length = t1050.length from (Kd.qS HO_7.out).1.symm]; exact (Kd.qS HO_7.out).2.1); rintro e w' ⟨rfl, ⟨nd, rfl⟩⟩; refine ⟨_, rfl, ?_⟩))
      go_ret
      exact ⟨by first | rfl | (simp [qL, qK] <;> rfl) | (simp [*, qL, qK] <;> rfl), bl⟩
     ·rw [if_neg c26] at H
      have c26b0 : decide (t1057 < 0) = false := decide_eq_false c26
      clear c26
      by_cases c29 : t1057 = t1055
      ·rw [if_pos c29] at H
       have c29b0 : (t1057 == t1055) = true := beq_iff_eq.mpr c29
       have c29b1 : (t1057 != t1055) = false := bne_eq_false_iff_eq.mpr c29
       clear c29
       replace H := Option.bind_eq_some_iff.mp H
       obtain ⟨⟨t1058, t1059, t1060⟩, A300, H⟩ := H
       replace H : ((qj.f kj8 a0 t1058 t1059 t1060).bind fun bt1061 => ((qu.f kj8 bt1061.1 t1043).bind fun t1065 => (if t1065 = true then (qN.j1 kj8 t1056 t1055 (bt1061.2 != t1046)) else (qN.j1 kj8 t1056 t1055 true)))) = some r := H
       have A30 := Aside0.mk A300
       clear A300
       replace H := Option.bind_eq_some_iff.mp H
       obtain ⟨⟨t1061, t1064⟩, A310, H⟩ := H
       replace H : ((qu.f kj8 t1061 t1043).bind fun t1065 => (if t1065 = true then (qN.j1 kj8 t1056 t1055 (t1064 != t1046)) else (qN.j1 kj8 t1056 t1055 true))) = some r := H
       have A31 := Aside0.mk A310
       clear A310
       have HC32 := Aside0.mk H
       clear H
       obtain ⟨Ao33, co33, eo33⟩ := Kd.qm HO_7.out
       subst eo33
       go_upto_region 16 with (first | ((with_reducible refine qT (f := 46) rfl ?_); refine qDA (some 41) rfl rfl Tryd.func46 (by kernel_rfl) rfl #[.slice Ao33 t1050.length co33, .int .i64 1] rfl (by (try simp only [List.map_toArray, List.map_cons, List.map_nil]); first | done | rfl | (simp only [List.length_drop, List.length_take]; rfl)) ?_; (with_reducible refine (qFA.calls kj8 (fun k_ => some k_ = (.slice Ao33 t1050.length co33 : Value).ownBlock) (.slice Ao33 t1050.length co33) t1050 1 t1055 t1056 w _ ?side1 ?side2 A24.out).mono ?_); (case side1 => repeat (first | (with_reducible first | exact HB.out | apply qt | apply qo | apply qk | refine qUA ?_ GE1039.out) | exact HB.out)); (case side2 => exact Kd.qFC rfl HO_7.out); rintro e w34 ⟨rfl, hy0, hb, hkp⟩; refine ⟨_, rfl, ?_⟩; have n0_ := Aside0.mk (Kd.qg (ok' := fun k_ => some k_ ≠ (.slice Ao33 t1050.length co33 : Value).ownBlock) (Kd.qGC (HO_5.out) hkp (fun k_ hk_ hs_ => (hk_) hs_)) (fun k_ hk_ => hk_.1)); have n1_ := Aside0.mk (Kd.qXC rfl hy0 (fun k_ e_ => HO_7.out.1 k_ e_)); have n2_ := Aside0.mk (qvB (by (with_reducible repeat (first | refine qB ?_ _ | refine qC ?_ | refine qA ?_ _)); exact BK1039.out) hkp (fun hs_ => (fun e_ => (Kd.R_ne HO_7.out BK1039.out (by decide)) e_) hs_)); have n3_ := Aside0.mk (hb); clear HO_5; clear HO_7; clear BK1039; clear HB; have HO_5 := n0_; have HO_7 := n1_; have BK1039 := n2_; have HB := n3_; clear n0_ n1_ n2_ n3_; (try clear hb); (try clear hkp); (try clear hy0)) | ((with_reducible refine qT (f := 47) rfl ?_); refine qDA (some 44) rfl rfl Tryd.func47 (by kernel_rfl) rfl #[.slice Ao33 t1056.length co33, .int .i64 1] rfl (by (try simp only [List.map_toArray, List.map_cons, List.map_nil]); first | done | (rw [show t1056.length = t1050.length from (Kd.qS HO_7.out).1.symm] <;> rfl) | rfl | (simp only [List.length_drop, List.length_take]; rfl)) ?_; (with_reducible refine (qr.calls kj8 _ _ t1056 1 t1057 _ ?side1 ?side2 A25.out).mono ?_); (case side1 => repeat (first | exact (Kd.qS HO_7.out).2.2 | (with_reducible refine Kd.qx ?_ _) | (with_reducible refine Kd.qw ?_ _) | (with_reducible refine Kd.qLA ?_))); (case side2 => rw [show t1056.length = t1050.length from (Kd.qS HO_7.out).1.symm]; exact (Kd.qS HO_7.out).2.1); rintro e w' ⟨rfl, ⟨nd, rfl⟩⟩; refine ⟨_, rfl, ?_⟩; have hcz35_0 := bc BK1039 0; have hcz35_1 := bc BK1039 1; have hcz35_2 := bc BK1039 2; have hfz35_0 := qD BK1039.out 0; have hfz35_1 := qD BK1039.out 1; have hfz35_2 := qD BK1039.out 2) | ((with_reducible refine qT (f := 20) rfl ?_); refine qDA (some 53) rfl rfl Tryd.func20 (by kernel_rfl) rfl #[.agg #[.int .i64 a1_0, .int .i64 a1_1, .int .i64 a1_2]] rfl (by (try simp only [List.map_toArray, List.map_cons, List.map_nil]); first | done | rfl | (simp only [List.length_drop, List.length_take]; rfl)) ?_; (with_reducible refine (qRA.calls a1_0 a1_1 a1_2 t1058 t1059 t1060 _ A30.out).mono ?_); rintro e w36 ⟨rfl, hb⟩; refine ⟨_, rfl, ?_⟩; have n0_ := Aside0.mk (Kd.qU (by (with_reducible repeat (first | apply Kd.qF | apply Kd.qE | apply Kd.qG)); exact HO_5.out) hb); have n1_ := Aside0.mk (Kd.qU (by (with_reducible repeat (first | apply Kd.qF | apply Kd.qE | apply Kd.qG)); exact HO_7.out) hb); have n2_ := Aside0.mk (bb BK1039 hb); have n3_ := Aside0.mk (qH bl hb); clear HO_5; clear HO_7; clear BK1039; clear HB; have HO_5 := n0_; have HO_7 := n1_; have BK1039 := n2_; have HB := n3_; clear n0_ n1_ n2_ n3_; (try clear hb); (try clear hb2); (try clear hk); (try clear hi)) | ((with_reducible refine qT (f := 44) rfl ?_); refine qDA (some 54) rfl rfl Tryd.func44 (by kernel_rfl) rfl #[.string a0, .agg #[.int .i64 t1058, .int .i64 t1059, .int .i64 t1060]] rfl (by (try simp only [List.map_toArray, List.map_cons, List.map_nil]); first | done | rfl | (simp only [List.length_drop, List.length_take]; rfl)) ?_; (with_reducible refine (qj.calls kj8 a0 t1058 t1059 t1060 t1061 t1064 _ ?side1 A31.out).mono ?_); (case side1 => first | exact HLD.out | exact Laid.below HLD.out (by repeat (first | (with_reducible first | exact HB.out | apply qt | apply qo | apply qk | refine qUA ?_ (Aside0.out (by with_reducible assumption))) | exact HB.out))); rintro e w37 ⟨v1062, rfl, ho0, hb⟩; refine ⟨_, rfl, ?_⟩; have n0_ := Aside0.mk (Kd.qiA (by (with_reducible repeat (first | apply Kd.qF | apply Kd.qE | apply Kd.qG)); exact HO_5.out) (Kd.qHB ho0) hb); have n1_ := Aside0.mk (Kd.qiA (by (with_reducible repeat (first | apply Kd.qF | apply Kd.qE | apply Kd.qG)); exact HO_7.out) (Kd.qHB ho0) hb); have n2_ := Aside0.mk (Kd.qEA (Kd.qGB (Kd.qGB ho0 (Kd.R_lt (by (with_reducible repeat (first | apply Kd.qF | apply Kd.qE | apply Kd.qG)); exact HO_5.out))) (Kd.R_lt (by (with_reducible repeat (first | apply Kd.qF | apply Kd.qE | apply Kd.qG)); exact HO_7.out))) (qh bl)); have n3_ := Aside0.mk (bb BK1039 hb); have n4_ := Aside0.mk (qH bl hb); clear HO_5; clear HO_7; clear BK1039; clear HB; have HO_5 := n0_; have HO_7 := n1_; have HO1063 := n2_; have BK1039 := n3_; have HB := n4_; clear n0_ n1_ n2_ n3_ n4_; (try clear hb); (try clear hb2); (try clear hk); (try clear hi); (try clear ho0)))
       (try simp only [Act.put, List.setIfInBounds_toArray, List.set_cons_zero, List.set_cons_succ])
       go_cut [65] (fun v65 wc => ∃ (kq : Nat) (x65_31 : Bool), v65 = .bool x65_31 ∧ Aside0 (qN.j1 kq t1056 t1055 x65_31 = some r) ∧ Aside0 (kq ≤ kj8) ∧ Aside0 (Kd.R (Kd.int .i64) 3 wc w.heap.size (fun _ => True) (.slice Ao33 t1050.length co33) t1056) ∧ Aside0 (wc.heap[gb1039]? = some (.cells #[.int .i64 a1_0, .int .i64 a1_1, .int .i64 a1_2] 24 (0, 0))) ∧ Aside0 (Below w.heap.size w wc))
       case first =>
        have H := HC32.out
        clear HC32
        replace H := Option.bind_eq_some_iff.mp H
        obtain ⟨t1065, A380, H⟩ := H
        replace H : (if t1065 = true then (qN.j1 kj8 t1056 t1055 (t1064 != t1046)) else (qN.j1 kj8 t1056 t1055 true)) = some r := H
        have A38 := Aside0.mk A380
        clear A380
        by_cases c39 : t1065 = true
        ·subst c39
         have H1 : (qN.j1 kj8 t1056 t1055 (t1064 != t1046)) = some r := by rw [if_pos rfl] at H; exact H
         clear H
         have H := H1
         clear H1
         have H' := Aside0.mk H
         clear H
         obtain ⟨Ao40, co40, eo40⟩ := Kd.qm HO1063.out
         subst eo40
         obtain ⟨Ao41, co41, eo41⟩ := Kd.qm HO_5.out
         subst eo41
         go_wp2_with (first | ((with_reducible refine qT (f := 45) rfl ?_); refine qDA (some 59) rfl rfl Tryd.func45 (by kernel_rfl) rfl #[.slice Ao40 t1061.length co40, .slice Ao41 t1043.length co41] rfl (by (try simp only [List.map_toArray, List.map_cons, List.map_nil]); first | done | rfl | (simp only [List.length_drop, List.length_take]; rfl)) ?_; (with_reducible refine (qu.calls kj8 _ _ t1061 _ _ t1043 true _ ?side1 ?side2 ?side3 ?side4 A38.out).mono ?_); (case side1 => repeat (first | exact (Kd.qS HO1063.out).2.2 | (with_reducible refine Kd.qx ?_ _) | (with_reducible refine Kd.qw ?_ _) | (with_reducible refine Kd.qLA ?_))); (case side2 => exact (Kd.qS HO1063.out).2.1); (case side3 => repeat (first | exact (Kd.qS HO_5.out).2.2 | (with_reducible refine Kd.qx ?_ _) | (with_reducible refine Kd.qw ?_ _) | (with_reducible refine Kd.qLA ?_))); (case side4 => exact (Kd.qS HO_5.out).2.1); rintro e w' ⟨rfl, ⟨nd, rfl⟩⟩; refine ⟨_, rfl, ?_⟩))
         go_meet
         case rel => exact ⟨_, ((t1064 != t1046)), (by first | rfl | (simp; done) | (simp [*]; done)), H', ⟨by have := HJ8.out; first | omega | exact Nat.le_refl _⟩, ⟨by (with_reducible repeat (first | apply Kd.qF | apply Kd.qE | apply Kd.qG)); exact Kd.qg HO_7.out (fun _ hk => trivial)⟩, ⟨by (with_reducible repeat (first | refine qB ?_ _ | refine qC ?_ | refine qA ?_ _)); exact BK1039.out⟩, ⟨bl⟩⟩
        ·replace c39 := Bool.eq_false_iff.mpr c39
         subst c39
         have H1 : (qN.j1 kj8 t1056 t1055 true) = some r := by rw [if_neg (show ¬ (false = true) by decide)] at H; exact H
         clear H
         have H := H1
         clear H1
         have H' := Aside0.mk H
         clear H
         obtain ⟨Ao42, co42, eo42⟩ := Kd.qm HO1063.out
         subst eo42
         obtain ⟨Ao43, co43, eo43⟩ := Kd.qm HO_5.out
         subst eo43
         go_wp2_with (first | ((with_reducible refine qT (f := 45) rfl ?_); refine qDA (some 59) rfl rfl Tryd.func45 (by kernel_rfl) rfl #[.slice Ao42 t1061.length co42, .slice Ao43 t1043.length co43] rfl (by (try simp only [List.map_toArray, List.map_cons, List.map_nil]); first | done | rfl | (simp only [List.length_drop, List.length_take]; rfl)) ?_; (with_reducible refine (qu.calls kj8 _ _ t1061 _ _ t1043 false _ ?side1 ?side2 ?side3 ?side4 A38.out).mono ?_); (case side1 => repeat (first | exact (Kd.qS HO1063.out).2.2 | (with_reducible refine Kd.qx ?_ _) | (with_reducible refine Kd.qw ?_ _) | (with_reducible refine Kd.qLA ?_))); (case side2 => exact (Kd.qS HO1063.out).2.1); (case side3 => repeat (first | exact (Kd.qS HO_5.out).2.2 | (with_reducible refine Kd.qx ?_ _) | (with_reducible refine Kd.qw ?_ _) | (with_reducible refine Kd.qLA ?_))); (case side4 => exact (Kd.qS HO_5.out).2.1); rintro e w' ⟨rfl, ⟨nd, rfl⟩⟩; refine ⟨_, rfl, ?_⟩))
         go_meet
         case rel => exact ⟨_, (true), (by first | rfl | (simp; done) | (simp [*]; done)), H', ⟨by have := HJ8.out; first | omega | exact Nat.le_refl _⟩, ⟨by (with_reducible repeat (first | apply Kd.qF | apply Kd.qE | apply Kd.qG)); exact Kd.qg HO_7.out (fun _ hk => trivial)⟩, ⟨by (with_reducible repeat (first | refine qB ?_ _ | refine qC ?_ | refine qA ?_ _)); exact BK1039.out⟩, ⟨bl⟩⟩
       case rest =>
        clear HC32
        try clear c1
        try clear c2
        try clear p2
        try clear c3
        try clear c3b0
        try clear c3b1
        try clear c4
        try clear c15
        try clear c18
        try clear c20
        try clear c23
        try clear c26
        try clear c26b0
        try clear c29
        try clear c29b0
        try clear c29b1
        try clear c39
        try clear c43
        try clear hcz11_0
        try clear hcz11_1
        try clear hcz11_2
        try clear hcz14_0
        try clear hcz14_1
        try clear hcz14_2
        try clear hcz35_0
        try clear hcz35_1
        try clear hcz35_2
        try clear hfz11_0
        try clear hfz11_1
        try clear hfz11_2
        try clear hfz14_0
        try clear hfz14_1
        try clear hfz14_2
        try clear hfz35_0
        try clear hfz35_1
        try clear hfz35_2
        try clear p2
        obtain ⟨kq, x65_31, rfl, HA, HJ31, HO_7, BK1039, HB⟩ := hcut
        have hl7_31 := (Kd.qS HO_7.out).1
        rw [hl7_31] at HO_7
        (try simp only [hl7_31])
        (try simp only [hl7_31] at BK1039)
        cases kq with
        | zero => exact absurd HA.out (by simp [qN.j1])
        | succ kj31 =>
         have H := HA.out
         clear HA
         simp only [qN.j1] at H
         by_cases c44 : x65_31 = true
         ·subst c44
          have H1 : (some false) = some r := by rw [if_pos rfl] at H; exact H
          clear H
          have H := H1
          clear H1
          obtain rfl := Option.some.inj H
          go_wp2
          go_ret
          exact ⟨by first | rfl | (simp [qL, qK] <;> rfl) | (simp [*, qL, qK] <;> rfl), bl⟩
         ·replace c44 := Bool.eq_false_iff.mpr c44
          subst c44
          have H1 : ((qr.f kj31 t1056 1).bind fun t1066 => (if t1066 < 0 then (some false) else (if t1066 = t1055 then (some true) else (some false)))) = some r := by rw [if_neg (show ¬ (false = true) by decide)] at H; exact H
          clear H
          have H := H1
          clear H1
          replace H := Option.bind_eq_some_iff.mp H
          obtain ⟨t1066, A450, H⟩ := H
          replace H : (if t1066 < 0 then (some false) else (if t1066 = t1055 then (some true) else (some false))) = some r := H
          have A45 := Aside0.mk A450
          clear A450
          by_cases c46 : t1066 < 0
          ·rw [if_pos c46] at H
           have c46b0 : decide (t1066 < 0) = true := decide_eq_true c46
           clear c46
           obtain rfl := Option.some.inj H
           go_wp2_with (first | ((with_reducible refine qT (f := 47) rfl ?_); refine qDA (some 68) rfl rfl Tryd.func47 (by kernel_rfl) rfl #[.slice Ao33 t1056.length co33, .int .i64 1] rfl (by (try simp only [List.map_toArray, List.map_cons, List.map_nil]); first | done | rfl | (simp only [List.length_drop, List.length_take]; rfl)) ?_; (with_reducible refine (qr.calls kj31 _ _ t1056 1 t1066 _ ?side1 ?side2 A45.out).mono ?_); (case side1 => repeat (first | exact (Kd.qS HO_7.out).2.2 | (with_reducible refine Kd.qx ?_ _) | (with_reducible refine Kd.qw ?_ _) | (with_reducible refine Kd.qLA ?_))); (case side2 => exact (Kd.qS HO_7.out).2.1); rintro e w' ⟨rfl, ⟨nd, rfl⟩⟩; refine ⟨_, rfl, ?_⟩))
           go_ret
           exact ⟨by first | rfl | (simp [qL, qK] <;> rfl) | (simp [*, qL, qK] <;> rfl), bl⟩
          ·rw [if_neg c46] at H
           have c46b0 : decide (t1066 < 0) = false := decide_eq_false c46
           clear c46
           by_cases c47 : t1066 = t1055
           ·rw [if_pos c47] at H
            have c47b0 : (t1066 == t1055) = true := beq_iff_eq.mpr c47
            have c47b1 : (t1066 != t1055) = false := bne_eq_false_iff_eq.mpr c47
            clear c47
            obtain rfl := Option.some.inj H
            go_wp2_with (first | ((with_reducible refine qT (f := 47) rfl ?_); refine qDA (some 68) rfl rfl Tryd.func47 (by kernel_rfl) rfl #[.slice Ao33 t1056.length co33, .int .i64 1] rfl (by (try simp only [List.map_toArray, List.map_cons, List.map_nil]); first | done | rfl | (simp only [List.length_drop, List.length_take]; rfl)) ?_; (with_reducible refine (qr.calls kj31 _ _ t1056 1 t1066 _ ?side1 ?side2 A45.out).mono ?_); (case side1 => repeat (first | exact (Kd.qS HO_7.out).2.2 | (with_reducible refine Kd.qx ?_ _) | (with_reducible refine Kd.qw ?_ _) | (with_reducible refine Kd.qLA ?_))); (case side2 => exact (Kd.qS HO_7.out).2.1); rintro e w' ⟨rfl, ⟨nd, rfl⟩⟩; refine ⟨_, rfl, ?_⟩))
            go_ret
            exact ⟨by first | rfl | (simp [qL, qK] <;> rfl) | (simp [*, qL, qK] <;> rfl), bl⟩
           ·rw [if_neg c47] at H
            have c47b0 : (t1066 == t1055) = false := beq_eq_false_iff_ne.mpr c47
            have c47b1 : (t1066 != t1055) = true := bne_iff_ne.mpr c47
            obtain rfl := Option.some.inj H
            go_wp2_with (first | ((with_reducible refine qT (f := 47) rfl ?_); refine qDA (some 68) rfl rfl Tryd.func47 (by kernel_rfl) rfl #[.slice Ao33 t1056.length co33, .int .i64 1] rfl (by (try simp only [List.map_toArray, List.map_cons, List.map_nil]); first | done | rfl | (simp only [List.length_drop, List.length_take]; rfl)) ?_; (with_reducible refine (qr.calls kj31 _ _ t1056 1 t1066 _ ?side1 ?side2 A45.out).mono ?_); (case side1 => repeat (first | exact (Kd.qS HO_7.out).2.2 | (with_reducible refine Kd.qx ?_ _) | (with_reducible refine Kd.qw ?_ _) | (with_reducible refine Kd.qLA ?_))); (case side2 => exact (Kd.qS HO_7.out).2.1); rintro e w' ⟨rfl, ⟨nd, rfl⟩⟩; refine ⟨_, rfl, ?_⟩))
            go_ret
            exact ⟨by first | rfl | (simp [qL, qK] <;> rfl) | (simp [*, qL, qK] <;> rfl), bl⟩
      ·rw [if_neg c29] at H
       have c29b0 : (t1057 == t1055) = false := beq_eq_false_iff_ne.mpr c29
       have c29b1 : (t1057 != t1055) = true := bne_iff_ne.mpr c29
       obtain rfl := Option.some.inj H
       obtain ⟨Ao48, co48, eo48⟩ := Kd.qm HO_7.out
       subst eo48
       go_wp2_with (first | ((with_reducible refine qT (f := 46) rfl ?_); refine qDA (some 41) rfl rfl Tryd.func46 (by kernel_rfl) rfl #[.slice Ao48 t1050.length co48, .int .i64 1] rfl (by (try simp only [List.map_toArray, List.map_cons, List.map_nil]); first | done | rfl | (simp only [List.length_drop, List.length_take]; rfl)) ?_; (with_reducible refine (qFA.calls kj8 (fun k_ => some k_ = (.slice Ao48 t1050.length co48 : Value).ownBlock) (.slice Ao48 t1050.length co48) t1050 1 t1055 t1056 w _ ?side1 ?side2 A24.out).mono ?_); (case side1 => repeat (first | (with_reducible first | exact HB.out | apply qt | apply qo | apply qk | refine qUA ?_ GE1039.out) | exact HB.out)); (case side2 => exact Kd.qFC rfl HO_7.out); rintro e w49 ⟨rfl, hy0, hb, hkp⟩; refine ⟨_, rfl, ?_⟩; have n0_ := Aside0.mk (Kd.qg (ok' := fun k_ => some k_ ≠ (.slice Ao48 t1050.length co48 : Value).ownBlock) (Kd.qGC (HO_5.out) hkp (fun k_ hk_ hs_ => (hk_) hs_)) (fun k_ hk_ => hk_.1)); have n1_ := Aside0.mk (Kd.qXC rfl hy0 (fun k_ e_ => HO_7.out.1 k_ e_)); have n2_ := Aside0.mk (qvB (by (with_reducible repeat (first | refine qB ?_ _ | refine qC ?_ | refine qA ?_ _)); exact BK1039.out) hkp (fun hs_ => (fun e_ => (Kd.R_ne HO_7.out BK1039.out (by decide)) e_) hs_)); have n3_ := Aside0.mk (hb); clear HO_5; clear HO_7; clear BK1039; clear HB; have HO_5 := n0_; have HO_7 := n1_; have BK1039 := n2_; have HB := n3_; clear n0_ n1_ n2_ n3_; (try clear hb); (try clear hkp); (try clear hy0)) | ((with_reducible refine qT (f := 47) rfl ?_); refine qDA (some 44) rfl rfl Tryd.func47 (by kernel_rfl) rfl #[.slice Ao48 t1056.length co48, .int .i64 1] rfl (by (try simp only [List.map_toArray, List.map_cons, List.map_nil]); first | done | (rw [show t1056.length = t1050.length from (Kd.qS HO_7.out).1.symm] <;> rfl) | rfl | (simp only [List.length_drop, List.length_take]; rfl)) ?_; (with_reducible refine (qr.calls kj8 _ _ t1056 1 t1057 _ ?side1 ?side2 A25.out).mono ?_); (case side1 => repeat (first | exact (Kd.qS HO_7.out).2.2 | (with_reducible refine Kd.qx ?_ _) | (with_reducible refine Kd.qw ?_ _) | (with_reducible refine Kd.qLA ?_))); (case side2 => rw [show t1056.length = t1050.length from (Kd.qS HO_7.out).1.symm]; exact (Kd.qS HO_7.out).2.1); rintro e w' ⟨rfl, ⟨nd, rfl⟩⟩; refine ⟨_, rfl, ?_⟩))
       go_ret
       exact ⟨by first | rfl | (simp [qL, qK] <;> rfl) | (simp [*, qL, qK] <;> rfl), bl⟩
def qN.Pure : Prop := ∀ (a0 : ByteArray) (a1_0 : Int) (a1_1 : Int) (a1_2 : Int), a0.size ≤ 140737488351232 → (Lit.int .i64 a1_0).wf = true → (Lit.int .i64 a1_1).wf = true → (Lit.int .i64 a1_2).wf = true → ∃ k, qN.f k a0 a1_0 a1_1 a1_2 = some true
end Go.Proofs.YtbpfhpjbeomfcaaDoor.P
namespace Go.Proofs.YtbpfhpjbeomfcaaDoor
open Go.ChangeShapes Go.WideShapes Go.Deep Go.RowKit Go.Proofs.YtbpfhpjbeomfcaaDoorW.PrintWords
set_option linter.unusedVariables false
set_option linter.unusedSimpArgs false
theorem list_of_3 : ∀ zs : List Int, zs.length = 3 → ∃ x0 x1 x2 : Int, zs = [x0, x1, x2]
 | [x0, x1, x2], _ => ⟨x0, x1, x2, rfl⟩
def laidB (P : Program) : List Field → Nat → Nat → Bool
 | [], o, n => decide (o = n)
 | f :: fs, o, n => decide (f.offset = o) && laidB P fs (o + P.cellsOf f.type) n
def flatB (P : Program) : Nat → TypeId → Bool
 | 0, _ => false
 | m + 1, t => match P.underlying t with
  | some (.int .i64) => decide (P.cellsOf t = 1)
  | some (.struct fs) => laidB P fs.toList 0 (P.cellsOf t) && fs.toList.all fun f => flatB P m f.type
  | _ => false
section
variable {H : Type} {enc : TypeId × Value → H} {P : Program} {w : World} {base : Nat} {spare : Nat → Bool} {held : Bool}
theorem fields_flat {n : Nat} (cs : List Value) (rd : TypeId → List Value → Option (DataW H × List MemPlace)) :
  ∀ (fs : List Field) (o : Nat) (xs : List (DataW H × List MemPlace)), laidB P fs o n = true → xs.length = fs.length →
   (∀ (i : Nat) (f : Field), fs[i]? = some f → rd f.type ((cs.drop f.offset).take (P.cellsOf f.type)) = xs[i]?) →
   (∀ f ∈ fs, ∀ cs' x, rd f.type cs' = some x → cs'.length = P.cellsOf f.type ∧ ∃ zs : List Int, cs' = zs.map (Value.int .i64) ∧ ∀ z ∈ zs, (Lit.int .i64 z).wf = true) →
   o ≤ n ∧ ∃ zs : List Int, (cs.drop o).take (n - o) = zs.map (Value.int .i64) ∧ ∀ z ∈ zs, (Lit.int .i64 z).wf = true
 | [], o, xs, hl, hx, hr, hi => by
  have : o = n := by simpa [laidB] using hl
  subst this
  exact ⟨Nat.le_refl _, [], by simp, by simp⟩
 | f :: fs, o, xs, hl, hx, hr, hi => by
  simp only [laidB, Bool.and_eq_true, decide_eq_true_eq] at hl
  obtain ⟨ho, hl⟩ := hl
  match xs, hx with
  | x :: xs, hx =>
   have h0 := hr 0 f rfl
   rw [ho] at h0
   obtain ⟨hlen, zs, hz, hw⟩ := hi f (by simp) _ x h0
   obtain ⟨hle, ws, hw2, hw3⟩ := fields_flat cs rd fs (o + P.cellsOf f.type) xs hl (by simpa using hx) (fun i g hg => by have := hr (i + 1) g (by simpa using hg); simpa using this) (fun g hg => hi g (by simp [hg]))
   refine ⟨by omega, zs ++ ws, ?_, fun z hz' => ?_⟩
   ·rw [List.map_append, ← hz, ← hw2, ← List.drop_drop, show n - o = P.cellsOf f.type + (n - (o + P.cellsOf f.type)) by omega, List.take_add]
   ·rcases List.mem_append.1 hz' with h | h
    ·exact hw z h
    ·exact hw3 z h
theorem trod_flat (m : Nat) : ∀ {t : TypeId} {fuel : Nat} {cs : List Value} {x : DataW H × List MemPlace}, flatB P m t = true → DataW.trod enc P w base spare held fuel t cs = some x → (∃ k, P.underlying t = some (.int k)) → cs.length = 1 ∧ ∃ zs : List Int, cs = zs.map (Value.int .i64) ∧ ∀ z ∈ zs, (Lit.int .i64 z).wf = true := by
 intro t fuel cs x hf h ⟨k, hk⟩
 cases m with
 | zero => simp [flatB] at hf
 | succ m =>
  unfold flatB at hf
  rw [hk] at hf
  have : k = .i64 := by
   cases k <;> first | rfl | (simp at hf)
  subst this
  obtain ⟨n, rfl, _, hw⟩ := DataW.trod_int hk h
  exact ⟨rfl, [n], rfl, by simpa using hw⟩
theorem trod_flat_all (m : Nat) : ∀ {t : TypeId} {fuel : Nat} {cs : List Value} {x : DataW H × List MemPlace}, flatB P m t = true → DataW.trod enc P w base spare held fuel t cs = some x →
  cs.length = P.cellsOf t ∧ ∃ zs : List Int, cs = zs.map (Value.int .i64) ∧ ∀ z ∈ zs, (Lit.int .i64 z).wf = true := by
 induction m with
 | zero => intro t fuel cs x hf h; simp [flatB] at hf
 | succ m ih =>
  intro t fuel cs x hf h
  have hf0 := hf
  unfold flatB at hf
  split at hf
  ·rename_i hu
   obtain ⟨hl, hz⟩ := trod_flat (m + 1) hf0 h ⟨_, hu⟩
   exact ⟨by rw [hl, of_decide_eq_true hf], hz⟩
  ·rename_i fs hu
   rw [Bool.and_eq_true, List.all_eq_true] at hf
   obtain ⟨hl, ha⟩ := hf
   obtain ⟨xs, n, _, _, hlen, hxl, hg⟩ := DataW.trod_struct hu h
   obtain ⟨_, zs, hz, hw⟩ := fields_flat (n := P.cellsOf t) cs (fun t cs => DataW.trod enc P w base spare held n t cs) fs.toList 0 xs hl (by simpa using hxl)
    (fun i f hf => hg i f (by simpa using hf)) (fun f hf cs' x hx => ih (ha f hf) hx)
   refine ⟨hlen, zs, ?_, hw⟩
   rw [← hz, List.drop_zero, Nat.sub_zero, ← hlen, List.take_length]
  ·cases hf
theorem open_flat {r : Reach} {b0 m : Nat} {t : TypeId} {fs : Array Field} {v : Value} {d : DataW H} {p : List MemPlace} (hu : P.underlying t = some (.struct fs)) (hf : flatB P m t = true)
  (hv : Value.okWide P w r b0 t v) (h : DataW.Trod enc P w base spare held t v d p) : ∃ zs : List Int, v = .agg (zs.map (Value.int .i64)).toArray ∧ zs.length = P.cellsOf t ∧ ∀ z ∈ zs, (Lit.int .i64 z).wf = true := by
 obtain ⟨cs, rfl, hsz⟩ := okWide_struct hu hv
 obtain ⟨fuel, hf'⟩ := h
 obtain ⟨hl, zs, hz, hw⟩ := trod_flat_all m hf hf'
 simp only [Value.cells] at hz hl
 refine ⟨zs, ?_, by rw [← hl, hz, List.length_map], hw⟩
 rw [← hz]
end
end Go.Proofs.YtbpfhpjbeomfcaaDoor
namespace Go.Proofs.YtbpfhpjbeomfcaaDoor
open Go.RowKit Go.Proofs.YtbpfhpjbeomfcaaDoorW.PrintWords Go.Proofs.YtbpfhpjbeomfcaaDoorW.PrintLast
set_option linter.unusedVariables false
set_option linter.unusedSimpArgs false
theorem Ev.at_ {α : Type} {g : Nat → Option α} {r : α} (n : Nat) (h : ∀ k, g (k + n) = some r) : Ev g r := ⟨n, fun k hk => by
 obtain ⟨m, rfl⟩ : ∃ m, k = m + n := ⟨k - n, by omega⟩
 exact h m⟩
theorem Ev.pos {α : Type} {c : Prop} [Decidable c] {g f : Nat → Option α} {r : α} (hc : c) (h : Ev g r) : Ev (fun k => if c then g k else f k) r := h.congr fun k => if_pos hc
theorem Ev.neg {α : Type} {c : Prop} [Decidable c] {g f : Nat → Option α} {r : α} (hc : ¬ c) (h : Ev f r) : Ev (fun k => if c then g k else f k) r := h.congr fun k => if_neg hc
theorem Ev.some_ {α : Type} {a r : α} (h : a = r) : Ev (fun _ => some a) r := ⟨0, fun _ _ => by rw [h]⟩
theorem Ev.bindc {α β : Type} {o : Option α} {f : Nat → α → Option β} {a : α} {r : β} (h : o = some a) (k : Ev (fun n => f n a) r) : Ev (fun n => o.bind (f n)) r := k.congr fun n => by rw [h]; rfl
theorem w64 {i : Int} (h0 : -9223372036854775808 ≤ i) (h1 : i ≤ 9223372036854775807) : wrap64 i = i := by unfold wrap64; omega
end Go.Proofs.YtbpfhpjbeomfcaaDoor
