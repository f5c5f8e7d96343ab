/- The program's FarthestBox returns what the reference's returns, for all texts and boxes (the law lets longer texts by). No further condition. -/
import Derived.Test.YtbpfhpjbeomfcaaDoorKFnExactFarthestBox3

namespace Go.Proofs.YtbpfhpjbeomfcaaDoor.P
open Go.RowKit Go.Proofs.YtbpfhpjbeomfcaaDoorW.PrintWords Go.Proofs.YtbpfhpjbeomfcaaDoorW.PrintLast Go.Proofs.YtbpfhpjbeomfcaaDoorW.PrintMore
attribute [local go_sem] qz qx qJA qIA qp qo qy qw
set_option linter.unusedVariables false
set_option linter.unusedSimpArgs false
mutual
def qR.l0 : Nat → List (S27) → List ByteArray → Int → List ByteArray → Option ((List (S27)) × List ByteArray × Bool)
 | 0, _, _, _, _ => none
 | k + 1, x9, x10, x11, x19 => if x11 < (x9.length : Int) then (qR.l1 k x9 x10 x11 x19 0) else (some (x9, x10, decide ((x9.length : Int) ≤ 400)))
def qR.l1 : Nat → List (S27) → List ByteArray → Int → List ByteArray → Int → Option ((List (S27)) × List ByteArray × Bool)
 | 0, _, _, _, _, _ => none
 | k + 1, x9, x10, x11, x19, x32 => if x32 < 4 then (if 0 ≤ x11 then (if x11 < (x9.length : Int) then (if 0 ≤ x32 then ((qLA.f k x19 ((qJ x9 x11).f0) ((qJ x9 x11).f1) ((qJ x9 x11).f2) (bt (⟨#[110, 101, 115, 119]⟩ : ByteArray) x32)).bind fun bt483 => (if bt483.2.2.2 = true then ((qm.f k x9 bt483.1 bt483.2.1 bt483.2.2.1).bind fun t488 => (if t488 = true then (qR.l1 k x9 x10 x11 x19 (wrap64 (x32 + 1))) else ((some (([(⟨bt483.1, bt483.2.1, bt483.2.2.1⟩ : S27)] : List (S27)) : List (S27))).bind fun y489 => (if x9.length + y489.length < 5864062014805 then (if x11 < (x10.length : Int) then (if x32 ≤ (wrap64 (x32 + 1)) then (if (wrap64 (x32 + 1)) ≤ 4 then (if (rdOf ByteArray.empty x10 x11).size + ((⟨#[110, 101, 115, 119]⟩ : ByteArray).extract (x32 : Int).toNat ((wrap64 (x32 + 1)) : Int).toNat).size ≤ 9223372036854775807 then ((some (([(rdOf ByteArray.empty x10 x11) ++ ((⟨#[110, 101, 115, 119]⟩ : ByteArray).extract (x32 : Int).toNat ((wrap64 (x32 + 1)) : Int).toNat)] : List ByteArray) : List ByteArray)).bind fun y496 => (if x10.length + y496.length < 8796093022208 then (qR.l1 k (x9 ++ y489) (x10 ++ y496) x11 x19 (wrap64 (x32 + 1))) else (none))) else (none)) else (none)) else (none)) else (none)) else (none))))) else (qR.l1 k x9 x10 x11 x19 (wrap64 (x32 + 1))))) else (none)) else (none)) else (none)) else (qR.l0 k x9 x10 (wrap64 (x11 + 1)) x19)
end
def qR.f (k : Nat) (a0 : ByteArray) (a1_0 : Int) (a1_1 : Int) (a1_2 : Int) : Option ((List (S27)) × List ByteArray × Bool) := (qgA.f k a0 a1_0 a1_1 a1_2).bind fun bt472 => (if bt472.2 = true then (qR.l0 k (([(⟨a1_0, a1_1, a1_2⟩ : S27)] : List (S27))) (([(⟨#[]⟩ : ByteArray)] : List ByteArray)) 0 bt472.1) else (some (([] : List (S27)), ([] : List ByteArray), false)))
def qR.T11 : Bool × List (List Nat × List Nat) := (true, [([], []), ([], []), ([], []), ([1, 2], [1, 2]), ([3], [3]), ([], []), ([5], [5]), ([0, 4, 6], [0, 4, 6]), ([7], [7]), ([8], [8]), ([8], [8]), ([], []), ([11, 9, 7, 0, 1, 2, 3, 4, 5, 6, 7, 8, 9, 11], [9, 11]), ([10, 12, 0, 1, 2, 3, 4, 5, 6, 7, 8, 9, 10, 11, 12], [10])])
def qR.B11 : List Nat := [0, 0, 0, 6, 14, 0, 32, 127, 255, 511, 511, 0, 3071, 8191]
theorem qR.tab11 : rtab .any (opsOf Tryd.f66 11) = qR.T11 := by kernel_rfl
theorem qR.bits11 : waitsOk qR.T11.2 qR.B11 = true := by kernel_rfl
def qR.T13 : Bool × List (List Nat × List Nat) := (true, [([], []), ([], []), ([1], [1]), ([0, 2], [0, 2]), ([], []), ([], []), ([], []), ([5, 6], [5, 6]), ([7], [7]), ([], []), ([], []), ([10], [10]), ([9, 11], [9, 11]), ([8, 12], [8, 12]), ([13], [13]), ([4, 14, 3], [4, 14]), ([3, 15, 0, 1, 2, 3], [0, 3]), ([15, 16, 0, 1, 2, 3, 4, 5, 6, 7, 8, 9, 10, 11, 12, 13, 14, 15, 16], [4, 5, 15])])
def qR.B13 : List Nat := [0, 0, 2, 7, 0, 0, 0, 96, 224, 0, 0, 1024, 3584, 8160, 16352, 32767, 65535, 131071]
theorem qR.tab13 : rtab .any (opsOf Tryd.f66 13) = qR.T13 := by kernel_rfl
theorem qR.bits13 : waitsOk qR.T13.2 qR.B13 = true := by kernel_rfl
set_option maxHeartbeats 8000000 in
set_option maxRecDepth 100000 in
theorem qR.calls (k : Nat) (a0 : ByteArray) (a1_0 : Int) (a1_1 : Int) (a1_2 : Int) (r1 : List (S27)) (r2 : List ByteArray) (r3 : Bool) (w : World) (hL : Laid w) (h : qR.f k a0 a1_0 a1_1 a1_2 = some (r1, r2, r3)) :
  Calls Tryd.prog 66 #[.string a0, .agg #[.int .i64 a1_0, .int .i64 a1_1, .int .i64 a1_2]] w fun e w' => ∃ v0_ v1_ : Value, e = .returned (.tuple #[v0_, v1_, .bool r3]) ∧ Kd.R k27 27 w' w.heap.size (fun _ => True) v0_ r1 ∧ Kd.R Kd.string 9 w' w.heap.size (fun _ => True) v1_ r2 ∧ Below w.heap.size w w' := by
 have hu27 := Tryd.underlying27
 have HLD := Aside0.mk hL
 clear hL
 have HB := Aside0.mk (Below.refl w.heap.size w)
 have H : ((qgA.f k a0 a1_0 a1_1 a1_2).bind fun bt472 => (if bt472.2 = true then (qR.l0 k (([(⟨a1_0, a1_1, a1_2⟩ : S27)] : List (S27))) (([(⟨#[]⟩ : ByteArray)] : List ByteArray)) 0 bt472.1) else (some (([] : List (S27)), ([] : List ByteArray), false)))) = some (r1, r2, r3) := h
 clear h
 replace H := Option.bind_eq_some_iff.mp H
 obtain ⟨⟨t472, t475⟩, A30, H⟩ := H
 replace H : (if t475 = true then (qR.l0 k (([(⟨a1_0, a1_1, a1_2⟩ : S27)] : List (S27))) (([(⟨#[]⟩ : ByteArray)] : List ByteArray)) 0 t472) else (some (([] : List (S27)), ([] : List ByteArray), false))) = some (r1, r2, r3) := H
 have A3 := Aside0.mk A30
 clear A30
 by_cases c4 : t475 = true
 ·subst c4
  have H1 : (qR.l0 k (([(⟨a1_0, a1_1, a1_2⟩ : S27)] : List (S27))) (([(⟨#[]⟩ : ByteArray)] : List ByteArray)) 0 t472) = some (r1, r2, r3) := by rw [if_pos rfl] at H; exact H
  clear H
  have H := H1
  clear H1
  obtain ⟨y476, hy476⟩ : ∃ y_ : List (S27), y_ = (([(⟨a1_0, a1_1, a1_2⟩ : S27)] : List (S27))) := ⟨_, rfl⟩
  replace H : (qR.l0 k y476 (([(⟨#[]⟩ : ByteArray)] : List ByteArray)) 0 t472) = some (r1, r2, r3) := by first | (rw [hy476]; with_reducible exact H) | (have H2_ := (Option.bind_some _ _).symm.trans H; rw [hy476]; with_reducible exact H2_) | (have H2_ := (Option.bind_some _ _).symm.trans H; with_reducible exact H2_) | with_reducible exact H | (rw [hy476]; exact H) | exact H
  have Ny476 := Aside0.mk hy476
  clear hy476
  obtain ⟨y479, hy479⟩ : ∃ y_ : List ByteArray, y_ = (([(⟨#[]⟩ : ByteArray)] : List ByteArray)) := ⟨_, rfl⟩
  replace H : (qR.l0 k y476 y479 0 t472) = some (r1, r2, r3) := by first | (rw [hy479]; with_reducible exact H) | (have H2_ := (Option.bind_some _ _).symm.trans H; rw [hy479]; with_reducible exact H2_) | (have H2_ := (Option.bind_some _ _).symm.trans H; with_reducible exact H2_) | with_reducible exact H | (rw [hy479]; exact H) | exact H
  have Ny479 := Aside0.mk hy479
  clear hy479
  have H' := Aside0.mk H
  clear H
  go_enter Tryd.func66, Tryd.ntmps66
  go_wp2_with (first | ((with_reducible refine qV (N := 3) rfl ?_); refine qU ?hg (N := 3) ?hd (cs := #[.int .i64 a1_0, .int .i64 a1_1, .int .i64 a1_2]) (t := 27) ?hr ?_; (case hd => rfl); (case hg => rfl); (case hr => first | (go_simp; done) | (go_simp; rfl)); intro gb471 hg w5 hbox hb; have n0_ := Aside0.mk (qG bl hb); have n1_ := Aside0.mk (hbox); have n2_ := Aside0.mk ((gg hg)); have n3_ := Aside0.mk ((gg hg)); clear HB; have HB := n0_; have BK471 := n1_; have GW471 := n2_; have GE471 := n3_; clear n0_ n1_ n2_ n3_; clear hb hbox hg; have hcz6_0 := bc BK471 0; have hcz6_1 := bc BK471 1; have hcz6_2 := bc BK471 2; have hfz6_0 := qD BK471.out 0; have hfz6_1 := qD BK471.out 1; have hfz6_2 := qD BK471.out 2) | ((with_reducible refine qS (f := 58) rfl ?_); refine qq (some 18) rfl rfl Tryd.func58 (by kernel_rfl) rfl #[.string a0, .agg #[.int .i64 a1_0, .int .i64 a1_1, .int .i64 a1_2]] rfl (by (try simp only [List.map_toArray, List.map_cons, List.map_nil]); first | done | rfl | (simp only [List.length_drop, List.length_take]; rfl)) ?_; (with_reducible refine (qgA.calls k a0 a1_0 a1_1 a1_2 t472 true _ ?side1 A3.out).mono ?_); (case side1 => first | exact HLD.out | exact Laid.below HLD.out (by repeat (first | (with_reducible first | exact HB.out | apply qu | apply qv | apply qn | refine qcA ?_ (Aside0.out (by with_reducible assumption))) | exact HB.out))); rintro e w7 ⟨v473, rfl, ho0, hb⟩; refine ⟨_, rfl, ?_⟩; have n0_ := Aside0.mk (Kd.qBA ho0 (qg bl)); have n1_ := Aside0.mk (bb BK471 hb); have n2_ := Aside0.mk (qG bl hb); clear BK471; clear HB; have HO474 := n0_; have BK471 := n1_; have HB := n2_; clear n0_ n1_ n2_; (try clear hb); (try clear hb2); (try clear hk); (try clear hi); (try clear ho0); have hcz8_0 := bc BK471 0; have hcz8_1 := bc BK471 1; have hcz8_2 := bc BK471 2; have hfz8_0 := qD BK471.out 0; have hfz8_1 := qD BK471.out 1; have hfz8_2 := qD BK471.out 2) | ((with_reducible refine qV (N := 24) rfl ?_); refine Kd.R_lit k27 _ 27 ?hg (N := 24) ?hd (xs := ([(⟨a1_0, a1_1, a1_2⟩ : S27)] : List (S27))) (inner := [.int .i64 a1_0, .int .i64 a1_1, .int .i64 a1_2]) (ok := fun _ => True) (okp := fun _ => True) ?hr ?hp (fun _ hk => hk) trivial (Below.refl _ _) (Nat.le_refl _) (by simp) ?_; (case hd => rfl); (case hg => rfl); (case hr => first | (go_simp; done) | (go_simp; rfl)); (case hp => exact (Reps.c3 (show Kd.M k27 _ _ _ (⟨a1_0, a1_1, a1_2⟩ : S27) [.int .i64 a1_0, .int .i64 a1_1, .int .i64 a1_2] from (qAC _ _ _ (⟨a1_0, a1_1, a1_2⟩ : S27) )) (Reps.none _ _))); intro v477 w9 ho10 hb hg_ hnew_; clear hg_ hnew_; (first | rw [← Ny476.out] at ho10 | (simp only [Int.reduceToNat] at ho10; rw [← Ny476.out] at ho10)); have n0_ := Aside0.mk (Kd.qY (by (with_reducible repeat (first | apply Kd.qF | apply Kd.qE | apply Kd.qI)); exact HO474.out) hb); have n1_ := Aside0.mk (Kd.qBA (Kd.qMB ho10 (g := gb471) (o := .cells #[.int .i64 a1_0, .int .i64 a1_1, .int .i64 a1_2] 27 (0, 0)) (by (with_reducible repeat (first | refine qB ?_ _ | refine qC ?_ | refine qA ?_ _)); exact BK471.out)) (qg bl)); have n2_ := Aside0.mk (bb BK471 hb); have n3_ := Aside0.mk (qG bl hb); clear HO474; clear BK471; clear HB; have HO474 := n0_; have HO478 := n1_; have BK471 := n2_; have HB := n3_; clear n0_ n1_ n2_ n3_; clear hb ho10) | ((with_reducible refine qV (N := 25) rfl ?_); refine Kd.R_lit Kd.string _ 9 ?hg (N := 25) ?hd (xs := ([(⟨#[]⟩ : ByteArray)] : List ByteArray)) (inner := [.string (⟨#[]⟩ : ByteArray)]) (ok := fun _ => True) (okp := fun _ => True) ?hr ?hp (fun _ hk => hk) trivial (Below.refl _ _) (Nat.le_refl _) (by simp) ?_; (case hd => rfl); (case hg => rfl); (case hr => first | (go_simp; done) | (go_simp; rfl)); (case hp => exact (Reps.one (show Kd.M Kd.string _ _ _ (⟨#[]⟩ : ByteArray) [.string (⟨#[]⟩ : ByteArray)] from rfl) (Reps.none _ _))); intro v480 w11 ho12 hb hg_ hnew_; clear hg_ hnew_; (first | rw [← Ny479.out] at ho12 | (simp only [Int.reduceToNat] at ho12; rw [← Ny479.out] at ho12)); have n0_ := Aside0.mk (Kd.qqA (by (with_reducible repeat (first | apply Kd.qF | apply Kd.qE | apply Kd.qI)); exact HO474.out) (Kd.qPB ho12) hb); have n1_ := Aside0.mk (Kd.qY (by (with_reducible repeat (first | apply Kd.qF | apply Kd.qE | apply Kd.qI)); exact HO478.out) hb); have n2_ := Aside0.mk (Kd.qBA (Kd.qOB ho12 (Kd.R_lt (by (with_reducible repeat (first | apply Kd.qF | apply Kd.qE | apply Kd.qI)); exact HO474.out))) (qg bl)); have n3_ := Aside0.mk (bb BK471 hb); have n4_ := Aside0.mk (qG bl hb); clear HO474; clear HO478; clear BK471; clear HB; have HO474 := n0_; have HO478 := n1_; have HO481 := n2_; have BK471 := n3_; have HB := n4_; clear n0_ n1_ n2_ n3_ n4_; clear hb ho12))
  go_loopg [9, 10, 11] k (fun kq v9 v10 v11 w' => ∃ (x9_1 : List (S27)) (x10_1 : List ByteArray) (x11_1 : Int), v11 = .int .i64 x11_1 ∧ Aside0 (qR.l0 kq x9_1 x10_1 x11_1 t472 = some (r1, r2, r3)) ∧ Aside0 (kq ≤ k) ∧ Aside0 (Kd.R k27 27 w' w.heap.size (fun k_ => k_ ≠ gb471) v9 x9_1) ∧ Aside0 (Kd.R Kd.string 9 w' w.heap.size (fun k_ => some k_ ≠ (v473 : Value).ownBlock) v10 x10_1) ∧ Aside0 (Kd.R Kd.string 9 w' w.heap.size (fun k_ => some k_ ≠ (v10 : Value).ownBlock) v473 t472) ∧ Aside0 (w'.heap[gb471]? = some (.cells #[.int .i64 a1_0, .int .i64 a1_1, .int .i64 a1_2] 27 (0, 0))) ∧ Aside0 (Below w.heap.size w w'))
  case atStart => exact ⟨(y476), (y479), (0), (by first | rfl | (simp; done) | (simp [*]; done)), H', ⟨Nat.le_refl _⟩, ⟨by (with_reducible repeat (first | apply Kd.qF | apply Kd.qE | apply Kd.qI)); exact Kd.qh HO478.out (fun _ hk => hk.2)⟩, ⟨by (with_reducible repeat (first | apply Kd.qF | apply Kd.qE | apply Kd.qI)); exact Kd.qh HO481.out (fun _ hk => hk.2)⟩, ⟨by (with_reducible repeat (first | apply Kd.qF | apply Kd.qE | apply Kd.qI)); exact Kd.qh HO474.out (fun _ hk => hk.2)⟩, ⟨by (with_reducible repeat (first | refine qB ?_ _ | refine qC ?_ | refine qA ?_ _)); exact BK471.out⟩, ⟨bl⟩⟩
  case round =>
   clear H'
   try clear p2
   try clear c3
   try clear c4
   try clear c5
   try clear c6
   try clear hcz6_0
   try clear hcz6_1
   try clear hcz6_2
   try clear hcz8_0
   try clear hcz8_1
   try clear hcz8_2
   try clear hfz6_0
   try clear hfz6_1
   try clear hfz6_2
   try clear hfz8_0
   try clear hfz8_1
   try clear hfz8_2
   obtain ⟨x9_1, x10_1, x11_1, rfl, HA, HK1, HO_9, HO_10, HO_19, BK471, HB⟩ := hrel
   cases gk with
   | zero => exact absurd HA.out (by simp [qR.l0])
   | succ k1 =>
    have H := HA.out
    clear HA
    simp only [qR.l0] at H
    by_cases c13 : x11_1 < (x9_1.length : Int)
    ·rw [if_pos c13] at H
     have c13b0 : decide (x11_1 < (x9_1.length : Int)) = true := decide_eq_true c13
     clear c13
     have H' := Aside0.mk H
     clear H
     obtain ⟨Ao14, co14, eo14⟩ := Kd.qt HO_9.out
     subst eo14
     go_wp2
     go_loopg [9, 10, 32] k1 (fun kq v9 v10 v32 w' => ∃ (x9_2 : List (S27)) (x10_2 : List ByteArray) (x32_2 : Int), v32 = .int .i64 x32_2 ∧ Aside0 (qR.l1 kq x9_2 x10_2 x11_1 t472 x32_2 = some (r1, r2, r3)) ∧ Aside0 (kq ≤ k1) ∧ Aside0 (Kd.R k27 27 w' w.heap.size (fun k_ => k_ ≠ gb471) v9 x9_2) ∧ Aside0 (Kd.R Kd.string 9 w' w.heap.size (fun k_ => some k_ ≠ (v473 : Value).ownBlock) v10 x10_2) ∧ Aside0 (Kd.R Kd.string 9 w' w.heap.size (fun k_ => some k_ ≠ (v10 : Value).ownBlock) v473 t472) ∧ Aside0 (w'.heap[gb471]? = some (.cells #[.int .i64 a1_0, .int .i64 a1_1, .int .i64 a1_2] 27 (0, 0))) ∧ Aside0 (Below w.heap.size w w'))
     case atStart => exact ⟨(x9_1), (x10_1), (0), (by first | rfl | (simp; done) | (simp [*]; done)), H', ⟨Nat.le_refl _⟩, ⟨by (with_reducible repeat (first | apply Kd.qF | apply Kd.qE | apply Kd.qI)); exact HO_9.out⟩, ⟨by (with_reducible repeat (first | apply Kd.qF | apply Kd.qE | apply Kd.qI)); exact HO_10.out⟩, ⟨by (with_reducible repeat (first | apply Kd.qF | apply Kd.qE | apply Kd.qI)); exact HO_19.out⟩, ⟨by (with_reducible repeat (first | refine qB ?_ _ | refine qC ?_ | refine qA ?_ _)); exact BK471.out⟩, ⟨bl⟩⟩
     case round =>
      clear H'
      try clear c1
      try clear p2
      try clear c3
      try clear c4
      try clear c5
      try clear c6
      try clear c13
      try clear c13b0
      try clear hcz6_0
      try clear hcz6_1
      try clear hcz6_2
      try clear hcz8_0
      try clear hcz8_1
      try clear hcz8_2
      try clear hfz6_0
      try clear hfz6_1
      try clear hfz6_2
      try clear hfz8_0
      try clear hfz8_1
      try clear hfz8_2
      try clear p2
      obtain ⟨x9_2, x10_2, x32_2, rfl, HA, HK2, HO_9, HO_10, HO_19, BK471, HB⟩ := hrel
      cases gk with
      | zero => exact absurd HA.out (by simp [qR.l1])
      | succ k2 =>
       have H := HA.out
       clear HA
       simp only [qR.l1] at H
       by_cases c15 : x32_2 < 4
       ·rw [if_pos c15] at H
        have c15b0 : decide (x32_2 < 4) = true := decide_eq_true c15
        clear c15
        by_cases c16 : 0 ≤ x11_1
        ·rw [if_pos c16] at H
         have c16b0 : decide (0 ≤ x11_1) = true := decide_eq_true c16
         clear c16
         by_cases c17 : x11_1 < (x9_2.length : Int)
         ·rw [if_pos c17] at H
          have c17b0 : decide (x11_1 < (x9_2.length : Int)) = true := decide_eq_true c17
          clear c17
          by_cases c18 : 0 ≤ x32_2
          ·rw [if_pos c18] at H
           have c18b0 : decide (0 ≤ x32_2) = true := decide_eq_true c18
           clear c18
           replace H := Option.bind_eq_some_iff.mp H
           obtain ⟨⟨t483, t484, t485, t486⟩, A200, H⟩ := H
           replace H : (if t486 = true then ((qm.f k2 x9_2 t483 t484 t485).bind fun t488 => (if t488 = true then (qR.l1 k2 x9_2 x10_2 x11_1 t472 (wrap64 (x32_2 + 1))) else ((some (([(⟨t483, t484, t485⟩ : S27)] : List (S27)) : List (S27))).bind fun y489 => (if x9_2.length + y489.length < 5864062014805 then (if x11_1 < (x10_2.length : Int) then (if x32_2 ≤ (wrap64 (x32_2 + 1)) then (if (wrap64 (x32_2 + 1)) ≤ 4 then (if (rdOf ByteArray.empty x10_2 x11_1).size + ((⟨#[110, 101, 115, 119]⟩ : ByteArray).extract (x32_2 : Int).toNat ((wrap64 (x32_2 + 1)) : Int).toNat).size ≤ 9223372036854775807 then ((some (([(rdOf ByteArray.empty x10_2 x11_1) ++ ((⟨#[110, 101, 115, 119]⟩ : ByteArray).extract (x32_2 : Int).toNat ((wrap64 (x32_2 + 1)) : Int).toNat)] : List ByteArray) : List ByteArray)).bind fun y496 => (if x10_2.length + y496.length < 8796093022208 then (qR.l1 k2 (x9_2 ++ y489) (x10_2 ++ y496) x11_1 t472 (wrap64 (x32_2 + 1))) else (none))) else (none)) else (none)) else (none)) else (none)) else (none))))) else (qR.l1 k2 x9_2 x10_2 x11_1 t472 (wrap64 (x32_2 + 1)))) = some (r1, r2, r3) := H
           have A20 := Aside0.mk A200
           clear A200
           by_cases c21 : t486 = true
           ·subst c21
            have H1 : ((qm.f k2 x9_2 t483 t484 t485).bind fun t488 => (if t488 = true then (qR.l1 k2 x9_2 x10_2 x11_1 t472 (wrap64 (x32_2 + 1))) else ((some (([(⟨t483, t484, t485⟩ : S27)] : List (S27)) : List (S27))).bind fun y489 => (if x9_2.length + y489.length < 5864062014805 then (if x11_1 < (x10_2.length : Int) then (if x32_2 ≤ (wrap64 (x32_2 + 1)) then (if (wrap64 (x32_2 + 1)) ≤ 4 then (if (rdOf ByteArray.empty x10_2 x11_1).size + ((⟨#[110, 101, 115, 119]⟩ : ByteArray).extract (x32_2 : Int).toNat ((wrap64 (x32_2 + 1)) : Int).toNat).size ≤ 9223372036854775807 then ((some (([(rdOf ByteArray.empty x10_2 x11_1) ++ ((⟨#[110, 101, 115, 119]⟩ : ByteArray).extract (x32_2 : Int).toNat ((wrap64 (x32_2 + 1)) : Int).toNat)] : List ByteArray) : List ByteArray)).bind fun y496 => (if x10_2.length + y496.length < 8796093022208 then (qR.l1 k2 (x9_2 ++ y489) (x10_2 ++ y496) x11_1 t472 (wrap64 (x32_2 + 1))) else (none))) else (none)) else (none)) else (none)) else (none)) else (none))))) = some (r1, r2, r3) := by rw [if_pos rfl] at H; exact H
            clear H
            have H := H1
            clear H1
            replace H := Option.bind_eq_some_iff.mp H
            obtain ⟨t488, A220, H⟩ := H
            replace H : (if t488 = true then (qR.l1 k2 x9_2 x10_2 x11_1 t472 (wrap64 (x32_2 + 1))) else ((some (([(⟨t483, t484, t485⟩ : S27)] : List (S27)) : List (S27))).bind fun y489 => (if x9_2.length + y489.length < 5864062014805 then (if x11_1 < (x10_2.length : Int) then (if x32_2 ≤ (wrap64 (x32_2 + 1)) then (if (wrap64 (x32_2 + 1)) ≤ 4 then (if (rdOf ByteArray.empty x10_2 x11_1).size + ((⟨#[110, 101, 115, 119]⟩ : ByteArray).extract (x32_2 : Int).toNat ((wrap64 (x32_2 + 1)) : Int).toNat).size ≤ 9223372036854775807 then ((some (([(rdOf ByteArray.empty x10_2 x11_1) ++ ((⟨#[110, 101, 115, 119]⟩ : ByteArray).extract (x32_2 : Int).toNat ((wrap64 (x32_2 + 1)) : Int).toNat)] : List ByteArray) : List ByteArray)).bind fun y496 => (if x10_2.length + y496.length < 8796093022208 then (qR.l1 k2 (x9_2 ++ y489) (x10_2 ++ y496) x11_1 t472 (wrap64 (x32_2 + 1))) else (none))) else (none)) else (none)) else (none)) else (none)) else (none)))) = some (r1, r2, r3) := H
            have A22 := Aside0.mk A220
            clear A220
            by_cases c23 : t488 = true
            ·subst c23
             have H1 : (qR.l1 k2 x9_2 x10_2 x11_1 t472 (wrap64 (x32_2 + 1))) = some (r1, r2, r3) := by rw [if_pos rfl] at H; exact H
             clear H
             have H := H1
             clear H1
             have H' := Aside0.mk H
             clear H
             obtain ⟨Ao24, co24, eo24⟩ := Kd.qt HO_19.out
             subst eo24
             try go_wp2
             have n0_ := Aside0.mk (Kd.qI HO_9.out)
             have n1_ := Aside0.mk (Kd.qI HO_10.out)
             have n2_ := Aside0.mk (Kd.qI HO_19.out)
             have n3_ := Aside0.mk (qC BK471.out)
             have n4_ := Aside0.mk (qn HB.out)
             clear HO_9
             clear HO_10
             clear HO_19
             clear BK471
             clear HB
             have HO_9 := n0_
             have HO_10 := n1_
             have HO_19 := n2_
             have BK471 := n3_
             have HB := n4_
             clear n0_ n1_ n2_ n3_ n4_
             obtain ⟨Ao26, co26, eo26⟩ := Kd.qt HO_9.out
             (first | subst eo26 | (injection eo26 with f1_ f2_ f3_; have f4_ := f1_.symm; have f5_ := f3_.symm; clear f1_ f2_ f3_; subst f4_; subst f5_))
             have p482 : 0 ≤ (x11_1 : Int) := of_decide_eq_true (by first | (with_reducible assumption) | assumption)
             have q482 : x11_1 < (x9_2.length : Int) := of_decide_eq_true (by first | (with_reducible assumption) | assumption)
             obtain ⟨ad482, e482, hx482_0, hx482_1, hx482_2⟩ := qFB (Kd.qf HO_9.out).2.2 x11_1 p482 q482
             cases e482
             replace p482 := eq_true p482
             replace q482 := eq_true q482
             have p19 : 0 ≤ (x32_2 : Int) := of_decide_eq_true (by first | (with_reducible assumption) | assumption)
             have q19 : x32_2 < (4 : Int) := of_decide_eq_true (by first | (with_reducible assumption) | assumption)
             have hx19 := bt_at (⟨#[110, 101, 115, 119]⟩ : ByteArray) x32_2
             replace p19 := eq_true p19
             replace q19 := eq_true q19
             refine qxA (n := 14) (S := fun w' => w'.cell? (ad482.add ((x11_1).toNat * 3)) = some (.int .i64 ((qJ x9_2 x11_1).f0)) ∧ w'.cell? ⟨(ad482.add ((x11_1).toNat * 3)).block, (ad482.add ((x11_1).toNat * 3)).off + 1, none⟩ = some (.int .i64 ((qJ x9_2 x11_1).f1)) ∧ w'.cell? ⟨(ad482.add ((x11_1).toNat * 3)).block, (ad482.add ((x11_1).toNat * 3)).off + 2, none⟩ = some (.int .i64 ((qJ x9_2 x11_1).f2))) (ds := []) #[false, false, false, false, false, false, false, false, false, false, false, false, false, false] (by kernel_rfl) rfl rfl ⟨hx482_0, hx482_1, hx482_2⟩ (fun hHeld => ?_); refine qTA qR.tab11 qR.bits11 (fun HT_ HW_ => ?_)
             generalize wr.drew = w25 at HO_9 HO_10 HO_19 BK471 HB hx482_0 hx482_1 hx482_2 hHeld ⊢
             refine pS (i := 0) (N := some 36) #[true, false, false, false, false, false, false, false, false, false, false, false, false, false] HT_ ?_
             refine pS (i := 1) (N := some 37) #[true, true, false, false, false, false, false, false, false, false, false, false, false, false] HT_ ?_
             refine pS (i := 2) (N := some 38) #[true, true, true, false, false, false, false, false, false, false, false, false, false, false] HT_ ?_
             refine pS (i := 3) (N := some 39) #[true, true, true, true, false, false, false, false, false, false, false, false, false, false] HT_ ?_
             refine pS (i := 5) (N := some 41) #[true, true, true, true, false, true, false, false, false, false, false, false, false, false] HT_ ?_
             refine tS (i := 4) (N := some 40) #[true, true, true, true, true, true, false, false, false, false, false, false, false, false] HT_ HW_ hHeld ?_
             refine tS (i := 6) (N := some 42) #[true, true, true, true, true, true, true, false, false, false, false, false, false, false] HT_ HW_ hHeld ?_
             refine join_ (σ := Nat) 2 #[true, true, true, true, true, true, true, true, true, true, true, true, false, false] (fun s_ => [(43, .tuple #[.agg #[.int .i64 t483, .int .i64 t484, .int .i64 t485], .bool true]), (13, .pointer (some ⟨s_, 0, none⟩)), (35, .tuple #[.agg #[.int .i64 t483, .int .i64 t484, .int .i64 t485], .bool true]), (44, .agg #[.int .i64 t483, .int .i64 t484, .int .i64 t485]), (45, .bool true)]) (fun s_ w' => (w'.cell? (ad482.add ((x11_1).toNat * 3)) = some (.int .i64 ((qJ x9_2 x11_1).f0)) ∧ w'.cell? ⟨(ad482.add ((x11_1).toNat * 3)).block, (ad482.add ((x11_1).toNat * 3)).off + 1, none⟩ = some (.int .i64 ((qJ x9_2 x11_1).f1)) ∧ w'.cell? ⟨(ad482.add ((x11_1).toNat * 3)).block, (ad482.add ((x11_1).toNat * 3)).off + 2, none⟩ = some (.int .i64 ((qJ x9_2 x11_1).f2))) ∧ (Kd.R Kd.string 9 w' w.heap.size (fun k_ => some k_ ≠ (.slice Ao24 t472.length co24 : Value).ownBlock) u10 x10_2) ∧ (Kd.R Kd.string 9 w' w.heap.size (fun k_ => some k_ ≠ (u10 : Value).ownBlock) (.slice Ao24 t472.length co24) t472) ∧ (Kd.R k27 27 w' w.heap.size (fun k_ => k_ ≠ gb471 ∧ k_ ≠ s_) (.slice (some ad482) x9_2.length co26) x9_2) ∧ (w'.heap[gb471]? = some (.cells #[.int .i64 a1_0, .int .i64 a1_1, .int .i64 a1_2] 27 (0, 0))) ∧ (w'.heap[s_]? = some (.cells #[.int .i64 0, .int .i64 0, .int .i64 0] 27 (0, 0))) ∧ (w.heap.size ≤ s_) ∧ (w.heap.size ≤ s_) ∧ (gb471 ≠ s_) ∧ (s_ ≠ gb471) ∧ (Below w.heap.size w w')) ?_ ?_
             rotate_left
             ·intro hCont
              refine two_ (i := 7) (j := 11) (Ni := some 43) (Nj := some 13) #[true, true, true, true, true, true, true, true, false, false, false, false, false, false] #[true, true, true, true, true, true, true, false, false, false, false, true, false, false] rfl rfl rfl rfl (qwB HT_.out (by kernel_rfl)) (by decide) (by decide) (fun K hK => ?_) (fun K hK => ?_)
              ·skip
               refine goes_ Tryd.func62 (by kernel_rfl) rfl #[.slice Ao24 t472.length co24, .agg #[.int .i64 ((qJ x9_2 x11_1).f0), .int .i64 ((qJ x9_2 x11_1).f1), .int .i64 ((qJ x9_2 x11_1).f2)], .int .u8 (bt (⟨#[110, 101, 115, 119]⟩ : ByteArray) x32_2)] (by rfl) rfl rfl (by (try simp only [List.map_toArray, List.map_cons, List.map_nil]); first | done | rfl | (simp only [List.length_drop, List.length_take]; rfl)) ?_
               with_reducible refine (qLA.calls k2 _ _ t472 ((qJ x9_2 x11_1).f0) ((qJ x9_2 x11_1).f1) ((qJ x9_2 x11_1).f2) (bt (⟨#[110, 101, 115, 119]⟩ : ByteArray) x32_2) t483 t484 t485 true _ ?side1 ?side2 A20.out).mono ?_
               (case side1 => repeat (first | exact (Kd.qf HO_19.out).2.2 | (with_reducible refine Kd.qHA ?_ _) | (with_reducible refine Kd.qGA ?_ _) | (with_reducible refine Kd.qNA ?_)))
               (case side2 => exact (Kd.qf HO_19.out).2.1)
               rintro e w27 ⟨rfl, hb⟩
               have HS0_ := (hb.cell (World.block_lt_of_cell? _ _ (hHeld.1))).trans (hHeld.1)
               have HS1_ := (hb.cell (World.block_lt_of_cell? _ _ (hHeld.2.1))).trans (hHeld.2.1)
               have HS2_ := (hb.cell (World.block_lt_of_cell? _ _ (hHeld.2.2))).trans (hHeld.2.2)
               refine ⟨_, rfl, ?_⟩
               have n0_ := Aside0.mk (Kd.qY (by (with_reducible repeat (first | apply Kd.qF | apply Kd.qE | apply Kd.qI)); exact HO_9.out) hb)
               have n1_ := Aside0.mk (Kd.qY (by (with_reducible repeat (first | apply Kd.qF | apply Kd.qE | apply Kd.qI)); exact HO_10.out) hb)
               have n2_ := Aside0.mk (Kd.qY (by (with_reducible repeat (first | apply Kd.qF | apply Kd.qE | apply Kd.qI)); exact HO_19.out) hb)
               have n3_ := Aside0.mk (bb BK471 hb)
               have n4_ := Aside0.mk (qG bl hb)
               clear HO_9
               clear HO_10
               clear HO_19
               clear BK471
               clear HB
               have HO_9 := n0_
               have HO_10 := n1_
               have HO_19 := n2_
               have BK471 := n3_
               have HB := n4_
               clear n0_ n1_ n2_ n3_ n4_
               (try clear hb)
               (try clear hb2)
               (try clear hk)
               (try clear hi)
               refine hK.out _ _ ⟨HS0_, HS1_, HS2_⟩ (fun hHeld => ?_)
               clear hK K
               refine norm_ (a' := ?_) ?_ ?_
               rotate_left
               ·show Act.put _ (some 43) _ = _
                simp only [Act.put, List.setIfInBounds_toArray, List.set_cons_zero, List.set_cons_succ, i64_w, i32_w]
                rfl
               refine pS (i := 8) (N := some 35) #[true, true, true, true, true, true, true, true, true, false, false, false, false, false] HT_ ?_
               refine pS (i := 9) (N := some 44) #[true, true, true, true, true, true, true, true, true, true, false, false, false, false] HT_ ?_
               refine pS (i := 10) (N := some 45) #[true, true, true, true, true, true, true, true, true, true, true, false, false, false] HT_ ?_
               refine one_ (i := 11) (N := some 13) #[true, true, true, true, true, true, true, true, true, true, true, true, false, false] rfl rfl (qPA HT_.out (by kernel_rfl)) (by decide) (fun K hK => ?_)
               refine qAB ?hg (N := 13) ?hd (cs := #[.int .i64 0, .int .i64 0, .int .i64 0]) (t := 27) ?hr ?_; (case hd => rfl); (case hg => rfl); (case hr => first | (go_simp; done) | (go_simp; rfl))
               intro gb487 hg w28 hbox hb
               have HS0_ := (hb.cell (World.block_lt_of_cell? _ _ (hHeld.1))).trans (hHeld.1)
               have HS1_ := (hb.cell (World.block_lt_of_cell? _ _ (hHeld.2.1))).trans (hHeld.2.1)
               have HS2_ := (hb.cell (World.block_lt_of_cell? _ _ (hHeld.2.2))).trans (hHeld.2.2)
               have n0_ := Aside0.mk (Kd.qY (Kd.qYA (by (with_reducible repeat (first | apply Kd.qF | apply Kd.qE | apply Kd.qI)); exact HO_9.out) gb487 (Nat.le_of_eq hg.symm)) hb)
               have n1_ := Aside0.mk (Kd.qY (by (with_reducible repeat (first | apply Kd.qF | apply Kd.qE | apply Kd.qI)); exact HO_10.out) hb)
               have n2_ := Aside0.mk (Kd.qY (by (with_reducible repeat (first | apply Kd.qF | apply Kd.qE | apply Kd.qI)); exact HO_19.out) hb)
               have n3_ := Aside0.mk (bb BK471 hb)
               have n4_ := Aside0.mk (qG bl hb)
               have n5_ := Aside0.mk (hbox)
               have n6_ := Aside0.mk ((gg hg))
               have n7_ := Aside0.mk ((gg hg))
               have n8_ := Aside0.mk ((nl BK471 hg))
               have n9_ := Aside0.mk ((nr BK471 hg))
               clear HO_9
               clear HO_10
               clear HO_19
               clear BK471
               clear HB
               have HO_9 := n0_
               have HO_10 := n1_
               have HO_19 := n2_
               have BK471 := n3_
               have HB := n4_
               have BK487 := n5_
               have GW487 := n6_
               have GE487 := n7_
               have NB471_487 := n8_
               have NB487_471 := n9_
               clear n0_ n1_ n2_ n3_ n4_ n5_ n6_ n7_ n8_ n9_
               clear hb hbox hg
               refine hK.out _ _ ⟨HS0_, HS1_, HS2_⟩ (fun hHeld => ?_)
               clear hK K
               refine norm_ (a' := ?_) ?_ ?_
               rotate_left
               ·show Act.put _ (some 13) _ = _
                simp only [Act.put, List.setIfInBounds_toArray, List.set_cons_zero, List.set_cons_succ, i64_w, i32_w]
                rfl
               exact norm_ (by simp only [putAll, Act.put, List.setIfInBounds_toArray, List.set_cons_zero, List.set_cons_succ]) (hCont (gb487) _ ⟨hHeld, (by (with_reducible repeat (first | apply Kd.qF | apply Kd.qE | apply Kd.qI)); exact HO_10.out), (by (with_reducible repeat (first | apply Kd.qF | apply Kd.qE | apply Kd.qI)); exact HO_19.out), (by (with_reducible repeat (first | apply Kd.qF | apply Kd.qE | apply Kd.qI)); exact HO_9.out), (by (with_reducible repeat (first | refine qB ?_ _ | refine qC ?_ | refine qA ?_ _)); exact BK471.out), (by (with_reducible repeat (first | refine qB ?_ _ | refine qC ?_ | refine qA ?_ _)); exact BK487.out), GW487.out, GE487.out, NB471_487.out, NB487_471.out, bl⟩)
              ·skip
               refine qAB ?hg (N := 13) ?hd (cs := #[.int .i64 0, .int .i64 0, .int .i64 0]) (t := 27) ?hr ?_; (case hd => rfl); (case hg => rfl); (case hr => first | (go_simp; done) | (go_simp; rfl))
               intro gb487 hg w27 hbox hb
               have HS0_ := (hb.cell (World.block_lt_of_cell? _ _ (hHeld.1))).trans (hHeld.1)
               have HS1_ := (hb.cell (World.block_lt_of_cell? _ _ (hHeld.2.1))).trans (hHeld.2.1)
               have HS2_ := (hb.cell (World.block_lt_of_cell? _ _ (hHeld.2.2))).trans (hHeld.2.2)
               have n0_ := Aside0.mk (Kd.qY (Kd.qYA (by (with_reducible repeat (first | apply Kd.qF | apply Kd.qE | apply Kd.qI)); exact HO_9.out) gb487 (Nat.le_of_eq hg.symm)) hb)
               have n1_ := Aside0.mk (Kd.qY (by (with_reducible repeat (first | apply Kd.qF | apply Kd.qE | apply Kd.qI)); exact HO_10.out) hb)
               have n2_ := Aside0.mk (Kd.qY (by (with_reducible repeat (first | apply Kd.qF | apply Kd.qE | apply Kd.qI)); exact HO_19.out) hb)
               have n3_ := Aside0.mk (bb BK471 hb)
               have n4_ := Aside0.mk (qG bl hb)
               have n5_ := Aside0.mk (hbox)
               have n6_ := Aside0.mk ((gg hg))
               have n7_ := Aside0.mk ((gg hg))
               have n8_ := Aside0.mk ((nl BK471 hg))
               have n9_ := Aside0.mk ((nr BK471 hg))
               clear HO_9
               clear HO_10
               clear HO_19
               clear BK471
               clear HB
               have HO_9 := n0_
               have HO_10 := n1_
               have HO_19 := n2_
               have BK471 := n3_
               have HB := n4_
               have BK487 := n5_
               have GW487 := n6_
               have GE487 := n7_
               have NB471_487 := n8_
               have NB487_471 := n9_
               clear n0_ n1_ n2_ n3_ n4_ n5_ n6_ n7_ n8_ n9_
               clear hb hbox hg
               refine hK.out _ _ ⟨HS0_, HS1_, HS2_⟩ (fun hHeld => ?_)
               clear hK K
               refine norm_ (a' := ?_) ?_ ?_
               rotate_left
               ·show Act.put _ (some 13) _ = _
                simp only [Act.put, List.setIfInBounds_toArray, List.set_cons_zero, List.set_cons_succ, i64_w, i32_w]
                rfl
               refine one_ (i := 7) (N := some 43) #[true, true, true, true, true, true, true, true, false, false, false, true, false, false] rfl rfl (qPA HT_.out (by kernel_rfl)) (by decide) (fun K hK => ?_)
               refine goes_ Tryd.func62 (by kernel_rfl) rfl #[.slice Ao24 t472.length co24, .agg #[.int .i64 ((qJ x9_2 x11_1).f0), .int .i64 ((qJ x9_2 x11_1).f1), .int .i64 ((qJ x9_2 x11_1).f2)], .int .u8 (bt (⟨#[110, 101, 115, 119]⟩ : ByteArray) x32_2)] (by rfl) rfl rfl (by (try simp only [List.map_toArray, List.map_cons, List.map_nil]); first | done | rfl | (simp only [List.length_drop, List.length_take]; rfl)) ?_
               with_reducible refine (qLA.calls k2 _ _ t472 ((qJ x9_2 x11_1).f0) ((qJ x9_2 x11_1).f1) ((qJ x9_2 x11_1).f2) (bt (⟨#[110, 101, 115, 119]⟩ : ByteArray) x32_2) t483 t484 t485 true _ ?side1 ?side2 A20.out).mono ?_
               (case side1 => repeat (first | exact (Kd.qf HO_19.out).2.2 | (with_reducible refine Kd.qHA ?_ _) | (with_reducible refine Kd.qGA ?_ _) | (with_reducible refine Kd.qNA ?_)))
               (case side2 => exact (Kd.qf HO_19.out).2.1)
               rintro e w28 ⟨rfl, hb⟩
               have HS0_ := (hb.cell (World.block_lt_of_cell? _ _ (hHeld.1))).trans (hHeld.1)
               have HS1_ := (hb.cell (World.block_lt_of_cell? _ _ (hHeld.2.1))).trans (hHeld.2.1)
               have HS2_ := (hb.cell (World.block_lt_of_cell? _ _ (hHeld.2.2))).trans (hHeld.2.2)
               refine ⟨_, rfl, ?_⟩
               have n0_ := Aside0.mk (Kd.qY (by (with_reducible repeat (first | apply Kd.qF | apply Kd.qE | apply Kd.qI)); exact HO_9.out) hb)
               have n1_ := Aside0.mk (Kd.qY (by (with_reducible repeat (first | apply Kd.qF | apply Kd.qE | apply Kd.qI)); exact HO_10.out) hb)
               have n2_ := Aside0.mk (Kd.qY (by (with_reducible repeat (first | apply Kd.qF | apply Kd.qE | apply Kd.qI)); exact HO_19.out) hb)
               have n3_ := Aside0.mk (bb BK471 hb)
               have n4_ := Aside0.mk (bb BK487 hb)
               have n5_ := Aside0.mk (qG bl hb)
               clear HO_9
               clear HO_10
               clear HO_19
               clear BK471
               clear BK487
               clear HB
               have HO_9 := n0_
               have HO_10 := n1_
               have HO_19 := n2_
               have BK471 := n3_
               have BK487 := n4_
               have HB := n5_
               clear n0_ n1_ n2_ n3_ n4_ n5_
               (try clear hb)
               (try clear hb2)
               (try clear hk)
               (try clear hi)
               refine hK.out _ _ ⟨HS0_, HS1_, HS2_⟩ (fun hHeld => ?_)
               clear hK K
               refine norm_ (a' := ?_) ?_ ?_
               rotate_left
               ·show Act.put _ (some 43) _ = _
                simp only [Act.put, List.setIfInBounds_toArray, List.set_cons_zero, List.set_cons_succ, i64_w, i32_w]
                rfl
               refine pS (i := 8) (N := some 35) #[true, true, true, true, true, true, true, true, true, false, false, true, false, false] HT_ ?_
               refine pS (i := 9) (N := some 44) #[true, true, true, true, true, true, true, true, true, true, false, true, false, false] HT_ ?_
               refine pS (i := 10) (N := some 45) #[true, true, true, true, true, true, true, true, true, true, true, true, false, false] HT_ ?_
               exact norm_ (by simp only [putAll, Act.put, List.setIfInBounds_toArray, List.set_cons_zero, List.set_cons_succ]) (hCont (gb487) _ ⟨hHeld, (by (with_reducible repeat (first | apply Kd.qF | apply Kd.qE | apply Kd.qI)); exact HO_10.out), (by (with_reducible repeat (first | apply Kd.qF | apply Kd.qE | apply Kd.qI)); exact HO_19.out), (by (with_reducible repeat (first | apply Kd.qF | apply Kd.qE | apply Kd.qI)); exact HO_9.out), (by (with_reducible repeat (first | refine qB ?_ _ | refine qC ?_ | refine qA ?_ _)); exact BK471.out), (by (with_reducible repeat (first | refine qB ?_ _ | refine qC ?_ | refine qA ?_ _)); exact BK487.out), GW487.out, GE487.out, NB471_487.out, NB487_471.out, bl⟩)
             rintro gb487 w29 ⟨hS_, h0_, h1_, h2_, h3_, h4_, h5_, h6_, h7_, h8_, h9_⟩
             have n0_ : Aside0 (Kd.R Kd.string 9 w29 w.heap.size (fun k_ => some k_ ≠ (.slice Ao24 t472.length co24 : Value).ownBlock) u10 x10_2) := ⟨h0_⟩
             have n1_ : Aside0 (Kd.R Kd.string 9 w29 w.heap.size (fun k_ => some k_ ≠ (u10 : Value).ownBlock) (.slice Ao24 t472.length co24) t472) := ⟨h1_⟩
             have n2_ : Aside0 (Kd.R k27 27 w29 w.heap.size (fun k_ => k_ ≠ gb471 ∧ k_ ≠ gb487) (.slice (some ad482) x9_2.length co26) x9_2) := ⟨h2_⟩
             have n3_ : Aside0 (w29.heap[gb471]? = some (.cells #[.int .i64 a1_0, .int .i64 a1_1, .int .i64 a1_2] 27 (0, 0))) := ⟨h3_⟩
             have n4_ : Aside0 (w29.heap[gb487]? = some (.cells #[.int .i64 0, .int .i64 0, .int .i64 0] 27 (0, 0))) := ⟨h4_⟩
             have n5_ : Aside0 (w.heap.size ≤ gb487) := ⟨h5_⟩
             have n6_ : Aside0 (w.heap.size ≤ gb487) := ⟨h6_⟩
             have n7_ : Aside0 (gb471 ≠ gb487) := ⟨h7_⟩
             have n8_ : Aside0 (gb487 ≠ gb471) := ⟨h8_⟩
             have n9_ : Aside0 (Below w.heap.size w w29) := ⟨h9_⟩
             clear HO_9
             clear HO_10
             clear HO_19
             clear BK471
             clear HB
             clear h0_ h1_ h2_ h3_ h4_ h5_ h6_ h7_ h8_ h9_
             have HO_10 := n0_
             have HO_19 := n1_
             have HO_9 := n2_
             have BK471 := n3_
             have BK487 := n4_
             have GW487 := n5_
             have GE487 := n6_
             have NB471_487 := n7_
             have NB487_471 := n8_
             have HB := n9_
             clear n0_ n1_ n2_ n3_ n4_ n5_ n6_ n7_ n8_ n9_
             have hHeld : w29.cell? (ad482.add ((x11_1).toNat * 3)) = some (.int .i64 ((qJ x9_2 x11_1).f0)) ∧ w29.cell? ⟨(ad482.add ((x11_1).toNat * 3)).block, (ad482.add ((x11_1).toNat * 3)).off + 1, none⟩ = some (.int .i64 ((qJ x9_2 x11_1).f1)) ∧ w29.cell? ⟨(ad482.add ((x11_1).toNat * 3)).block, (ad482.add ((x11_1).toNat * 3)).off + 2, none⟩ = some (.int .i64 ((qJ x9_2 x11_1).f2)) := hS_
             refine norm_ (a' := ?_) ?_ ?_
             rotate_left
             ·simp only [putAll, Act.put, List.setIfInBounds_toArray, List.set_cons_zero, List.set_cons_succ]
              rfl
             refine one_ (i := 12) (N := none) #[true, true, true, true, true, true, true, true, true, true, true, true, true, false] rfl rfl (qPA HT_.out (by kernel_rfl)) (by decide) (fun K hK => ?_)
             have hs30 : w29.cell? ⟨gb487, 0, none⟩ = some (.int .i64 0) := (qK BK487.out 0).trans rfl
             have hfs30 := qD BK487.out 0
             have hns30_0 := NB471_487.out
             have hms30_0 := NB487_471.out
             have hs31 : w29.cell? ⟨gb487, 1, none⟩ = some (.int .i64 0) := (qK BK487.out 1).trans rfl
             have hfs31 := qD BK487.out 1
             have hns31_0 := NB471_487.out
             have hms31_0 := NB487_471.out
             have hs32 : w29.cell? ⟨gb487, 2, none⟩ = some (.int .i64 0) := (qK BK487.out 2).trans rfl
             have hfs32 := qD BK487.out 2
             have hns32_0 := NB471_487.out
             have hms32_0 := NB487_471.out
             refine skip_ (w1 := ?_) (by rfl) rfl ?_ ?_
             rotate_left
             ·go_simp
              rfl
             refine hK.out _ _ ⟨((qQ (p := ⟨gb487, _, none⟩) (by first | exact Kd.qN (Kd.qT HO_9.out (fun _ hk => hk.2)) | (rw [qP]; exact Kd.qN (Kd.qT HO_9.out (fun _ hk => hk.2))) | (show (Addr.add _ _).block ≠ _; rw [qP]; exact Kd.qN (Kd.qT HO_9.out (fun _ hk => hk.2))) | (dsimp only; exact Kd.qN (Kd.qT HO_9.out (fun _ hk => hk.2)))) _).trans (((qQ (p := ⟨gb487, _, none⟩) (by first | exact Kd.qN (Kd.qT HO_9.out (fun _ hk => hk.2)) | (rw [qP]; exact Kd.qN (Kd.qT HO_9.out (fun _ hk => hk.2))) | (show (Addr.add _ _).block ≠ _; rw [qP]; exact Kd.qN (Kd.qT HO_9.out (fun _ hk => hk.2))) | (dsimp only; exact Kd.qN (Kd.qT HO_9.out (fun _ hk => hk.2)))) _).trans (((qQ (p := ⟨gb487, _, none⟩) (by first | exact Kd.qN (Kd.qT HO_9.out (fun _ hk => hk.2)) | (rw [qP]; exact Kd.qN (Kd.qT HO_9.out (fun _ hk => hk.2))) | (show (Addr.add _ _).block ≠ _; rw [qP]; exact Kd.qN (Kd.qT HO_9.out (fun _ hk => hk.2))) | (dsimp only; exact Kd.qN (Kd.qT HO_9.out (fun _ hk => hk.2)))) _).trans (hHeld.1)))))), ((qQ (p := ⟨gb487, _, none⟩) (by first | exact Kd.qN (Kd.qT HO_9.out (fun _ hk => hk.2)) | (rw [qP]; exact Kd.qN (Kd.qT HO_9.out (fun _ hk => hk.2))) | (show (Addr.add _ _).block ≠ _; rw [qP]; exact Kd.qN (Kd.qT HO_9.out (fun _ hk => hk.2))) | (dsimp only; exact Kd.qN (Kd.qT HO_9.out (fun _ hk => hk.2)))) _).trans (((qQ (p := ⟨gb487, _, none⟩) (by first | exact Kd.qN (Kd.qT HO_9.out (fun _ hk => hk.2)) | (rw [qP]; exact Kd.qN (Kd.qT HO_9.out (fun _ hk => hk.2))) | (show (Addr.add _ _).block ≠ _; rw [qP]; exact Kd.qN (Kd.qT HO_9.out (fun _ hk => hk.2))) | (dsimp only; exact Kd.qN (Kd.qT HO_9.out (fun _ hk => hk.2)))) _).trans (((qQ (p := ⟨gb487, _, none⟩) (by first | exact Kd.qN (Kd.qT HO_9.out (fun _ hk => hk.2)) | (rw [qP]; exact Kd.qN (Kd.qT HO_9.out (fun _ hk => hk.2))) | (show (Addr.add _ _).block ≠ _; rw [qP]; exact Kd.qN (Kd.qT HO_9.out (fun _ hk => hk.2))) | (dsimp only; exact Kd.qN (Kd.qT HO_9.out (fun _ hk => hk.2)))) _).trans (hHeld.2.1)))))), ((qQ (p := ⟨gb487, _, none⟩) (by first | exact Kd.qN (Kd.qT HO_9.out (fun _ hk => hk.2)) | (rw [qP]; exact Kd.qN (Kd.qT HO_9.out (fun _ hk => hk.2))) | (show (Addr.add _ _).block ≠ _; rw [qP]; exact Kd.qN (Kd.qT HO_9.out (fun _ hk => hk.2))) | (dsimp only; exact Kd.qN (Kd.qT HO_9.out (fun _ hk => hk.2)))) _).trans (((qQ (p := ⟨gb487, _, none⟩) (by first | exact Kd.qN (Kd.qT HO_9.out (fun _ hk => hk.2)) | (rw [qP]; exact Kd.qN (Kd.qT HO_9.out (fun _ hk => hk.2))) | (show (Addr.add _ _).block ≠ _; rw [qP]; exact Kd.qN (Kd.qT HO_9.out (fun _ hk => hk.2))) | (dsimp only; exact Kd.qN (Kd.qT HO_9.out (fun _ hk => hk.2)))) _).trans (((qQ (p := ⟨gb487, _, none⟩) (by first | exact Kd.qN (Kd.qT HO_9.out (fun _ hk => hk.2)) | (rw [qP]; exact Kd.qN (Kd.qT HO_9.out (fun _ hk => hk.2))) | (show (Addr.add _ _).block ≠ _; rw [qP]; exact Kd.qN (Kd.qT HO_9.out (fun _ hk => hk.2))) | (dsimp only; exact Kd.qN (Kd.qT HO_9.out (fun _ hk => hk.2)))) _).trans (hHeld.2.2))))))⟩ (fun hHeld => ?_)
             clear hK K
             refine pS (i := 13) (N := some 14) #[true, true, true, true, true, true, true, true, true, true, true, true, true, true] HT_ ?_
             refine done_ (qpA HT_.out (by kernel_rfl)) ?_
             have hnb33 := NB487_471.out
             have hnc33 := NB471_487.out
             have hcz34_0 := bc BK487 0
             have hcz34_1 := bc BK487 1
             have hcz34_2 := bc BK487 2
             have hfz34_0 := qD BK487.out 0
             have hfz34_1 := qD BK487.out 1
             have hfz34_2 := qD BK487.out 2
             try go_wp2_with (first | (go_at_call 91; (with_reducible refine (qm.calls k2 _ _ x9_2 t483 t484 t485 true _ ?side1 ?side2 A22.out).mono ?_); (case side1 => refine (Kd.qf (e := 27) (base := w.heap.size) (ok := fun k_ => (k_ ≠ gb471 ∧ k_ ≠ gb487)) (n := x9_2.length) (c := co26) ?_).2.2; exact (by (with_reducible repeat (first | apply Kd.qF | apply Kd.qE | apply Kd.qI)); exact (Kd.qh (Kd.R_far (p := ⟨gb487, 2, none⟩) (Kd.R_far (p := ⟨gb487, 1, none⟩) (Kd.R_far (p := ⟨gb487, 0, none⟩) (Kd.qh HO_9.out (fun k_ hk => (⟨hk, hk.2⟩ : _ ∧ k_ ≠ gb487))) (fun _ hk => hk.2) (.int .i64 t483)) (fun _ hk => hk.2) (.int .i64 t484)) (fun _ hk => hk.2) (.int .i64 t485)) (fun _ h_ => h_.1)))); (case side2 => exact (Kd.qf HO_9.out).2.1); rintro e w35 ⟨rfl, hb⟩; have n0_ := Aside0.mk (Kd.qY (by (with_reducible repeat (first | apply Kd.qF | apply Kd.qE | apply Kd.qI)); exact (Kd.qh (Kd.R_far (p := ⟨gb487, 2, none⟩) (Kd.R_far (p := ⟨gb487, 1, none⟩) (Kd.R_far (p := ⟨gb487, 0, none⟩) (Kd.qh HO_9.out (fun k_ hk => (⟨hk, hk.2⟩ : _ ∧ k_ ≠ gb487))) (fun _ hk => hk.2) (.int .i64 t483)) (fun _ hk => hk.2) (.int .i64 t484)) (fun _ hk => hk.2) (.int .i64 t485)) (fun _ h_ => h_.1))) hb); have n1_ := Aside0.mk (Kd.qY (by (with_reducible repeat (first | apply Kd.qF | apply Kd.qE | apply Kd.qI)); exact (Kd.qh (Kd.R_far (p := ⟨gb487, 2, none⟩) (Kd.R_far (p := ⟨gb487, 1, none⟩) (Kd.R_far (p := ⟨gb487, 0, none⟩) (Kd.qr HO_10.out BK487.out (by decide)) (fun _ hk => hk.2) (.int .i64 t483)) (fun _ hk => hk.2) (.int .i64 t484)) (fun _ hk => hk.2) (.int .i64 t485)) (fun _ h_ => h_.1))) hb); have n2_ := Aside0.mk (Kd.qY (by (with_reducible repeat (first | apply Kd.qF | apply Kd.qE | apply Kd.qI)); exact (Kd.qh (Kd.R_far (p := ⟨gb487, 2, none⟩) (Kd.R_far (p := ⟨gb487, 1, none⟩) (Kd.R_far (p := ⟨gb487, 0, none⟩) (Kd.qr HO_19.out BK487.out (by decide)) (fun _ hk => hk.2) (.int .i64 t483)) (fun _ hk => hk.2) (.int .i64 t484)) (fun _ hk => hk.2) (.int .i64 t485)) (fun _ h_ => h_.1))) hb); have n3_ := Aside0.mk (ql (g := gb471) (o := .cells #[.int .i64 a1_0, .int .i64 a1_1, .int .i64 a1_2] 27 (0, 0)) (by (with_reducible repeat (first | refine qB ?_ _ | refine qC ?_ | refine qA ?_ _)); refine qH ?_ NB471_487.out _; (with_reducible repeat (first | refine qB ?_ _ | refine qC ?_ | refine qA ?_ _)); refine qH ?_ NB471_487.out _; (with_reducible repeat (first | refine qB ?_ _ | refine qC ?_ | refine qA ?_ _)); refine qH ?_ NB471_487.out _; (with_reducible repeat (first | refine qB ?_ _ | refine qC ?_ | refine qA ?_ _)); exact BK471.out) hb); have n4_ := Aside0.mk (ql (g := gb487) (o := .cells #[.int .i64 t483, .int .i64 t484, .int .i64 t485] 27 (0, 0)) (by (with_reducible repeat (first | refine qB ?_ _ | refine qC ?_ | refine qA ?_ _)); refine qO (cs := #[.int .i64 t483, .int .i64 t484, .int .i64 0]) ?_ 2 _ rfl; (with_reducible repeat (first | refine qB ?_ _ | refine qC ?_ | refine qA ?_ _)); refine qO (cs := #[.int .i64 t483, .int .i64 0, .int .i64 0]) ?_ 1 _ rfl; (with_reducible repeat (first | refine qB ?_ _ | refine qC ?_ | refine qA ?_ _)); refine qO (cs := #[.int .i64 0, .int .i64 0, .int .i64 0]) ?_ 0 _ rfl; (with_reducible repeat (first | refine qB ?_ _ | refine qC ?_ | refine qA ?_ _)); exact BK487.out) hb); have n5_ := Aside0.mk (qG bl hb); clear HO_9; clear HO_10; clear HO_19; clear BK471; clear BK487; clear HB; have HO_9 := n0_; have HO_10 := n1_; have HO_19 := n2_; have BK471 := n3_; have BK487 := n4_; have HB := n5_; clear n0_ n1_ n2_ n3_ n4_ n5_; (try clear hb); (try clear hb2); (try clear hk); (try clear hi)))
             go_roundg k2
             case measure => have := HK1.out; have := HK2.out; omega
             case rel => exact ⟨(x9_2), (x10_2), (wrap64 (x32_2 + 1)), (by first | rfl | (simp; done) | (simp [*]; done)), H', ⟨by have := HK1.out; have := HK2.out; omega⟩, ⟨by (with_reducible repeat (first | apply Kd.qF | apply Kd.qE | apply Kd.qI)); exact Kd.qh HO_9.out (fun _ hk => hk.1)⟩, ⟨by (with_reducible repeat (first | apply Kd.qF | apply Kd.qE | apply Kd.qI)); exact HO_10.out⟩, ⟨by (with_reducible repeat (first | apply Kd.qF | apply Kd.qE | apply Kd.qI)); exact HO_19.out⟩, ⟨by (with_reducible repeat (first | refine qB ?_ _ | refine qC ?_ | refine qA ?_ _)); exact BK471.out⟩, ⟨bl⟩⟩
            ·replace c23 := Bool.eq_false_iff.mpr c23
             subst c23
             have H1 : ((some (([(⟨t483, t484, t485⟩ : S27)] : List (S27)) : List (S27))).bind fun y489 => (if x9_2.length + y489.length < 5864062014805 then (if x11_1 < (x10_2.length : Int) then (if x32_2 ≤ (wrap64 (x32_2 + 1)) then (if (wrap64 (x32_2 + 1)) ≤ 4 then (if (rdOf ByteArray.empty x10_2 x11_1).size + ((⟨#[110, 101, 115, 119]⟩ : ByteArray).extract (x32_2 : Int).toNat ((wrap64 (x32_2 + 1)) : Int).toNat).size ≤ 9223372036854775807 then ((some (([(rdOf ByteArray.empty x10_2 x11_1) ++ ((⟨#[110, 101, 115, 119]⟩ : ByteArray).extract (x32_2 : Int).toNat ((wrap64 (x32_2 + 1)) : Int).toNat)] : List ByteArray) : List ByteArray)).bind fun y496 => (if x10_2.length + y496.length < 8796093022208 then (qR.l1 k2 (x9_2 ++ y489) (x10_2 ++ y496) x11_1 t472 (wrap64 (x32_2 + 1))) else (none))) else (none)) else (none)) else (none)) else (none)) else (none))) = some (r1, r2, r3) := by rw [if_neg (show ¬ (false = true) by decide)] at H; exact H
             clear H
             have H := H1
             clear H1
             obtain ⟨y489, hy489⟩ : ∃ y_ : List (S27), y_ = (([(⟨t483, t484, t485⟩ : S27)] : List (S27))) := ⟨_, rfl⟩
             replace H : (if x9_2.length + y489.length < 5864062014805 then (if x11_1 < (x10_2.length : Int) then (if x32_2 ≤ (wrap64 (x32_2 + 1)) then (if (wrap64 (x32_2 + 1)) ≤ 4 then (if (rdOf ByteArray.empty x10_2 x11_1).size + ((⟨#[110, 101, 115, 119]⟩ : ByteArray).extract (x32_2 : Int).toNat ((wrap64 (x32_2 + 1)) : Int).toNat).size ≤ 9223372036854775807 then ((some (([(rdOf ByteArray.empty x10_2 x11_1) ++ ((⟨#[110, 101, 115, 119]⟩ : ByteArray).extract (x32_2 : Int).toNat ((wrap64 (x32_2 + 1)) : Int).toNat)] : List ByteArray) : List ByteArray)).bind fun y496 => (if x10_2.length + y496.length < 8796093022208 then (qR.l1 k2 (x9_2 ++ y489) (x10_2 ++ y496) x11_1 t472 (wrap64 (x32_2 + 1))) else (none))) else (none)) else (none)) else (none)) else (none)) else (none)) = some (r1, r2, r3) := by first | (rw [hy489]; with_reducible exact H) | (have H2_ := (Option.bind_some _ _).symm.trans H; rw [hy489]; with_reducible exact H2_) | (have H2_ := (Option.bind_some _ _).symm.trans H; with_reducible exact H2_) | with_reducible exact H | (rw [hy489]; exact H) | exact H
             have Ny489 := Aside0.mk hy489
             clear hy489
             by_cases c36 : x9_2.length + y489.length < 5864062014805
             ·rw [if_pos c36] at H
              have LMc36 := Aside0.mk c36
              clear c36
              obtain ⟨y492, hy492⟩ : ∃ y_ : List (S27), y_ = (x9_2 ++ y489) := ⟨_, rfl⟩
              replace H : (if x11_1 < (x10_2.length : Int) then (if x32_2 ≤ (wrap64 (x32_2 + 1)) then (if (wrap64 (x32_2 + 1)) ≤ 4 then (if (rdOf ByteArray.empty x10_2 x11_1).size + ((⟨#[110, 101, 115, 119]⟩ : ByteArray).extract (x32_2 : Int).toNat ((wrap64 (x32_2 + 1)) : Int).toNat).size ≤ 9223372036854775807 then ((some (([(rdOf ByteArray.empty x10_2 x11_1) ++ ((⟨#[110, 101, 115, 119]⟩ : ByteArray).extract (x32_2 : Int).toNat ((wrap64 (x32_2 + 1)) : Int).toNat)] : List ByteArray) : List ByteArray)).bind fun y496 => (if x10_2.length + y496.length < 8796093022208 then (qR.l1 k2 y492 (x10_2 ++ y496) x11_1 t472 (wrap64 (x32_2 + 1))) else (none))) else (none)) else (none)) else (none)) else (none)) = some (r1, r2, r3) := by first | (rw [hy492]; with_reducible exact H) | (have H2_ := (Option.bind_some _ _).symm.trans H; rw [hy492]; with_reducible exact H2_) | (have H2_ := (Option.bind_some _ _).symm.trans H; with_reducible exact H2_) | with_reducible exact H | (rw [hy492]; exact H) | exact H
              have Ny492 := Aside0.mk hy492
              clear hy492
              by_cases c37 : x11_1 < (x10_2.length : Int)
              ·rw [if_pos c37] at H
               have c37b0 : decide (x11_1 < (x10_2.length : Int)) = true := decide_eq_true c37
               clear c37
               have c38b0 := eq_true (of_decide_eq_true (by first | (with_reducible assumption) | assumption) : 0 ≤ x32_2)
               by_cases c39 : x32_2 ≤ (wrap64 (x32_2 + 1))
               ·rw [if_pos c39] at H
                have c39b0 := eq_true c39
                have c39b1 : decide (x32_2 ≤ (wrap64 (x32_2 + 1))) = true := decide_eq_true c39
                by_cases c40 : (wrap64 (x32_2 + 1)) ≤ 4
                ·rw [if_pos c40] at H
                 have c40b0 := eq_true c40
                 have c40b1 : decide ((wrap64 (x32_2 + 1)) ≤ 4) = true := decide_eq_true c40
                 by_cases c41 : (rdOf ByteArray.empty x10_2 x11_1).size + ((⟨#[110, 101, 115, 119]⟩ : ByteArray).extract (x32_2 : Int).toNat ((wrap64 (x32_2 + 1)) : Int).toNat).size ≤ 9223372036854775807
                 ·rw [if_pos c41] at H
                  have c41b0 := eq_true c41
                  have c41b1 : decide ((rdOf ByteArray.empty x10_2 x11_1).size + ((⟨#[110, 101, 115, 119]⟩ : ByteArray).extract (x32_2 : Int).toNat ((wrap64 (x32_2 + 1)) : Int).toNat).size ≤ 9223372036854775807) = true := decide_eq_true c41
                  try have c41b2 : (9223372036854775807 < (rdOf ByteArray.empty x10_2 x11_1).size + ((⟨#[110, 101, 115, 119]⟩ : ByteArray).extract (x32_2 : Int).toNat ((wrap64 (x32_2 + 1)) : Int).toNat).size) = False := eq_false (Nat.not_lt.2 c41)
                  obtain ⟨y496, hy496⟩ : ∃ y_ : List ByteArray, y_ = (([(rdOf ByteArray.empty x10_2 x11_1) ++ ((⟨#[110, 101, 115, 119]⟩ : ByteArray).extract (x32_2 : Int).toNat ((wrap64 (x32_2 + 1)) : Int).toNat)] : List ByteArray)) := ⟨_, rfl⟩
                  replace H : (if x10_2.length + y496.length < 8796093022208 then (qR.l1 k2 y492 (x10_2 ++ y496) x11_1 t472 (wrap64 (x32_2 + 1))) else (none)) = some (r1, r2, r3) := by first | (rw [hy496]; with_reducible exact H) | (have H2_ := (Option.bind_some _ _).symm.trans H; rw [hy496]; with_reducible exact H2_) | (have H2_ := (Option.bind_some _ _).symm.trans H; with_reducible exact H2_) | with_reducible exact H | (rw [hy496]; exact H) | exact H
                  have Ny496 := Aside0.mk hy496
                  clear hy496
                  by_cases c42 : x10_2.length + y496.length < 8796093022208
                  ·rw [if_pos c42] at H
                   have LMc42 := Aside0.mk c42
                   clear c42
                   obtain ⟨y499, hy499⟩ : ∃ y_ : List ByteArray, y_ = (x10_2 ++ y496) := ⟨_, rfl⟩
                   replace H : (qR.l1 k2 y492 y499 x11_1 t472 (wrap64 (x32_2 + 1))) = some (r1, r2, r3) := by first | (rw [hy499]; with_reducible exact H) | (have H2_ := (Option.bind_some _ _).symm.trans H; rw [hy499]; with_reducible exact H2_) | (have H2_ := (Option.bind_some _ _).symm.trans H; with_reducible exact H2_) | with_reducible exact H | (rw [hy499]; exact H) | exact H
                   have Ny499 := Aside0.mk hy499
                   clear hy499
                   have H' := Aside0.mk H
                   clear H
                   obtain ⟨Ao43, co43, eo43⟩ := Kd.qt HO_19.out
                   subst eo43
                   try go_wp2
                   have n0_ := Aside0.mk (Kd.qI HO_9.out)
                   have n1_ := Aside0.mk (Kd.qI HO_10.out)
                   have n2_ := Aside0.mk (Kd.qI HO_19.out)
                   have n3_ := Aside0.mk (qC BK471.out)
                   have n4_ := Aside0.mk (qn HB.out)
                   clear HO_9
                   clear HO_10
                   clear HO_19
                   clear BK471
                   clear HB
                   have HO_9 := n0_
                   have HO_10 := n1_
                   have HO_19 := n2_
                   have BK471 := n3_
                   have HB := n4_
                   clear n0_ n1_ n2_ n3_ n4_
                   obtain ⟨Ao45, co45, eo45⟩ := Kd.qt HO_9.out
                   (first | subst eo45 | (injection eo45 with f1_ f2_ f3_; have f4_ := f1_.symm; have f5_ := f3_.symm; clear f1_ f2_ f3_; subst f4_; subst f5_))
                   have p482 : 0 ≤ (x11_1 : Int) := of_decide_eq_true (by first | (with_reducible assumption) | assumption)
                   have q482 : x11_1 < (x9_2.length : Int) := of_decide_eq_true (by first | (with_reducible assumption) | assumption)
                   obtain ⟨ad482, e482, hx482_0, hx482_1, hx482_2⟩ := qFB (Kd.qf HO_9.out).2.2 x11_1 p482 q482
                   cases e482
                   replace p482 := eq_true p482
                   replace q482 := eq_true q482
                   have p19 : 0 ≤ (x32_2 : Int) := of_decide_eq_true (by first | (with_reducible assumption) | assumption)
                   have q19 : x32_2 < (4 : Int) := of_decide_eq_true (by first | (with_reducible assumption) | assumption)
                   have hx19 := bt_at (⟨#[110, 101, 115, 119]⟩ : ByteArray) x32_2
                   replace p19 := eq_true p19
                   replace q19 := eq_true q19
                   refine qxA (n := 14) (S := fun w' => w'.cell? (ad482.add ((x11_1).toNat * 3)) = some (.int .i64 ((qJ x9_2 x11_1).f0)) ∧ w'.cell? ⟨(ad482.add ((x11_1).toNat * 3)).block, (ad482.add ((x11_1).toNat * 3)).off + 1, none⟩ = some (.int .i64 ((qJ x9_2 x11_1).f1)) ∧ w'.cell? ⟨(ad482.add ((x11_1).toNat * 3)).block, (ad482.add ((x11_1).toNat * 3)).off + 2, none⟩ = some (.int .i64 ((qJ x9_2 x11_1).f2))) (ds := []) #[false, false, false, false, false, false, false, false, false, false, false, false, false, false] (by kernel_rfl) rfl rfl ⟨hx482_0, hx482_1, hx482_2⟩ (fun hHeld => ?_); refine qTA qR.tab11 qR.bits11 (fun HT_ HW_ => ?_)
                   generalize wr.drew = w44 at HO_9 HO_10 HO_19 BK471 HB hx482_0 hx482_1 hx482_2 hHeld ⊢
                   refine pS (i := 0) (N := some 36) #[true, false, false, false, false, false, false, false, false, false, false, false, false, false] HT_ ?_
                   refine pS (i := 1) (N := some 37) #[true, true, false, false, false, false, false, false, false, false, false, false, false, false] HT_ ?_
                   refine pS (i := 2) (N := some 38) #[true, true, true, false, false, false, false, false, false, false, false, false, false, false] HT_ ?_
                   refine pS (i := 3) (N := some 39) #[true, true, true, true, false, false, false, false, false, false, false, false, false, false] HT_ ?_
                   refine pS (i := 5) (N := some 41) #[true, true, true, true, false, true, false, false, false, false, false, false, false, false] HT_ ?_
                   refine tS (i := 4) (N := some 40) #[true, true, true, true, true, true, false, false, false, false, false, false, false, false] HT_ HW_ hHeld ?_
                   refine tS (i := 6) (N := some 42) #[true, true, true, true, true, true, true, false, false, false, false, false, false, false] HT_ HW_ hHeld ?_
                   refine join_ (σ := Nat) 2 #[true, true, true, true, true, true, true, true, true, true, true, true, false, false] (fun s_ => [(43, .tuple #[.agg #[.int .i64 t483, .int .i64 t484, .int .i64 t485], .bool true]), (13, .pointer (some ⟨s_, 0, none⟩)), (35, .tuple #[.agg #[.int .i64 t483, .int .i64 t484, .int .i64 t485], .bool true]), (44, .agg #[.int .i64 t483, .int .i64 t484, .int .i64 t485]), (45, .bool true)]) (fun s_ w' => (w'.cell? (ad482.add ((x11_1).toNat * 3)) = some (.int .i64 ((qJ x9_2 x11_1).f0)) ∧ w'.cell? ⟨(ad482.add ((x11_1).toNat * 3)).block, (ad482.add ((x11_1).toNat * 3)).off + 1, none⟩ = some (.int .i64 ((qJ x9_2 x11_1).f1)) ∧ w'.cell? ⟨(ad482.add ((x11_1).toNat * 3)).block, (ad482.add ((x11_1).toNat * 3)).off + 2, none⟩ = some (.int .i64 ((qJ x9_2 x11_1).f2))) ∧ (Kd.R Kd.string 9 w' w.heap.size (fun k_ => some k_ ≠ (.slice Ao43 t472.length co43 : Value).ownBlock) u10 x10_2) ∧ (Kd.R Kd.string 9 w' w.heap.size (fun k_ => some k_ ≠ (u10 : Value).ownBlock) (.slice Ao43 t472.length co43) t472) ∧ (Kd.R k27 27 w' w.heap.size (fun k_ => k_ ≠ gb471 ∧ k_ ≠ s_) (.slice (some ad482) x9_2.length co45) x9_2) ∧ (w'.heap[gb471]? = some (.cells #[.int .i64 a1_0, .int .i64 a1_1, .int .i64 a1_2] 27 (0, 0))) ∧ (w'.heap[s_]? = some (.cells #[.int .i64 0, .int .i64 0, .int .i64 0] 27 (0, 0))) ∧ (w.heap.size ≤ s_) ∧ (w.heap.size ≤ s_) ∧ (gb471 ≠ s_) ∧ (s_ ≠ gb471) ∧ (Below w.heap.size w w')) ?_ ?_
                   rotate_left
                   ·intro hCont
                    refine two_ (i := 7) (j := 11) (Ni := some 43) (Nj := some 13) #[true, true, true, true, true, true, true, true, false, false, false, false, false, false] #[true, true, true, true, true, true, true, false, false, false, false, true, false, false] rfl rfl rfl rfl (qwB HT_.out (by kernel_rfl)) (by decide) (by decide) (fun K hK => ?_) (fun K hK => ?_)
                    ·skip
                     refine goes_ Tryd.func62 (by kernel_rfl) rfl #[.slice Ao43 t472.length co43, .agg #[.int .i64 ((qJ x9_2 x11_1).f0), .int .i64 ((qJ x9_2 x11_1).f1), .int .i64 ((qJ x9_2 x11_1).f2)], .int .u8 (bt (⟨#[110, 101, 115, 119]⟩ : ByteArray) x32_2)] (by rfl) rfl rfl (by (try simp only [List.map_toArray, List.map_cons, List.map_nil]); first | done | rfl | (simp only [List.length_drop, List.length_take]; rfl)) ?_
                     with_reducible refine (qLA.calls k2 _ _ t472 ((qJ x9_2 x11_1).f0) ((qJ x9_2 x11_1).f1) ((qJ x9_2 x11_1).f2) (bt (⟨#[110, 101, 115, 119]⟩ : ByteArray) x32_2) t483 t484 t485 true _ ?side1 ?side2 A20.out).mono ?_
                     (case side1 => repeat (first | exact (Kd.qf HO_19.out).2.2 | (with_reducible refine Kd.qHA ?_ _) | (with_reducible refine Kd.qGA ?_ _) | (with_reducible refine Kd.qNA ?_)))
                     (case side2 => exact (Kd.qf HO_19.out).2.1)
                     rintro e w46 ⟨rfl, hb⟩
                     have HS0_ := (hb.cell (World.block_lt_of_cell? _ _ (hHeld.1))).trans (hHeld.1)
                     have HS1_ := (hb.cell (World.block_lt_of_cell? _ _ (hHeld.2.1))).trans (hHeld.2.1)
                     have HS2_ := (hb.cell (World.block_lt_of_cell? _ _ (hHeld.2.2))).trans (hHeld.2.2)
                     refine ⟨_, rfl, ?_⟩
                     have n0_ := Aside0.mk (Kd.qY (by (with_reducible repeat (first | apply Kd.qF | apply Kd.qE | apply Kd.qI)); exact HO_9.out) hb)
                     have n1_ := Aside0.mk (Kd.qY (by (with_reducible repeat (first | apply Kd.qF | apply Kd.qE | apply Kd.qI)); exact HO_10.out) hb)
                     have n2_ := Aside0.mk (Kd.qY (by (with_reducible repeat (first | apply Kd.qF | apply Kd.qE | apply Kd.qI)); exact HO_19.out) hb)
                     have n3_ := Aside0.mk (bb BK471 hb)
                     have n4_ := Aside0.mk (qG bl hb)
                     clear HO_9
                     clear HO_10
                     clear HO_19
                     clear BK471
                     clear HB
                     have HO_9 := n0_
                     have HO_10 := n1_
                     have HO_19 := n2_
                     have BK471 := n3_
                     have HB := n4_
                     clear n0_ n1_ n2_ n3_ n4_
                     (try clear hb)
                     (try clear hb2)
                     (try clear hk)
                     (try clear hi)
                     refine hK.out _ _ ⟨HS0_, HS1_, HS2_⟩ (fun hHeld => ?_)
                     clear hK K
                     refine norm_ (a' := ?_) ?_ ?_
                     rotate_left
                     ·show Act.put _ (some 43) _ = _
                      simp only [Act.put, List.setIfInBounds_toArray, List.set_cons_zero, List.set_cons_succ, i64_w, i32_w]
                      rfl
                     refine pS (i := 8) (N := some 35) #[true, true, true, true, true, true, true, true, true, false, false, false, false, false] HT_ ?_
                     refine pS (i := 9) (N := some 44) #[true, true, true, true, true, true, true, true, true, true, false, false, false, false] HT_ ?_
                     refine pS (i := 10) (N := some 45) #[true, true, true, true, true, true, true, true, true, true, true, false, false, false] HT_ ?_
                     refine one_ (i := 11) (N := some 13) #[true, true, true, true, true, true, true, true, true, true, true, true, false, false] rfl rfl (qPA HT_.out (by kernel_rfl)) (by decide) (fun K hK => ?_)
                     refine qAB ?hg (N := 13) ?hd (cs := #[.int .i64 0, .int .i64 0, .int .i64 0]) (t := 27) ?hr ?_; (case hd => rfl); (case hg => rfl); (case hr => first | (go_simp; done) | (go_simp; rfl))
                     intro gb487 hg w47 hbox hb
                     have HS0_ := (hb.cell (World.block_lt_of_cell? _ _ (hHeld.1))).trans (hHeld.1)
                     have HS1_ := (hb.cell (World.block_lt_of_cell? _ _ (hHeld.2.1))).trans (hHeld.2.1)
                     have HS2_ := (hb.cell (World.block_lt_of_cell? _ _ (hHeld.2.2))).trans (hHeld.2.2)
                     have n0_ := Aside0.mk (Kd.qY (Kd.qYA (by (with_reducible repeat (first | apply Kd.qF | apply Kd.qE | apply Kd.qI)); exact HO_9.out) gb487 (Nat.le_of_eq hg.symm)) hb)
                     have n1_ := Aside0.mk (Kd.qY (by (with_reducible repeat (first | apply Kd.qF | apply Kd.qE | apply Kd.qI)); exact HO_10.out) hb)
                     have n2_ := Aside0.mk (Kd.qY (by (with_reducible repeat (first | apply Kd.qF | apply Kd.qE | apply Kd.qI)); exact HO_19.out) hb)
                     have n3_ := Aside0.mk (bb BK471 hb)
                     have n4_ := Aside0.mk (qG bl hb)
                     have n5_ := Aside0.mk (hbox)
                     have n6_ := Aside0.mk ((gg hg))
                     have n7_ := Aside0.mk ((gg hg))
                     have n8_ := Aside0.mk ((nl BK471 hg))
                     have n9_ := Aside0.mk ((nr BK471 hg))
                     clear HO_9
                     clear HO_10
                     clear HO_19
                     clear BK471
                     clear HB
                     have HO_9 := n0_
                     have HO_10 := n1_
                     have HO_19 := n2_
                     have BK471 := n3_
                     have HB := n4_
                     have BK487 := n5_
                     have GW487 := n6_
                     have GE487 := n7_
                     have NB471_487 := n8_
                     have NB487_471 := n9_
                     clear n0_ n1_ n2_ n3_ n4_ n5_ n6_ n7_ n8_ n9_
                     clear hb hbox hg
                     refine hK.out _ _ ⟨HS0_, HS1_, HS2_⟩ (fun hHeld => ?_)
                     clear hK K
                     refine norm_ (a' := ?_) ?_ ?_
                     rotate_left
                     ·show Act.put _ (some 13) _ = _
                      simp only [Act.put, List.setIfInBounds_toArray, List.set_cons_zero, List.set_cons_succ, i64_w, i32_w]
                      rfl
                     exact norm_ (by simp only [putAll, Act.put, List.setIfInBounds_toArray, List.set_cons_zero, List.set_cons_succ]) (hCont (gb487) _ ⟨hHeld, (by (with_reducible repeat (first | apply Kd.qF | apply Kd.qE | apply Kd.qI)); exact HO_10.out), (by (with_reducible repeat (first | apply Kd.qF | apply Kd.qE | apply Kd.qI)); exact HO_19.out), (by (with_reducible repeat (first | apply Kd.qF | apply Kd.qE | apply Kd.qI)); exact HO_9.out), (by (with_reducible repeat (first | refine qB ?_ _ | refine qC ?_ | refine qA ?_ _)); exact BK471.out), (by (with_reducible repeat (first | refine qB ?_ _ | refine qC ?_ | refine qA ?_ _)); exact BK487.out), GW487.out, GE487.out, NB471_487.out, NB487_471.out, bl⟩)
                    ·skip
                     refine qAB ?hg (N := 13) ?hd (cs := #[.int .i64 0, .int .i64 0, .int .i64 0]) (t := 27) ?hr ?_; (case hd => rfl); (case hg => rfl); (case hr => first | (go_simp; done) | (go_simp; rfl))
                     intro gb487 hg w46 hbox hb
                     have HS0_ := (hb.cell (World.block_lt_of_cell? _ _ (hHeld.1))).trans (hHeld.1)
                     have HS1_ := (hb.cell (World.block_lt_of_cell? _ _ (hHeld.2.1))).trans (hHeld.2.1)
                     have HS2_ := (hb.cell (World.block_lt_of_cell? _ _ (hHeld.2.2))).trans (hHeld.2.2)
                     have n0_ := Aside0.mk (Kd.qY (Kd.qYA (by (with_reducible repeat (first | apply Kd.qF | apply Kd.qE | apply Kd.qI)); exact HO_9.out) gb487 (Nat.le_of_eq hg.symm)) hb)
                     have n1_ := Aside0.mk (Kd.qY (by (with_reducible repeat (first | apply Kd.qF | apply Kd.qE | apply Kd.qI)); exact HO_10.out) hb)
                     have n2_ := Aside0.mk (Kd.qY (by (with_reducible repeat (first | apply Kd.qF | apply Kd.qE | apply Kd.qI)); exact HO_19.out) hb)
                     have n3_ := Aside0.mk (bb BK471 hb)
                     have n4_ := Aside0.mk (qG bl hb)
                     have n5_ := Aside0.mk (hbox)
                     have n6_ := Aside0.mk ((gg hg))
                     have n7_ := Aside0.mk ((gg hg))
                     have n8_ := Aside0.mk ((nl BK471 hg))
                     have n9_ := Aside0.mk ((nr BK471 hg))
                     clear HO_9
                     clear HO_10
                     clear HO_19
                     clear BK471
                     clear HB
                     have HO_9 := n0_
                     have HO_10 := n1_
                     have HO_19 := n2_
                     have BK471 := n3_
                     have HB := n4_
                     have BK487 := n5_
                     have GW487 := n6_
                     have GE487 := n7_
                     have NB471_487 := n8_
                     have NB487_471 := n9_
                     clear n0_ n1_ n2_ n3_ n4_ n5_ n6_ n7_ n8_ n9_
                     clear hb hbox hg
                     refine hK.out _ _ ⟨HS0_, HS1_, HS2_⟩ (fun hHeld => ?_)
                     clear hK K
                     refine norm_ (a' := ?_) ?_ ?_
                     rotate_left
                     ·show Act.put _ (some 13) _ = _
                      simp only [Act.put, List.setIfInBounds_toArray, List.set_cons_zero, List.set_cons_succ, i64_w, i32_w]
                      rfl
                     refine one_ (i := 7) (N := some 43) #[true, true, true, true, true, true, true, true, false, false, false, true, false, false] rfl rfl (qPA HT_.out (by kernel_rfl)) (by decide) (fun K hK => ?_)
                     refine goes_ Tryd.func62 (by kernel_rfl) rfl #[.slice Ao43 t472.length co43, .agg #[.int .i64 ((qJ x9_2 x11_1).f0), .int .i64 ((qJ x9_2 x11_1).f1), .int .i64 ((qJ x9_2 x11_1).f2)], .int .u8 (bt (⟨#[110, 101, 115, 119]⟩ : ByteArray) x32_2)] (by rfl) rfl rfl (by (try simp only [List.map_toArray, List.map_cons, List.map_nil]); first | done | rfl | (simp only [List.length_drop, List.length_take]; rfl)) ?_
                     with_reducible refine (qLA.calls k2 _ _ t472 ((qJ x9_2 x11_1).f0) ((qJ x9_2 x11_1).f1) ((qJ x9_2 x11_1).f2) (bt (⟨#[110, 101, 115, 119]⟩ : ByteArray) x32_2) t483 t484 t485 true _ ?side1 ?side2 A20.out).mono ?_
                     (case side1 => repeat (first | exact (Kd.qf HO_19.out).2.2 | (with_reducible refine Kd.qHA ?_ _) | (with_reducible refine Kd.qGA ?_ _) | (with_reducible refine Kd.qNA ?_)))
                     (case side2 => exact (Kd.qf HO_19.out).2.1)
                     rintro e w47 ⟨rfl, hb⟩
                     have HS0_ := (hb.cell (World.block_lt_of_cell? _ _ (hHeld.1))).trans (hHeld.1)
                     have HS1_ := (hb.cell (World.block_lt_of_cell? _ _ (hHeld.2.1))).trans (hHeld.2.1)
                     have HS2_ := (hb.cell (World.block_lt_of_cell? _ _ (hHeld.2.2))).trans (hHeld.2.2)
                     refine ⟨_, rfl, ?_⟩
                     have n0_ := Aside0.mk (Kd.qY (by (with_reducible repeat (first | apply Kd.qF | apply Kd.qE | apply Kd.qI)); exact HO_9.out) hb)
                     have n1_ := Aside0.mk (Kd.qY (by (with_reducible repeat (first | apply Kd.qF | apply Kd.qE | apply Kd.qI)); exact HO_10.out) hb)
                     have n2_ := Aside0.mk (Kd.qY (by (with_reducible repeat (first | apply Kd.qF | apply Kd.qE | apply Kd.qI)); exact HO_19.out) hb)
                     have n3_ := Aside0.mk (bb BK471 hb)
                     have n4_ := Aside0.mk (bb BK487 hb)
                     have n5_ := Aside0.mk (qG bl hb)
                     clear HO_9
                     clear HO_10
                     clear HO_19
                     clear BK471
                     clear BK487
                     clear HB
                     have HO_9 := n0_
                     have HO_10 := n1_
                     have HO_19 := n2_
                     have BK471 := n3_
                     have BK487 := n4_
                     have HB := n5_
                     clear n0_ n1_ n2_ n3_ n4_ n5_
                     (try clear hb)
                     (try clear hb2)
                     (try clear hk)
                     (try clear hi)
                     refine hK.out _ _ ⟨HS0_, HS1_, HS2_⟩ (fun hHeld => ?_)
                     clear hK K
                     refine norm_ (a' := ?_) ?_ ?_
                     rotate_left
                     ·show Act.put _ (some 43) _ = _
                      simp only [Act.put, List.setIfInBounds_toArray, List.set_cons_zero, List.set_cons_succ, i64_w, i32_w]
                      rfl
                     refine pS (i := 8) (N := some 35) #[true, true, true, true, true, true, true, true, true, false, false, true, false, false] HT_ ?_
                     refine pS (i := 9) (N := some 44) #[true, true, true, true, true, true, true, true, true, true, false, true, false, false] HT_ ?_
                     refine pS (i := 10) (N := some 45) #[true, true, true, true, true, true, true, true, true, true, true, true, false, false] HT_ ?_
                     exact norm_ (by simp only [putAll, Act.put, List.setIfInBounds_toArray, List.set_cons_zero, List.set_cons_succ]) (hCont (gb487) _ ⟨hHeld, (by (with_reducible repeat (first | apply Kd.qF | apply Kd.qE | apply Kd.qI)); exact HO_10.out), (by (with_reducible repeat (first | apply Kd.qF | apply Kd.qE | apply Kd.qI)); exact HO_19.out), (by (with_reducible repeat (first | apply Kd.qF | apply Kd.qE | apply Kd.qI)); exact HO_9.out), (by (with_reducible repeat (first | refine qB ?_ _ | refine qC ?_ | refine qA ?_ _)); exact BK471.out), (by (with_reducible repeat (first | refine qB ?_ _ | refine qC ?_ | refine qA ?_ _)); exact BK487.out), GW487.out, GE487.out, NB471_487.out, NB487_471.out, bl⟩)
                   rintro gb487 w48 ⟨hS_, h0_, h1_, h2_, h3_, h4_, h5_, h6_, h7_, h8_, h9_⟩
                   have n0_ : Aside0 (Kd.R Kd.string 9 w48 w.heap.size (fun k_ => some k_ ≠ (.slice Ao43 t472.length co43 : Value).ownBlock) u10 x10_2) := ⟨h0_⟩
                   have n1_ : Aside0 (Kd.R Kd.string 9 w48 w.heap.size (fun k_ => some k_ ≠ (u10 : Value).ownBlock) (.slice Ao43 t472.length co43) t472) := ⟨h1_⟩
                   have n2_ : Aside0 (Kd.R k27 27 w48 w.heap.size (fun k_ => k_ ≠ gb471 ∧ k_ ≠ gb487) (.slice (some ad482) x9_2.length co45) x9_2) := ⟨h2_⟩
                   have n3_ : Aside0 (w48.heap[gb471]? = some (.cells #[.int .i64 a1_0, .int .i64 a1_1, .int .i64 a1_2] 27 (0, 0))) := ⟨h3_⟩
                   have n4_ : Aside0 (w48.heap[gb487]? = some (.cells #[.int .i64 0, .int .i64 0, .int .i64 0] 27 (0, 0))) := ⟨h4_⟩
                   have n5_ : Aside0 (w.heap.size ≤ gb487) := ⟨h5_⟩
                   have n6_ : Aside0 (w.heap.size ≤ gb487) := ⟨h6_⟩
                   have n7_ : Aside0 (gb471 ≠ gb487) := ⟨h7_⟩
                   have n8_ : Aside0 (gb487 ≠ gb471) := ⟨h8_⟩
                   have n9_ : Aside0 (Below w.heap.size w w48) := ⟨h9_⟩
                   clear HO_9
                   clear HO_10
                   clear HO_19
                   clear BK471
                   clear HB
                   clear h0_ h1_ h2_ h3_ h4_ h5_ h6_ h7_ h8_ h9_
                   have HO_10 := n0_
                   have HO_19 := n1_
                   have HO_9 := n2_
                   have BK471 := n3_
                   have BK487 := n4_
                   have GW487 := n5_
                   have GE487 := n6_
                   have NB471_487 := n7_
                   have NB487_471 := n8_
                   have HB := n9_
                   clear n0_ n1_ n2_ n3_ n4_ n5_ n6_ n7_ n8_ n9_
                   have hHeld : w48.cell? (ad482.add ((x11_1).toNat * 3)) = some (.int .i64 ((qJ x9_2 x11_1).f0)) ∧ w48.cell? ⟨(ad482.add ((x11_1).toNat * 3)).block, (ad482.add ((x11_1).toNat * 3)).off + 1, none⟩ = some (.int .i64 ((qJ x9_2 x11_1).f1)) ∧ w48.cell? ⟨(ad482.add ((x11_1).toNat * 3)).block, (ad482.add ((x11_1).toNat * 3)).off + 2, none⟩ = some (.int .i64 ((qJ x9_2 x11_1).f2)) := hS_
                   refine norm_ (a' := ?_) ?_ ?_
                   rotate_left
                   ·simp only [putAll, Act.put, List.setIfInBounds_toArray, List.set_cons_zero, List.set_cons_succ]
                    rfl
                   refine one_ (i := 12) (N := none) #[true, true, true, true, true, true, true, true, true, true, true, true, true, false] rfl rfl (qPA HT_.out (by kernel_rfl)) (by decide) (fun K hK => ?_)
                   have hs49 : w48.cell? ⟨gb487, 0, none⟩ = some (.int .i64 0) := (qK BK487.out 0).trans rfl
                   have hfs49 := qD BK487.out 0
                   have hns49_0 := NB471_487.out
                   have hms49_0 := NB487_471.out
                   have hs50 : w48.cell? ⟨gb487, 1, none⟩ = some (.int .i64 0) := (qK BK487.out 1).trans rfl
                   have hfs50 := qD BK487.out 1
                   have hns50_0 := NB471_487.out
                   have hms50_0 := NB487_471.out
                   have hs51 : w48.cell? ⟨gb487, 2, none⟩ = some (.int .i64 0) := (qK BK487.out 2).trans rfl
                   have hfs51 := qD BK487.out 2
                   have hns51_0 := NB471_487.out
                   have hms51_0 := NB487_471.out
                   refine skip_ (w1 := ?_) (by rfl) rfl ?_ ?_
                   rotate_left
                   ·go_simp
                    rfl
                   refine hK.out _ _ ⟨((qQ (p := ⟨gb487, _, none⟩) (by first | exact Kd.qN (Kd.qT HO_9.out (fun _ hk => hk.2)) | (rw [qP]; exact Kd.qN (Kd.qT HO_9.out (fun _ hk => hk.2))) | (show (Addr.add _ _).block ≠ _; rw [qP]; exact Kd.qN (Kd.qT HO_9.out (fun _ hk => hk.2))) | (dsimp only; exact Kd.qN (Kd.qT HO_9.out (fun _ hk => hk.2)))) _).trans (((qQ (p := ⟨gb487, _, none⟩) (by first | exact Kd.qN (Kd.qT HO_9.out (fun _ hk => hk.2)) | (rw [qP]; exact Kd.qN (Kd.qT HO_9.out (fun _ hk => hk.2))) | (show (Addr.add _ _).block ≠ _; rw [qP]; exact Kd.qN (Kd.qT HO_9.out (fun _ hk => hk.2))) | (dsimp only; exact Kd.qN (Kd.qT HO_9.out (fun _ hk => hk.2)))) _).trans (((qQ (p := ⟨gb487, _, none⟩) (by first | exact Kd.qN (Kd.qT HO_9.out (fun _ hk => hk.2)) | (rw [qP]; exact Kd.qN (Kd.qT HO_9.out (fun _ hk => hk.2))) | (show (Addr.add _ _).block ≠ _; rw [qP]; exact Kd.qN (Kd.qT HO_9.out (fun _ hk => hk.2))) | (dsimp only; exact Kd.qN (Kd.qT HO_9.out (fun _ hk => hk.2)))) _).trans (hHeld.1)))))), ((qQ (p := ⟨gb487, _, none⟩) (by first | exact Kd.qN (Kd.qT HO_9.out (fun _ hk => hk.2)) | (rw [qP]; exact Kd.qN (Kd.qT HO_9.out (fun _ hk => hk.2))) | (show (Addr.add _ _).block ≠ _; rw [qP]; exact Kd.qN (Kd.qT HO_9.out (fun _ hk => hk.2))) | (dsimp only; exact Kd.qN (Kd.qT HO_9.out (fun _ hk => hk.2)))) _).trans (((qQ (p := ⟨gb487, _, none⟩) (by first | exact Kd.qN (Kd.qT HO_9.out (fun _ hk => hk.2)) | (rw [qP]; exact Kd.qN (Kd.qT HO_9.out (fun _ hk => hk.2))) | (show (Addr.add _ _).block ≠ _; rw [qP]; exact Kd.qN (Kd.qT HO_9.out (fun _ hk => hk.2))) | (dsimp only; exact Kd.qN (Kd.qT HO_9.out (fun _ hk => hk.2)))) _).trans (((qQ (p := ⟨gb487, _, none⟩) (by first | exact Kd.qN (Kd.qT HO_9.out (fun _ hk => hk.2)) | (rw [qP]; exact Kd.qN (Kd.qT HO_9.out (fun _ hk => hk.2))) | (show (Addr.add _ _).block ≠ _; rw [qP]; exact Kd.qN (Kd.qT HO_9.out (fun _ hk => hk.2))) | (dsimp only; exact Kd.qN (Kd.qT HO_9.out (fun _ hk => hk.2)))) _).trans (hHeld.2.1)))))), ((qQ (p := ⟨gb487, _, none⟩) (by first | exact Kd.qN (Kd.qT HO_9.out (fun _ hk => hk.2)) | (rw [qP]; exact Kd.qN (Kd.qT HO_9.out (fun _ hk => hk.2))) | (show (Addr.add _ _).block ≠ _; rw [qP]; exact Kd.qN (Kd.qT HO_9.out (fun _ hk => hk.2))) | (dsimp only; exact Kd.qN (Kd.qT HO_9.out (fun _ hk => hk.2)))) _).trans (((qQ (p := ⟨gb487, _, none⟩) (by first | exact Kd.qN (Kd.qT HO_9.out (fun _ hk => hk.2)) | (rw [qP]; exact Kd.qN (Kd.qT HO_9.out (fun _ hk => hk.2))) | (show (Addr.add _ _).block ≠ _; rw [qP]; exact Kd.qN (Kd.qT HO_9.out (fun _ hk => hk.2))) | (dsimp only; exact Kd.qN (Kd.qT HO_9.out (fun _ hk => hk.2)))) _).trans (((qQ (p := ⟨gb487, _, none⟩) (by first | exact Kd.qN (Kd.qT HO_9.out (fun _ hk => hk.2)) | (rw [qP]; exact Kd.qN (Kd.qT HO_9.out (fun _ hk => hk.2))) | (show (Addr.add _ _).block ≠ _; rw [qP]; exact Kd.qN (Kd.qT HO_9.out (fun _ hk => hk.2))) | (dsimp only; exact Kd.qN (Kd.qT HO_9.out (fun _ hk => hk.2)))) _).trans (hHeld.2.2))))))⟩ (fun hHeld => ?_)
                   clear hK K
                   refine pS (i := 13) (N := some 14) #[true, true, true, true, true, true, true, true, true, true, true, true, true, true] HT_ ?_
                   refine done_ (qpA HT_.out (by kernel_rfl)) ?_
                   have hnb52 := NB487_471.out
                   have hnc52 := NB471_487.out
                   have hcz53_0 := bc BK487 0
                   have hcz53_1 := bc BK487 1
                   have hcz53_2 := bc BK487 2
                   have hfz53_0 := qD BK487.out 0
                   have hfz53_1 := qD BK487.out 1
                   have hfz53_2 := qD BK487.out 2
                   try go_wp2_with (first | (go_at_call 91; (with_reducible refine (qm.calls k2 _ _ x9_2 t483 t484 t485 false _ ?side1 ?side2 A22.out).mono ?_); (case side1 => refine (Kd.qf (e := 27) (base := w.heap.size) (ok := fun k_ => (k_ ≠ gb471 ∧ k_ ≠ gb487)) (n := x9_2.length) (c := co45) ?_).2.2; exact (by (with_reducible repeat (first | apply Kd.qF | apply Kd.qE | apply Kd.qI)); exact (Kd.qh (Kd.R_far (p := ⟨gb487, 2, none⟩) (Kd.R_far (p := ⟨gb487, 1, none⟩) (Kd.R_far (p := ⟨gb487, 0, none⟩) (Kd.qh HO_9.out (fun k_ hk => (⟨hk, hk.2⟩ : _ ∧ k_ ≠ gb487))) (fun _ hk => hk.2) (.int .i64 t483)) (fun _ hk => hk.2) (.int .i64 t484)) (fun _ hk => hk.2) (.int .i64 t485)) (fun _ h_ => h_.1)))); (case side2 => exact (Kd.qf HO_9.out).2.1); rintro e w54 ⟨rfl, hb⟩; have n0_ := Aside0.mk (Kd.qY (by (with_reducible repeat (first | apply Kd.qF | apply Kd.qE | apply Kd.qI)); exact (Kd.qh (Kd.R_far (p := ⟨gb487, 2, none⟩) (Kd.R_far (p := ⟨gb487, 1, none⟩) (Kd.R_far (p := ⟨gb487, 0, none⟩) (Kd.qh HO_9.out (fun k_ hk => (⟨hk, hk.2⟩ : _ ∧ k_ ≠ gb487))) (fun _ hk => hk.2) (.int .i64 t483)) (fun _ hk => hk.2) (.int .i64 t484)) (fun _ hk => hk.2) (.int .i64 t485)) (fun _ h_ => h_.1))) hb); have n1_ := Aside0.mk (Kd.qY (by (with_reducible repeat (first | apply Kd.qF | apply Kd.qE | apply Kd.qI)); exact (Kd.qh (Kd.R_far (p := ⟨gb487, 2, none⟩) (Kd.R_far (p := ⟨gb487, 1, none⟩) (Kd.R_far (p := ⟨gb487, 0, none⟩) (Kd.qr HO_10.out BK487.out (by decide)) (fun _ hk => hk.2) (.int .i64 t483)) (fun _ hk => hk.2) (.int .i64 t484)) (fun _ hk => hk.2) (.int .i64 t485)) (fun _ h_ => h_.1))) hb); have n2_ := Aside0.mk (Kd.qY (by (with_reducible repeat (first | apply Kd.qF | apply Kd.qE | apply Kd.qI)); exact (Kd.qh (Kd.R_far (p := ⟨gb487, 2, none⟩) (Kd.R_far (p := ⟨gb487, 1, none⟩) (Kd.R_far (p := ⟨gb487, 0, none⟩) (Kd.qr HO_19.out BK487.out (by decide)) (fun _ hk => hk.2) (.int .i64 t483)) (fun _ hk => hk.2) (.int .i64 t484)) (fun _ hk => hk.2) (.int .i64 t485)) (fun _ h_ => h_.1))) hb); have n3_ := Aside0.mk (ql (g := gb471) (o := .cells #[.int .i64 a1_0, .int .i64 a1_1, .int .i64 a1_2] 27 (0, 0)) (by (with_reducible repeat (first | refine qB ?_ _ | refine qC ?_ | refine qA ?_ _)); refine qH ?_ NB471_487.out _; (with_reducible repeat (first | refine qB ?_ _ | refine qC ?_ | refine qA ?_ _)); refine qH ?_ NB471_487.out _; (with_reducible repeat (first | refine qB ?_ _ | refine qC ?_ | refine qA ?_ _)); refine qH ?_ NB471_487.out _; (with_reducible repeat (first | refine qB ?_ _ | refine qC ?_ | refine qA ?_ _)); exact BK471.out) hb); have n4_ := Aside0.mk (ql (g := gb487) (o := .cells #[.int .i64 t483, .int .i64 t484, .int .i64 t485] 27 (0, 0)) (by (with_reducible repeat (first | refine qB ?_ _ | refine qC ?_ | refine qA ?_ _)); refine qO (cs := #[.int .i64 t483, .int .i64 t484, .int .i64 0]) ?_ 2 _ rfl; (with_reducible repeat (first | refine qB ?_ _ | refine qC ?_ | refine qA ?_ _)); refine qO (cs := #[.int .i64 t483, .int .i64 0, .int .i64 0]) ?_ 1 _ rfl; (with_reducible repeat (first | refine qB ?_ _ | refine qC ?_ | refine qA ?_ _)); refine qO (cs := #[.int .i64 0, .int .i64 0, .int .i64 0]) ?_ 0 _ rfl; (with_reducible repeat (first | refine qB ?_ _ | refine qC ?_ | refine qA ?_ _)); exact BK487.out) hb); have n5_ := Aside0.mk (qG bl hb); clear HO_9; clear HO_10; clear HO_19; clear BK471; clear BK487; clear HB; have HO_9 := n0_; have HO_10 := n1_; have HO_19 := n2_; have BK471 := n3_; have BK487 := n4_; have HB := n5_; clear n0_ n1_ n2_ n3_ n4_ n5_; (try clear hb); (try clear hb2); (try clear hk); (try clear hi); obtain ⟨Ao55, co55, eo55⟩ := Kd.qt HO_10.out; subst eo55))
                   have n0_ := Aside0.mk (Kd.qI HO_9.out)
                   have n1_ := Aside0.mk (Kd.qI HO_10.out)
                   have n2_ := Aside0.mk (Kd.qI HO_19.out)
                   have n3_ := Aside0.mk (qC BK471.out)
                   have n4_ := Aside0.mk (qC BK487.out)
                   have n5_ := Aside0.mk (qn HB.out)
                   clear HO_9
                   clear HO_10
                   clear HO_19
                   clear BK471
                   clear BK487
                   clear HB
                   have HO_9 := n0_
                   have HO_10 := n1_
                   have HO_19 := n2_
                   have BK471 := n3_
                   have BK487 := n4_
                   have HB := n5_
                   clear n0_ n1_ n2_ n3_ n4_ n5_
                   have p495 : 0 ≤ (x11_1 : Int) := of_decide_eq_true (by first | (with_reducible assumption) | assumption)
                   have q495 : x11_1 < (x10_2.length : Int) := of_decide_eq_true (by first | (with_reducible assumption) | assumption)
                   obtain ⟨ad495, e495, hx495_0⟩ := Kd.qdA (Kd.qf HO_10.out).2.2 x11_1 p495 q495
                   cases e495
                   replace p495 := eq_true p495
                   replace q495 := eq_true q495
                   have hof495 := Aside0.mk (R_off1 _ HO_10.out (by rfl) x11_1 (of_eq_true p495) (of_eq_true q495))
                   have hnr495_HO_9 := Aside0.mk (R_apart1 _ _ HO_10.out HO_9.out (by decide) (x11_1).toNat)
                   refine qxA (n := 18) (S := fun w' => w'.cell? ⟨gb487, 0, none⟩ = some (.int .i64 t483) ∧ w'.cell? ⟨gb487, 1, none⟩ = some (.int .i64 t484) ∧ w'.cell? ⟨gb487, 2, none⟩ = some (.int .i64 t485) ∧ w'.cell? (ad495.add (x11_1).toNat) = some (.string (rdOf ByteArray.empty x10_2 x11_1))) (ds := []) #[false, false, false, false, false, false, false, false, false, false, false, false, false, false, false, false, false, false] (by kernel_rfl) rfl rfl ⟨(qK BK487.out 0).trans rfl, (qK BK487.out 1).trans rfl, (qK BK487.out 2).trans rfl, hx495_0⟩ (fun hHeld => ?_); refine qTA qR.tab13 qR.bits13 (fun HT_ HW_ => ?_)
                   generalize w54.drew = w56 at HO_9 HO_10 HO_19 BK471 BK487 HB hx495_0 hHeld ⊢
                   refine pS (i := 0) (N := some 53) #[true, false, false, false, false, false, false, false, false, false, false, false, false, false, false, false, false, false] HT_ ?_
                   refine pS (i := 4) (N := some 57) #[true, false, false, false, true, false, false, false, false, false, false, false, false, false, false, false, false, false] HT_ ?_
                   refine pS (i := 5) (N := some 58) #[true, false, false, false, true, true, false, false, false, false, false, false, false, false, false, false, false, false] HT_ ?_
                   refine pS (i := 6) (N := some 59) #[true, false, false, false, true, true, true, false, false, false, false, false, false, false, false, false, false, false] HT_ ?_
                   refine pS (i := 7) (N := some 60) #[true, false, false, false, true, true, true, true, false, false, false, false, false, false, false, false, false, false] HT_ ?_
                   refine pS (i := 9) (N := some 62) #[true, false, false, false, true, true, true, true, false, true, false, false, false, false, false, false, false, false] HT_ ?_
                   refine pS (i := 10) (N := some 63) #[true, false, false, false, true, true, true, true, false, true, true, false, false, false, false, false, false, false] HT_ ?_
                   refine pS (i := 11) (N := some 64) #[true, false, false, false, true, true, true, true, false, true, true, true, false, false, false, false, false, false] HT_ ?_
                   refine pS (i := 12) (N := some 65) #[true, false, false, false, true, true, true, true, false, true, true, true, true, false, false, false, false, false] HT_ ?_
                   refine tS (i := 1) (N := some 54) #[true, true, false, false, true, true, true, true, false, true, true, true, true, false, false, false, false, false] HT_ HW_ hHeld ?_
                   refine tS (i := 8) (N := some 61) #[true, true, false, false, true, true, true, true, true, true, true, true, true, false, false, false, false, false] HT_ HW_ hHeld ?_
                   refine pS (i := 13) (N := some 66) #[true, true, false, false, true, true, true, true, true, true, true, true, true, true, false, false, false, false] HT_ ?_
                   refine join_ (σ := Value × Value × Value) 3 #[true, true, true, true, true, true, true, true, true, true, true, true, true, true, true, false, false, false] (fun s_ => [(55, s_.1), (56, s_.2.1), (67, s_.2.2)]) (fun s_ w' => (w'.cell? ⟨gb487, 0, none⟩ = some (.int .i64 t483) ∧ w'.cell? ⟨gb487, 1, none⟩ = some (.int .i64 t484) ∧ w'.cell? ⟨gb487, 2, none⟩ = some (.int .i64 t485) ∧ w'.cell? (ad495.add (x11_1).toNat) = some (.string (rdOf ByteArray.empty x10_2 x11_1))) ∧ (Kd.R k27 27 w' w.heap.size (fun k_ => some k_ ≠ (s_.2.1 : Value).ownBlock ∧ k_ ≠ gb471 ∧ k_ ≠ gb487) s_.1 y489) ∧ (Kd.R k27 27 w' w.heap.size (fun k_ => some k_ ≠ (s_.1 : Value).ownBlock ∧ k_ ≠ gb471 ∧ k_ ≠ gb487) s_.2.1 y492) ∧ (Kd.R Kd.string 9 w' w.heap.size (fun k_ => some k_ ≠ (.slice (some ad495) x10_2.length co55 : Value).ownBlock ∧ some k_ ≠ (.slice Ao43 t472.length co43 : Value).ownBlock) s_.2.2 y496) ∧ (Kd.R Kd.string 9 w' w.heap.size (fun k_ => some k_ ≠ (s_.2.2 : Value).ownBlock ∧ some k_ ≠ (.slice Ao43 t472.length co43 : Value).ownBlock) (.slice (some ad495) x10_2.length co55) x10_2) ∧ (Kd.R Kd.string 9 w' w.heap.size (fun k_ => some k_ ≠ (s_.2.2 : Value).ownBlock ∧ some k_ ≠ (.slice (some ad495) x10_2.length co55 : Value).ownBlock) (.slice Ao43 t472.length co43) t472) ∧ (w'.heap[gb471]? = some (.cells #[.int .i64 a1_0, .int .i64 a1_1, .int .i64 a1_2] 27 (0, 0))) ∧ (w'.heap[gb487]? = some (.cells #[.int .i64 t483, .int .i64 t484, .int .i64 t485] 27 (0, 0))) ∧ (Below w.heap.size w w')) ?_ ?_
                   rotate_left
                   ·intro hCont
                    refine two_ (i := 2) (j := 14) (Ni := some 55) (Nj := some 67) #[true, true, true, false, true, true, true, true, true, true, true, true, true, true, false, false, false, false] #[true, true, false, false, true, true, true, true, true, true, true, true, true, true, true, false, false, false] rfl rfl rfl rfl (qwB HT_.out (by kernel_rfl)) (by decide) (by decide) (fun K hK => ?_) (fun K hK => ?_)
                    ·skip
                     refine Kd.qRB k27 _ 27 ?hg (N := 55) ?hd (xs := ([(⟨t483, t484, t485⟩ : S27)] : List (S27))) (inner := [.int .i64 t483, .int .i64 t484, .int .i64 t485]) (ok := fun _ => True) (okp := fun _ => True) ?hr ?hp (fun _ hk => hk) trivial (Below.refl _ _) (Nat.le_refl _) (by simp) ?_; (case hd => rfl); (case hg => rfl); (case hr => first | (go_simp; done) | (go_simp; rfl)); (case hp => exact (Reps.c3 (show Kd.M k27 _ _ _ (⟨t483, t484, t485⟩ : S27) [.int .i64 t483, .int .i64 t484, .int .i64 t485] from (qAC _ _ _ (⟨t483, t484, t485⟩ : S27) )) (Reps.none _ _)))
                     intro v490 w57 ho58 hb hg_ hnew_
                     have HS3_ := (hb.cell (World.block_lt_of_cell? _ _ (hHeld.2.2.2))).trans (hHeld.2.2.2)
                     clear hg_ hnew_
                     (first | rw [← Ny489.out] at ho58 | (simp only [Int.reduceToNat] at ho58; rw [← Ny489.out] at ho58))
                     have n0_ := Aside0.mk (Kd.qqA (by (with_reducible repeat (first | apply Kd.qF | apply Kd.qE | apply Kd.qI)); exact HO_9.out) (Kd.qPB ho58) hb)
                     have n1_ := Aside0.mk (Kd.qY (by (with_reducible repeat (first | apply Kd.qF | apply Kd.qE | apply Kd.qI)); exact HO_10.out) hb)
                     have n2_ := Aside0.mk (Kd.qY (by (with_reducible repeat (first | apply Kd.qF | apply Kd.qE | apply Kd.qI)); exact HO_19.out) hb)
                     have n3_ := Aside0.mk (Kd.qBA (Kd.qMB (Kd.qMB (Kd.qOB ho58 (Kd.R_lt (by (with_reducible repeat (first | apply Kd.qF | apply Kd.qE | apply Kd.qI)); exact HO_9.out))) (g := gb471) (o := .cells #[.int .i64 a1_0, .int .i64 a1_1, .int .i64 a1_2] 27 (0, 0)) (by (with_reducible repeat (first | refine qB ?_ _ | refine qC ?_ | refine qA ?_ _)); exact BK471.out)) (g := gb487) (o := .cells #[.int .i64 t483, .int .i64 t484, .int .i64 t485] 27 (0, 0)) (by (with_reducible repeat (first | refine qB ?_ _ | refine qC ?_ | refine qA ?_ _)); exact BK487.out)) (qg bl))
                     have n4_ := Aside0.mk (bb BK471 hb)
                     have n5_ := Aside0.mk (bb BK487 hb)
                     have n6_ := Aside0.mk (qG bl hb)
                     clear HO_9
                     clear HO_10
                     clear HO_19
                     clear BK471
                     clear BK487
                     clear HB
                     have HO_9 := n0_
                     have HO_10 := n1_
                     have HO_19 := n2_
                     have HO491 := n3_
                     have BK471 := n4_
                     have BK487 := n5_
                     have HB := n6_
                     clear n0_ n1_ n2_ n3_ n4_ n5_ n6_
                     clear hb ho58
                     obtain ⟨Ao60, co60, eo60⟩ := Kd.qt HO491.out
                     (first | subst eo60 | (injection eo60 with f1_ f2_ f3_; have f4_ := f1_.symm; have f5_ := f3_.symm; clear f1_ f2_ f3_; subst f4_; subst f5_))
                     refine hK.out _ _ ⟨(qK BK487.out 0).trans rfl, (qK BK487.out 1).trans rfl, (qK BK487.out 2).trans rfl, HS3_⟩ (fun hHeld => ?_)
                     clear hK K
                     refine norm_ (a' := ?_) ?_ ?_
                     rotate_left
                     ·show Act.put _ (some 55) _ = _
                      simp only [Act.put, List.setIfInBounds_toArray, List.set_cons_zero, List.set_cons_succ, i64_w, i32_w]
                      rfl
                     refine two_ (i := 3) (j := 14) (Ni := some 56) (Nj := some 67) #[true, true, true, true, true, true, true, true, true, true, true, true, true, true, false, false, false, false] #[true, true, true, false, true, true, true, true, true, true, true, true, true, true, true, false, false, false] rfl rfl rfl rfl (qwB HT_.out (by kernel_rfl)) (by decide) (by decide) (fun K hK => ?_) (fun K hK => ?_)
                     ·skip
                      refine qrA k27 (w0 := w) w.heap.size (by rfl) (.tmp 53) (.tmp 55) 50 27 (.agg #[(.int .i64 0), (.int .i64 0), (.int .i64 0)]) 24 rfl Tryd.underlying50 info27 rfl (by decide) (by omega) (.slice (some ad482) x9_2.length co45) x9_2 y489 _ _ _ (fun k_ => some k_ ≠ (.slice Ao60 y489.length co60 : Value).ownBlock ∧ k_ ≠ gb471 ∧ k_ ≠ gb487) (fun _ => False) rfl rfl ?aO ?aR (fun _ _ h => h) (fun _ h => h.elim) ?aF ?aB ?aS ?aL ?_
                      (case aR => repeat (first | exact (Kd.qf HO491.out).2.2 | (with_reducible refine Kd.qHA ?_ _) | (with_reducible refine Kd.qGA ?_ _) | (with_reducible refine Kd.qNA ?_)))
                      (case aB => exact bl)
                      (case aF => exact (fun k_ hk => ⟨Kd.fresh' (Kd.R_lt (by (with_reducible repeat (first | apply Kd.qF | apply Kd.qE | apply Kd.qI)); exact HO491.out)) k_ hk, Kd.freshB (g := gb471) (o := .cells #[.int .i64 a1_0, .int .i64 a1_1, .int .i64 a1_2] 27 (0, 0)) (by (with_reducible repeat (first | refine qB ?_ _ | refine qC ?_ | refine qA ?_ _)); exact BK471.out) k_ hk, Kd.freshB (g := gb487) (o := .cells #[.int .i64 t483, .int .i64 t484, .int .i64 t485] 27 (0, 0)) (by (with_reducible repeat (first | refine qB ?_ _ | refine qC ?_ | refine qA ?_ _)); exact BK487.out) k_ hk⟩))
                      (case aO => exact (by (with_reducible repeat (first | apply Kd.qF | apply Kd.qE | apply Kd.qI)); exact Kd.qh HO_9.out (fun _ hk => ⟨hk.2, ⟨hk.1.1, hk.1.2⟩⟩)))
                      (case aS => exact (qg bl))
                      (case aL => have := LMc36.out; omega)
                      intro v493 w59 ho hb hg hat hkp_
                      have HS3_ := hkp_ _ _ (hHeld.2.2.2) (fun e_ => absurd e_ hnr495_HO_9.out)
                      clear hkp_
                      rw [← Ny492.out] at ho
                      have n0_ := Aside0.mk (Kd.qHB (by (with_reducible repeat (first | apply Kd.qF | apply Kd.qE | apply Kd.qI)); exact HO_10.out) (Kd.qGB (by (with_reducible repeat (first | apply Kd.qF | apply Kd.qE | apply Kd.qI)); exact HO_9.out)) (by decide) hg)
                      have n1_ := Aside0.mk (Kd.qHB (by (with_reducible repeat (first | apply Kd.qF | apply Kd.qE | apply Kd.qI)); exact HO_19.out) (Kd.qGB (by (with_reducible repeat (first | apply Kd.qF | apply Kd.qE | apply Kd.qI)); exact HO_9.out)) (by decide) hg)
                      have n2_ := Aside0.mk (qCA (g := gb471) (o := .cells #[.int .i64 a1_0, .int .i64 a1_1, .int .i64 a1_2] 27 (0, 0)) (by (with_reducible repeat (first | refine qB ?_ _ | refine qC ?_ | refine qA ?_ _)); exact BK471.out) hg (Kd.qT HO_9.out (fun _ hk => hk.1.1)))
                      have n3_ := Aside0.mk (qCA (g := gb487) (o := .cells #[.int .i64 t483, .int .i64 t484, .int .i64 t485] 27 (0, 0)) (by (with_reducible repeat (first | refine qB ?_ _ | refine qC ?_ | refine qA ?_ _)); exact BK487.out) hg (Kd.qT HO_9.out (fun _ hk => hk.1.2)))
                      have n4_ := Aside0.mk (Kd.qnA (ok := (fun k_ => k_ ≠ gb471 ∧ k_ ≠ gb487)) (by (with_reducible repeat (first | apply Kd.qF | apply Kd.qE | apply Kd.qI)); exact Kd.qh HO491.out (fun _ hk => ⟨⟨hk.1.2, hk.2⟩, hk.1.1.2⟩)) hg hat)
                      have n5_ := Aside0.mk (hb)
                      have n6_ := Aside0.mk (ho)
                      clear HO_10
                      clear HO_19
                      clear BK471
                      clear BK487
                      clear HO491
                      clear HB
                      clear HO_9
                      have HO_10 := n0_
                      have HO_19 := n1_
                      have BK471 := n2_
                      have BK487 := n3_
                      have HO491 := n4_
                      have HB := n5_
                      have HO494 := n6_
                      clear n0_ n1_ n2_ n3_ n4_ n5_ n6_
                      clear ho hb hg hat
                      refine hK.out _ _ ⟨(qK BK487.out 0).trans rfl, (qK BK487.out 1).trans rfl, (qK BK487.out 2).trans rfl, HS3_⟩ (fun hHeld => ?_)
                      clear hK K
                      refine norm_ (a' := ?_) ?_ ?_
                      rotate_left
                      ·show Act.put _ (some 56) _ = _
                       simp only [Act.put, List.setIfInBounds_toArray, List.set_cons_zero, List.set_cons_succ, i64_w, i32_w]
                       rfl
                      refine one_ (i := 14) (N := some 67) #[true, true, true, true, true, true, true, true, true, true, true, true, true, true, true, false, false, false] rfl rfl (qPA HT_.out (by kernel_rfl)) (by decide) (fun K hK => ?_)
                      refine Kd.qRB Kd.string _ 9 ?hg (N := 67) ?hd (xs := ([(rdOf ByteArray.empty x10_2 x11_1) ++ ((⟨#[110, 101, 115, 119]⟩ : ByteArray).extract (x32_2 : Int).toNat ((wrap64 (x32_2 + 1)) : Int).toNat)] : List ByteArray)) (inner := [.string ((rdOf ByteArray.empty x10_2 x11_1) ++ ((⟨#[110, 101, 115, 119]⟩ : ByteArray).extract (x32_2 : Int).toNat ((wrap64 (x32_2 + 1)) : Int).toNat))]) (ok := fun _ => True) (okp := fun _ => True) ?hr ?hp (fun _ hk => hk) trivial (Below.refl _ _) (Nat.le_refl _) (by simp) ?_; (case hd => rfl); (case hg => rfl); (case hr => first | (go_simp; done) | (go_simp; rfl)); (case hp => exact (Reps.one (show Kd.M Kd.string _ _ _ ((rdOf ByteArray.empty x10_2 x11_1) ++ ((⟨#[110, 101, 115, 119]⟩ : ByteArray).extract (x32_2 : Int).toNat ((wrap64 (x32_2 + 1)) : Int).toNat)) [.string ((rdOf ByteArray.empty x10_2 x11_1) ++ ((⟨#[110, 101, 115, 119]⟩ : ByteArray).extract (x32_2 : Int).toNat ((wrap64 (x32_2 + 1)) : Int).toNat))] from rfl) (Reps.none _ _)))
                      intro v497 w61 ho62 hb hg_ hnew_
                      have HS3_ := (hb.cell (World.block_lt_of_cell? _ _ (hHeld.2.2.2))).trans (hHeld.2.2.2)
                      clear hg_ hnew_
                      (first | rw [← Ny496.out] at ho62 | (simp only [Int.reduceToNat] at ho62; rw [← Ny496.out] at ho62))
                      have n0_ := Aside0.mk (Kd.qqA (by (with_reducible repeat (first | apply Kd.qF | apply Kd.qE | apply Kd.qI)); exact HO_10.out) (Kd.qPB ho62) hb)
                      have n1_ := Aside0.mk (Kd.qqA (by (with_reducible repeat (first | apply Kd.qF | apply Kd.qE | apply Kd.qI)); exact HO_19.out) (Kd.qPB ho62) hb)
                      have n2_ := Aside0.mk (Kd.qY (by (with_reducible repeat (first | apply Kd.qF | apply Kd.qE | apply Kd.qI)); exact HO491.out) hb)
                      have n3_ := Aside0.mk (Kd.qY (by (with_reducible repeat (first | apply Kd.qF | apply Kd.qE | apply Kd.qI)); exact HO494.out) hb)
                      have n4_ := Aside0.mk (Kd.qBA (Kd.qOB (Kd.qOB ho62 (Kd.R_lt (by (with_reducible repeat (first | apply Kd.qF | apply Kd.qE | apply Kd.qI)); exact HO_10.out))) (Kd.R_lt (by (with_reducible repeat (first | apply Kd.qF | apply Kd.qE | apply Kd.qI)); exact HO_19.out))) (qg bl))
                      have n5_ := Aside0.mk (bb BK471 hb)
                      have n6_ := Aside0.mk (bb BK487 hb)
                      have n7_ := Aside0.mk (qG bl hb)
                      clear HO_10
                      clear HO_19
                      clear HO491
                      clear HO494
                      clear BK471
                      clear BK487
                      clear HB
                      have HO_10 := n0_
                      have HO_19 := n1_
                      have HO491 := n2_
                      have HO494 := n3_
                      have HO498 := n4_
                      have BK471 := n5_
                      have BK487 := n6_
                      have HB := n7_
                      clear n0_ n1_ n2_ n3_ n4_ n5_ n6_ n7_
                      clear hb ho62
                      refine hK.out _ _ ⟨(qK BK487.out 0).trans rfl, (qK BK487.out 1).trans rfl, (qK BK487.out 2).trans rfl, HS3_⟩ (fun hHeld => ?_)
                      clear hK K
                      refine norm_ (a' := ?_) ?_ ?_
                      rotate_left
                      ·show Act.put _ (some 67) _ = _
                       simp only [Act.put, List.setIfInBounds_toArray, List.set_cons_zero, List.set_cons_succ, i64_w, i32_w]
                       rfl
                      exact norm_ (by simp only [putAll, Act.put, List.setIfInBounds_toArray, List.set_cons_zero, List.set_cons_succ]) (hCont (.slice Ao60 y489.length co60, v493, v497) _ ⟨hHeld, (by (with_reducible repeat (first | apply Kd.qF | apply Kd.qE | apply Kd.qI)); exact Kd.qh HO491.out (fun _ hk => ⟨hk.2, ⟨hk.1.1, hk.1.2⟩⟩)), (by (with_reducible repeat (first | apply Kd.qF | apply Kd.qE | apply Kd.qI)); exact HO494.out), (by (with_reducible repeat (first | apply Kd.qF | apply Kd.qE | apply Kd.qI)); exact Kd.qh HO498.out (fun _ hk => ⟨hk.1.2, hk.2⟩)), (by (with_reducible repeat (first | apply Kd.qF | apply Kd.qE | apply Kd.qI)); exact Kd.qh HO_10.out (fun _ hk => ⟨hk.2, hk.1⟩)), (by (with_reducible repeat (first | apply Kd.qF | apply Kd.qE | apply Kd.qI)); exact Kd.qh HO_19.out (fun _ hk => ⟨hk.2, hk.1⟩)), (by (with_reducible repeat (first | refine qB ?_ _ | refine qC ?_ | refine qA ?_ _)); exact BK471.out), (by (with_reducible repeat (first | refine qB ?_ _ | refine qC ?_ | refine qA ?_ _)); exact BK487.out), bl⟩)
                     ·skip
                      refine Kd.qRB Kd.string _ 9 ?hg (N := 67) ?hd (xs := ([(rdOf ByteArray.empty x10_2 x11_1) ++ ((⟨#[110, 101, 115, 119]⟩ : ByteArray).extract (x32_2 : Int).toNat ((wrap64 (x32_2 + 1)) : Int).toNat)] : List ByteArray)) (inner := [.string ((rdOf ByteArray.empty x10_2 x11_1) ++ ((⟨#[110, 101, 115, 119]⟩ : ByteArray).extract (x32_2 : Int).toNat ((wrap64 (x32_2 + 1)) : Int).toNat))]) (ok := fun _ => True) (okp := fun _ => True) ?hr ?hp (fun _ hk => hk) trivial (Below.refl _ _) (Nat.le_refl _) (by simp) ?_; (case hd => rfl); (case hg => rfl); (case hr => first | (go_simp; done) | (go_simp; rfl)); (case hp => exact (Reps.one (show Kd.M Kd.string _ _ _ ((rdOf ByteArray.empty x10_2 x11_1) ++ ((⟨#[110, 101, 115, 119]⟩ : ByteArray).extract (x32_2 : Int).toNat ((wrap64 (x32_2 + 1)) : Int).toNat)) [.string ((rdOf ByteArray.empty x10_2 x11_1) ++ ((⟨#[110, 101, 115, 119]⟩ : ByteArray).extract (x32_2 : Int).toNat ((wrap64 (x32_2 + 1)) : Int).toNat))] from rfl) (Reps.none _ _)))
                      intro v497 w59 ho60 hb hg_ hnew_
                      have HS3_ := (hb.cell (World.block_lt_of_cell? _ _ (hHeld.2.2.2))).trans (hHeld.2.2.2)
                      clear hg_ hnew_
                      (first | rw [← Ny496.out] at ho60 | (simp only [Int.reduceToNat] at ho60; rw [← Ny496.out] at ho60))
                      have n0_ := Aside0.mk (Kd.qY (by (with_reducible repeat (first | apply Kd.qF | apply Kd.qE | apply Kd.qI)); exact HO_9.out) hb)
                      have n1_ := Aside0.mk (Kd.qqA (by (with_reducible repeat (first | apply Kd.qF | apply Kd.qE | apply Kd.qI)); exact HO_10.out) (Kd.qPB ho60) hb)
                      have n2_ := Aside0.mk (Kd.qqA (by (with_reducible repeat (first | apply Kd.qF | apply Kd.qE | apply Kd.qI)); exact HO_19.out) (Kd.qPB ho60) hb)
                      have n3_ := Aside0.mk (Kd.qY (by (with_reducible repeat (first | apply Kd.qF | apply Kd.qE | apply Kd.qI)); exact HO491.out) hb)
                      have n4_ := Aside0.mk (Kd.qBA (Kd.qOB (Kd.qOB ho60 (Kd.R_lt (by (with_reducible repeat (first | apply Kd.qF | apply Kd.qE | apply Kd.qI)); exact HO_10.out))) (Kd.R_lt (by (with_reducible repeat (first | apply Kd.qF | apply Kd.qE | apply Kd.qI)); exact HO_19.out))) (qg bl))
                      have n5_ := Aside0.mk (bb BK471 hb)
                      have n6_ := Aside0.mk (bb BK487 hb)
                      have n7_ := Aside0.mk (qG bl hb)
                      clear HO_9
                      clear HO_10
                      clear HO_19
                      clear HO491
                      clear BK471
                      clear BK487
                      clear HB
                      have HO_9 := n0_
                      have HO_10 := n1_
                      have HO_19 := n2_
                      have HO491 := n3_
                      have HO498 := n4_
                      have BK471 := n5_
                      have BK487 := n6_
                      have HB := n7_
                      clear n0_ n1_ n2_ n3_ n4_ n5_ n6_ n7_
                      clear hb ho60
                      obtain ⟨Ao62, co62, eo62⟩ := Kd.qt HO491.out
                      (first | subst eo62 | (injection eo62 with f1_ f2_ f3_; have f4_ := f1_.symm; have f5_ := f3_.symm; clear f1_ f2_ f3_; subst f4_; subst f5_))
                      refine hK.out _ _ ⟨(qK BK487.out 0).trans rfl, (qK BK487.out 1).trans rfl, (qK BK487.out 2).trans rfl, HS3_⟩ (fun hHeld => ?_)
                      clear hK K
                      refine norm_ (a' := ?_) ?_ ?_
                      rotate_left
                      ·show Act.put _ (some 67) _ = _
                       simp only [Act.put, List.setIfInBounds_toArray, List.set_cons_zero, List.set_cons_succ, i64_w, i32_w]
                       rfl
                      refine one_ (i := 3) (N := some 56) #[true, true, true, true, true, true, true, true, true, true, true, true, true, true, true, false, false, false] rfl rfl (qPA HT_.out (by kernel_rfl)) (by decide) (fun K hK => ?_)
                      refine qrA k27 (w0 := w) w.heap.size (by rfl) (.tmp 53) (.tmp 55) 50 27 (.agg #[(.int .i64 0), (.int .i64 0), (.int .i64 0)]) 24 rfl Tryd.underlying50 info27 rfl (by decide) (by omega) (.slice (some ad482) x9_2.length co45) x9_2 y489 _ _ _ (fun k_ => some k_ ≠ (.slice Ao62 y489.length co62 : Value).ownBlock ∧ k_ ≠ gb471 ∧ k_ ≠ gb487) (fun _ => False) rfl rfl ?aO ?aR (fun _ _ h => h) (fun _ h => h.elim) ?aF ?aB ?aS ?aL ?_
                      (case aR => repeat (first | exact (Kd.qf HO491.out).2.2 | (with_reducible refine Kd.qHA ?_ _) | (with_reducible refine Kd.qGA ?_ _) | (with_reducible refine Kd.qNA ?_)))
                      (case aB => exact bl)
                      (case aF => exact (fun k_ hk => ⟨Kd.fresh' (Kd.R_lt (by (with_reducible repeat (first | apply Kd.qF | apply Kd.qE | apply Kd.qI)); exact HO491.out)) k_ hk, Kd.freshB (g := gb471) (o := .cells #[.int .i64 a1_0, .int .i64 a1_1, .int .i64 a1_2] 27 (0, 0)) (by (with_reducible repeat (first | refine qB ?_ _ | refine qC ?_ | refine qA ?_ _)); exact BK471.out) k_ hk, Kd.freshB (g := gb487) (o := .cells #[.int .i64 t483, .int .i64 t484, .int .i64 t485] 27 (0, 0)) (by (with_reducible repeat (first | refine qB ?_ _ | refine qC ?_ | refine qA ?_ _)); exact BK487.out) k_ hk⟩))
                      (case aO => exact (by (with_reducible repeat (first | apply Kd.qF | apply Kd.qE | apply Kd.qI)); exact Kd.qh HO_9.out (fun _ hk => ⟨hk.2, ⟨hk.1.1, hk.1.2⟩⟩)))
                      (case aS => exact (qg bl))
                      (case aL => have := LMc36.out; omega)
                      intro v493 w61 ho hb hg hat hkp_
                      have HS3_ := hkp_ _ _ (hHeld.2.2.2) (fun e_ => absurd e_ hnr495_HO_9.out)
                      clear hkp_
                      rw [← Ny492.out] at ho
                      have n0_ := Aside0.mk (Kd.qHB (by (with_reducible repeat (first | apply Kd.qF | apply Kd.qE | apply Kd.qI)); exact HO_10.out) (Kd.qGB (by (with_reducible repeat (first | apply Kd.qF | apply Kd.qE | apply Kd.qI)); exact HO_9.out)) (by decide) hg)
                      have n1_ := Aside0.mk (Kd.qHB (by (with_reducible repeat (first | apply Kd.qF | apply Kd.qE | apply Kd.qI)); exact HO_19.out) (Kd.qGB (by (with_reducible repeat (first | apply Kd.qF | apply Kd.qE | apply Kd.qI)); exact HO_9.out)) (by decide) hg)
                      have n2_ := Aside0.mk (qCA (g := gb471) (o := .cells #[.int .i64 a1_0, .int .i64 a1_1, .int .i64 a1_2] 27 (0, 0)) (by (with_reducible repeat (first | refine qB ?_ _ | refine qC ?_ | refine qA ?_ _)); exact BK471.out) hg (Kd.qT HO_9.out (fun _ hk => hk.1.1)))
                      have n3_ := Aside0.mk (qCA (g := gb487) (o := .cells #[.int .i64 t483, .int .i64 t484, .int .i64 t485] 27 (0, 0)) (by (with_reducible repeat (first | refine qB ?_ _ | refine qC ?_ | refine qA ?_ _)); exact BK487.out) hg (Kd.qT HO_9.out (fun _ hk => hk.1.2)))
                      have n4_ := Aside0.mk (Kd.qnA (ok := (fun k_ => k_ ≠ gb471 ∧ k_ ≠ gb487)) (by (with_reducible repeat (first | apply Kd.qF | apply Kd.qE | apply Kd.qI)); exact Kd.qh HO491.out (fun _ hk => ⟨⟨hk.1.2, hk.2⟩, hk.1.1.2⟩)) hg hat)
                      have n5_ := Aside0.mk (Kd.qHB (by (with_reducible repeat (first | apply Kd.qF | apply Kd.qE | apply Kd.qI)); exact HO498.out) (Kd.qGB (by (with_reducible repeat (first | apply Kd.qF | apply Kd.qE | apply Kd.qI)); exact HO_9.out)) (by decide) hg)
                      have n6_ := Aside0.mk (hb)
                      have n7_ := Aside0.mk (ho)
                      clear HO_10
                      clear HO_19
                      clear BK471
                      clear BK487
                      clear HO491
                      clear HO498
                      clear HB
                      clear HO_9
                      have HO_10 := n0_
                      have HO_19 := n1_
                      have BK471 := n2_
                      have BK487 := n3_
                      have HO491 := n4_
                      have HO498 := n5_
                      have HB := n6_
                      have HO494 := n7_
                      clear n0_ n1_ n2_ n3_ n4_ n5_ n6_ n7_
                      clear ho hb hg hat
                      refine hK.out _ _ ⟨(qK BK487.out 0).trans rfl, (qK BK487.out 1).trans rfl, (qK BK487.out 2).trans rfl, HS3_⟩ (fun hHeld => ?_)
                      clear hK K
                      refine norm_ (a' := ?_) ?_ ?_
                      rotate_left
                      ·show Act.put _ (some 56) _ = _
                       simp only [Act.put, List.setIfInBounds_toArray, List.set_cons_zero, List.set_cons_succ, i64_w, i32_w]
                       rfl
                      exact norm_ (by simp only [putAll, Act.put, List.setIfInBounds_toArray, List.set_cons_zero, List.set_cons_succ]) (hCont (.slice Ao62 y489.length co62, v493, v497) _ ⟨hHeld, (by (with_reducible repeat (first | apply Kd.qF | apply Kd.qE | apply Kd.qI)); exact Kd.qh HO491.out (fun _ hk => ⟨hk.2, ⟨hk.1.1, hk.1.2⟩⟩)), (by (with_reducible repeat (first | apply Kd.qF | apply Kd.qE | apply Kd.qI)); exact HO494.out), (by (with_reducible repeat (first | apply Kd.qF | apply Kd.qE | apply Kd.qI)); exact Kd.qh HO498.out (fun _ hk => ⟨hk.1.2, hk.2⟩)), (by (with_reducible repeat (first | apply Kd.qF | apply Kd.qE | apply Kd.qI)); exact Kd.qh HO_10.out (fun _ hk => ⟨hk.2, hk.1⟩)), (by (with_reducible repeat (first | apply Kd.qF | apply Kd.qE | apply Kd.qI)); exact Kd.qh HO_19.out (fun _ hk => ⟨hk.2, hk.1⟩)), (by (with_reducible repeat (first | refine qB ?_ _ | refine qC ?_ | refine qA ?_ _)); exact BK471.out), (by (with_reducible repeat (first | refine qB ?_ _ | refine qC ?_ | refine qA ?_ _)); exact BK487.out), bl⟩)
                    ·skip
                     refine Kd.qRB Kd.string _ 9 ?hg (N := 67) ?hd (xs := ([(rdOf ByteArray.empty x10_2 x11_1) ++ ((⟨#[110, 101, 115, 119]⟩ : ByteArray).extract (x32_2 : Int).toNat ((wrap64 (x32_2 + 1)) : Int).toNat)] : List ByteArray)) (inner := [.string ((rdOf ByteArray.empty x10_2 x11_1) ++ ((⟨#[110, 101, 115, 119]⟩ : ByteArray).extract (x32_2 : Int).toNat ((wrap64 (x32_2 + 1)) : Int).toNat))]) (ok := fun _ => True) (okp := fun _ => True) ?hr ?hp (fun _ hk => hk) trivial (Below.refl _ _) (Nat.le_refl _) (by simp) ?_; (case hd => rfl); (case hg => rfl); (case hr => first | (go_simp; done) | (go_simp; rfl)); (case hp => exact (Reps.one (show Kd.M Kd.string _ _ _ ((rdOf ByteArray.empty x10_2 x11_1) ++ ((⟨#[110, 101, 115, 119]⟩ : ByteArray).extract (x32_2 : Int).toNat ((wrap64 (x32_2 + 1)) : Int).toNat)) [.string ((rdOf ByteArray.empty x10_2 x11_1) ++ ((⟨#[110, 101, 115, 119]⟩ : ByteArray).extract (x32_2 : Int).toNat ((wrap64 (x32_2 + 1)) : Int).toNat))] from rfl) (Reps.none _ _)))
                     intro v497 w57 ho58 hb hg_ hnew_
                     have HS3_ := (hb.cell (World.block_lt_of_cell? _ _ (hHeld.2.2.2))).trans (hHeld.2.2.2)
                     clear hg_ hnew_
                     (first | rw [← Ny496.out] at ho58 | (simp only [Int.reduceToNat] at ho58; rw [← Ny496.out] at ho58))
                     have n0_ := Aside0.mk (Kd.qY (by (with_reducible repeat (first | apply Kd.qF | apply Kd.qE | apply Kd.qI)); exact HO_9.out) hb)
                     have n1_ := Aside0.mk (Kd.qqA (by (with_reducible repeat (first | apply Kd.qF | apply Kd.qE | apply Kd.qI)); exact HO_10.out) (Kd.qPB ho58) hb)
                     have n2_ := Aside0.mk (Kd.qqA (by (with_reducible repeat (first | apply Kd.qF | apply Kd.qE | apply Kd.qI)); exact HO_19.out) (Kd.qPB ho58) hb)
                     have n3_ := Aside0.mk (Kd.qBA (Kd.qOB (Kd.qOB ho58 (Kd.R_lt (by (with_reducible repeat (first | apply Kd.qF | apply Kd.qE | apply Kd.qI)); exact HO_10.out))) (Kd.R_lt (by (with_reducible repeat (first | apply Kd.qF | apply Kd.qE | apply Kd.qI)); exact HO_19.out))) (qg bl))
                     have n4_ := Aside0.mk (bb BK471 hb)
                     have n5_ := Aside0.mk (bb BK487 hb)
                     have n6_ := Aside0.mk (qG bl hb)
                     clear HO_9
                     clear HO_10
                     clear HO_19
                     clear BK471
                     clear BK487
                     clear HB
                     have HO_9 := n0_
                     have HO_10 := n1_
                     have HO_19 := n2_
                     have HO498 := n3_
                     have BK471 := n4_
                     have BK487 := n5_
                     have HB := n6_
                     clear n0_ n1_ n2_ n3_ n4_ n5_ n6_
                     clear hb ho58
                     refine hK.out _ _ ⟨(qK BK487.out 0).trans rfl, (qK BK487.out 1).trans rfl, (qK BK487.out 2).trans rfl, HS3_⟩ (fun hHeld => ?_)
                     clear hK K
                     refine norm_ (a' := ?_) ?_ ?_
                     rotate_left
                     ·show Act.put _ (some 67) _ = _
                      simp only [Act.put, List.setIfInBounds_toArray, List.set_cons_zero, List.set_cons_succ, i64_w, i32_w]
                      rfl
                     refine one_ (i := 2) (N := some 55) #[true, true, true, false, true, true, true, true, true, true, true, true, true, true, true, false, false, false] rfl rfl (qPA HT_.out (by kernel_rfl)) (by decide) (fun K hK => ?_)
                     refine Kd.qRB k27 _ 27 ?hg (N := 55) ?hd (xs := ([(⟨t483, t484, t485⟩ : S27)] : List (S27))) (inner := [.int .i64 t483, .int .i64 t484, .int .i64 t485]) (ok := fun _ => True) (okp := fun _ => True) ?hr ?hp (fun _ hk => hk) trivial (Below.refl _ _) (Nat.le_refl _) (by simp) ?_; (case hd => rfl); (case hg => rfl); (case hr => first | (go_simp; done) | (go_simp; rfl)); (case hp => exact (Reps.c3 (show Kd.M k27 _ _ _ (⟨t483, t484, t485⟩ : S27) [.int .i64 t483, .int .i64 t484, .int .i64 t485] from (qAC _ _ _ (⟨t483, t484, t485⟩ : S27) )) (Reps.none _ _)))
                     intro v490 w59 ho60 hb hg_ hnew_
                     have HS3_ := (hb.cell (World.block_lt_of_cell? _ _ (hHeld.2.2.2))).trans (hHeld.2.2.2)
                     clear hg_ hnew_
                     (first | rw [← Ny489.out] at ho60 | (simp only [Int.reduceToNat] at ho60; rw [← Ny489.out] at ho60))
                     have n0_ := Aside0.mk (Kd.qqA (by (with_reducible repeat (first | apply Kd.qF | apply Kd.qE | apply Kd.qI)); exact HO_9.out) (Kd.qPB ho60) hb)
                     have n1_ := Aside0.mk (Kd.qY (by (with_reducible repeat (first | apply Kd.qF | apply Kd.qE | apply Kd.qI)); exact HO_10.out) hb)
                     have n2_ := Aside0.mk (Kd.qY (by (with_reducible repeat (first | apply Kd.qF | apply Kd.qE | apply Kd.qI)); exact HO_19.out) hb)
                     have n3_ := Aside0.mk (Kd.qY (by (with_reducible repeat (first | apply Kd.qF | apply Kd.qE | apply Kd.qI)); exact HO498.out) hb)
                     have n4_ := Aside0.mk (Kd.qBA (Kd.qMB (Kd.qMB (Kd.qOB ho60 (Kd.R_lt (by (with_reducible repeat (first | apply Kd.qF | apply Kd.qE | apply Kd.qI)); exact HO_9.out))) (g := gb471) (o := .cells #[.int .i64 a1_0, .int .i64 a1_1, .int .i64 a1_2] 27 (0, 0)) (by (with_reducible repeat (first | refine qB ?_ _ | refine qC ?_ | refine qA ?_ _)); exact BK471.out)) (g := gb487) (o := .cells #[.int .i64 t483, .int .i64 t484, .int .i64 t485] 27 (0, 0)) (by (with_reducible repeat (first | refine qB ?_ _ | refine qC ?_ | refine qA ?_ _)); exact BK487.out)) (qg bl))
                     have n5_ := Aside0.mk (bb BK471 hb)
                     have n6_ := Aside0.mk (bb BK487 hb)
                     have n7_ := Aside0.mk (qG bl hb)
                     clear HO_9
                     clear HO_10
                     clear HO_19
                     clear HO498
                     clear BK471
                     clear BK487
                     clear HB
                     have HO_9 := n0_
                     have HO_10 := n1_
                     have HO_19 := n2_
                     have HO498 := n3_
                     have HO491 := n4_
                     have BK471 := n5_
                     have BK487 := n6_
                     have HB := n7_
                     clear n0_ n1_ n2_ n3_ n4_ n5_ n6_ n7_
                     clear hb ho60
                     obtain ⟨Ao62, co62, eo62⟩ := Kd.qt HO491.out
                     (first | subst eo62 | (injection eo62 with f1_ f2_ f3_; have f4_ := f1_.symm; have f5_ := f3_.symm; clear f1_ f2_ f3_; subst f4_; subst f5_))
                     refine hK.out _ _ ⟨(qK BK487.out 0).trans rfl, (qK BK487.out 1).trans rfl, (qK BK487.out 2).trans rfl, HS3_⟩ (fun hHeld => ?_)
                     clear hK K
                     refine norm_ (a' := ?_) ?_ ?_
                     rotate_left
                     ·show Act.put _ (some 55) _ = _
                      simp only [Act.put, List.setIfInBounds_toArray, List.set_cons_zero, List.set_cons_succ, i64_w, i32_w]
                      rfl
                     refine one_ (i := 3) (N := some 56) #[true, true, true, true, true, true, true, true, true, true, true, true, true, true, true, false, false, false] rfl rfl (qPA HT_.out (by kernel_rfl)) (by decide) (fun K hK => ?_)
                     refine qrA k27 (w0 := w) w.heap.size (by rfl) (.tmp 53) (.tmp 55) 50 27 (.agg #[(.int .i64 0), (.int .i64 0), (.int .i64 0)]) 24 rfl Tryd.underlying50 info27 rfl (by decide) (by omega) (.slice (some ad482) x9_2.length co45) x9_2 y489 _ _ _ (fun k_ => some k_ ≠ (.slice Ao62 y489.length co62 : Value).ownBlock ∧ k_ ≠ gb471 ∧ k_ ≠ gb487) (fun _ => False) rfl rfl ?aO ?aR (fun _ _ h => h) (fun _ h => h.elim) ?aF ?aB ?aS ?aL ?_
                     (case aR => repeat (first | exact (Kd.qf HO491.out).2.2 | (with_reducible refine Kd.qHA ?_ _) | (with_reducible refine Kd.qGA ?_ _) | (with_reducible refine Kd.qNA ?_)))
                     (case aB => exact bl)
                     (case aF => exact (fun k_ hk => ⟨Kd.fresh' (Kd.R_lt (by (with_reducible repeat (first | apply Kd.qF | apply Kd.qE | apply Kd.qI)); exact HO491.out)) k_ hk, Kd.freshB (g := gb471) (o := .cells #[.int .i64 a1_0, .int .i64 a1_1, .int .i64 a1_2] 27 (0, 0)) (by (with_reducible repeat (first | refine qB ?_ _ | refine qC ?_ | refine qA ?_ _)); exact BK471.out) k_ hk, Kd.freshB (g := gb487) (o := .cells #[.int .i64 t483, .int .i64 t484, .int .i64 t485] 27 (0, 0)) (by (with_reducible repeat (first | refine qB ?_ _ | refine qC ?_ | refine qA ?_ _)); exact BK487.out) k_ hk⟩))
                     (case aO => exact (by (with_reducible repeat (first | apply Kd.qF | apply Kd.qE | apply Kd.qI)); exact Kd.qh HO_9.out (fun _ hk => ⟨hk.2, ⟨hk.1.1, hk.1.2⟩⟩)))
                     (case aS => exact (qg bl))
                     (case aL => have := LMc36.out; omega)
                     intro v493 w61 ho hb hg hat hkp_
                     have HS3_ := hkp_ _ _ (hHeld.2.2.2) (fun e_ => absurd e_ hnr495_HO_9.out)
                     clear hkp_
                     rw [← Ny492.out] at ho
                     have n0_ := Aside0.mk (Kd.qHB (by (with_reducible repeat (first | apply Kd.qF | apply Kd.qE | apply Kd.qI)); exact HO_10.out) (Kd.qGB (by (with_reducible repeat (first | apply Kd.qF | apply Kd.qE | apply Kd.qI)); exact HO_9.out)) (by decide) hg)
                     have n1_ := Aside0.mk (Kd.qHB (by (with_reducible repeat (first | apply Kd.qF | apply Kd.qE | apply Kd.qI)); exact HO_19.out) (Kd.qGB (by (with_reducible repeat (first | apply Kd.qF | apply Kd.qE | apply Kd.qI)); exact HO_9.out)) (by decide) hg)
                     have n2_ := Aside0.mk (qCA (g := gb471) (o := .cells #[.int .i64 a1_0, .int .i64 a1_1, .int .i64 a1_2] 27 (0, 0)) (by (with_reducible repeat (first | refine qB ?_ _ | refine qC ?_ | refine qA ?_ _)); exact BK471.out) hg (Kd.qT HO_9.out (fun _ hk => hk.1.1)))
                     have n3_ := Aside0.mk (qCA (g := gb487) (o := .cells #[.int .i64 t483, .int .i64 t484, .int .i64 t485] 27 (0, 0)) (by (with_reducible repeat (first | refine qB ?_ _ | refine qC ?_ | refine qA ?_ _)); exact BK487.out) hg (Kd.qT HO_9.out (fun _ hk => hk.1.2)))
                     have n4_ := Aside0.mk (Kd.qHB (by (with_reducible repeat (first | apply Kd.qF | apply Kd.qE | apply Kd.qI)); exact HO498.out) (Kd.qGB (by (with_reducible repeat (first | apply Kd.qF | apply Kd.qE | apply Kd.qI)); exact HO_9.out)) (by decide) hg)
                     have n5_ := Aside0.mk (Kd.qnA (ok := (fun k_ => k_ ≠ gb471 ∧ k_ ≠ gb487)) (by (with_reducible repeat (first | apply Kd.qF | apply Kd.qE | apply Kd.qI)); exact Kd.qh HO491.out (fun _ hk => ⟨⟨hk.1.2, hk.2⟩, hk.1.1.2⟩)) hg hat)
                     have n6_ := Aside0.mk (hb)
                     have n7_ := Aside0.mk (ho)
                     clear HO_10
                     clear HO_19
                     clear BK471
                     clear BK487
                     clear HO498
                     clear HO491
                     clear HB
                     clear HO_9
                     have HO_10 := n0_
                     have HO_19 := n1_
                     have BK471 := n2_
                     have BK487 := n3_
                     have HO498 := n4_
                     have HO491 := n5_
                     have HB := n6_
                     have HO494 := n7_
                     clear n0_ n1_ n2_ n3_ n4_ n5_ n6_ n7_
                     clear ho hb hg hat
                     refine hK.out _ _ ⟨(qK BK487.out 0).trans rfl, (qK BK487.out 1).trans rfl, (qK BK487.out 2).trans rfl, HS3_⟩ (fun hHeld => ?_)
                     clear hK K
                     refine norm_ (a' := ?_) ?_ ?_
                     rotate_left
                     ·show Act.put _ (some 56) _ = _
                      simp only [Act.put, List.setIfInBounds_toArray, List.set_cons_zero, List.set_cons_succ, i64_w, i32_w]
                      rfl
                     exact norm_ (by simp only [putAll, Act.put, List.setIfInBounds_toArray, List.set_cons_zero, List.set_cons_succ]) (hCont (.slice Ao62 y489.length co62, v493, v497) _ ⟨hHeld, (by (with_reducible repeat (first | apply Kd.qF | apply Kd.qE | apply Kd.qI)); exact Kd.qh HO491.out (fun _ hk => ⟨hk.2, ⟨hk.1.1, hk.1.2⟩⟩)), (by (with_reducible repeat (first | apply Kd.qF | apply Kd.qE | apply Kd.qI)); exact HO494.out), (by (with_reducible repeat (first | apply Kd.qF | apply Kd.qE | apply Kd.qI)); exact Kd.qh HO498.out (fun _ hk => ⟨hk.1.2, hk.2⟩)), (by (with_reducible repeat (first | apply Kd.qF | apply Kd.qE | apply Kd.qI)); exact Kd.qh HO_10.out (fun _ hk => ⟨hk.2, hk.1⟩)), (by (with_reducible repeat (first | apply Kd.qF | apply Kd.qE | apply Kd.qI)); exact Kd.qh HO_19.out (fun _ hk => ⟨hk.2, hk.1⟩)), (by (with_reducible repeat (first | refine qB ?_ _ | refine qC ?_ | refine qA ?_ _)); exact BK471.out), (by (with_reducible repeat (first | refine qB ?_ _ | refine qC ?_ | refine qA ?_ _)); exact BK487.out), bl⟩)
                   rintro ⟨v490, v493, v497⟩ w63 ⟨hS_, h0_, h1_, h2_, h3_, h4_, h5_, h6_, h7_⟩
                   have n0_ : Aside0 (Kd.R k27 27 w63 w.heap.size (fun k_ => some k_ ≠ (v493 : Value).ownBlock ∧ k_ ≠ gb471 ∧ k_ ≠ gb487) v490 y489) := ⟨h0_⟩
                   have n1_ : Aside0 (Kd.R k27 27 w63 w.heap.size (fun k_ => some k_ ≠ (v490 : Value).ownBlock ∧ k_ ≠ gb471 ∧ k_ ≠ gb487) v493 y492) := ⟨h1_⟩
                   have n2_ : Aside0 (Kd.R Kd.string 9 w63 w.heap.size (fun k_ => some k_ ≠ (.slice (some ad495) x10_2.length co55 : Value).ownBlock ∧ some k_ ≠ (.slice Ao43 t472.length co43 : Value).ownBlock) v497 y496) := ⟨h2_⟩
                   have n3_ : Aside0 (Kd.R Kd.string 9 w63 w.heap.size (fun k_ => some k_ ≠ (v497 : Value).ownBlock ∧ some k_ ≠ (.slice Ao43 t472.length co43 : Value).ownBlock) (.slice (some ad495) x10_2.length co55) x10_2) := ⟨h3_⟩
                   have n4_ : Aside0 (Kd.R Kd.string 9 w63 w.heap.size (fun k_ => some k_ ≠ (v497 : Value).ownBlock ∧ some k_ ≠ (.slice (some ad495) x10_2.length co55 : Value).ownBlock) (.slice Ao43 t472.length co43) t472) := ⟨h4_⟩
                   have n5_ : Aside0 (w63.heap[gb471]? = some (.cells #[.int .i64 a1_0, .int .i64 a1_1, .int .i64 a1_2] 27 (0, 0))) := ⟨h5_⟩
                   have n6_ : Aside0 (w63.heap[gb487]? = some (.cells #[.int .i64 t483, .int .i64 t484, .int .i64 t485] 27 (0, 0))) := ⟨h6_⟩
                   have n7_ : Aside0 (Below w.heap.size w w63) := ⟨h7_⟩
                   clear HO_9
                   clear HO_10
                   clear HO_19
                   clear BK471
                   clear BK487
                   clear HB
                   clear h0_ h1_ h2_ h3_ h4_ h5_ h6_ h7_
                   have HO491 := n0_
                   have HO494 := n1_
                   have HO498 := n2_
                   have HO_10 := n3_
                   have HO_19 := n4_
                   have BK471 := n5_
                   have BK487 := n6_
                   have HB := n7_
                   clear n0_ n1_ n2_ n3_ n4_ n5_ n6_ n7_
                   have hHeld : w63.cell? ⟨gb487, 0, none⟩ = some (.int .i64 t483) ∧ w63.cell? ⟨gb487, 1, none⟩ = some (.int .i64 t484) ∧ w63.cell? ⟨gb487, 2, none⟩ = some (.int .i64 t485) ∧ w63.cell? (ad495.add (x11_1).toNat) = some (.string (rdOf ByteArray.empty x10_2 x11_1)) := hS_
                   obtain ⟨Ao65, co65, eo65⟩ := Kd.qt HO498.out
                   (first | subst eo65 | (injection eo65 with f1_ f2_ f3_; have f4_ := f1_.symm; have f5_ := f3_.symm; clear f1_ f2_ f3_; subst f4_; subst f5_))
                   refine norm_ (a' := ?_) ?_ ?_
                   rotate_left
                   ·simp only [putAll, Act.put, List.setIfInBounds_toArray, List.set_cons_zero, List.set_cons_succ]
                    rfl
                   refine one_ (i := 15) (N := some 68) #[true, true, true, true, true, true, true, true, true, true, true, true, true, true, true, true, false, false] rfl rfl (qPA HT_.out (by kernel_rfl)) (by decide) (fun K hK => ?_)
                   refine qrA Kd.string (w0 := w) w.heap.size (by rfl) (.tmp 57) (.tmp 67) 60 9 (.string ⟨#[]⟩) 16 rfl Tryd.underlying60 info9 rfl (by decide) (by omega) (.slice (some ad495) x10_2.length co55) x10_2 y496 _ _ _ (fun k_ => some k_ ≠ (.slice Ao43 t472.length co43 : Value).ownBlock ∧ some k_ ≠ (.slice Ao65 y496.length co65 : Value).ownBlock) (fun _ => False) rfl rfl ?aO ?aR (fun _ _ h => h) (fun _ h => h.elim) ?aF ?aB ?aS ?aL ?_
                   (case aR => repeat (first | exact (Kd.qf HO498.out).2.2 | (with_reducible refine Kd.qHA ?_ _) | (with_reducible refine Kd.qGA ?_ _) | (with_reducible refine Kd.qNA ?_)))
                   (case aB => exact bl)
                   (case aF => exact (fun k_ hk => ⟨Kd.fresh' (Kd.R_lt (by (with_reducible repeat (first | apply Kd.qF | apply Kd.qE | apply Kd.qI)); exact HO_19.out)) k_ hk, Kd.fresh' (Kd.R_lt (by (with_reducible repeat (first | apply Kd.qF | apply Kd.qE | apply Kd.qI)); exact HO498.out)) k_ hk⟩))
                   (case aO => exact (by (with_reducible repeat (first | apply Kd.qF | apply Kd.qE | apply Kd.qI)); exact Kd.qh HO_10.out (fun _ hk => ⟨hk.2, hk.1⟩)))
                   (case aS => exact (qg bl))
                   (case aL => have := LMc42.out; omega)
                   intro v500 w64 ho hb hg hat hkp_
                   have HS3_ := hkp_ _ _ (hHeld.2.2.2) (fun _ => hof495.out)
                   clear hkp_
                   rw [← Ny499.out] at ho
                   have n0_ := Aside0.mk (Kd.qnA (ok := (fun k_ => some k_ ≠ (.slice Ao65 y496.length co65 : Value).ownBlock)) (by (with_reducible repeat (first | apply Kd.qF | apply Kd.qE | apply Kd.qI)); exact HO_19.out) hg hat)
                   have n1_ := Aside0.mk (qCA (g := gb471) (o := .cells #[.int .i64 a1_0, .int .i64 a1_1, .int .i64 a1_2] 27 (0, 0)) (by (with_reducible repeat (first | refine qB ?_ _ | refine qC ?_ | refine qA ?_ _)); exact BK471.out) hg (Kd.R_ne HO_10.out BK471.out (by decide)))
                   have n2_ := Aside0.mk (qCA (g := gb487) (o := .cells #[.int .i64 t483, .int .i64 t484, .int .i64 t485] 27 (0, 0)) (by (with_reducible repeat (first | refine qB ?_ _ | refine qC ?_ | refine qA ?_ _)); exact BK487.out) hg (Kd.R_ne HO_10.out BK487.out (by decide)))
                   have n3_ := Aside0.mk (Kd.qHB (by (with_reducible repeat (first | apply Kd.qF | apply Kd.qE | apply Kd.qI)); exact HO491.out) (Kd.qGB (by (with_reducible repeat (first | apply Kd.qF | apply Kd.qE | apply Kd.qI)); exact HO_10.out)) (by decide) hg)
                   have n4_ := Aside0.mk (Kd.qHB (by (with_reducible repeat (first | apply Kd.qF | apply Kd.qE | apply Kd.qI)); exact HO494.out) (Kd.qGB (by (with_reducible repeat (first | apply Kd.qF | apply Kd.qE | apply Kd.qI)); exact HO_10.out)) (by decide) hg)
                   have n5_ := Aside0.mk (Kd.qnA (ok := (fun k_ => some k_ ≠ (.slice Ao43 t472.length co43 : Value).ownBlock)) (by (with_reducible repeat (first | apply Kd.qF | apply Kd.qE | apply Kd.qI)); exact Kd.qh HO498.out (fun _ hk => ⟨hk.2, hk.1⟩)) hg hat)
                   have n6_ := Aside0.mk (hb)
                   have n7_ := Aside0.mk (ho)
                   clear HO_19
                   clear BK471
                   clear BK487
                   clear HO491
                   clear HO494
                   clear HO498
                   clear HB
                   clear HO_10
                   have HO_19 := n0_
                   have BK471 := n1_
                   have BK487 := n2_
                   have HO491 := n3_
                   have HO494 := n4_
                   have HO498 := n5_
                   have HB := n6_
                   have HO501 := n7_
                   clear n0_ n1_ n2_ n3_ n4_ n5_ n6_ n7_
                   clear ho hb hg hat
                   refine hK.out _ _ ⟨(qK BK487.out 0).trans rfl, (qK BK487.out 1).trans rfl, (qK BK487.out 2).trans rfl, HS3_⟩ (fun hHeld => ?_)
                   clear hK K
                   refine norm_ (a' := ?_) ?_ ?_
                   rotate_left
                   ·show Act.put _ (some 68) _ = _
                    simp only [Act.put, List.setIfInBounds_toArray, List.set_cons_zero, List.set_cons_succ, i64_w, i32_w]
                    rfl
                   refine pS (i := 16) (N := some 9) #[true, true, true, true, true, true, true, true, true, true, true, true, true, true, true, true, true, false] HT_ ?_
                   refine pS (i := 17) (N := some 10) #[true, true, true, true, true, true, true, true, true, true, true, true, true, true, true, true, true, true] HT_ ?_
                   refine done_ (qpA HT_.out (by kernel_rfl)) ?_
                   try go_wp2
                   go_roundg k2
                   case measure => have := HK1.out; have := HK2.out; omega
                   case rel => exact ⟨(y492), (y499), (wrap64 (x32_2 + 1)), (by first | rfl | (simp; done) | (simp [*]; done)), H', ⟨by have := HK1.out; have := HK2.out; omega⟩, ⟨by (with_reducible repeat (first | apply Kd.qF | apply Kd.qE | apply Kd.qI)); exact Kd.qh HO494.out (fun _ hk => hk.2.1)⟩, ⟨by (with_reducible repeat (first | apply Kd.qF | apply Kd.qE | apply Kd.qI)); exact Kd.qh HO501.out (fun _ hk => hk.1)⟩, ⟨by (with_reducible repeat (first | apply Kd.qF | apply Kd.qE | apply Kd.qI)); exact Kd.qh HO_19.out (fun _ hk => hk.2)⟩, ⟨by (with_reducible repeat (first | refine qB ?_ _ | refine qC ?_ | refine qA ?_ _)); exact BK471.out⟩, ⟨bl⟩⟩
                  ·rw [if_neg c42] at H
                   exact absurd H (by simp)
                 ·rw [if_neg c41] at H
                  exact absurd H (by simp)
                ·rw [if_neg c40] at H
                 exact absurd H (by simp)
               ·rw [if_neg c39] at H
                exact absurd H (by simp)
              ·rw [if_neg c37] at H
               exact absurd H (by simp)
             ·rw [if_neg c36] at H
              exact absurd H (by simp)
           ·replace c21 := Bool.eq_false_iff.mpr c21
            subst c21
            have H1 : (qR.l1 k2 x9_2 x10_2 x11_1 t472 (wrap64 (x32_2 + 1))) = some (r1, r2, r3) := by rw [if_neg (show ¬ (false = true) by decide)] at H; exact H
            clear H
            have H := H1
            clear H1
            have H' := Aside0.mk H
            clear H
            obtain ⟨Ao66, co66, eo66⟩ := Kd.qt HO_19.out
            subst eo66
            try go_wp2
            have n0_ := Aside0.mk (Kd.qI HO_9.out)
            have n1_ := Aside0.mk (Kd.qI HO_10.out)
            have n2_ := Aside0.mk (Kd.qI HO_19.out)
            have n3_ := Aside0.mk (qC BK471.out)
            have n4_ := Aside0.mk (qn HB.out)
            clear HO_9
            clear HO_10
            clear HO_19
            clear BK471
            clear HB
            have HO_9 := n0_
            have HO_10 := n1_
            have HO_19 := n2_
            have BK471 := n3_
            have HB := n4_
            clear n0_ n1_ n2_ n3_ n4_
            obtain ⟨Ao68, co68, eo68⟩ := Kd.qt HO_9.out
            (first | subst eo68 | (injection eo68 with f1_ f2_ f3_; have f4_ := f1_.symm; have f5_ := f3_.symm; clear f1_ f2_ f3_; subst f4_; subst f5_))
            have p482 : 0 ≤ (x11_1 : Int) := of_decide_eq_true (by first | (with_reducible assumption) | assumption)
            have q482 : x11_1 < (x9_2.length : Int) := of_decide_eq_true (by first | (with_reducible assumption) | assumption)
            obtain ⟨ad482, e482, hx482_0, hx482_1, hx482_2⟩ := qFB (Kd.qf HO_9.out).2.2 x11_1 p482 q482
            cases e482
            replace p482 := eq_true p482
            replace q482 := eq_true q482
            have p19 : 0 ≤ (x32_2 : Int) := of_decide_eq_true (by first | (with_reducible assumption) | assumption)
            have q19 : x32_2 < (4 : Int) := of_decide_eq_true (by first | (with_reducible assumption) | assumption)
            have hx19 := bt_at (⟨#[110, 101, 115, 119]⟩ : ByteArray) x32_2
            replace p19 := eq_true p19
            replace q19 := eq_true q19
            refine qxA (n := 14) (S := fun w' => w'.cell? (ad482.add ((x11_1).toNat * 3)) = some (.int .i64 ((qJ x9_2 x11_1).f0)) ∧ w'.cell? ⟨(ad482.add ((x11_1).toNat * 3)).block, (ad482.add ((x11_1).toNat * 3)).off + 1, none⟩ = some (.int .i64 ((qJ x9_2 x11_1).f1)) ∧ w'.cell? ⟨(ad482.add ((x11_1).toNat * 3)).block, (ad482.add ((x11_1).toNat * 3)).off + 2, none⟩ = some (.int .i64 ((qJ x9_2 x11_1).f2))) (ds := []) #[false, false, false, false, false, false, false, false, false, false, false, false, false, false] (by kernel_rfl) rfl rfl ⟨hx482_0, hx482_1, hx482_2⟩ (fun hHeld => ?_); refine qTA qR.tab11 qR.bits11 (fun HT_ HW_ => ?_)
            generalize wr.drew = w67 at HO_9 HO_10 HO_19 BK471 HB hx482_0 hx482_1 hx482_2 hHeld ⊢
            refine pS (i := 0) (N := some 36) #[true, false, false, false, false, false, false, false, false, false, false, false, false, false] HT_ ?_
            refine pS (i := 1) (N := some 37) #[true, true, false, false, false, false, false, false, false, false, false, false, false, false] HT_ ?_
            refine pS (i := 2) (N := some 38) #[true, true, true, false, false, false, false, false, false, false, false, false, false, false] HT_ ?_
            refine pS (i := 3) (N := some 39) #[true, true, true, true, false, false, false, false, false, false, false, false, false, false] HT_ ?_
            refine pS (i := 5) (N := some 41) #[true, true, true, true, false, true, false, false, false, false, false, false, false, false] HT_ ?_
            refine tS (i := 4) (N := some 40) #[true, true, true, true, true, true, false, false, false, false, false, false, false, false] HT_ HW_ hHeld ?_
            refine tS (i := 6) (N := some 42) #[true, true, true, true, true, true, true, false, false, false, false, false, false, false] HT_ HW_ hHeld ?_
            refine join_ (σ := Nat) 2 #[true, true, true, true, true, true, true, true, true, true, true, true, false, false] (fun s_ => [(43, .tuple #[.agg #[.int .i64 t483, .int .i64 t484, .int .i64 t485], .bool false]), (13, .pointer (some ⟨s_, 0, none⟩)), (35, .tuple #[.agg #[.int .i64 t483, .int .i64 t484, .int .i64 t485], .bool false]), (44, .agg #[.int .i64 t483, .int .i64 t484, .int .i64 t485]), (45, .bool false)]) (fun s_ w' => (w'.cell? (ad482.add ((x11_1).toNat * 3)) = some (.int .i64 ((qJ x9_2 x11_1).f0)) ∧ w'.cell? ⟨(ad482.add ((x11_1).toNat * 3)).block, (ad482.add ((x11_1).toNat * 3)).off + 1, none⟩ = some (.int .i64 ((qJ x9_2 x11_1).f1)) ∧ w'.cell? ⟨(ad482.add ((x11_1).toNat * 3)).block, (ad482.add ((x11_1).toNat * 3)).off + 2, none⟩ = some (.int .i64 ((qJ x9_2 x11_1).f2))) ∧ (Kd.R Kd.string 9 w' w.heap.size (fun k_ => some k_ ≠ (.slice Ao66 t472.length co66 : Value).ownBlock) u10 x10_2) ∧ (Kd.R Kd.string 9 w' w.heap.size (fun k_ => some k_ ≠ (u10 : Value).ownBlock) (.slice Ao66 t472.length co66) t472) ∧ (Kd.R k27 27 w' w.heap.size (fun k_ => k_ ≠ gb471 ∧ k_ ≠ s_) (.slice (some ad482) x9_2.length co68) x9_2) ∧ (w'.heap[gb471]? = some (.cells #[.int .i64 a1_0, .int .i64 a1_1, .int .i64 a1_2] 27 (0, 0))) ∧ (w'.heap[s_]? = some (.cells #[.int .i64 0, .int .i64 0, .int .i64 0] 27 (0, 0))) ∧ (w.heap.size ≤ s_) ∧ (w.heap.size ≤ s_) ∧ (gb471 ≠ s_) ∧ (s_ ≠ gb471) ∧ (Below w.heap.size w w')) ?_ ?_
            rotate_left
            ·intro hCont
             refine two_ (i := 7) (j := 11) (Ni := some 43) (Nj := some 13) #[true, true, true, true, true, true, true, true, false, false, false, false, false, false] #[true, true, true, true, true, true, true, false, false, false, false, true, false, false] rfl rfl rfl rfl (qwB HT_.out (by kernel_rfl)) (by decide) (by decide) (fun K hK => ?_) (fun K hK => ?_)
             ·skip
              refine goes_ Tryd.func62 (by kernel_rfl) rfl #[.slice Ao66 t472.length co66, .agg #[.int .i64 ((qJ x9_2 x11_1).f0), .int .i64 ((qJ x9_2 x11_1).f1), .int .i64 ((qJ x9_2 x11_1).f2)], .int .u8 (bt (⟨#[110, 101, 115, 119]⟩ : ByteArray) x32_2)] (by rfl) rfl rfl (by (try simp only [List.map_toArray, List.map_cons, List.map_nil]); first | done | rfl | (simp only [List.length_drop, List.length_take]; rfl)) ?_
              with_reducible refine (qLA.calls k2 _ _ t472 ((qJ x9_2 x11_1).f0) ((qJ x9_2 x11_1).f1) ((qJ x9_2 x11_1).f2) (bt (⟨#[110, 101, 115, 119]⟩ : ByteArray) x32_2) t483 t484 t485 false _ ?side1 ?side2 A20.out).mono ?_
              (case side1 => repeat (first | exact (Kd.qf HO_19.out).2.2 | (with_reducible refine Kd.qHA ?_ _) | (with_reducible refine Kd.qGA ?_ _) | (with_reducible refine Kd.qNA ?_)))
              (case side2 => exact (Kd.qf HO_19.out).2.1)
              rintro e w69 ⟨rfl, hb⟩
              have HS0_ := (hb.cell (World.block_lt_of_cell? _ _ (hHeld.1))).trans (hHeld.1)
              have HS1_ := (hb.cell (World.block_lt_of_cell? _ _ (hHeld.2.1))).trans (hHeld.2.1)
              have HS2_ := (hb.cell (World.block_lt_of_cell? _ _ (hHeld.2.2))).trans (hHeld.2.2)
              refine ⟨_, rfl, ?_⟩
              have n0_ := Aside0.mk (Kd.qY (by (with_reducible repeat (first | apply Kd.qF | apply Kd.qE | apply Kd.qI)); exact HO_9.out) hb)
              have n1_ := Aside0.mk (Kd.qY (by (with_reducible repeat (first | apply Kd.qF | apply Kd.qE | apply Kd.qI)); exact HO_10.out) hb)
              have n2_ := Aside0.mk (Kd.qY (by (with_reducible repeat (first | apply Kd.qF | apply Kd.qE | apply Kd.qI)); exact HO_19.out) hb)
              have n3_ := Aside0.mk (bb BK471 hb)
              have n4_ := Aside0.mk (qG bl hb)
              clear HO_9
              clear HO_10
              clear HO_19
              clear BK471
              clear HB
              have HO_9 := n0_
              have HO_10 := n1_
              have HO_19 := n2_
              have BK471 := n3_
              have HB := n4_
              clear n0_ n1_ n2_ n3_ n4_
              (try clear hb)
              (try clear hb2)
              (try clear hk)
              (try clear hi)
              refine hK.out _ _ ⟨HS0_, HS1_, HS2_⟩ (fun hHeld => ?_)
              clear hK K
              refine norm_ (a' := ?_) ?_ ?_
              rotate_left
              ·show Act.put _ (some 43) _ = _
               simp only [Act.put, List.setIfInBounds_toArray, List.set_cons_zero, List.set_cons_succ, i64_w, i32_w]
               rfl
              refine pS (i := 8) (N := some 35) #[true, true, true, true, true, true, true, true, true, false, false, false, false, false] HT_ ?_
              refine pS (i := 9) (N := some 44) #[true, true, true, true, true, true, true, true, true, true, false, false, false, false] HT_ ?_
              refine pS (i := 10) (N := some 45) #[true, true, true, true, true, true, true, true, true, true, true, false, false, false] HT_ ?_
              refine one_ (i := 11) (N := some 13) #[true, true, true, true, true, true, true, true, true, true, true, true, false, false] rfl rfl (qPA HT_.out (by kernel_rfl)) (by decide) (fun K hK => ?_)
              refine qAB ?hg (N := 13) ?hd (cs := #[.int .i64 0, .int .i64 0, .int .i64 0]) (t := 27) ?hr ?_; (case hd => rfl); (case hg => rfl); (case hr => first | (go_simp; done) | (go_simp; rfl))
              intro gb487 hg w70 hbox hb
              have HS0_ := (hb.cell (World.block_lt_of_cell? _ _ (hHeld.1))).trans (hHeld.1)
              have HS1_ := (hb.cell (World.block_lt_of_cell? _ _ (hHeld.2.1))).trans (hHeld.2.1)
              have HS2_ := (hb.cell (World.block_lt_of_cell? _ _ (hHeld.2.2))).trans (hHeld.2.2)
              have n0_ := Aside0.mk (Kd.qY (Kd.qYA (by (with_reducible repeat (first | apply Kd.qF | apply Kd.qE | apply Kd.qI)); exact HO_9.out) gb487 (Nat.le_of_eq hg.symm)) hb)
              have n1_ := Aside0.mk (Kd.qY (by (with_reducible repeat (first | apply Kd.qF | apply Kd.qE | apply Kd.qI)); exact HO_10.out) hb)
              have n2_ := Aside0.mk (Kd.qY (by (with_reducible repeat (first | apply Kd.qF | apply Kd.qE | apply Kd.qI)); exact HO_19.out) hb)
              have n3_ := Aside0.mk (bb BK471 hb)
              have n4_ := Aside0.mk (qG bl hb)
              have n5_ := Aside0.mk (hbox)
              have n6_ := Aside0.mk ((gg hg))
              have n7_ := Aside0.mk ((gg hg))
              have n8_ := Aside0.mk ((nl BK471 hg))
              have n9_ := Aside0.mk ((nr BK471 hg))
              clear HO_9
              clear HO_10
              clear HO_19
              clear BK471
              clear HB
              have HO_9 := n0_
              have HO_10 := n1_
              have HO_19 := n2_
              have BK471 := n3_
              have HB := n4_
              have BK487 := n5_
              have GW487 := n6_
              have GE487 := n7_
              have NB471_487 := n8_
              have NB487_471 := n9_
              clear n0_ n1_ n2_ n3_ n4_ n5_ n6_ n7_ n8_ n9_
              clear hb hbox hg
              refine hK.out _ _ ⟨HS0_, HS1_, HS2_⟩ (fun hHeld => ?_)
              clear hK K
              refine norm_ (a' := ?_) ?_ ?_
              rotate_left
              ·show Act.put _ (some 13) _ = _
               simp only [Act.put, List.setIfInBounds_toArray, List.set_cons_zero, List.set_cons_succ, i64_w, i32_w]
               rfl
              exact norm_ (by simp only [putAll, Act.put, List.setIfInBounds_toArray, List.set_cons_zero, List.set_cons_succ]) (hCont (gb487) _ ⟨hHeld, (by (with_reducible repeat (first | apply Kd.qF | apply Kd.qE | apply Kd.qI)); exact HO_10.out), (by (with_reducible repeat (first | apply Kd.qF | apply Kd.qE | apply Kd.qI)); exact HO_19.out), (by (with_reducible repeat (first | apply Kd.qF | apply Kd.qE | apply Kd.qI)); exact HO_9.out), (by (with_reducible repeat (first | refine qB ?_ _ | refine qC ?_ | refine qA ?_ _)); exact BK471.out), (by (with_reducible repeat (first | refine qB ?_ _ | refine qC ?_ | refine qA ?_ _)); exact BK487.out), GW487.out, GE487.out, NB471_487.out, NB487_471.out, bl⟩)
             ·skip
              refine qAB ?hg (N := 13) ?hd (cs := #[.int .i64 0, .int .i64 0, .int .i64 0]) (t := 27) ?hr ?_; (case hd => rfl); (case hg => rfl); (case hr => first | (go_simp; done) | (go_simp; rfl))
              intro gb487 hg w69 hbox hb
              have HS0_ := (hb.cell (World.block_lt_of_cell? _ _ (hHeld.1))).trans (hHeld.1)
              have HS1_ := (hb.cell (World.block_lt_of_cell? _ _ (hHeld.2.1))).trans (hHeld.2.1)
              have HS2_ := (hb.cell (World.block_lt_of_cell? _ _ (hHeld.2.2))).trans (hHeld.2.2)
              have n0_ := Aside0.mk (Kd.qY (Kd.qYA (by (with_reducible repeat (first | apply Kd.qF | apply Kd.qE | apply Kd.qI)); exact HO_9.out) gb487 (Nat.le_of_eq hg.symm)) hb)
              have n1_ := Aside0.mk (Kd.qY (by (with_reducible repeat (first | apply Kd.qF | apply Kd.qE | apply Kd.qI)); exact HO_10.out) hb)
              have n2_ := Aside0.mk (Kd.qY (by (with_reducible repeat (first | apply Kd.qF | apply Kd.qE | apply Kd.qI)); exact HO_19.out) hb)
              have n3_ := Aside0.mk (bb BK471 hb)
              have n4_ := Aside0.mk (qG bl hb)
              have n5_ := Aside0.mk (hbox)
              have n6_ := Aside0.mk ((gg hg))
              have n7_ := Aside0.mk ((gg hg))
              have n8_ := Aside0.mk ((nl BK471 hg))
              have n9_ := Aside0.mk ((nr BK471 hg))
              clear HO_9
              clear HO_10
              clear HO_19
              clear BK471
              clear HB
              have HO_9 := n0_
              have HO_10 := n1_
              have HO_19 := n2_
              have BK471 := n3_
              have HB := n4_
              have BK487 := n5_
              have GW487 := n6_
              have GE487 := n7_
              have NB471_487 := n8_
              have NB487_471 := n9_
              clear n0_ n1_ n2_ n3_ n4_ n5_ n6_ n7_ n8_ n9_
              clear hb hbox hg
              refine hK.out _ _ ⟨HS0_, HS1_, HS2_⟩ (fun hHeld => ?_)
              clear hK K
              refine norm_ (a' := ?_) ?_ ?_
              rotate_left
              ·show Act.put _ (some 13) _ = _
               simp only [Act.put, List.setIfInBounds_toArray, List.set_cons_zero, List.set_cons_succ, i64_w, i32_w]
               rfl
              refine one_ (i := 7) (N := some 43) #[true, true, true, true, true, true, true, true, false, false, false, true, false, false] rfl rfl (qPA HT_.out (by kernel_rfl)) (by decide) (fun K hK => ?_)
              refine goes_ Tryd.func62 (by kernel_rfl) rfl #[.slice Ao66 t472.length co66, .agg #[.int .i64 ((qJ x9_2 x11_1).f0), .int .i64 ((qJ x9_2 x11_1).f1), .int .i64 ((qJ x9_2 x11_1).f2)], .int .u8 (bt (⟨#[110, 101, 115, 119]⟩ : ByteArray) x32_2)] (by rfl) rfl rfl (by (try simp only [List.map_toArray, List.map_cons, List.map_nil]); first | done | rfl | (simp only [List.length_drop, List.length_take]; rfl)) ?_
              with_reducible refine (qLA.calls k2 _ _ t472 ((qJ x9_2 x11_1).f0) ((qJ x9_2 x11_1).f1) ((qJ x9_2 x11_1).f2) (bt (⟨#[110, 101, 115, 119]⟩ : ByteArray) x32_2) t483 t484 t485 false _ ?side1 ?side2 A20.out).mono ?_
              (case side1 => repeat (first | exact (Kd.qf HO_19.out).2.2 | (with_reducible refine Kd.qHA ?_ _) | (with_reducible refine Kd.qGA ?_ _) | (with_reducible refine Kd.qNA ?_)))
              (case side2 => exact (Kd.qf HO_19.out).2.1)
              rintro e w70 ⟨rfl, hb⟩
              have HS0_ := (hb.cell (World.block_lt_of_cell? _ _ (hHeld.1))).trans (hHeld.1)
              have HS1_ := (hb.cell (World.block_lt_of_cell? _ _ (hHeld.2.1))).trans (hHeld.2.1)
              have HS2_ := (hb.cell (World.block_lt_of_cell? _ _ (hHeld.2.2))).trans (hHeld.2.2)
              refine ⟨_, rfl, ?_⟩
              have n0_ := Aside0.mk (Kd.qY (by (with_reducible repeat (first | apply Kd.qF | apply Kd.qE | apply Kd.qI)); exact HO_9.out) hb)
              have n1_ := Aside0.mk (Kd.qY (by (with_reducible repeat (first | apply Kd.qF | apply Kd.qE | apply Kd.qI)); exact HO_10.out) hb)
              have n2_ := Aside0.mk (Kd.qY (by (with_reducible repeat (first | apply Kd.qF | apply Kd.qE | apply Kd.qI)); exact HO_19.out) hb)
              have n3_ := Aside0.mk (bb BK471 hb)
              have n4_ := Aside0.mk (bb BK487 hb)
              have n5_ := Aside0.mk (qG bl hb)
              clear HO_9
              clear HO_10
              clear HO_19
              clear BK471
              clear BK487
              clear HB
              have HO_9 := n0_
              have HO_10 := n1_
              have HO_19 := n2_
              have BK471 := n3_
              have BK487 := n4_
              have HB := n5_
              clear n0_ n1_ n2_ n3_ n4_ n5_
              (try clear hb)
              (try clear hb2)
              (try clear hk)
              (try clear hi)
              refine hK.out _ _ ⟨HS0_, HS1_, HS2_⟩ (fun hHeld => ?_)
              clear hK K
              refine norm_ (a' := ?_) ?_ ?_
              rotate_left
              ·show Act.put _ (some 43) _ = _
               simp only [Act.put, List.setIfInBounds_toArray, List.set_cons_zero, List.set_cons_succ, i64_w, i32_w]
               rfl
              refine pS (i := 8) (N := some 35) #[true, true, true, true, true, true, true, true, true, false, false, true, false, false] HT_ ?_
              refine pS (i := 9) (N := some 44) #[true, true, true, true, true, true, true, true, true, true, false, true, false, false] HT_ ?_
              refine pS (i := 10) (N := some 45) #[true, true, true, true, true, true, true, true, true, true, true, true, false, false] HT_ ?_
              exact norm_ (by simp only [putAll, Act.put, List.setIfInBounds_toArray, List.set_cons_zero, List.set_cons_succ]) (hCont (gb487) _ ⟨hHeld, (by (with_reducible repeat (first | apply Kd.qF | apply Kd.qE | apply Kd.qI)); exact HO_10.out), (by (with_reducible repeat (first | apply Kd.qF | apply Kd.qE | apply Kd.qI)); exact HO_19.out), (by (with_reducible repeat (first | apply Kd.qF | apply Kd.qE | apply Kd.qI)); exact HO_9.out), (by (with_reducible repeat (first | refine qB ?_ _ | refine qC ?_ | refine qA ?_ _)); exact BK471.out), (by (with_reducible repeat (first | refine qB ?_ _ | refine qC ?_ | refine qA ?_ _)); exact BK487.out), GW487.out, GE487.out, NB471_487.out, NB487_471.out, bl⟩)
            rintro gb487 w71 ⟨hS_, h0_, h1_, h2_, h3_, h4_, h5_, h6_, h7_, h8_, h9_⟩
            have n0_ : Aside0 (Kd.R Kd.string 9 w71 w.heap.size (fun k_ => some k_ ≠ (.slice Ao66 t472.length co66 : Value).ownBlock) u10 x10_2) := ⟨h0_⟩
            have n1_ : Aside0 (Kd.R Kd.string 9 w71 w.heap.size (fun k_ => some k_ ≠ (u10 : Value).ownBlock) (.slice Ao66 t472.length co66) t472) := ⟨h1_⟩
            have n2_ : Aside0 (Kd.R k27 27 w71 w.heap.size (fun k_ => k_ ≠ gb471 ∧ k_ ≠ gb487) (.slice (some ad482) x9_2.length co68) x9_2) := ⟨h2_⟩
            have n3_ : Aside0 (w71.heap[gb471]? = some (.cells #[.int .i64 a1_0, .int .i64 a1_1, .int .i64 a1_2] 27 (0, 0))) := ⟨h3_⟩
            have n4_ : Aside0 (w71.heap[gb487]? = some (.cells #[.int .i64 0, .int .i64 0, .int .i64 0] 27 (0, 0))) := ⟨h4_⟩
            have n5_ : Aside0 (w.heap.size ≤ gb487) := ⟨h5_⟩
            have n6_ : Aside0 (w.heap.size ≤ gb487) := ⟨h6_⟩
            have n7_ : Aside0 (gb471 ≠ gb487) := ⟨h7_⟩
            have n8_ : Aside0 (gb487 ≠ gb471) := ⟨h8_⟩
            have n9_ : Aside0 (Below w.heap.size w w71) := ⟨h9_⟩
            clear HO_9
            clear HO_10
            clear HO_19
            clear BK471
            clear HB
            clear h0_ h1_ h2_ h3_ h4_ h5_ h6_ h7_ h8_ h9_
            have HO_10 := n0_
            have HO_19 := n1_
            have HO_9 := n2_
            have BK471 := n3_
            have BK487 := n4_
            have GW487 := n5_
            have GE487 := n6_
            have NB471_487 := n7_
            have NB487_471 := n8_
            have HB := n9_
            clear n0_ n1_ n2_ n3_ n4_ n5_ n6_ n7_ n8_ n9_
            have hHeld : w71.cell? (ad482.add ((x11_1).toNat * 3)) = some (.int .i64 ((qJ x9_2 x11_1).f0)) ∧ w71.cell? ⟨(ad482.add ((x11_1).toNat * 3)).block, (ad482.add ((x11_1).toNat * 3)).off + 1, none⟩ = some (.int .i64 ((qJ x9_2 x11_1).f1)) ∧ w71.cell? ⟨(ad482.add ((x11_1).toNat * 3)).block, (ad482.add ((x11_1).toNat * 3)).off + 2, none⟩ = some (.int .i64 ((qJ x9_2 x11_1).f2)) := hS_
            refine norm_ (a' := ?_) ?_ ?_
            rotate_left
            ·simp only [putAll, Act.put, List.setIfInBounds_toArray, List.set_cons_zero, List.set_cons_succ]
             rfl
            refine one_ (i := 12) (N := none) #[true, true, true, true, true, true, true, true, true, true, true, true, true, false] rfl rfl (qPA HT_.out (by kernel_rfl)) (by decide) (fun K hK => ?_)
            have hs72 : w71.cell? ⟨gb487, 0, none⟩ = some (.int .i64 0) := (qK BK487.out 0).trans rfl
            have hfs72 := qD BK487.out 0
            have hns72_0 := NB471_487.out
            have hms72_0 := NB487_471.out
            have hs73 : w71.cell? ⟨gb487, 1, none⟩ = some (.int .i64 0) := (qK BK487.out 1).trans rfl
            have hfs73 := qD BK487.out 1
            have hns73_0 := NB471_487.out
            have hms73_0 := NB487_471.out
            have hs74 : w71.cell? ⟨gb487, 2, none⟩ = some (.int .i64 0) := (qK BK487.out 2).trans rfl
            have hfs74 := qD BK487.out 2
            have hns74_0 := NB471_487.out
            have hms74_0 := NB487_471.out
            refine skip_ (w1 := ?_) (by rfl) rfl ?_ ?_
            rotate_left
            ·go_simp
             rfl
            refine hK.out _ _ ⟨((qQ (p := ⟨gb487, _, none⟩) (by first | exact Kd.qN (Kd.qT HO_9.out (fun _ hk => hk.2)) | (rw [qP]; exact Kd.qN (Kd.qT HO_9.out (fun _ hk => hk.2))) | (show (Addr.add _ _).block ≠ _; rw [qP]; exact Kd.qN (Kd.qT HO_9.out (fun _ hk => hk.2))) | (dsimp only; exact Kd.qN (Kd.qT HO_9.out (fun _ hk => hk.2)))) _).trans (((qQ (p := ⟨gb487, _, none⟩) (by first | exact Kd.qN (Kd.qT HO_9.out (fun _ hk => hk.2)) | (rw [qP]; exact Kd.qN (Kd.qT HO_9.out (fun _ hk => hk.2))) | (show (Addr.add _ _).block ≠ _; rw [qP]; exact Kd.qN (Kd.qT HO_9.out (fun _ hk => hk.2))) | (dsimp only; exact Kd.qN (Kd.qT HO_9.out (fun _ hk => hk.2)))) _).trans (((qQ (p := ⟨gb487, _, none⟩) (by first | exact Kd.qN (Kd.qT HO_9.out (fun _ hk => hk.2)) | (rw [qP]; exact Kd.qN (Kd.qT HO_9.out (fun _ hk => hk.2))) | (show (Addr.add _ _).block ≠ _; rw [qP]; exact Kd.qN (Kd.qT HO_9.out (fun _ hk => hk.2))) | (dsimp only; exact Kd.qN (Kd.qT HO_9.out (fun _ hk => hk.2)))) _).trans (hHeld.1)))))), ((qQ (p := ⟨gb487, _, none⟩) (by first | exact Kd.qN (Kd.qT HO_9.out (fun _ hk => hk.2)) | (rw [qP]; exact Kd.qN (Kd.qT HO_9.out (fun _ hk => hk.2))) | (show (Addr.add _ _).block ≠ _; rw [qP]; exact Kd.qN (Kd.qT HO_9.out (fun _ hk => hk.2))) | (dsimp only; exact Kd.qN (Kd.qT HO_9.out (fun _ hk => hk.2)))) _).trans (((qQ (p := ⟨gb487, _, none⟩) (by first | exact Kd.qN (Kd.qT HO_9.out (fun _ hk => hk.2)) | (rw [qP]; exact Kd.qN (Kd.qT HO_9.out (fun _ hk => hk.2))) | (show (Addr.add _ _).block ≠ _; rw [qP]; exact Kd.qN (Kd.qT HO_9.out (fun _ hk => hk.2))) | (dsimp only; exact Kd.qN (Kd.qT HO_9.out (fun _ hk => hk.2)))) _).trans (((qQ (p := ⟨gb487, _, none⟩) (by first | exact Kd.qN (Kd.qT HO_9.out (fun _ hk => hk.2)) | (rw [qP]; exact Kd.qN (Kd.qT HO_9.out (fun _ hk => hk.2))) | (show (Addr.add _ _).block ≠ _; rw [qP]; exact Kd.qN (Kd.qT HO_9.out (fun _ hk => hk.2))) | (dsimp only; exact Kd.qN (Kd.qT HO_9.out (fun _ hk => hk.2)))) _).trans (hHeld.2.1)))))), ((qQ (p := ⟨gb487, _, none⟩) (by first | exact Kd.qN (Kd.qT HO_9.out (fun _ hk => hk.2)) | (rw [qP]; exact Kd.qN (Kd.qT HO_9.out (fun _ hk => hk.2))) | (show (Addr.add _ _).block ≠ _; rw [qP]; exact Kd.qN (Kd.qT HO_9.out (fun _ hk => hk.2))) | (dsimp only; exact Kd.qN (Kd.qT HO_9.out (fun _ hk => hk.2)))) _).trans (((qQ (p := ⟨gb487, _, none⟩) (by first | exact Kd.qN (Kd.qT HO_9.out (fun _ hk => hk.2)) | (rw [qP]; exact Kd.qN (Kd.qT HO_9.out (fun _ hk => hk.2))) | (show (Addr.add _ _).block ≠ _; rw [qP]; exact Kd.qN (Kd.qT HO_9.out (fun _ hk => hk.2))) | (dsimp only; exact Kd.qN (Kd.qT HO_9.out (fun _ hk => hk.2)))) _).trans (((qQ (p := ⟨gb487, _, none⟩) (by first | exact Kd.qN (Kd.qT HO_9.out (fun _ hk => hk.2)) | (rw [qP]; exact Kd.qN (Kd.qT HO_9.out (fun _ hk => hk.2))) | (show (Addr.add _ _).block ≠ _; rw [qP]; exact Kd.qN (Kd.qT HO_9.out (fun _ hk => hk.2))) | (dsimp only; exact Kd.qN (Kd.qT HO_9.out (fun _ hk => hk.2)))) _).trans (hHeld.2.2))))))⟩ (fun hHeld => ?_)
            clear hK K
            refine pS (i := 13) (N := some 14) #[true, true, true, true, true, true, true, true, true, true, true, true, true, true] HT_ ?_
            refine done_ (qpA HT_.out (by kernel_rfl)) ?_
            try go_wp2
            go_roundg k2
            case measure => have := HK1.out; have := HK2.out; omega
            case rel => exact ⟨(x9_2), (x10_2), (wrap64 (x32_2 + 1)), (by first | rfl | (simp; done) | (simp [*]; done)), H', ⟨by have := HK1.out; have := HK2.out; omega⟩, ⟨by (with_reducible repeat (first | apply Kd.qF | apply Kd.qE | apply Kd.qI)); exact Kd.qh (Kd.R_far (p := ⟨gb487, 2, none⟩) (Kd.R_far (p := ⟨gb487, 1, none⟩) (Kd.R_far (p := ⟨gb487, 0, none⟩) (Kd.qh HO_9.out (fun k_ hk => (⟨hk, hk.2⟩ : _ ∧ k_ ≠ gb487))) (fun _ hk => hk.2) (.int .i64 t483)) (fun _ hk => hk.2) (.int .i64 t484)) (fun _ hk => hk.2) (.int .i64 t485)) (fun _ hk => hk.1.1)⟩, ⟨by (with_reducible repeat (first | apply Kd.qF | apply Kd.qE | apply Kd.qI)); exact Kd.qh (Kd.R_far (p := ⟨gb487, 2, none⟩) (Kd.R_far (p := ⟨gb487, 1, none⟩) (Kd.R_far (p := ⟨gb487, 0, none⟩) (Kd.qr HO_10.out BK487.out (by decide)) (fun _ hk => hk.2) (.int .i64 t483)) (fun _ hk => hk.2) (.int .i64 t484)) (fun _ hk => hk.2) (.int .i64 t485)) (fun _ hk => hk.1)⟩, ⟨by (with_reducible repeat (first | apply Kd.qF | apply Kd.qE | apply Kd.qI)); exact Kd.qh (Kd.R_far (p := ⟨gb487, 2, none⟩) (Kd.R_far (p := ⟨gb487, 1, none⟩) (Kd.R_far (p := ⟨gb487, 0, none⟩) (Kd.qr HO_19.out BK487.out (by decide)) (fun _ hk => hk.2) (.int .i64 t483)) (fun _ hk => hk.2) (.int .i64 t484)) (fun _ hk => hk.2) (.int .i64 t485)) (fun _ hk => hk.1)⟩, ⟨by (with_reducible repeat (first | refine qB ?_ _ | refine qC ?_ | refine qA ?_ _)); refine qH ?_ NB471_487.out _; (with_reducible repeat (first | refine qB ?_ _ | refine qC ?_ | refine qA ?_ _)); refine qH ?_ NB471_487.out _; (with_reducible repeat (first | refine qB ?_ _ | refine qC ?_ | refine qA ?_ _)); refine qH ?_ NB471_487.out _; (with_reducible repeat (first | refine qB ?_ _ | refine qC ?_ | refine qA ?_ _)); exact BK471.out⟩, ⟨bl⟩⟩
          ·rw [if_neg c18] at H
           exact absurd H (by simp)
         ·rw [if_neg c17] at H
          exact absurd H (by simp)
        ·rw [if_neg c16] at H
         exact absurd H (by simp)
       ·rw [if_neg c15] at H
        have c15b0 : decide (x32_2 < 4) = false := decide_eq_false c15
        clear c15
        have H' := Aside0.mk H
        clear H
        go_wp2
        go_roundg k2
        case measure => have := HK1.out; have := HK2.out; omega
        case rel => exact ⟨(x9_2), (x10_2), (wrap64 (x11_1 + 1)), (by first | rfl | (simp; done) | (simp [*]; done)), H', ⟨by have := HK1.out; have := HK2.out; omega⟩, ⟨by (with_reducible repeat (first | apply Kd.qF | apply Kd.qE | apply Kd.qI)); exact HO_9.out⟩, ⟨by (with_reducible repeat (first | apply Kd.qF | apply Kd.qE | apply Kd.qI)); exact HO_10.out⟩, ⟨by (with_reducible repeat (first | apply Kd.qF | apply Kd.qE | apply Kd.qI)); exact HO_19.out⟩, ⟨by (with_reducible repeat (first | refine qB ?_ _ | refine qC ?_ | refine qA ?_ _)); exact BK471.out⟩, ⟨bl⟩⟩
    ·rw [if_neg c13] at H
     have c13b0 : decide (x11_1 < (x9_1.length : Int)) = false := decide_eq_false c13
     clear c13
     simp only [Option.some.injEq, Prod.mk.injEq] at H
     obtain ⟨rfl, rfl, rfl⟩ := H
     obtain ⟨Ao75, co75, eo75⟩ := Kd.qt HO_9.out
     subst eo75
     go_wp2
     go_ret3
     exact ⟨_, _, by first | rfl | (simp [qM, qL] <;> rfl) | (simp [*, qM, qL] <;> rfl), by (with_reducible repeat (first | apply Kd.qF | apply Kd.qE | apply Kd.qI)); exact Kd.qh HO_9.out (fun _ hk => trivial), by (with_reducible repeat (first | apply Kd.qF | apply Kd.qE | apply Kd.qI)); exact Kd.qh HO_10.out (fun _ hk => trivial), bl⟩
 ·replace c4 := Bool.eq_false_iff.mpr c4
  subst c4
  have H1 : (some (([] : List (S27)), ([] : List ByteArray), false)) = some (r1, r2, r3) := by rw [if_neg (show ¬ (false = true) by decide)] at H; exact H
  clear H
  have H := H1
  clear H1
  simp only [Option.some.injEq, Prod.mk.injEq] at H
  obtain ⟨rfl, rfl, rfl⟩ := H
  go_enter Tryd.func66, Tryd.ntmps66
  go_wp2_with (first | ((with_reducible refine qV (N := 3) rfl ?_); refine qU ?hg (N := 3) ?hd (cs := #[.int .i64 a1_0, .int .i64 a1_1, .int .i64 a1_2]) (t := 27) ?hr ?_; (case hd => rfl); (case hg => rfl); (case hr => first | (go_simp; done) | (go_simp; rfl)); intro gb471 hg w76 hbox hb; have n0_ := Aside0.mk (qG bl hb); have n1_ := Aside0.mk (hbox); have n2_ := Aside0.mk ((gg hg)); have n3_ := Aside0.mk ((gg hg)); clear HB; have HB := n0_; have BK471 := n1_; have GW471 := n2_; have GE471 := n3_; clear n0_ n1_ n2_ n3_; clear hb hbox hg; have hcz77_0 := bc BK471 0; have hcz77_1 := bc BK471 1; have hcz77_2 := bc BK471 2; have hfz77_0 := qD BK471.out 0; have hfz77_1 := qD BK471.out 1; have hfz77_2 := qD BK471.out 2) | ((with_reducible refine qS (f := 58) rfl ?_); refine qq (some 18) rfl rfl Tryd.func58 (by kernel_rfl) rfl #[.string a0, .agg #[.int .i64 a1_0, .int .i64 a1_1, .int .i64 a1_2]] rfl (by (try simp only [List.map_toArray, List.map_cons, List.map_nil]); first | done | rfl | (simp only [List.length_drop, List.length_take]; rfl)) ?_; (with_reducible refine (qgA.calls k a0 a1_0 a1_1 a1_2 t472 false _ ?side1 A3.out).mono ?_); (case side1 => first | exact HLD.out | exact Laid.below HLD.out (by repeat (first | (with_reducible first | exact HB.out | apply qu | apply qv | apply qn | refine qcA ?_ (Aside0.out (by with_reducible assumption))) | exact HB.out))); rintro e w78 ⟨v473, rfl, ho0, hb⟩; refine ⟨_, rfl, ?_⟩; have n0_ := Aside0.mk (Kd.qBA ho0 (qg bl)); have n1_ := Aside0.mk (bb BK471 hb); have n2_ := Aside0.mk (qG bl hb); clear BK471; clear HB; have HO474 := n0_; have BK471 := n1_; have HB := n2_; clear n0_ n1_ n2_; (try clear hb); (try clear hb2); (try clear hk); (try clear hi); (try clear ho0)))
  go_ret3
  exact ⟨_, _, by first | rfl | (simp [qM, qL] <;> rfl) | (simp [*, qM, qL] <;> rfl), by first | exact Kd.R_nil _ _ _ _ _ | exact Kd.N_nil _ _ _ _ _ | exact Kd.V_nil _ _ _ _ _ | exact Kd.Q_nil _ _ _ _ _ | exact Kd.S_nil _ _ _ _ _, by first | exact Kd.R_nil _ _ _ _ _ | exact Kd.N_nil _ _ _ _ _ | exact Kd.V_nil _ _ _ _ _ | exact Kd.Q_nil _ _ _ _ _ | exact Kd.S_nil _ _ _ _ _, bl⟩
def qAA.f (a0 : Int) : Option (Bool) := some (a0 != a0)
set_option maxHeartbeats 8000000 in
set_option maxRecDepth 100000 in
theorem qAA.calls (a0 : Int) (r : Bool) (w : World) (h : qAA.f a0 = some r) :
  Calls Tryd.prog 140 #[.int .i64 a0] w fun e w' => e = .returned (.bool r) ∧ Drawn0 w w' := by
 have H : (some (a0 != a0)) = some r := h
 clear h
 obtain rfl := Option.some.inj H
 go_enter Tryd.func140, Tryd.ntmps140
 go_wp2
 go_ret
 exact ⟨by first | rfl | (simp; done) | (simp [*]; done), by repeat (first | exact Drawn0.refl _ | apply Drawn0.step)⟩
def qbA.f (a0 : Int) (a1 : Int) : Option (Int) := (qAA.f a0).bind fun t783 => ((qAA.f a1).bind fun t784 => (if t783 = true then (if t784 = true then (some 0) else (some (-1))) else (if t784 = true then (some 1) else (if a0 < a1 then (some (-1)) else (if a0 > a1 then (some 1) else (some 0))))))
set_option maxHeartbeats 8000000 in
set_option maxRecDepth 100000 in
theorem qbA.calls (a0 : Int) (a1 : Int) (r : Int) (w : World) (h : qbA.f a0 a1 = some r) :
  Calls Tryd.prog 111 #[.int .i64 a0, .int .i64 a1] w fun e w' => e = .returned (.int .i64 r) ∧ Drawn0 w w' := by
 have H : ((qAA.f a0).bind fun t783 => ((qAA.f a1).bind fun t784 => (if t783 = true then (if t784 = true then (some 0) else (some (-1))) else (if t784 = true then (some 1) else (if a0 < a1 then (some (-1)) else (if a0 > a1 then (some 1) else (some 0))))))) = some r := h
 clear h
 replace H := Option.bind_eq_some_iff.mp H
 obtain ⟨t783, A30, H⟩ := H
 replace H : ((qAA.f a1).bind fun t784 => (if t783 = true then (if t784 = true then (some 0) else (some (-1))) else (if t784 = true then (some 1) else (if a0 < a1 then (some (-1)) else (if a0 > a1 then (some 1) else (some 0)))))) = some r := H
 have A3 := Aside0.mk A30
 clear A30
 replace H := Option.bind_eq_some_iff.mp H
 obtain ⟨t784, A40, H⟩ := H
 replace H : (if t783 = true then (if t784 = true then (some 0) else (some (-1))) else (if t784 = true then (some 1) else (if a0 < a1 then (some (-1)) else (if a0 > a1 then (some 1) else (some 0))))) = some r := H
 have A4 := Aside0.mk A40
 clear A40
 by_cases c5 : t783 = true
 ·subst c5
  have H1 : (if t784 = true then (some 0) else (some (-1))) = some r := by rw [if_pos rfl] at H; exact H
  clear H
  have H := H1
  clear H1
  by_cases c6 : t784 = true
  ·subst c6
   have H1 : (some 0) = some r := by rw [if_pos rfl] at H; exact H
   clear H
   have H := H1
   clear H1
   obtain rfl := Option.some.inj H
   go_enter Tryd.func111, Tryd.ntmps111
   go_wp2_with (first | ((with_reducible refine qS (f := 140) rfl ?_); refine qq (some 8) rfl rfl Tryd.func140 (by kernel_rfl) rfl #[.int .i64 a0] rfl (by (try simp only [List.map_toArray, List.map_cons, List.map_nil]); first | done | rfl | (simp only [List.length_drop, List.length_take]; rfl)) ?_; (with_reducible refine (qAA.calls a0 true _ A3.out).mono ?_); rintro e w' ⟨rfl, ⟨nd, rfl⟩⟩; refine ⟨_, rfl, ?_⟩) | ((with_reducible refine qS (f := 140) rfl ?_); refine qq (some 10) rfl rfl Tryd.func140 (by kernel_rfl) rfl #[.int .i64 a1] rfl (by (try simp only [List.map_toArray, List.map_cons, List.map_nil]); first | done | rfl | (simp only [List.length_drop, List.length_take]; rfl)) ?_; (with_reducible refine (qAA.calls a1 true _ A4.out).mono ?_); rintro e w' ⟨rfl, ⟨nd, rfl⟩⟩; refine ⟨_, rfl, ?_⟩))
   go_ret
   exact ⟨by first | rfl | (simp; done) | (simp [*]; done), by repeat (first | exact Drawn0.refl _ | apply Drawn0.step)⟩
  ·replace c6 := Bool.eq_false_iff.mpr c6
   subst c6
   have H1 : (some (-1)) = some r := by rw [if_neg (show ¬ (false = true) by decide)] at H; exact H
   clear H
   have H := H1
   clear H1
   obtain rfl := Option.some.inj H
   go_enter Tryd.func111, Tryd.ntmps111
   go_wp2_with (first | ((with_reducible refine qS (f := 140) rfl ?_); refine qq (some 8) rfl rfl Tryd.func140 (by kernel_rfl) rfl #[.int .i64 a0] rfl (by (try simp only [List.map_toArray, List.map_cons, List.map_nil]); first | done | rfl | (simp only [List.length_drop, List.length_take]; rfl)) ?_; (with_reducible refine (qAA.calls a0 true _ A3.out).mono ?_); rintro e w' ⟨rfl, ⟨nd, rfl⟩⟩; refine ⟨_, rfl, ?_⟩) | ((with_reducible refine qS (f := 140) rfl ?_); refine qq (some 10) rfl rfl Tryd.func140 (by kernel_rfl) rfl #[.int .i64 a1] rfl (by (try simp only [List.map_toArray, List.map_cons, List.map_nil]); first | done | rfl | (simp only [List.length_drop, List.length_take]; rfl)) ?_; (with_reducible refine (qAA.calls a1 false _ A4.out).mono ?_); rintro e w' ⟨rfl, ⟨nd, rfl⟩⟩; refine ⟨_, rfl, ?_⟩))
   go_ret
   exact ⟨by first | rfl | (simp; done) | (simp [*]; done), by repeat (first | exact Drawn0.refl _ | apply Drawn0.step)⟩
 ·replace c5 := Bool.eq_false_iff.mpr c5
  subst c5
  have H1 : (if t784 = true then (some 1) else (if a0 < a1 then (some (-1)) else (if a0 > a1 then (some 1) else (some 0)))) = some r := by rw [if_neg (show ¬ (false = true) by decide)] at H; exact H
  clear H
  have H := H1
  clear H1
  by_cases c7 : t784 = true
  ·subst c7
   have H1 : (some 1) = some r := by rw [if_pos rfl] at H; exact H
   clear H
   have H := H1
   clear H1
   obtain rfl := Option.some.inj H
   go_enter Tryd.func111, Tryd.ntmps111
   go_wp2_with (first | ((with_reducible refine qS (f := 140) rfl ?_); refine qq (some 8) rfl rfl Tryd.func140 (by kernel_rfl) rfl #[.int .i64 a0] rfl (by (try simp only [List.map_toArray, List.map_cons, List.map_nil]); first | done | rfl | (simp only [List.length_drop, List.length_take]; rfl)) ?_; (with_reducible refine (qAA.calls a0 false _ A3.out).mono ?_); rintro e w' ⟨rfl, ⟨nd, rfl⟩⟩; refine ⟨_, rfl, ?_⟩) | ((with_reducible refine qS (f := 140) rfl ?_); refine qq (some 10) rfl rfl Tryd.func140 (by kernel_rfl) rfl #[.int .i64 a1] rfl (by (try simp only [List.map_toArray, List.map_cons, List.map_nil]); first | done | rfl | (simp only [List.length_drop, List.length_take]; rfl)) ?_; (with_reducible refine (qAA.calls a1 true _ A4.out).mono ?_); rintro e w' ⟨rfl, ⟨nd, rfl⟩⟩; refine ⟨_, rfl, ?_⟩))
   go_ret
   exact ⟨by first | rfl | (simp; done) | (simp [*]; done), by repeat (first | exact Drawn0.refl _ | apply Drawn0.step)⟩
  ·replace c7 := Bool.eq_false_iff.mpr c7
   subst c7
   have H1 : (if a0 < a1 then (some (-1)) else (if a0 > a1 then (some 1) else (some 0))) = some r := by rw [if_neg (show ¬ (false = true) by decide)] at H; exact H
   clear H
   have H := H1
   clear H1
   by_cases c8 : a0 < a1
   ·rw [if_pos c8] at H
    have c8b0 : decide (a0 < a1) = true := decide_eq_true c8
    clear c8
    obtain rfl := Option.some.inj H
    go_enter Tryd.func111, Tryd.ntmps111
    go_wp2_with (first | ((with_reducible refine qS (f := 140) rfl ?_); refine qq (some 8) rfl rfl Tryd.func140 (by kernel_rfl) rfl #[.int .i64 a0] rfl (by (try simp only [List.map_toArray, List.map_cons, List.map_nil]); first | done | rfl | (simp only [List.length_drop, List.length_take]; rfl)) ?_; (with_reducible refine (qAA.calls a0 false _ A3.out).mono ?_); rintro e w' ⟨rfl, ⟨nd, rfl⟩⟩; refine ⟨_, rfl, ?_⟩) | ((with_reducible refine qS (f := 140) rfl ?_); refine qq (some 10) rfl rfl Tryd.func140 (by kernel_rfl) rfl #[.int .i64 a1] rfl (by (try simp only [List.map_toArray, List.map_cons, List.map_nil]); first | done | rfl | (simp only [List.length_drop, List.length_take]; rfl)) ?_; (with_reducible refine (qAA.calls a1 false _ A4.out).mono ?_); rintro e w' ⟨rfl, ⟨nd, rfl⟩⟩; refine ⟨_, rfl, ?_⟩))
    go_ret
    exact ⟨by first | rfl | (simp; done) | (simp [*]; done), by repeat (first | exact Drawn0.refl _ | apply Drawn0.step)⟩
   ·rw [if_neg c8] at H
    have c8b0 : decide (a0 < a1) = false := decide_eq_false c8
    clear c8
    by_cases c9 : a0 > a1
    ·rw [if_pos c9] at H
     have c9b0 : decide (a1 < a0) = true := decide_eq_true c9
     clear c9
     obtain rfl := Option.some.inj H
     go_enter Tryd.func111, Tryd.ntmps111
     go_wp2_with (first | ((with_reducible refine qS (f := 140) rfl ?_); refine qq (some 8) rfl rfl Tryd.func140 (by kernel_rfl) rfl #[.int .i64 a0] rfl (by (try simp only [List.map_toArray, List.map_cons, List.map_nil]); first | done | rfl | (simp only [List.length_drop, List.length_take]; rfl)) ?_; (with_reducible refine (qAA.calls a0 false _ A3.out).mono ?_); rintro e w' ⟨rfl, ⟨nd, rfl⟩⟩; refine ⟨_, rfl, ?_⟩) | ((with_reducible refine qS (f := 140) rfl ?_); refine qq (some 10) rfl rfl Tryd.func140 (by kernel_rfl) rfl #[.int .i64 a1] rfl (by (try simp only [List.map_toArray, List.map_cons, List.map_nil]); first | done | rfl | (simp only [List.length_drop, List.length_take]; rfl)) ?_; (with_reducible refine (qAA.calls a1 false _ A4.out).mono ?_); rintro e w' ⟨rfl, ⟨nd, rfl⟩⟩; refine ⟨_, rfl, ?_⟩))
     go_ret
     exact ⟨by first | rfl | (simp; done) | (simp [*]; done), by repeat (first | exact Drawn0.refl _ | apply Drawn0.step)⟩
    ·rw [if_neg c9] at H
     have c9b0 : decide (a1 < a0) = false := decide_eq_false c9
     clear c9
     obtain rfl := Option.some.inj H
     go_enter Tryd.func111, Tryd.ntmps111
     go_wp2_with (first | ((with_reducible refine qS (f := 140) rfl ?_); refine qq (some 8) rfl rfl Tryd.func140 (by kernel_rfl) rfl #[.int .i64 a0] rfl (by (try simp only [List.map_toArray, List.map_cons, List.map_nil]); first | done | rfl | (simp only [List.length_drop, List.length_take]; rfl)) ?_; (with_reducible refine (qAA.calls a0 false _ A3.out).mono ?_); rintro e w' ⟨rfl, ⟨nd, rfl⟩⟩; refine ⟨_, rfl, ?_⟩) | ((with_reducible refine qS (f := 140) rfl ?_); refine qq (some 10) rfl rfl Tryd.func140 (by kernel_rfl) rfl #[.int .i64 a1] rfl (by (try simp only [List.map_toArray, List.map_cons, List.map_nil]); first | done | rfl | (simp only [List.length_drop, List.length_take]; rfl)) ?_; (with_reducible refine (qAA.calls a1 false _ A4.out).mono ?_); rintro e w' ⟨rfl, ⟨nd, rfl⟩⟩; refine ⟨_, rfl, ?_⟩))
     go_ret
     exact ⟨by first | rfl | (simp; done) | (simp [*]; done), by repeat (first | exact Drawn0.refl _ | apply Drawn0.step)⟩
def qi.l0 : Nat → List Int → List Int → List Int → Int → Int → Option (Int)
 | 0, _, _, _, _, _ => none
 | k + 1, x0, x1, x9, x10, x11 => if x11 < x10 then (if 0 ≤ x11 then (if x11 < (x9.length : Int) then (if x11 ≥ (x1.length : Int) then (some 1) else (if x11 < (x1.length : Int) then ((qbA.f (rd x9 x11) (rd x1 x11)).bind fun t787 => (if t787 = 0 then (qi.l0 k x0 x1 x9 x10 (wrap64 (x11 + 1))) else (some t787))) else (none))) else (none)) else (none)) else (if (x0.length : Int) < (x1.length : Int) then (some (-1)) else (some 0))
def qi.f (k : Nat) (l0 : List Int) (l1 : List Int) : Option (Int) := qi.l0 k l0 l1 l0 (l0.length : Int) 0
set_option maxHeartbeats 8000000 in
set_option maxRecDepth 100000 in
theorem qi.calls (k : Nat) (A0 : Option Addr) (c0 : Nat) (l0 : List Int) (A1 : Option Addr) (c1 : Nat) (l1 : List Int) (r : Int) (w : World) (hr0 : Kd.C (Kd.int .i64) w A0 l0.length l0) (hc0 : l0.length ≤ c0) (hr1 : Kd.C (Kd.int .i64) w A1 l1.length l1) (hc1 : l1.length ≤ c1) (h : qi.f k l0 l1 = some r) :
  Calls Tryd.prog 97 #[.slice A0 l0.length c0, .slice A1 l1.length c1] w fun e w' => e = .returned (.int .i64 r) ∧ Drawn0 w w' := by
 have HR0 := Aside0.mk hr0
 have HC0 := Aside0.mk hc0
 clear hr0 hc0
 have HR1 := Aside0.mk hr1
 have HC1 := Aside0.mk hc1
 clear hr1 hc1
 have H : (qi.l0 k l0 l1 l0 (l0.length : Int) 0) = some r := h
 clear h
 have H' := Aside0.mk H
 clear H
 go_enter Tryd.func97, Tryd.ntmps97
 go_wp2
 go_loopg [11] k (fun kq v11 w' => ∃ (x11_1 : Int), v11 = .int .i64 x11_1 ∧ Aside0 (qi.l0 kq l0 l1 l0 (l0.length : Int) x11_1 = some r) ∧ Aside0 (kq ≤ k) ∧ Drawn0 w w')
 case atStart => exact ⟨(0), (by first | rfl | (simp; done) | (simp [*]; done)), H', ⟨Nat.le_refl _⟩, by repeat (first | exact Drawn0.refl _ | apply Drawn0.step)⟩
 case round =>
  clear H'
  try clear c1
  try clear p2
  obtain ⟨x11_1, rfl, HA, HK1, ⟨m1, rfl⟩⟩ := hrel
  cases gk with
  | zero => exact absurd HA.out (by simp [qi.l0])
  | succ k1 =>
   have H := HA.out
   clear HA
   simp only [qi.l0] at H
   by_cases c3 : x11_1 < (l0.length : Int)
   ·rw [if_pos c3] at H
    have c3b0 : decide (x11_1 < (l0.length : Int)) = true := decide_eq_true c3
    clear c3
    by_cases c4 : 0 ≤ x11_1
    ·rw [if_pos c4] at H
     have c4b0 : decide (0 ≤ x11_1) = true := decide_eq_true c4
     clear c4
     by_cases c5 : x11_1 < (l0.length : Int)
     ·rw [if_pos c5] at H
      have c5b0 : decide (x11_1 < (l0.length : Int)) = true := decide_eq_true c5
      clear c5
      by_cases c6 : x11_1 ≥ (l1.length : Int)
      ·rw [if_pos c6] at H
       have c6b0 : decide ((l1.length : Int) ≤ x11_1) = true := decide_eq_true c6
       clear c6
       obtain rfl := Option.some.inj H
       have p785 : 0 ≤ (x11_1 : Int) := of_decide_eq_true (by first | (with_reducible assumption) | assumption)
       have q785 : x11_1 < (l0.length : Int) := of_decide_eq_true (by first | (with_reducible assumption) | assumption)
       obtain ⟨ad785, e785, hx785_0⟩ := Kd.qvA HR0.out x11_1 p785 q785
       cases e785
       replace p785 := eq_true p785
       replace q785 := eq_true q785
       go_wp2
       go_ret
       exact ⟨by first | rfl | (simp; done) | (simp [*]; done), by repeat (first | exact Drawn0.refl _ | apply Drawn0.step)⟩
      ·rw [if_neg c6] at H
       have c6b0 : decide ((l1.length : Int) ≤ x11_1) = false := decide_eq_false c6
       clear c6
       by_cases c7 : x11_1 < (l1.length : Int)
       ·rw [if_pos c7] at H
        have c7b0 : decide (x11_1 < (l1.length : Int)) = true := decide_eq_true c7
        clear c7
        replace H := Option.bind_eq_some_iff.mp H
        obtain ⟨t787, A80, H⟩ := H
        replace H : (if t787 = 0 then (qi.l0 k1 l0 l1 l0 (l0.length : Int) (wrap64 (x11_1 + 1))) else (some t787)) = some r := H
        have A8 := Aside0.mk A80
        clear A80
        by_cases c9 : t787 = 0
        ·rw [if_pos c9] at H
         have c9b0 : (t787 == 0) = true := beq_iff_eq.mpr c9
         have c9b1 : (t787 != 0) = false := bne_eq_false_iff_eq.mpr c9
         clear c9
         have H' := Aside0.mk H
         clear H
         have p785 : 0 ≤ (x11_1 : Int) := of_decide_eq_true (by first | (with_reducible assumption) | assumption)
         have q785 : x11_1 < (l0.length : Int) := of_decide_eq_true (by first | (with_reducible assumption) | assumption)
         obtain ⟨ad785, e785, hx785_0⟩ := Kd.qvA HR0.out x11_1 p785 q785
         cases e785
         replace p785 := eq_true p785
         replace q785 := eq_true q785
         have p786 : 0 ≤ (x11_1 : Int) := of_decide_eq_true (by first | (with_reducible assumption) | assumption)
         have q786 : x11_1 < (l1.length : Int) := of_decide_eq_true (by first | (with_reducible assumption) | assumption)
         obtain ⟨ad786, e786, hx786_0⟩ := Kd.qvA HR1.out x11_1 p786 q786
         cases e786
         replace p786 := eq_true p786
         replace q786 := eq_true q786
         go_wp2_with (first | ((with_reducible refine qS (f := 111) rfl ?_); refine qq (some 26) rfl rfl Tryd.func111 (by kernel_rfl) rfl #[.int .i64 (rd l0 x11_1), .int .i64 (rd l1 x11_1)] rfl (by (try simp only [List.map_toArray, List.map_cons, List.map_nil]); first | done | rfl | (simp only [List.length_drop, List.length_take]; rfl)) ?_; (with_reducible refine (qbA.calls (rd l0 x11_1) (rd l1 x11_1) t787 _ A8.out).mono ?_); rintro e w' ⟨rfl, ⟨nd, rfl⟩⟩; refine ⟨_, rfl, ?_⟩))
         go_roundg k1
         case measure => have := HK1.out; omega
         case rel => exact ⟨(wrap64 (x11_1 + 1)), (by first | rfl | (simp; done) | (simp [*]; done)), H', ⟨by have := HK1.out; omega⟩, by repeat (first | exact Drawn0.refl _ | apply Drawn0.step)⟩
        ·rw [if_neg c9] at H
         have c9b0 : (t787 == 0) = false := beq_eq_false_iff_ne.mpr c9
         have c9b1 : (t787 != 0) = true := bne_iff_ne.mpr c9
         obtain rfl := Option.some.inj H
         have p785 : 0 ≤ (x11_1 : Int) := of_decide_eq_true (by first | (with_reducible assumption) | assumption)
         have q785 : x11_1 < (l0.length : Int) := of_decide_eq_true (by first | (with_reducible assumption) | assumption)
         obtain ⟨ad785, e785, hx785_0⟩ := Kd.qvA HR0.out x11_1 p785 q785
         cases e785
         replace p785 := eq_true p785
         replace q785 := eq_true q785
         have p786 : 0 ≤ (x11_1 : Int) := of_decide_eq_true (by first | (with_reducible assumption) | assumption)
         have q786 : x11_1 < (l1.length : Int) := of_decide_eq_true (by first | (with_reducible assumption) | assumption)
         obtain ⟨ad786, e786, hx786_0⟩ := Kd.qvA HR1.out x11_1 p786 q786
         cases e786
         replace p786 := eq_true p786
         replace q786 := eq_true q786
         go_wp2_with (first | ((with_reducible refine qS (f := 111) rfl ?_); refine qq (some 26) rfl rfl Tryd.func111 (by kernel_rfl) rfl #[.int .i64 (rd l0 x11_1), .int .i64 (rd l1 x11_1)] rfl (by (try simp only [List.map_toArray, List.map_cons, List.map_nil]); first | done | rfl | (simp only [List.length_drop, List.length_take]; rfl)) ?_; (with_reducible refine (qbA.calls (rd l0 x11_1) (rd l1 x11_1) t787 _ A8.out).mono ?_); rintro e w' ⟨rfl, ⟨nd, rfl⟩⟩; refine ⟨_, rfl, ?_⟩))
         go_ret
         exact ⟨by first | rfl | (simp; done) | (simp [*]; done), by repeat (first | exact Drawn0.refl _ | apply Drawn0.step)⟩
       ·rw [if_neg c7] at H
        exact absurd H (by simp)
     ·rw [if_neg c5] at H
      exact absurd H (by simp)
    ·rw [if_neg c4] at H
     exact absurd H (by simp)
   ·rw [if_neg c3] at H
    have c3b0 : decide (x11_1 < (l0.length : Int)) = false := decide_eq_false c3
    clear c3
    by_cases c10 : (l0.length : Int) < (l1.length : Int)
    ·rw [if_pos c10] at H
     have c10b0 : decide ((l0.length : Int) < (l1.length : Int)) = true := decide_eq_true c10
     have c10b1 : decide (l0.length < l1.length) = true := decide_eq_true (Int.ofNat_lt.mp c10)
     clear c10
     obtain rfl := Option.some.inj H
     go_wp2
     go_ret
     exact ⟨by first | rfl | (simp; done) | (simp [*]; done), by repeat (first | exact Drawn0.refl _ | apply Drawn0.step)⟩
    ·rw [if_neg c10] at H
     have c10b0 : decide ((l0.length : Int) < (l1.length : Int)) = false := decide_eq_false c10
     have c10b1 : decide (l0.length < l1.length) = false := decide_eq_false (fun h => c10 (Int.ofNat_lt.mpr h))
     clear c10
     obtain rfl := Option.some.inj H
     go_wp2
     go_ret
     exact ⟨by first | rfl | (simp; done) | (simp [*]; done), by repeat (first | exact Drawn0.refl _ | apply Drawn0.step)⟩
def qiA.f (k : Nat) (a0_0 : Int) (a0_1 : Int) (a0_2 : Int) (a1_0 : Int) (a1_1 : Int) (a1_2 : Int) : Option (Int) := (qi.f k (([a0_1, a0_0, a0_2] : List Int)) (([a1_1, a1_0, a1_2] : List Int))).bind fun t796 => (some t796)
set_option maxHeartbeats 8000000 in
set_option maxRecDepth 100000 in
theorem qiA.calls (k : Nat) (a0_0 : Int) (a0_1 : Int) (a0_2 : Int) (a1_0 : Int) (a1_1 : Int) (a1_2 : Int) (r : Int) (w : World) (h : qiA.f k a0_0 a0_1 a0_2 a1_0 a1_1 a1_2 = some r) :
  Calls Tryd.prog 74 #[.agg #[.int .i64 a0_0, .int .i64 a0_1, .int .i64 a0_2], .agg #[.int .i64 a1_0, .int .i64 a1_1, .int .i64 a1_2]] w fun e w' => e = .returned (.int .i64 r) ∧ Below w.heap.size w w' := by
 have hu27 := Tryd.underlying27
 have HB := Aside0.mk (Below.refl w.heap.size w)
 have H : ((qi.f k (([a0_1, a0_0, a0_2] : List Int)) (([a1_1, a1_0, a1_2] : List Int))).bind fun t796 => (some t796)) = some r := h
 clear h
 obtain ⟨y790, hy790⟩ : ∃ y_ : List Int, y_ = (([a0_1, a0_0, a0_2] : List Int)) := ⟨_, rfl⟩
 replace H : ((qi.f k y790 (([a1_1, a1_0, a1_2] : List Int))).bind fun t796 => (some t796)) = some r := by first | (rw [hy790]; with_reducible exact H) | (have H2_ := (Option.bind_some _ _).symm.trans H; rw [hy790]; with_reducible exact H2_) | (have H2_ := (Option.bind_some _ _).symm.trans H; with_reducible exact H2_) | with_reducible exact H | (rw [hy790]; exact H) | exact H
 have Ny790 := Aside0.mk hy790
 clear hy790
 obtain ⟨y793, hy793⟩ : ∃ y_ : List Int, y_ = (([a1_1, a1_0, a1_2] : List Int)) := ⟨_, rfl⟩
 replace H : ((qi.f k y790 y793).bind fun t796 => (some t796)) = some r := by first | (rw [hy793]; with_reducible exact H) | (have H2_ := (Option.bind_some _ _).symm.trans H; rw [hy793]; with_reducible exact H2_) | (have H2_ := (Option.bind_some _ _).symm.trans H; with_reducible exact H2_) | with_reducible exact H | (rw [hy793]; exact H) | exact H
 have Ny793 := Aside0.mk hy793
 clear hy793
 replace H := Option.bind_eq_some_iff.mp H
 obtain ⟨t796, A30, H⟩ := H
 replace H : (some t796) = some r := H
 have A3 := Aside0.mk A30
 clear A30
 obtain rfl := Option.some.inj H
 go_enter Tryd.func74, Tryd.ntmps74
 go_wp2_with (first | ((with_reducible refine qV (N := 2) rfl ?_); refine qU ?hg (N := 2) ?hd (cs := #[.int .i64 a0_0, .int .i64 a0_1, .int .i64 a0_2]) (t := 27) ?hr ?_; (case hd => rfl); (case hg => rfl); (case hr => first | (go_simp; done) | (go_simp; rfl)); intro gb788 hg w4 hbox hb; have n0_ := Aside0.mk (qG bl hb); have n1_ := Aside0.mk (hbox); have n2_ := Aside0.mk ((gg hg)); have n3_ := Aside0.mk ((gg hg)); clear HB; have HB := n0_; have BK788 := n1_; have GW788 := n2_; have GE788 := n3_; clear n0_ n1_ n2_ n3_; clear hb hbox hg) | ((with_reducible refine qV (N := 3) rfl ?_); refine qU ?hg (N := 3) ?hd (cs := #[.int .i64 a1_0, .int .i64 a1_1, .int .i64 a1_2]) (t := 27) ?hr ?_; (case hd => rfl); (case hg => rfl); (case hr => first | (go_simp; done) | (go_simp; rfl)); intro gb789 hg w5 hbox hb; have n0_ := Aside0.mk (bb BK788 hb); have n1_ := Aside0.mk (qG bl hb); have n2_ := Aside0.mk (hbox); have n3_ := Aside0.mk ((gg hg)); have n4_ := Aside0.mk ((gg hg)); have n5_ := Aside0.mk ((nl BK788 hg)); have n6_ := Aside0.mk ((nr BK788 hg)); clear BK788; clear HB; have BK788 := n0_; have HB := n1_; have BK789 := n2_; have GW789 := n3_; have GE789 := n4_; have NB788_789 := n5_; have NB789_788 := n6_; clear n0_ n1_ n2_ n3_ n4_ n5_ n6_; clear hb hbox hg; have hnb6 := NB788_789.out; have hnc6 := NB789_788.out; have hcz7_0 := bc BK788 0; have hcz7_1 := bc BK788 1; have hcz7_2 := bc BK788 2; have hfz7_0 := qD BK788.out 0; have hfz7_1 := qD BK788.out 1; have hfz7_2 := qD BK788.out 2) | ((with_reducible refine qV (N := 11) rfl ?_); refine Kd.R_lit (Kd.int .i64) _ 3 ?hg (N := 11) ?hd (xs := ([a0_1, a0_0, a0_2] : List Int)) (inner := [.int .i64 a0_1, .int .i64 a0_0, .int .i64 a0_2]) (ok := fun _ => True) (okp := fun _ => True) ?hr ?hp (fun _ hk => hk) trivial (Below.refl _ _) (Nat.le_refl _) (by simp) ?_; (case hd => rfl); (case hg => rfl); (case hr => first | (go_simp; done) | (go_simp; rfl)); (case hp => exact (Reps.one (show Kd.M (Kd.int .i64) _ _ _ a0_1 [.int .i64 a0_1] from rfl) (Reps.one (show Kd.M (Kd.int .i64) _ _ _ a0_0 [.int .i64 a0_0] from rfl) (Reps.one (show Kd.M (Kd.int .i64) _ _ _ a0_2 [.int .i64 a0_2] from rfl) (Reps.none _ _))))); intro v791 w8 ho9 hb hg_ hnew_; clear hg_ hnew_; (first | rw [← Ny790.out] at ho9 | (simp only [Int.reduceToNat] at ho9; rw [← Ny790.out] at ho9)); have n0_ := Aside0.mk (Kd.qBA ho9 (qg bl)); have n1_ := Aside0.mk (bb BK788 hb); have n2_ := Aside0.mk (bb BK789 hb); have n3_ := Aside0.mk (qG bl hb); clear BK788; clear BK789; clear HB; have HO792 := n0_; have BK788 := n1_; have BK789 := n2_; have HB := n3_; clear n0_ n1_ n2_ n3_; clear hb ho9; have hcz10_0 := bc BK789 0; have hcz10_1 := bc BK789 1; have hcz10_2 := bc BK789 2; have hfz10_0 := qD BK789.out 0; have hfz10_1 := qD BK789.out 1; have hfz10_2 := qD BK789.out 2) | ((with_reducible refine qV (N := 18) rfl ?_); refine Kd.R_lit (Kd.int .i64) _ 3 ?hg (N := 18) ?hd (xs := ([a1_1, a1_0, a1_2] : List Int)) (inner := [.int .i64 a1_1, .int .i64 a1_0, .int .i64 a1_2]) (ok := fun _ => True) (okp := fun _ => True) ?hr ?hp (fun _ hk => hk) trivial (Below.refl _ _) (Nat.le_refl _) (by simp) ?_; (case hd => rfl); (case hg => rfl); (case hr => first | (go_simp; done) | (go_simp; rfl)); (case hp => exact (Reps.one (show Kd.M (Kd.int .i64) _ _ _ a1_1 [.int .i64 a1_1] from rfl) (Reps.one (show Kd.M (Kd.int .i64) _ _ _ a1_0 [.int .i64 a1_0] from rfl) (Reps.one (show Kd.M (Kd.int .i64) _ _ _ a1_2 [.int .i64 a1_2] from rfl) (Reps.none _ _))))); intro v794 w11 ho12 hb hg_ hnew_; clear hg_ hnew_; (first | rw [← Ny793.out] at ho12 | (simp only [Int.reduceToNat] at ho12; rw [← Ny793.out] at ho12)); have n0_ := Aside0.mk (Kd.qqA (by (with_reducible repeat (first | apply Kd.qF | apply Kd.qE | apply Kd.qI)); exact HO792.out) (Kd.qPB ho12) hb); have n1_ := Aside0.mk (Kd.qBA (Kd.qOB ho12 (Kd.R_lt (by (with_reducible repeat (first | apply Kd.qF | apply Kd.qE | apply Kd.qI)); exact HO792.out))) (qg bl)); have n2_ := Aside0.mk (bb BK788 hb); have n3_ := Aside0.mk (bb BK789 hb); have n4_ := Aside0.mk (qG bl hb); clear HO792; clear BK788; clear BK789; clear HB; have HO792 := n0_; have HO795 := n1_; have BK788 := n2_; have BK789 := n3_; have HB := n4_; clear n0_ n1_ n2_ n3_ n4_; clear hb ho12; obtain ⟨Ao13, co13, eo13⟩ := Kd.qt HO792.out; subst eo13; obtain ⟨Ao14, co14, eo14⟩ := Kd.qt HO795.out; subst eo14) | ((with_reducible refine qS (f := 97) rfl ?_); refine qq (some 19) rfl rfl Tryd.func97 (by kernel_rfl) rfl #[.slice Ao13 y790.length co13, .slice Ao14 y793.length co14] rfl (by (try simp only [List.map_toArray, List.map_cons, List.map_nil]); first | done | rfl | (simp only [List.length_drop, List.length_take]; rfl)) ?_; (with_reducible refine (qi.calls k _ _ y790 _ _ y793 t796 _ ?side1 ?side2 ?side3 ?side4 A3.out).mono ?_); (case side1 => repeat (first | exact (Kd.qf HO792.out).2.2 | (with_reducible refine Kd.qHA ?_ _) | (with_reducible refine Kd.qGA ?_ _) | (with_reducible refine Kd.qNA ?_))); (case side2 => exact (Kd.qf HO792.out).2.1); (case side3 => repeat (first | exact (Kd.qf HO795.out).2.2 | (with_reducible refine Kd.qHA ?_ _) | (with_reducible refine Kd.qGA ?_ _) | (with_reducible refine Kd.qNA ?_))); (case side4 => exact (Kd.qf HO795.out).2.1); rintro e w' ⟨rfl, ⟨nd, rfl⟩⟩; refine ⟨_, rfl, ?_⟩))
 go_ret
 exact ⟨by first | rfl | (simp [qM, qL] <;> rfl) | (simp [*, qM, qL] <;> rfl), bl⟩
def qc.l0 : Nat → Int → List (S27) → List ByteArray → Int → Int → Int → Int → Int → Option (Int × Int × Int × Int × Bool)
 | 0, _, _, _, _, _, _, _, _ => none
 | k + 1, x12, x19, x20, x38, x39, x809000, x809001, x809002 => if x39 < x38 then (if 0 ≤ x39 then (if x39 < (x19.length : Int) then (if x39 < (x20.length : Int) then (if ((rdOf ByteArray.empty x20 x39).size : Int) = x12 then ((qiA.f k ((qJ x19 x39).f0) ((qJ x19 x39).f1) ((qJ x19 x39).f2) x809000 x809001 x809002).bind fun t812 => (if t812 < 0 then (qc.l0 k x12 x19 x20 x38 (wrap64 (x39 + 1)) ((qJ x19 x39).f0) ((qJ x19 x39).f1) ((qJ x19 x39).f2)) else (qc.l0 k x12 x19 x20 x38 (wrap64 (x39 + 1)) x809000 x809001 x809002))) else (qc.l0 k x12 x19 x20 x38 (wrap64 (x39 + 1)) x809000 x809001 x809002)) else (none)) else (none)) else (none)) else (some (x809000, x809001, x809002, x12, true))
def qc.f (k : Nat) (a0 : ByteArray) (a1_0 : Int) (a1_1 : Int) (a1_2 : Int) : Option (Int × Int × Int × Int × Bool) := (qR.f k a0 a1_0 a1_1 a1_2).bind fun bt799 => (if bt799.2.2 = true then (if 0 ≤ (wrap64 ((bt799.1.length : Int) - 1)) then (if (wrap64 ((bt799.1.length : Int) - 1)) < (bt799.1.length : Int) then (if (wrap64 ((bt799.1.length : Int) - 1)) < (bt799.2.1.length : Int) then (qc.l0 k ((rdOf ByteArray.empty bt799.2.1 (wrap64 ((bt799.1.length : Int) - 1))).size : Int) bt799.1 bt799.2.1 (bt799.1.length : Int) 0 ((qJ bt799.1 (wrap64 ((bt799.1.length : Int) - 1))).f0) ((qJ bt799.1 (wrap64 ((bt799.1.length : Int) - 1))).f1) ((qJ bt799.1 (wrap64 ((bt799.1.length : Int) - 1))).f2)) else (none)) else (none)) else (none)) else (some (0, 0, 0, 0, false)))
def qc.T5 : Bool × List (List Nat × List Nat) := (true, [([], []), ([], []), ([0, 1], [0, 1]), ([2], [2]), ([], []), ([], []), ([4, 5], [4, 5]), ([6], [6]), ([7], [7]), ([], []), ([9, 3, 0, 1, 2, 3, 9], [3, 9]), ([8, 10, 0, 1, 2, 3, 4, 5, 6, 7, 8, 9, 10], [8])])
def qc.B5 : List Nat := [0, 0, 3, 7, 0, 0, 48, 112, 240, 0, 527, 2047]
theorem qc.tab5 : rtab .any (opsOf Tryd.f42 5) = qc.T5 := by kernel_rfl
theorem qc.bits5 : waitsOk qc.T5.2 qc.B5 = true := by kernel_rfl
set_option maxHeartbeats 8000000 in
set_option maxRecDepth 100000 in
theorem qc.calls (k : Nat) (a0 : ByteArray) (a1_0 : Int) (a1_1 : Int) (a1_2 : Int) (r1 : Int) (r2 : Int) (r3 : Int) (r4 : Int) (r5 : Bool) (w : World) (hL : Laid w) (h : qc.f k a0 a1_0 a1_1 a1_2 = some (r1, r2, r3, r4, r5)) :
  Calls Tryd.prog 42 #[.string a0, .agg #[.int .i64 a1_0, .int .i64 a1_1, .int .i64 a1_2]] w fun e w' => e = .returned (.tuple #[.agg #[.int .i64 r1, .int .i64 r2, .int .i64 r3], .int .i64 r4, .bool r5]) ∧ Below w.heap.size w w' := by
 have hu27 := Tryd.underlying27
 have HLD := Aside0.mk hL
 clear hL
 have HB := Aside0.mk (Below.refl w.heap.size w)
 have H : ((qR.f k a0 a1_0 a1_1 a1_2).bind fun bt799 => (if bt799.2.2 = true then (if 0 ≤ (wrap64 ((bt799.1.length : Int) - 1)) then (if (wrap64 ((bt799.1.length : Int) - 1)) < (bt799.1.length : Int) then (if (wrap64 ((bt799.1.length : Int) - 1)) < (bt799.2.1.length : Int) then (qc.l0 k ((rdOf ByteArray.empty bt799.2.1 (wrap64 ((bt799.1.length : Int) - 1))).size : Int) bt799.1 bt799.2.1 (bt799.1.length : Int) 0 ((qJ bt799.1 (wrap64 ((bt799.1.length : Int) - 1))).f0) ((qJ bt799.1 (wrap64 ((bt799.1.length : Int) - 1))).f1) ((qJ bt799.1 (wrap64 ((bt799.1.length : Int) - 1))).f2)) else (none)) else (none)) else (none)) else (some (0, 0, 0, 0, false)))) = some (r1, r2, r3, r4, r5) := h
 clear h
 replace H := Option.bind_eq_some_iff.mp H
 obtain ⟨⟨t799, t802, t805⟩, A30, H⟩ := H
 replace H : (if t805 = true then (if 0 ≤ (wrap64 ((t799.length : Int) - 1)) then (if (wrap64 ((t799.length : Int) - 1)) < (t799.length : Int) then (if (wrap64 ((t799.length : Int) - 1)) < (t802.length : Int) then (qc.l0 k ((rdOf ByteArray.empty t802 (wrap64 ((t799.length : Int) - 1))).size : Int) t799 t802 (t799.length : Int) 0 ((qJ t799 (wrap64 ((t799.length : Int) - 1))).f0) ((qJ t799 (wrap64 ((t799.length : Int) - 1))).f1) ((qJ t799 (wrap64 ((t799.length : Int) - 1))).f2)) else (none)) else (none)) else (none)) else (some (0, 0, 0, 0, false))) = some (r1, r2, r3, r4, r5) := H
 have A3 := Aside0.mk A30
 clear A30
 by_cases c4 : t805 = true
 ·subst c4
  have H1 : (if 0 ≤ (wrap64 ((t799.length : Int) - 1)) then (if (wrap64 ((t799.length : Int) - 1)) < (t799.length : Int) then (if (wrap64 ((t799.length : Int) - 1)) < (t802.length : Int) then (qc.l0 k ((rdOf ByteArray.empty t802 (wrap64 ((t799.length : Int) - 1))).size : Int) t799 t802 (t799.length : Int) 0 ((qJ t799 (wrap64 ((t799.length : Int) - 1))).f0) ((qJ t799 (wrap64 ((t799.length : Int) - 1))).f1) ((qJ t799 (wrap64 ((t799.length : Int) - 1))).f2)) else (none)) else (none)) else (none)) = some (r1, r2, r3, r4, r5) := by rw [if_pos rfl] at H; exact H
  clear H
  have H := H1
  clear H1
  obtain ⟨ji5, hji5⟩ : ∃ j_ : Int, (wrap64 ((t799.length : Int) - 1)) = j_ := ⟨_, rfl⟩
  replace H : (if 0 ≤ (ji5) then (if (ji5) < (t799.length : Int) then (if (ji5) < (t802.length : Int) then (qc.l0 k ((rdOf ByteArray.empty t802 (ji5)).size : Int) t799 t802 (t799.length : Int) 0 ((qJ t799 (ji5)).f0) ((qJ t799 (ji5)).f1) ((qJ t799 (ji5)).f2)) else (none)) else (none)) else (none)) = some (r1, r2, r3, r4, r5) := by first | (rw [hji5] at H; exact H) | (simp only [hji5] at H ⊢; exact H)
  (try rw [hji5] at A3)
  have hji5w : (IntKind.i64.wrap ((t799.length : Int) - 1)) = ji5 := (i64_w _).trans hji5
  by_cases c6 : 0 ≤ (ji5)
  ·rw [if_pos c6] at H
   have c6b0 : decide (0 ≤ (ji5)) = true := decide_eq_true c6
   clear c6
   by_cases c7 : (ji5) < (t799.length : Int)
   ·rw [if_pos c7] at H
    have c7b0 : decide ((ji5) < (t799.length : Int)) = true := decide_eq_true c7
    clear c7
    by_cases c8 : (ji5) < (t802.length : Int)
    ·rw [if_pos c8] at H
     have c8b0 : decide ((ji5) < (t802.length : Int)) = true := decide_eq_true c8
     clear c8
     have H' := Aside0.mk H
     clear H
     go_enter Tryd.func42, Tryd.ntmps42
     try go_wp2_with (first | ((with_reducible refine qV (N := 3) rfl ?_); refine qU ?hg (N := 3) ?hd (cs := #[.int .i64 a1_0, .int .i64 a1_1, .int .i64 a1_2]) (t := 27) ?hr ?_; (case hd => rfl); (case hg => rfl); (case hr => first | (go_simp; done) | (go_simp; rfl)); intro gb797 hg w9 hbox hb; have n0_ := Aside0.mk (qG bl hb); have n1_ := Aside0.mk (hbox); have n2_ := Aside0.mk ((gg hg)); have n3_ := Aside0.mk ((gg hg)); clear HB; have HB := n0_; have BK797 := n1_; have GW797 := n2_; have GE797 := n3_; clear n0_ n1_ n2_ n3_; clear hb hbox hg) | ((with_reducible refine qV (N := 4) rfl ?_); refine qU ?hg (N := 4) ?hd (cs := #[.int .i64 0, .int .i64 0, .int .i64 0]) (t := 27) ?hr ?_; (case hd => rfl); (case hg => rfl); (case hr => first | (go_simp; done) | (go_simp; rfl)); intro gb798 hg w10 hbox hb; have n0_ := Aside0.mk (bb BK797 hb); have n1_ := Aside0.mk (qG bl hb); have n2_ := Aside0.mk (hbox); have n3_ := Aside0.mk ((gg hg)); have n4_ := Aside0.mk ((gg hg)); have n5_ := Aside0.mk ((nl BK797 hg)); have n6_ := Aside0.mk ((nr BK797 hg)); clear BK797; clear HB; have BK797 := n0_; have HB := n1_; have BK798 := n2_; have GW798 := n3_; have GE798 := n4_; have NB797_798 := n5_; have NB798_797 := n6_; clear n0_ n1_ n2_ n3_ n4_ n5_ n6_; clear hb hbox hg; have hnb11 := NB797_798.out; have hnc11 := NB798_797.out; have hcz12_0 := bc BK797 0; have hcz12_1 := bc BK797 1; have hcz12_2 := bc BK797 2; have hfz12_0 := qD BK797.out 0; have hfz12_1 := qD BK797.out 1; have hfz12_2 := qD BK797.out 2) | ((with_reducible refine qS (f := 66) rfl ?_); refine qq (some 18) rfl rfl Tryd.func66 (by kernel_rfl) rfl #[.string a0, .agg #[.int .i64 a1_0, .int .i64 a1_1, .int .i64 a1_2]] rfl (by (try simp only [List.map_toArray, List.map_cons, List.map_nil]); first | done | rfl | (simp only [List.length_drop, List.length_take]; rfl)) ?_; (with_reducible refine (qR.calls k a0 a1_0 a1_1 a1_2 t799 t802 true _ ?side1 A3.out).mono ?_); (case side1 => first | exact HLD.out | exact Laid.below HLD.out (by repeat (first | (with_reducible first | exact HB.out | apply qu | apply qv | apply qn | refine qcA ?_ (Aside0.out (by with_reducible assumption))) | exact HB.out))); rintro e w13 ⟨v800, v803, rfl, ho0, ho1, hb⟩; refine ⟨_, rfl, ?_⟩; have n0_ := Aside0.mk (Kd.qBA (Kd.qMB (Kd.qMB ho0 (g := gb797) (o := .cells #[.int .i64 a1_0, .int .i64 a1_1, .int .i64 a1_2] 27 (0, 0)) (by (with_reducible repeat (first | refine qB ?_ _ | refine qC ?_ | refine qA ?_ _)); exact BK797.out)) (g := gb798) (o := .cells #[.int .i64 0, .int .i64 0, .int .i64 0] 27 (0, 0)) (by (with_reducible repeat (first | refine qB ?_ _ | refine qC ?_ | refine qA ?_ _)); exact BK798.out)) (qg bl)); have n1_ := Aside0.mk (Kd.qBA ho1 (qg bl)); have n2_ := Aside0.mk (bb BK797 hb); have n3_ := Aside0.mk (bb BK798 hb); have n4_ := Aside0.mk (qG bl hb); clear BK797; clear BK798; clear HB; have HO801 := n0_; have HO804 := n1_; have BK797 := n2_; have BK798 := n3_; have HB := n4_; clear n0_ n1_ n2_ n3_ n4_; (try clear hb); (try clear hb2); (try clear hk); (try clear hi); (try clear ho0); (try clear ho1); obtain ⟨Ao14, co14, eo14⟩ := Kd.qt HO801.out; subst eo14))
     have n0_ := Aside0.mk (Kd.qI HO801.out)
     have n1_ := Aside0.mk (Kd.qI HO804.out)
     have n2_ := Aside0.mk (qC BK797.out)
     have n3_ := Aside0.mk (qC BK798.out)
     have n4_ := Aside0.mk (qn HB.out)
     clear HO801
     clear HO804
     clear BK797
     clear BK798
     clear HB
     have HO801 := n0_
     have HO804 := n1_
     have BK797 := n2_
     have BK798 := n3_
     have HB := n4_
     clear n0_ n1_ n2_ n3_ n4_
     have p806 : 0 ≤ ((ji5) : Int) := of_decide_eq_true (by first | (with_reducible assumption) | assumption)
     have q806 : (ji5) < (t799.length : Int) := of_decide_eq_true (by first | (with_reducible assumption) | assumption)
     obtain ⟨ad806, e806, hx806_0, hx806_1, hx806_2⟩ := qFB (Kd.qf HO801.out).2.2 (ji5) p806 q806
     cases e806
     replace p806 := eq_true p806
     replace q806 := eq_true q806
     obtain ⟨Ao16, co16, eo16⟩ := Kd.qt HO804.out
     (first | subst eo16 | (injection eo16 with f1_ f2_ f3_; have f4_ := f1_.symm; have f5_ := f3_.symm; clear f1_ f2_ f3_; subst f4_; subst f5_))
     have p807 : 0 ≤ ((ji5) : Int) := of_decide_eq_true (by first | (with_reducible assumption) | assumption)
     have q807 : (ji5) < (t802.length : Int) := of_decide_eq_true (by first | (with_reducible assumption) | assumption)
     obtain ⟨ad807, e807, hx807_0⟩ := Kd.qdA (Kd.qf HO804.out).2.2 (ji5) p807 q807
     cases e807
     replace p807 := eq_true p807
     replace q807 := eq_true q807
     refine qxA (n := 12) (S := fun w' => w'.cell? (ad806.add (((ji5)).toNat * 3)) = some (.int .i64 ((qJ t799 (ji5)).f0)) ∧ w'.cell? ⟨(ad806.add (((ji5)).toNat * 3)).block, (ad806.add (((ji5)).toNat * 3)).off + 1, none⟩ = some (.int .i64 ((qJ t799 (ji5)).f1)) ∧ w'.cell? ⟨(ad806.add (((ji5)).toNat * 3)).block, (ad806.add (((ji5)).toNat * 3)).off + 2, none⟩ = some (.int .i64 ((qJ t799 (ji5)).f2)) ∧ w'.cell? (ad807.add ((ji5)).toNat) = some (.string (rdOf ByteArray.empty t802 (ji5)))) (ds := []) #[false, false, false, false, false, false, false, false, false, false, false, false] (by kernel_rfl) rfl rfl ⟨hx806_0, hx806_1, hx806_2, hx807_0⟩ (fun hHeld => ?_); refine qTA qc.tab5 qc.bits5 (fun HT_ HW_ => ?_)
     generalize w13.drew = w15 at HO801 HO804 BK797 BK798 HB hx806_0 hx806_1 hx806_2 hx807_0 hHeld ⊢
     refine pS (i := 0) (N := some 28) #[true, false, false, false, false, false, false, false, false, false, false, false] HT_ ?_
     refine pS (i := 1) (N := some 29) #[true, true, false, false, false, false, false, false, false, false, false, false] HT_ ?_
     refine pS (i := 2) (N := some 30) #[true, true, true, false, false, false, false, false, false, false, false, false] HT_ ?_
     refine pS (i := 4) (N := some 32) #[true, true, true, false, true, false, false, false, false, false, false, false] HT_ ?_
     refine pS (i := 5) (N := some 33) #[true, true, true, false, true, true, false, false, false, false, false, false] HT_ ?_
     refine pS (i := 6) (N := some 34) #[true, true, true, false, true, true, true, false, false, false, false, false] HT_ ?_
     refine tS (i := 3) (N := some 31) #[true, true, true, true, true, true, true, false, false, false, false, false] HT_ HW_ hHeld ?_
     refine tS (i := 7) (N := some 35) #[true, true, true, true, true, true, true, true, false, false, false, false] HT_ HW_ hHeld ?_
     refine pS (i := 8) (N := some 36) #[true, true, true, true, true, true, true, true, true, false, false, false] HT_ ?_
     refine one_ (i := 9) (N := some 11) #[true, true, true, true, true, true, true, true, true, true, false, false] rfl rfl (qPA HT_.out (by kernel_rfl)) (by decide) (fun K hK => ?_)
     refine qAB ?hg (N := 11) ?hd (cs := #[.int .i64 0, .int .i64 0, .int .i64 0]) (t := 27) ?hr ?_; (case hd => rfl); (case hg => rfl); (case hr => first | (go_simp; done) | (go_simp; rfl))
     intro gb808 hg w17 hbox hb
     have HS0_ := (hb.cell (World.block_lt_of_cell? _ _ (hHeld.1))).trans (hHeld.1)
     have HS1_ := (hb.cell (World.block_lt_of_cell? _ _ (hHeld.2.1))).trans (hHeld.2.1)
     have HS2_ := (hb.cell (World.block_lt_of_cell? _ _ (hHeld.2.2.1))).trans (hHeld.2.2.1)
     have HS3_ := (hb.cell (World.block_lt_of_cell? _ _ (hHeld.2.2.2))).trans (hHeld.2.2.2)
     have n0_ := Aside0.mk (Kd.qY (Kd.qYA (by (with_reducible repeat (first | apply Kd.qF | apply Kd.qE | apply Kd.qI)); exact HO801.out) gb808 (Nat.le_of_eq hg.symm)) hb)
     have n1_ := Aside0.mk (Kd.qY (by (with_reducible repeat (first | apply Kd.qF | apply Kd.qE | apply Kd.qI)); exact HO804.out) hb)
     have n2_ := Aside0.mk (bb BK797 hb)
     have n3_ := Aside0.mk (bb BK798 hb)
     have n4_ := Aside0.mk (qG bl hb)
     have n5_ := Aside0.mk (hbox)
     have n6_ := Aside0.mk ((gg hg))
     have n7_ := Aside0.mk ((gg hg))
     have n8_ := Aside0.mk ((nl BK797 hg))
     have n9_ := Aside0.mk ((nr BK797 hg))
     have n10_ := Aside0.mk ((nl BK798 hg))
     have n11_ := Aside0.mk ((nr BK798 hg))
     clear HO801
     clear HO804
     clear BK797
     clear BK798
     clear HB
     have HO801 := n0_
     have HO804 := n1_
     have BK797 := n2_
     have BK798 := n3_
     have HB := n4_
     have BK808 := n5_
     have GW808 := n6_
     have GE808 := n7_
     have NB797_808 := n8_
     have NB808_797 := n9_
     have NB798_808 := n10_
     have NB808_798 := n11_
     clear n0_ n1_ n2_ n3_ n4_ n5_ n6_ n7_ n8_ n9_ n10_ n11_
     clear hb hbox hg
     refine hK.out _ _ ⟨HS0_, HS1_, HS2_, HS3_⟩ (fun hHeld => ?_)
     clear hK K
     refine norm_ (a' := ?_) ?_ ?_
     rotate_left
     ·show Act.put _ (some 11) _ = _
      simp only [Act.put, List.setIfInBounds_toArray, List.set_cons_zero, List.set_cons_succ, i64_w, i32_w]
      rfl
     refine one_ (i := 10) (N := none) #[true, true, true, true, true, true, true, true, true, true, true, false] rfl rfl (qPA HT_.out (by kernel_rfl)) (by decide) (fun K hK => ?_)
     have hs18 : w17.cell? ⟨gb808, 0, none⟩ = some (.int .i64 0) := (qK BK808.out 0).trans rfl
     have hfs18 := qD BK808.out 0
     have hns18_0 := NB797_808.out
     have hns18_1 := NB798_808.out
     have hms18_0 := NB808_797.out
     have hms18_1 := NB808_798.out
     have hs19 : w17.cell? ⟨gb808, 1, none⟩ = some (.int .i64 0) := (qK BK808.out 1).trans rfl
     have hfs19 := qD BK808.out 1
     have hns19_0 := NB797_808.out
     have hns19_1 := NB798_808.out
     have hms19_0 := NB808_797.out
     have hms19_1 := NB808_798.out
     have hs20 : w17.cell? ⟨gb808, 2, none⟩ = some (.int .i64 0) := (qK BK808.out 2).trans rfl
     have hfs20 := qD BK808.out 2
     have hns20_0 := NB797_808.out
     have hns20_1 := NB798_808.out
     have hms20_0 := NB808_797.out
     have hms20_1 := NB808_798.out
     refine skip_ (w1 := ?_) (by rfl) rfl ?_ ?_
     rotate_left
     ·go_simp
      rfl
     refine hK.out _ _ ⟨((qQ (p := ⟨gb808, _, none⟩) (by first | exact Kd.qN (Kd.qT HO801.out (fun _ hk => hk.2)) | (rw [qP]; exact Kd.qN (Kd.qT HO801.out (fun _ hk => hk.2))) | (show (Addr.add _ _).block ≠ _; rw [qP]; exact Kd.qN (Kd.qT HO801.out (fun _ hk => hk.2))) | (dsimp only; exact Kd.qN (Kd.qT HO801.out (fun _ hk => hk.2)))) _).trans (((qQ (p := ⟨gb808, _, none⟩) (by first | exact Kd.qN (Kd.qT HO801.out (fun _ hk => hk.2)) | (rw [qP]; exact Kd.qN (Kd.qT HO801.out (fun _ hk => hk.2))) | (show (Addr.add _ _).block ≠ _; rw [qP]; exact Kd.qN (Kd.qT HO801.out (fun _ hk => hk.2))) | (dsimp only; exact Kd.qN (Kd.qT HO801.out (fun _ hk => hk.2)))) _).trans (((qQ (p := ⟨gb808, _, none⟩) (by first | exact Kd.qN (Kd.qT HO801.out (fun _ hk => hk.2)) | (rw [qP]; exact Kd.qN (Kd.qT HO801.out (fun _ hk => hk.2))) | (show (Addr.add _ _).block ≠ _; rw [qP]; exact Kd.qN (Kd.qT HO801.out (fun _ hk => hk.2))) | (dsimp only; exact Kd.qN (Kd.qT HO801.out (fun _ hk => hk.2)))) _).trans (hHeld.1)))))), ((qQ (p := ⟨gb808, _, none⟩) (by first | exact Kd.qN (Kd.qT HO801.out (fun _ hk => hk.2)) | (rw [qP]; exact Kd.qN (Kd.qT HO801.out (fun _ hk => hk.2))) | (show (Addr.add _ _).block ≠ _; rw [qP]; exact Kd.qN (Kd.qT HO801.out (fun _ hk => hk.2))) | (dsimp only; exact Kd.qN (Kd.qT HO801.out (fun _ hk => hk.2)))) _).trans (((qQ (p := ⟨gb808, _, none⟩) (by first | exact Kd.qN (Kd.qT HO801.out (fun _ hk => hk.2)) | (rw [qP]; exact Kd.qN (Kd.qT HO801.out (fun _ hk => hk.2))) | (show (Addr.add _ _).block ≠ _; rw [qP]; exact Kd.qN (Kd.qT HO801.out (fun _ hk => hk.2))) | (dsimp only; exact Kd.qN (Kd.qT HO801.out (fun _ hk => hk.2)))) _).trans (((qQ (p := ⟨gb808, _, none⟩) (by first | exact Kd.qN (Kd.qT HO801.out (fun _ hk => hk.2)) | (rw [qP]; exact Kd.qN (Kd.qT HO801.out (fun _ hk => hk.2))) | (show (Addr.add _ _).block ≠ _; rw [qP]; exact Kd.qN (Kd.qT HO801.out (fun _ hk => hk.2))) | (dsimp only; exact Kd.qN (Kd.qT HO801.out (fun _ hk => hk.2)))) _).trans (hHeld.2.1)))))), ((qQ (p := ⟨gb808, _, none⟩) (by first | exact Kd.qN (Kd.qT HO801.out (fun _ hk => hk.2)) | (rw [qP]; exact Kd.qN (Kd.qT HO801.out (fun _ hk => hk.2))) | (show (Addr.add _ _).block ≠ _; rw [qP]; exact Kd.qN (Kd.qT HO801.out (fun _ hk => hk.2))) | (dsimp only; exact Kd.qN (Kd.qT HO801.out (fun _ hk => hk.2)))) _).trans (((qQ (p := ⟨gb808, _, none⟩) (by first | exact Kd.qN (Kd.qT HO801.out (fun _ hk => hk.2)) | (rw [qP]; exact Kd.qN (Kd.qT HO801.out (fun _ hk => hk.2))) | (show (Addr.add _ _).block ≠ _; rw [qP]; exact Kd.qN (Kd.qT HO801.out (fun _ hk => hk.2))) | (dsimp only; exact Kd.qN (Kd.qT HO801.out (fun _ hk => hk.2)))) _).trans (((qQ (p := ⟨gb808, _, none⟩) (by first | exact Kd.qN (Kd.qT HO801.out (fun _ hk => hk.2)) | (rw [qP]; exact Kd.qN (Kd.qT HO801.out (fun _ hk => hk.2))) | (show (Addr.add _ _).block ≠ _; rw [qP]; exact Kd.qN (Kd.qT HO801.out (fun _ hk => hk.2))) | (dsimp only; exact Kd.qN (Kd.qT HO801.out (fun _ hk => hk.2)))) _).trans (hHeld.2.2.1)))))), ((qQ (p := ⟨gb808, _, none⟩) (by first | exact Kd.qN (Kd.R_ne HO804.out BK808.out (by decide)) | (rw [qP]; exact Kd.qN (Kd.R_ne HO804.out BK808.out (by decide))) | (show (Addr.add _ _).block ≠ _; rw [qP]; exact Kd.qN (Kd.R_ne HO804.out BK808.out (by decide))) | (dsimp only; exact Kd.qN (Kd.R_ne HO804.out BK808.out (by decide)))) _).trans (((qQ (p := ⟨gb808, _, none⟩) (by first | exact Kd.qN (Kd.R_ne HO804.out BK808.out (by decide)) | (rw [qP]; exact Kd.qN (Kd.R_ne HO804.out BK808.out (by decide))) | (show (Addr.add _ _).block ≠ _; rw [qP]; exact Kd.qN (Kd.R_ne HO804.out BK808.out (by decide))) | (dsimp only; exact Kd.qN (Kd.R_ne HO804.out BK808.out (by decide)))) _).trans (((qQ (p := ⟨gb808, _, none⟩) (by first | exact Kd.qN (Kd.R_ne HO804.out BK808.out (by decide)) | (rw [qP]; exact Kd.qN (Kd.R_ne HO804.out BK808.out (by decide))) | (show (Addr.add _ _).block ≠ _; rw [qP]; exact Kd.qN (Kd.R_ne HO804.out BK808.out (by decide))) | (dsimp only; exact Kd.qN (Kd.R_ne HO804.out BK808.out (by decide)))) _).trans (hHeld.2.2.2))))))⟩ (fun hHeld => ?_)
     clear hK K
     refine pS (i := 11) (N := some 12) #[true, true, true, true, true, true, true, true, true, true, true, true] HT_ ?_
     refine done_ (qpA HT_.out (by kernel_rfl)) ?_
     try go_wp2
     go_loopg [39] k (fun kq v39 w' => ∃ (x39_1 : Int) (x809000_1 : Int) (x809001_1 : Int) (x809002_1 : Int), v39 = .int .i64 x39_1 ∧ Aside0 (qc.l0 kq ((rdOf ByteArray.empty t802 (ji5)).size : Int) t799 t802 (t799.length : Int) x39_1 x809000_1 x809001_1 x809002_1 = some (r1, r2, r3, r4, r5)) ∧ Aside0 (kq ≤ k) ∧ Aside0 (Kd.R k27 27 w' w.heap.size (fun k_ => k_ ≠ gb797 ∧ k_ ≠ gb798 ∧ k_ ≠ gb808) (.slice (some ad806) t799.length co14) t799) ∧ Aside0 (Kd.R Kd.string 9 w' w.heap.size (fun _ => True) (.slice (some ad807) t802.length co16) t802) ∧ Aside0 (w'.heap[gb797]? = some (.cells #[.int .i64 a1_0, .int .i64 a1_1, .int .i64 a1_2] 27 (0, 0))) ∧ Aside0 (w'.heap[gb798]? = some (.cells #[.int .i64 0, .int .i64 0, .int .i64 0] 27 (0, 0))) ∧ Aside0 (w'.heap[gb808]? = some (.cells #[.int .i64 x809000_1, .int .i64 x809001_1, .int .i64 x809002_1] 27 (0, 0))) ∧ Aside0 (Below w.heap.size w w'))
     case atStart => exact ⟨(0), ((qJ t799 (ji5)).f0), ((qJ t799 (ji5)).f1), ((qJ t799 (ji5)).f2), (by first | rfl | (simp; done) | (simp [*]; done)), H', ⟨Nat.le_refl _⟩, ⟨by (with_reducible repeat (first | apply Kd.qF | apply Kd.qE | apply Kd.qI)); exact Kd.qh (Kd.R_far (p := ⟨gb808, 2, none⟩) (Kd.R_far (p := ⟨gb808, 1, none⟩) (Kd.R_far (p := ⟨gb808, 0, none⟩) (Kd.qh HO801.out (fun k_ hk => (⟨hk, hk.2⟩ : _ ∧ k_ ≠ gb808))) (fun _ hk => hk.2) (.int .i64 ((qJ t799 (ji5)).f0))) (fun _ hk => hk.2) (.int .i64 ((qJ t799 (ji5)).f1))) (fun _ hk => hk.2) (.int .i64 ((qJ t799 (ji5)).f2))) (fun _ hk => ⟨hk.1.1.1.2, ⟨hk.1.1.2, hk.1.2⟩⟩)⟩, ⟨by (with_reducible repeat (first | apply Kd.qF | apply Kd.qE | apply Kd.qI)); exact Kd.qh (Kd.R_far (p := ⟨gb808, 2, none⟩) (Kd.R_far (p := ⟨gb808, 1, none⟩) (Kd.R_far (p := ⟨gb808, 0, none⟩) (Kd.qr HO804.out BK808.out (by decide)) (fun _ hk => hk.2) (.int .i64 ((qJ t799 (ji5)).f0))) (fun _ hk => hk.2) (.int .i64 ((qJ t799 (ji5)).f1))) (fun _ hk => hk.2) (.int .i64 ((qJ t799 (ji5)).f2))) (fun _ hk => trivial)⟩, ⟨by (with_reducible repeat (first | refine qB ?_ _ | refine qC ?_ | refine qA ?_ _)); refine qH ?_ NB797_808.out _; (with_reducible repeat (first | refine qB ?_ _ | refine qC ?_ | refine qA ?_ _)); refine qH ?_ NB797_808.out _; (with_reducible repeat (first | refine qB ?_ _ | refine qC ?_ | refine qA ?_ _)); refine qH ?_ NB797_808.out _; (with_reducible repeat (first | refine qB ?_ _ | refine qC ?_ | refine qA ?_ _)); exact BK797.out⟩, ⟨by (with_reducible repeat (first | refine qB ?_ _ | refine qC ?_ | refine qA ?_ _)); refine qH ?_ NB798_808.out _; (with_reducible repeat (first | refine qB ?_ _ | refine qC ?_ | refine qA ?_ _)); refine qH ?_ NB798_808.out _; (with_reducible repeat (first | refine qB ?_ _ | refine qC ?_ | refine qA ?_ _)); refine qH ?_ NB798_808.out _; (with_reducible repeat (first | refine qB ?_ _ | refine qC ?_ | refine qA ?_ _)); exact BK798.out⟩, ⟨by (with_reducible repeat (first | refine qB ?_ _ | refine qC ?_ | refine qA ?_ _)); refine qO (cs := #[.int .i64 ((qJ t799 (ji5)).f0), .int .i64 ((qJ t799 (ji5)).f1), .int .i64 0]) ?_ 2 _ rfl; (with_reducible repeat (first | refine qB ?_ _ | refine qC ?_ | refine qA ?_ _)); refine qO (cs := #[.int .i64 ((qJ t799 (ji5)).f0), .int .i64 0, .int .i64 0]) ?_ 1 _ rfl; (with_reducible repeat (first | refine qB ?_ _ | refine qC ?_ | refine qA ?_ _)); refine qO (cs := #[.int .i64 0, .int .i64 0, .int .i64 0]) ?_ 0 _ rfl; (with_reducible repeat (first | refine qB ?_ _ | refine qC ?_ | refine qA ?_ _)); exact BK808.out⟩, ⟨bl⟩⟩
     case round =>
      clear H'
      try clear c1
      try clear p2
      try clear c4
      try clear c6
      try clear c6b0
      try clear p6
      try clear c7
      try clear c7b0
      try clear c8
      try clear c8b0
      try clear p8
      try clear q8
      try clear hx8
      try clear c11
      try clear hcz12_0
      try clear hcz12_1
      try clear hcz12_2
      try clear hfz12_0
      try clear hfz12_1
      try clear hfz12_2
      try clear hx806_0
      try clear hx806_1
      try clear hx806_2
      try clear hx807_0
      try clear p806
      try clear p807
      try clear q806
      try clear q807
      obtain ⟨x39_1, x809000_1, x809001_1, x809002_1, rfl, HA, HK1, HO_19, HO_20, BK797, BK798, BK808, HB⟩ := hrel
      cases gk with
      | zero => exact absurd HA.out (by simp [qc.l0])
      | succ k1 =>
       have H := HA.out
       clear HA
       simp only [qc.l0] at H
       by_cases c21 : x39_1 < (t799.length : Int)
       ·rw [if_pos c21] at H
        have c21b0 : decide (x39_1 < (t799.length : Int)) = true := decide_eq_true c21
        clear c21
        by_cases c22 : 0 ≤ x39_1
        ·rw [if_pos c22] at H
         have c22b0 : decide (0 ≤ x39_1) = true := decide_eq_true c22
         clear c22
         by_cases c23 : x39_1 < (t799.length : Int)
         ·rw [if_pos c23] at H
          have c23b0 : decide (x39_1 < (t799.length : Int)) = true := decide_eq_true c23
          clear c23
          by_cases c24 : x39_1 < (t802.length : Int)
          ·rw [if_pos c24] at H
           have c24b0 : decide (x39_1 < (t802.length : Int)) = true := decide_eq_true c24
           clear c24
           by_cases c25 : ((rdOf ByteArray.empty t802 x39_1).size : Int) = ((rdOf ByteArray.empty t802 (ji5)).size : Int)
           ·rw [if_pos c25] at H
            have c25b0 : (((rdOf ByteArray.empty t802 x39_1).size : Int) == ((rdOf ByteArray.empty t802 (ji5)).size : Int)) = true := beq_iff_eq.mpr c25
            have c25b1 : (((rdOf ByteArray.empty t802 x39_1).size : Int) != ((rdOf ByteArray.empty t802 (ji5)).size : Int)) = false := bne_eq_false_iff_eq.mpr c25
            have c25b2 : ((rdOf ByteArray.empty t802 x39_1).size == (rdOf ByteArray.empty t802 (ji5)).size) = true := by first | simpa using c25 | (simp at c25 ⊢; omega)
            clear c25
            replace H := Option.bind_eq_some_iff.mp H
            obtain ⟨t812, A260, H⟩ := H
            replace H : (if t812 < 0 then (qc.l0 k1 ((rdOf ByteArray.empty t802 (ji5)).size : Int) t799 t802 (t799.length : Int) (wrap64 (x39_1 + 1)) ((qJ t799 x39_1).f0) ((qJ t799 x39_1).f1) ((qJ t799 x39_1).f2)) else (qc.l0 k1 ((rdOf ByteArray.empty t802 (ji5)).size : Int) t799 t802 (t799.length : Int) (wrap64 (x39_1 + 1)) x809000_1 x809001_1 x809002_1)) = some (r1, r2, r3, r4, r5) := H
            have A26 := Aside0.mk A260
            clear A260
            by_cases c27 : t812 < 0
            ·rw [if_pos c27] at H
             have c27b0 : decide (t812 < 0) = true := decide_eq_true c27
             clear c27
             have H' := Aside0.mk H
             clear H
             have p809 : 0 ≤ (x39_1 : Int) := of_decide_eq_true (by first | (with_reducible assumption) | assumption)
             have q809 : x39_1 < (t799.length : Int) := of_decide_eq_true (by first | (with_reducible assumption) | assumption)
             obtain ⟨ad809, e809, hx809_0, hx809_1, hx809_2⟩ := qFB (Kd.qf HO_19.out).2.2 x39_1 p809 q809
             obtain rfl : ad806 = ad809 := (by injection e809)
             replace p809 := eq_true p809
             replace q809 := eq_true q809
             go_wp2_with (first | ((with_reducible refine qV (N := 14) rfl ?_); refine qU ?hg (N := 14) ?hd (cs := #[.int .i64 0, .int .i64 0, .int .i64 0]) (t := 27) ?hr ?_; (case hd => rfl); (case hg => rfl); (case hr => first | (go_simp; done) | (go_simp; rfl)); intro gb810 hg w28 hbox hb; have n0_ := Aside0.mk (Kd.qY (Kd.qYA (by (with_reducible repeat (first | apply Kd.qF | apply Kd.qE | apply Kd.qI)); exact HO_19.out) gb810 (Nat.le_of_eq hg.symm)) hb); have n1_ := Aside0.mk (Kd.qY (by (with_reducible repeat (first | apply Kd.qF | apply Kd.qE | apply Kd.qI)); exact HO_20.out) hb); have n2_ := Aside0.mk (bb BK797 hb); have n3_ := Aside0.mk (bb BK798 hb); have n4_ := Aside0.mk (bb BK808 hb); have n5_ := Aside0.mk (qG bl hb); have n6_ := Aside0.mk (hbox); have n7_ := Aside0.mk ((gg hg)); have n8_ := Aside0.mk ((gg hg)); have n9_ := Aside0.mk ((nl BK797 hg)); have n10_ := Aside0.mk ((nr BK797 hg)); have n11_ := Aside0.mk ((nl BK798 hg)); have n12_ := Aside0.mk ((nr BK798 hg)); have n13_ := Aside0.mk ((nl BK808 hg)); have n14_ := Aside0.mk ((nr BK808 hg)); clear HO_19; clear HO_20; clear BK797; clear BK798; clear BK808; clear HB; have HO_19 := n0_; have HO_20 := n1_; have BK797 := n2_; have BK798 := n3_; have BK808 := n4_; have HB := n5_; have BK810 := n6_; have GW810 := n7_; have GE810 := n8_; have NB797_810 := n9_; have NB810_797 := n10_; have NB798_810 := n11_; have NB810_798 := n12_; have NB808_810 := n13_; have NB810_808 := n14_; clear n0_ n1_ n2_ n3_ n4_ n5_ n6_ n7_ n8_ n9_ n10_ n11_ n12_ n13_ n14_; clear hb hbox hg; have hnb29 := NB810_797.out; have hnc29 := NB797_810.out; have hnb30 := NB810_798.out; have hnc30 := NB798_810.out; have hnb31 := NB810_808.out; have hnc31 := NB808_810.out; have hcz32_0 := bc BK810 0; have hcz32_1 := bc BK810 1; have hcz32_2 := bc BK810 2; have hfz32_0 := qD BK810.out 0; have hfz32_1 := qD BK810.out 1; have hfz32_2 := qD BK810.out 2; have p811 : 0 ≤ (x39_1 : Int) := of_decide_eq_true (by first | (with_reducible assumption) | assumption); have q811 : x39_1 < (t802.length : Int) := of_decide_eq_true (by first | (with_reducible assumption) | assumption); obtain ⟨ad811, e811, hx811_0⟩ := Kd.qdA (Kd.qf HO_20.out).2.2 x39_1 p811 q811; obtain rfl : ad807 = ad811 := (by injection e811); have hn811_0 : ad807.block ≠ gb810 := Kd.qN (Kd.R_ne HO_20.out BK810.out (by decide)); have hn811_1 : ad807.block ≠ gb810 := Kd.qN (Kd.R_ne HO_20.out BK810.out (by decide)); have hn811_2 : ad807.block ≠ gb810 := Kd.qN (Kd.R_ne HO_20.out BK810.out (by decide)); replace hx811_0 := (qQ (p := ⟨gb810, 0, none⟩) (by first | (rw [qP]; exact hn811_0) | (show (Addr.add _ _).block ≠ _; rw [qP]; exact hn811_0) | exact hn811_0) (.int .i64 ((qJ t799 x39_1).f0))).trans hx811_0; replace hx811_0 := (qQ (p := ⟨gb810, 1, none⟩) (by first | (rw [qP]; exact hn811_1) | (show (Addr.add _ _).block ≠ _; rw [qP]; exact hn811_1) | exact hn811_1) (.int .i64 ((qJ t799 x39_1).f1))).trans hx811_0; replace hx811_0 := (qQ (p := ⟨gb810, 2, none⟩) (by first | (rw [qP]; exact hn811_2) | (show (Addr.add _ _).block ≠ _; rw [qP]; exact hn811_2) | exact hn811_2) (.int .i64 ((qJ t799 x39_1).f2))).trans hx811_0; clear hn811_0; clear hn811_1; clear hn811_2; replace p811 := eq_true p811; replace q811 := eq_true q811; have hnb33 := NB808_797.out; have hnc33 := NB797_808.out; have hnb34 := NB808_798.out; have hnc34 := NB798_808.out; have hcz35_0 := bc BK808 0; have hcz35_1 := bc BK808 1; have hcz35_2 := bc BK808 2; have hfz35_0 := qD BK808.out 0; have hfz35_1 := qD BK808.out 1; have hfz35_2 := qD BK808.out 2) | (go_at_call 74; (with_reducible refine (qiA.calls k1 ((qJ t799 x39_1).f0) ((qJ t799 x39_1).f1) ((qJ t799 x39_1).f2) x809000_1 x809001_1 x809002_1 t812 _ A26.out).mono ?_); rintro e w36 ⟨rfl, hb⟩; have n0_ := Aside0.mk (Kd.qY (by (with_reducible repeat (first | apply Kd.qF | apply Kd.qE | apply Kd.qI)); exact (Kd.qh (Kd.R_far (p := ⟨gb810, 2, none⟩) (Kd.R_far (p := ⟨gb810, 1, none⟩) (Kd.R_far (p := ⟨gb810, 0, none⟩) (Kd.qh HO_19.out (fun k_ hk => (⟨hk, hk.2⟩ : _ ∧ k_ ≠ gb810))) (fun _ hk => hk.2) (.int .i64 ((qJ t799 x39_1).f0))) (fun _ hk => hk.2) (.int .i64 ((qJ t799 x39_1).f1))) (fun _ hk => hk.2) (.int .i64 ((qJ t799 x39_1).f2))) (fun _ h_ => h_.1))) hb); have n1_ := Aside0.mk (Kd.qY (by (with_reducible repeat (first | apply Kd.qF | apply Kd.qE | apply Kd.qI)); exact (Kd.qh (Kd.R_far (p := ⟨gb810, 2, none⟩) (Kd.R_far (p := ⟨gb810, 1, none⟩) (Kd.R_far (p := ⟨gb810, 0, none⟩) (Kd.qr HO_20.out BK810.out (by decide)) (fun _ hk => hk.2) (.int .i64 ((qJ t799 x39_1).f0))) (fun _ hk => hk.2) (.int .i64 ((qJ t799 x39_1).f1))) (fun _ hk => hk.2) (.int .i64 ((qJ t799 x39_1).f2))) (fun _ h_ => h_.1))) hb); have n2_ := Aside0.mk (ql (g := gb797) (o := .cells #[.int .i64 a1_0, .int .i64 a1_1, .int .i64 a1_2] 27 (0, 0)) (by (with_reducible repeat (first | refine qB ?_ _ | refine qC ?_ | refine qA ?_ _)); refine qH ?_ NB797_810.out _; (with_reducible repeat (first | refine qB ?_ _ | refine qC ?_ | refine qA ?_ _)); refine qH ?_ NB797_810.out _; (with_reducible repeat (first | refine qB ?_ _ | refine qC ?_ | refine qA ?_ _)); refine qH ?_ NB797_810.out _; (with_reducible repeat (first | refine qB ?_ _ | refine qC ?_ | refine qA ?_ _)); exact BK797.out) hb); have n3_ := Aside0.mk (ql (g := gb798) (o := .cells #[.int .i64 0, .int .i64 0, .int .i64 0] 27 (0, 0)) (by (with_reducible repeat (first | refine qB ?_ _ | refine qC ?_ | refine qA ?_ _)); refine qH ?_ NB798_810.out _; (with_reducible repeat (first | refine qB ?_ _ | refine qC ?_ | refine qA ?_ _)); refine qH ?_ NB798_810.out _; (with_reducible repeat (first | refine qB ?_ _ | refine qC ?_ | refine qA ?_ _)); refine qH ?_ NB798_810.out _; (with_reducible repeat (first | refine qB ?_ _ | refine qC ?_ | refine qA ?_ _)); exact BK798.out) hb); have n4_ := Aside0.mk (ql (g := gb808) (o := .cells #[.int .i64 x809000_1, .int .i64 x809001_1, .int .i64 x809002_1] 27 (0, 0)) (by (with_reducible repeat (first | refine qB ?_ _ | refine qC ?_ | refine qA ?_ _)); refine qH ?_ NB808_810.out _; (with_reducible repeat (first | refine qB ?_ _ | refine qC ?_ | refine qA ?_ _)); refine qH ?_ NB808_810.out _; (with_reducible repeat (first | refine qB ?_ _ | refine qC ?_ | refine qA ?_ _)); refine qH ?_ NB808_810.out _; (with_reducible repeat (first | refine qB ?_ _ | refine qC ?_ | refine qA ?_ _)); exact BK808.out) hb); have n5_ := Aside0.mk (ql (g := gb810) (o := .cells #[.int .i64 ((qJ t799 x39_1).f0), .int .i64 ((qJ t799 x39_1).f1), .int .i64 ((qJ t799 x39_1).f2)] 27 (0, 0)) (by (with_reducible repeat (first | refine qB ?_ _ | refine qC ?_ | refine qA ?_ _)); refine qO (cs := #[.int .i64 ((qJ t799 x39_1).f0), .int .i64 ((qJ t799 x39_1).f1), .int .i64 0]) ?_ 2 _ rfl; (with_reducible repeat (first | refine qB ?_ _ | refine qC ?_ | refine qA ?_ _)); refine qO (cs := #[.int .i64 ((qJ t799 x39_1).f0), .int .i64 0, .int .i64 0]) ?_ 1 _ rfl; (with_reducible repeat (first | refine qB ?_ _ | refine qC ?_ | refine qA ?_ _)); refine qO (cs := #[.int .i64 0, .int .i64 0, .int .i64 0]) ?_ 0 _ rfl; (with_reducible repeat (first | refine qB ?_ _ | refine qC ?_ | refine qA ?_ _)); exact BK810.out) hb); have n6_ := Aside0.mk (qG bl hb); clear HO_19; clear HO_20; clear BK797; clear BK798; clear BK808; clear BK810; clear HB; have HO_19 := n0_; have HO_20 := n1_; have BK797 := n2_; have BK798 := n3_; have BK808 := n4_; have BK810 := n5_; have HB := n6_; clear n0_ n1_ n2_ n3_ n4_ n5_ n6_; (try clear hb); (try clear hb2); (try clear hk); (try clear hi); have hcz37_0 := bc BK810 0; have hcz37_1 := bc BK810 1; have hcz37_2 := bc BK810 2; have hfz37_0 := qD BK810.out 0; have hfz37_1 := qD BK810.out 1; have hfz37_2 := qD BK810.out 2; have hcz38_0 := bc BK808 0; have hcz38_1 := bc BK808 1; have hcz38_2 := bc BK808 2; have hfz38_0 := qD BK808.out 0; have hfz38_1 := qD BK808.out 1; have hfz38_2 := qD BK808.out 2))
             go_roundg k1
             case measure => have := HK1.out; omega
             case rel => exact ⟨(wrap64 (x39_1 + 1)), ((qJ t799 x39_1).f0), ((qJ t799 x39_1).f1), ((qJ t799 x39_1).f2), (by first | rfl | (simp; done) | (simp [*]; done)), H', ⟨by have := HK1.out; omega⟩, ⟨by (with_reducible repeat (first | apply Kd.qF | apply Kd.qE | apply Kd.qI)); exact Kd.qh (Kd.R_far (p := ⟨gb808, 2, none⟩) (Kd.R_far (p := ⟨gb808, 1, none⟩) (Kd.R_far (p := ⟨gb808, 0, none⟩) (Kd.qh HO_19.out (fun k_ hk => (⟨hk, hk.1.2.2⟩ : _ ∧ k_ ≠ gb808))) (fun _ hk => hk.2) (.int .i64 ((qJ t799 x39_1).f0))) (fun _ hk => hk.2) (.int .i64 ((qJ t799 x39_1).f1))) (fun _ hk => hk.2) (.int .i64 ((qJ t799 x39_1).f2))) (fun _ hk => ⟨hk.1.1.1, ⟨hk.1.1.2.1, hk.1.1.2.2⟩⟩)⟩, ⟨by (with_reducible repeat (first | apply Kd.qF | apply Kd.qE | apply Kd.qI)); exact Kd.qh (Kd.R_far (p := ⟨gb808, 2, none⟩) (Kd.R_far (p := ⟨gb808, 1, none⟩) (Kd.R_far (p := ⟨gb808, 0, none⟩) (Kd.qr HO_20.out BK808.out (by decide)) (fun _ hk => hk.2) (.int .i64 ((qJ t799 x39_1).f0))) (fun _ hk => hk.2) (.int .i64 ((qJ t799 x39_1).f1))) (fun _ hk => hk.2) (.int .i64 ((qJ t799 x39_1).f2))) (fun _ hk => trivial)⟩, ⟨by (with_reducible repeat (first | refine qB ?_ _ | refine qC ?_ | refine qA ?_ _)); refine qH ?_ NB797_808.out _; (with_reducible repeat (first | refine qB ?_ _ | refine qC ?_ | refine qA ?_ _)); refine qH ?_ NB797_808.out _; (with_reducible repeat (first | refine qB ?_ _ | refine qC ?_ | refine qA ?_ _)); refine qH ?_ NB797_808.out _; (with_reducible repeat (first | refine qB ?_ _ | refine qC ?_ | refine qA ?_ _)); exact BK797.out⟩, ⟨by (with_reducible repeat (first | refine qB ?_ _ | refine qC ?_ | refine qA ?_ _)); refine qH ?_ NB798_808.out _; (with_reducible repeat (first | refine qB ?_ _ | refine qC ?_ | refine qA ?_ _)); refine qH ?_ NB798_808.out _; (with_reducible repeat (first | refine qB ?_ _ | refine qC ?_ | refine qA ?_ _)); refine qH ?_ NB798_808.out _; (with_reducible repeat (first | refine qB ?_ _ | refine qC ?_ | refine qA ?_ _)); exact BK798.out⟩, ⟨by (with_reducible repeat (first | refine qB ?_ _ | refine qC ?_ | refine qA ?_ _)); refine qO (cs := #[.int .i64 ((qJ t799 x39_1).f0), .int .i64 ((qJ t799 x39_1).f1), .int .i64 x809002_1]) ?_ 2 _ rfl; (with_reducible repeat (first | refine qB ?_ _ | refine qC ?_ | refine qA ?_ _)); refine qO (cs := #[.int .i64 ((qJ t799 x39_1).f0), .int .i64 x809001_1, .int .i64 x809002_1]) ?_ 1 _ rfl; (with_reducible repeat (first | refine qB ?_ _ | refine qC ?_ | refine qA ?_ _)); refine qO (cs := #[.int .i64 x809000_1, .int .i64 x809001_1, .int .i64 x809002_1]) ?_ 0 _ rfl; (with_reducible repeat (first | refine qB ?_ _ | refine qC ?_ | refine qA ?_ _)); exact BK808.out⟩, ⟨bl⟩⟩
            ·rw [if_neg c27] at H
             have c27b0 : decide (t812 < 0) = false := decide_eq_false c27
             clear c27
             have H' := Aside0.mk H
             clear H
             have p809 : 0 ≤ (x39_1 : Int) := of_decide_eq_true (by first | (with_reducible assumption) | assumption)
             have q809 : x39_1 < (t799.length : Int) := of_decide_eq_true (by first | (with_reducible assumption) | assumption)
             obtain ⟨ad809, e809, hx809_0, hx809_1, hx809_2⟩ := qFB (Kd.qf HO_19.out).2.2 x39_1 p809 q809
             obtain rfl : ad806 = ad809 := (by injection e809)
             replace p809 := eq_true p809
             replace q809 := eq_true q809
             go_wp2_with (first | ((with_reducible refine qV (N := 14) rfl ?_); refine qU ?hg (N := 14) ?hd (cs := #[.int .i64 0, .int .i64 0, .int .i64 0]) (t := 27) ?hr ?_; (case hd => rfl); (case hg => rfl); (case hr => first | (go_simp; done) | (go_simp; rfl)); intro gb810 hg w39 hbox hb; have n0_ := Aside0.mk (Kd.qY (Kd.qYA (by (with_reducible repeat (first | apply Kd.qF | apply Kd.qE | apply Kd.qI)); exact HO_19.out) gb810 (Nat.le_of_eq hg.symm)) hb); have n1_ := Aside0.mk (Kd.qY (by (with_reducible repeat (first | apply Kd.qF | apply Kd.qE | apply Kd.qI)); exact HO_20.out) hb); have n2_ := Aside0.mk (bb BK797 hb); have n3_ := Aside0.mk (bb BK798 hb); have n4_ := Aside0.mk (bb BK808 hb); have n5_ := Aside0.mk (qG bl hb); have n6_ := Aside0.mk (hbox); have n7_ := Aside0.mk ((gg hg)); have n8_ := Aside0.mk ((gg hg)); have n9_ := Aside0.mk ((nl BK797 hg)); have n10_ := Aside0.mk ((nr BK797 hg)); have n11_ := Aside0.mk ((nl BK798 hg)); have n12_ := Aside0.mk ((nr BK798 hg)); have n13_ := Aside0.mk ((nl BK808 hg)); have n14_ := Aside0.mk ((nr BK808 hg)); clear HO_19; clear HO_20; clear BK797; clear BK798; clear BK808; clear HB; have HO_19 := n0_; have HO_20 := n1_; have BK797 := n2_; have BK798 := n3_; have BK808 := n4_; have HB := n5_; have BK810 := n6_; have GW810 := n7_; have GE810 := n8_; have NB797_810 := n9_; have NB810_797 := n10_; have NB798_810 := n11_; have NB810_798 := n12_; have NB808_810 := n13_; have NB810_808 := n14_; clear n0_ n1_ n2_ n3_ n4_ n5_ n6_ n7_ n8_ n9_ n10_ n11_ n12_ n13_ n14_; clear hb hbox hg; have hnb40 := NB810_797.out; have hnc40 := NB797_810.out; have hnb41 := NB810_798.out; have hnc41 := NB798_810.out; have hnb42 := NB810_808.out; have hnc42 := NB808_810.out; have hcz43_0 := bc BK810 0; have hcz43_1 := bc BK810 1; have hcz43_2 := bc BK810 2; have hfz43_0 := qD BK810.out 0; have hfz43_1 := qD BK810.out 1; have hfz43_2 := qD BK810.out 2; have p811 : 0 ≤ (x39_1 : Int) := of_decide_eq_true (by first | (with_reducible assumption) | assumption); have q811 : x39_1 < (t802.length : Int) := of_decide_eq_true (by first | (with_reducible assumption) | assumption); obtain ⟨ad811, e811, hx811_0⟩ := Kd.qdA (Kd.qf HO_20.out).2.2 x39_1 p811 q811; obtain rfl : ad807 = ad811 := (by injection e811); have hn811_0 : ad807.block ≠ gb810 := Kd.qN (Kd.R_ne HO_20.out BK810.out (by decide)); have hn811_1 : ad807.block ≠ gb810 := Kd.qN (Kd.R_ne HO_20.out BK810.out (by decide)); have hn811_2 : ad807.block ≠ gb810 := Kd.qN (Kd.R_ne HO_20.out BK810.out (by decide)); replace hx811_0 := (qQ (p := ⟨gb810, 0, none⟩) (by first | (rw [qP]; exact hn811_0) | (show (Addr.add _ _).block ≠ _; rw [qP]; exact hn811_0) | exact hn811_0) (.int .i64 ((qJ t799 x39_1).f0))).trans hx811_0; replace hx811_0 := (qQ (p := ⟨gb810, 1, none⟩) (by first | (rw [qP]; exact hn811_1) | (show (Addr.add _ _).block ≠ _; rw [qP]; exact hn811_1) | exact hn811_1) (.int .i64 ((qJ t799 x39_1).f1))).trans hx811_0; replace hx811_0 := (qQ (p := ⟨gb810, 2, none⟩) (by first | (rw [qP]; exact hn811_2) | (show (Addr.add _ _).block ≠ _; rw [qP]; exact hn811_2) | exact hn811_2) (.int .i64 ((qJ t799 x39_1).f2))).trans hx811_0; clear hn811_0; clear hn811_1; clear hn811_2; replace p811 := eq_true p811; replace q811 := eq_true q811; have hnb44 := NB808_797.out; have hnc44 := NB797_808.out; have hnb45 := NB808_798.out; have hnc45 := NB798_808.out; have hcz46_0 := bc BK808 0; have hcz46_1 := bc BK808 1; have hcz46_2 := bc BK808 2; have hfz46_0 := qD BK808.out 0; have hfz46_1 := qD BK808.out 1; have hfz46_2 := qD BK808.out 2) | (go_at_call 74; (with_reducible refine (qiA.calls k1 ((qJ t799 x39_1).f0) ((qJ t799 x39_1).f1) ((qJ t799 x39_1).f2) x809000_1 x809001_1 x809002_1 t812 _ A26.out).mono ?_); rintro e w47 ⟨rfl, hb⟩; have n0_ := Aside0.mk (Kd.qY (by (with_reducible repeat (first | apply Kd.qF | apply Kd.qE | apply Kd.qI)); exact (Kd.qh (Kd.R_far (p := ⟨gb810, 2, none⟩) (Kd.R_far (p := ⟨gb810, 1, none⟩) (Kd.R_far (p := ⟨gb810, 0, none⟩) (Kd.qh HO_19.out (fun k_ hk => (⟨hk, hk.2⟩ : _ ∧ k_ ≠ gb810))) (fun _ hk => hk.2) (.int .i64 ((qJ t799 x39_1).f0))) (fun _ hk => hk.2) (.int .i64 ((qJ t799 x39_1).f1))) (fun _ hk => hk.2) (.int .i64 ((qJ t799 x39_1).f2))) (fun _ h_ => h_.1))) hb); have n1_ := Aside0.mk (Kd.qY (by (with_reducible repeat (first | apply Kd.qF | apply Kd.qE | apply Kd.qI)); exact (Kd.qh (Kd.R_far (p := ⟨gb810, 2, none⟩) (Kd.R_far (p := ⟨gb810, 1, none⟩) (Kd.R_far (p := ⟨gb810, 0, none⟩) (Kd.qr HO_20.out BK810.out (by decide)) (fun _ hk => hk.2) (.int .i64 ((qJ t799 x39_1).f0))) (fun _ hk => hk.2) (.int .i64 ((qJ t799 x39_1).f1))) (fun _ hk => hk.2) (.int .i64 ((qJ t799 x39_1).f2))) (fun _ h_ => h_.1))) hb); have n2_ := Aside0.mk (ql (g := gb797) (o := .cells #[.int .i64 a1_0, .int .i64 a1_1, .int .i64 a1_2] 27 (0, 0)) (by (with_reducible repeat (first | refine qB ?_ _ | refine qC ?_ | refine qA ?_ _)); refine qH ?_ NB797_810.out _; (with_reducible repeat (first | refine qB ?_ _ | refine qC ?_ | refine qA ?_ _)); refine qH ?_ NB797_810.out _; (with_reducible repeat (first | refine qB ?_ _ | refine qC ?_ | refine qA ?_ _)); refine qH ?_ NB797_810.out _; (with_reducible repeat (first | refine qB ?_ _ | refine qC ?_ | refine qA ?_ _)); exact BK797.out) hb); have n3_ := Aside0.mk (ql (g := gb798) (o := .cells #[.int .i64 0, .int .i64 0, .int .i64 0] 27 (0, 0)) (by (with_reducible repeat (first | refine qB ?_ _ | refine qC ?_ | refine qA ?_ _)); refine qH ?_ NB798_810.out _; (with_reducible repeat (first | refine qB ?_ _ | refine qC ?_ | refine qA ?_ _)); refine qH ?_ NB798_810.out _; (with_reducible repeat (first | refine qB ?_ _ | refine qC ?_ | refine qA ?_ _)); refine qH ?_ NB798_810.out _; (with_reducible repeat (first | refine qB ?_ _ | refine qC ?_ | refine qA ?_ _)); exact BK798.out) hb); have n4_ := Aside0.mk (ql (g := gb808) (o := .cells #[.int .i64 x809000_1, .int .i64 x809001_1, .int .i64 x809002_1] 27 (0, 0)) (by (with_reducible repeat (first | refine qB ?_ _ | refine qC ?_ | refine qA ?_ _)); refine qH ?_ NB808_810.out _; (with_reducible repeat (first | refine qB ?_ _ | refine qC ?_ | refine qA ?_ _)); refine qH ?_ NB808_810.out _; (with_reducible repeat (first | refine qB ?_ _ | refine qC ?_ | refine qA ?_ _)); refine qH ?_ NB808_810.out _; (with_reducible repeat (first | refine qB ?_ _ | refine qC ?_ | refine qA ?_ _)); exact BK808.out) hb); have n5_ := Aside0.mk (ql (g := gb810) (o := .cells #[.int .i64 ((qJ t799 x39_1).f0), .int .i64 ((qJ t799 x39_1).f1), .int .i64 ((qJ t799 x39_1).f2)] 27 (0, 0)) (by (with_reducible repeat (first | refine qB ?_ _ | refine qC ?_ | refine qA ?_ _)); refine qO (cs := #[.int .i64 ((qJ t799 x39_1).f0), .int .i64 ((qJ t799 x39_1).f1), .int .i64 0]) ?_ 2 _ rfl; (with_reducible repeat (first | refine qB ?_ _ | refine qC ?_ | refine qA ?_ _)); refine qO (cs := #[.int .i64 ((qJ t799 x39_1).f0), .int .i64 0, .int .i64 0]) ?_ 1 _ rfl; (with_reducible repeat (first | refine qB ?_ _ | refine qC ?_ | refine qA ?_ _)); refine qO (cs := #[.int .i64 0, .int .i64 0, .int .i64 0]) ?_ 0 _ rfl; (with_reducible repeat (first | refine qB ?_ _ | refine qC ?_ | refine qA ?_ _)); exact BK810.out) hb); have n6_ := Aside0.mk (qG bl hb); clear HO_19; clear HO_20; clear BK797; clear BK798; clear BK808; clear BK810; clear HB; have HO_19 := n0_; have HO_20 := n1_; have BK797 := n2_; have BK798 := n3_; have BK808 := n4_; have BK810 := n5_; have HB := n6_; clear n0_ n1_ n2_ n3_ n4_ n5_ n6_; (try clear hb); (try clear hb2); (try clear hk); (try clear hi)))
             go_roundg k1
             case measure => have := HK1.out; omega
             case rel => exact ⟨(wrap64 (x39_1 + 1)), (x809000_1), (x809001_1), (x809002_1), (by first | rfl | (simp; done) | (simp [*]; done)), H', ⟨by have := HK1.out; omega⟩, ⟨by (with_reducible repeat (first | apply Kd.qF | apply Kd.qE | apply Kd.qI)); exact Kd.qh HO_19.out (fun _ hk => ⟨hk.1.1, ⟨hk.1.2.1, hk.1.2.2⟩⟩)⟩, ⟨by (with_reducible repeat (first | apply Kd.qF | apply Kd.qE | apply Kd.qI)); exact HO_20.out⟩, ⟨by (with_reducible repeat (first | refine qB ?_ _ | refine qC ?_ | refine qA ?_ _)); exact BK797.out⟩, ⟨by (with_reducible repeat (first | refine qB ?_ _ | refine qC ?_ | refine qA ?_ _)); exact BK798.out⟩, ⟨by (with_reducible repeat (first | refine qB ?_ _ | refine qC ?_ | refine qA ?_ _)); exact BK808.out⟩, ⟨bl⟩⟩
           ·rw [if_neg c25] at H
            have c25b0 : (((rdOf ByteArray.empty t802 x39_1).size : Int) == ((rdOf ByteArray.empty t802 (ji5)).size : Int)) = false := beq_eq_false_iff_ne.mpr c25
            have c25b1 : (((rdOf ByteArray.empty t802 x39_1).size : Int) != ((rdOf ByteArray.empty t802 (ji5)).size : Int)) = true := bne_iff_ne.mpr c25
            have c25b2 : ((rdOf ByteArray.empty t802 x39_1).size == (rdOf ByteArray.empty t802 (ji5)).size) = false := by first | simpa using c25 | (simp at c25 ⊢; omega)
            have H' := Aside0.mk H
            clear H
            have p809 : 0 ≤ (x39_1 : Int) := of_decide_eq_true (by first | (with_reducible assumption) | assumption)
            have q809 : x39_1 < (t799.length : Int) := of_decide_eq_true (by first | (with_reducible assumption) | assumption)
            obtain ⟨ad809, e809, hx809_0, hx809_1, hx809_2⟩ := qFB (Kd.qf HO_19.out).2.2 x39_1 p809 q809
            obtain rfl : ad806 = ad809 := (by injection e809)
            replace p809 := eq_true p809
            replace q809 := eq_true q809
            go_wp2_with (first | ((with_reducible refine qV (N := 14) rfl ?_); refine qU ?hg (N := 14) ?hd (cs := #[.int .i64 0, .int .i64 0, .int .i64 0]) (t := 27) ?hr ?_; (case hd => rfl); (case hg => rfl); (case hr => first | (go_simp; done) | (go_simp; rfl)); intro gb810 hg w48 hbox hb; have n0_ := Aside0.mk (Kd.qY (Kd.qYA (by (with_reducible repeat (first | apply Kd.qF | apply Kd.qE | apply Kd.qI)); exact HO_19.out) gb810 (Nat.le_of_eq hg.symm)) hb); have n1_ := Aside0.mk (Kd.qY (by (with_reducible repeat (first | apply Kd.qF | apply Kd.qE | apply Kd.qI)); exact HO_20.out) hb); have n2_ := Aside0.mk (bb BK797 hb); have n3_ := Aside0.mk (bb BK798 hb); have n4_ := Aside0.mk (bb BK808 hb); have n5_ := Aside0.mk (qG bl hb); have n6_ := Aside0.mk (hbox); have n7_ := Aside0.mk ((gg hg)); have n8_ := Aside0.mk ((gg hg)); have n9_ := Aside0.mk ((nl BK797 hg)); have n10_ := Aside0.mk ((nr BK797 hg)); have n11_ := Aside0.mk ((nl BK798 hg)); have n12_ := Aside0.mk ((nr BK798 hg)); have n13_ := Aside0.mk ((nl BK808 hg)); have n14_ := Aside0.mk ((nr BK808 hg)); clear HO_19; clear HO_20; clear BK797; clear BK798; clear BK808; clear HB; have HO_19 := n0_; have HO_20 := n1_; have BK797 := n2_; have BK798 := n3_; have BK808 := n4_; have HB := n5_; have BK810 := n6_; have GW810 := n7_; have GE810 := n8_; have NB797_810 := n9_; have NB810_797 := n10_; have NB798_810 := n11_; have NB810_798 := n12_; have NB808_810 := n13_; have NB810_808 := n14_; clear n0_ n1_ n2_ n3_ n4_ n5_ n6_ n7_ n8_ n9_ n10_ n11_ n12_ n13_ n14_; clear hb hbox hg; have hnb49 := NB810_797.out; have hnc49 := NB797_810.out; have hnb50 := NB810_798.out; have hnc50 := NB798_810.out; have hnb51 := NB810_808.out; have hnc51 := NB808_810.out; have hcz52_0 := bc BK810 0; have hcz52_1 := bc BK810 1; have hcz52_2 := bc BK810 2; have hfz52_0 := qD BK810.out 0; have hfz52_1 := qD BK810.out 1; have hfz52_2 := qD BK810.out 2; have p811 : 0 ≤ (x39_1 : Int) := of_decide_eq_true (by first | (with_reducible assumption) | assumption); have q811 : x39_1 < (t802.length : Int) := of_decide_eq_true (by first | (with_reducible assumption) | assumption); obtain ⟨ad811, e811, hx811_0⟩ := Kd.qdA (Kd.qf HO_20.out).2.2 x39_1 p811 q811; obtain rfl : ad807 = ad811 := (by injection e811); have hn811_0 : ad807.block ≠ gb810 := Kd.qN (Kd.R_ne HO_20.out BK810.out (by decide)); have hn811_1 : ad807.block ≠ gb810 := Kd.qN (Kd.R_ne HO_20.out BK810.out (by decide)); have hn811_2 : ad807.block ≠ gb810 := Kd.qN (Kd.R_ne HO_20.out BK810.out (by decide)); replace hx811_0 := (qQ (p := ⟨gb810, 0, none⟩) (by first | (rw [qP]; exact hn811_0) | (show (Addr.add _ _).block ≠ _; rw [qP]; exact hn811_0) | exact hn811_0) (.int .i64 ((qJ t799 x39_1).f0))).trans hx811_0; replace hx811_0 := (qQ (p := ⟨gb810, 1, none⟩) (by first | (rw [qP]; exact hn811_1) | (show (Addr.add _ _).block ≠ _; rw [qP]; exact hn811_1) | exact hn811_1) (.int .i64 ((qJ t799 x39_1).f1))).trans hx811_0; replace hx811_0 := (qQ (p := ⟨gb810, 2, none⟩) (by first | (rw [qP]; exact hn811_2) | (show (Addr.add _ _).block ≠ _; rw [qP]; exact hn811_2) | exact hn811_2) (.int .i64 ((qJ t799 x39_1).f2))).trans hx811_0; clear hn811_0; clear hn811_1; clear hn811_2; replace p811 := eq_true p811; replace q811 := eq_true q811))
            go_roundg k1
            case measure => have := HK1.out; omega
            case rel => exact ⟨(wrap64 (x39_1 + 1)), (x809000_1), (x809001_1), (x809002_1), (by first | rfl | (simp; done) | (simp [*]; done)), H', ⟨by have := HK1.out; omega⟩, ⟨by (with_reducible repeat (first | apply Kd.qF | apply Kd.qE | apply Kd.qI)); exact Kd.qh (Kd.R_far (p := ⟨gb810, 2, none⟩) (Kd.R_far (p := ⟨gb810, 1, none⟩) (Kd.R_far (p := ⟨gb810, 0, none⟩) (Kd.qh HO_19.out (fun k_ hk => (⟨hk, hk.2⟩ : _ ∧ k_ ≠ gb810))) (fun _ hk => hk.2) (.int .i64 ((qJ t799 x39_1).f0))) (fun _ hk => hk.2) (.int .i64 ((qJ t799 x39_1).f1))) (fun _ hk => hk.2) (.int .i64 ((qJ t799 x39_1).f2))) (fun _ hk => ⟨hk.1.1.1, ⟨hk.1.1.2.1, hk.1.1.2.2⟩⟩)⟩, ⟨by (with_reducible repeat (first | apply Kd.qF | apply Kd.qE | apply Kd.qI)); exact Kd.qh (Kd.R_far (p := ⟨gb810, 2, none⟩) (Kd.R_far (p := ⟨gb810, 1, none⟩) (Kd.R_far (p := ⟨gb810, 0, none⟩) (Kd.qr HO_20.out BK810.out (by decide)) (fun _ hk => hk.2) (.int .i64 ((qJ t799 x39_1).f0))) (fun _ hk => hk.2) (.int .i64 ((qJ t799 x39_1).f1))) (fun _ hk => hk.2) (.int .i64 ((qJ t799 x39_1).f2))) (fun _ hk => trivial)⟩, ⟨by (with_reducible repeat (first | refine qB ?_ _ | refine qC ?_ | refine qA ?_ _)); refine qH ?_ NB797_810.out _; (with_reducible repeat (first | refine qB ?_ _ | refine qC ?_ | refine qA ?_ _)); refine qH ?_ NB797_810.out _; (with_reducible repeat (first | refine qB ?_ _ | refine qC ?_ | refine qA ?_ _)); refine qH ?_ NB797_810.out _; (with_reducible repeat (first | refine qB ?_ _ | refine qC ?_ | refine qA ?_ _)); exact BK797.out⟩, ⟨by (with_reducible repeat (first | refine qB ?_ _ | refine qC ?_ | refine qA ?_ _)); refine qH ?_ NB798_810.out _; (with_reducible repeat (first | refine qB ?_ _ | refine qC ?_ | refine qA ?_ _)); refine qH ?_ NB798_810.out _; (with_reducible repeat (first | refine qB ?_ _ | refine qC ?_ | refine qA ?_ _)); refine qH ?_ NB798_810.out _; (with_reducible repeat (first | refine qB ?_ _ | refine qC ?_ | refine qA ?_ _)); exact BK798.out⟩, ⟨by (with_reducible repeat (first | refine qB ?_ _ | refine qC ?_ | refine qA ?_ _)); refine qH ?_ NB808_810.out _; (with_reducible repeat (first | refine qB ?_ _ | refine qC ?_ | refine qA ?_ _)); refine qH ?_ NB808_810.out _; (with_reducible repeat (first | refine qB ?_ _ | refine qC ?_ | refine qA ?_ _)); refine qH ?_ NB808_810.out _; (with_reducible repeat (first | refine qB ?_ _ | refine qC ?_ | refine qA ?_ _)); exact BK808.out⟩, ⟨bl⟩⟩
          ·rw [if_neg c24] at H
           exact absurd H (by simp)
         ·rw [if_neg c23] at H
          exact absurd H (by simp)
        ·rw [if_neg c22] at H
         exact absurd H (by simp)
       ·rw [if_neg c21] at H
        have c21b0 : decide (x39_1 < (t799.length : Int)) = false := decide_eq_false c21
        clear c21
        simp only [Option.some.injEq, Prod.mk.injEq] at H
        obtain ⟨rfl, rfl, rfl, rfl, rfl⟩ := H
        have hnb53 := NB808_797.out
        have hnc53 := NB797_808.out
        have hnb54 := NB808_798.out
        have hnc54 := NB798_808.out
        have hcz55_0 := bc BK808 0
        have hcz55_1 := bc BK808 1
        have hcz55_2 := bc BK808 2
        have hfz55_0 := qD BK808.out 0
        have hfz55_1 := qD BK808.out 1
        have hfz55_2 := qD BK808.out 2
        have hnb56 := NB798_797.out
        have hnc56 := NB797_798.out
        have hcz57_0 := bc BK798 0
        have hcz57_1 := bc BK798 1
        have hcz57_2 := bc BK798 2
        have hfz57_0 := qD BK798.out 0
        have hfz57_1 := qD BK798.out 1
        have hfz57_2 := qD BK798.out 2
        go_wp2
        refine bodyPost_ret (qUB rfl _ _ gb798 27 #[.int .i64 x809000_1, .int .i64 x809001_1, .int .i64 x809002_1] (0, 0) _ rfl (by (with_reducible repeat (first | refine qB ?_ _ | refine qC ?_ | refine qA ?_ _)); refine qO (cs := #[.int .i64 x809000_1, .int .i64 x809001_1, .int .i64 0]) ?_ 2 _ rfl; (with_reducible repeat (first | refine qB ?_ _ | refine qC ?_ | refine qA ?_ _)); refine qO (cs := #[.int .i64 x809000_1, .int .i64 0, .int .i64 0]) ?_ 1 _ rfl; (with_reducible repeat (first | refine qB ?_ _ | refine qC ?_ | refine qA ?_ _)); refine qO (cs := #[.int .i64 0, .int .i64 0, .int .i64 0]) ?_ 0 _ rfl; (with_reducible repeat (first | refine qB ?_ _ | refine qC ?_ | refine qA ?_ _)); exact BK798.out) Tryd.underlying27 rfl (by kernel_rfl)) rfl ?_
        exact ⟨by first | rfl | (simp [qM, qL] <;> rfl) | (simp only [← hji5]; first | rfl | (simp [qM, qL] <;> rfl)) | (simp [*, qM, qL] <;> rfl), bl⟩
    ·rw [if_neg c8] at H
     exact absurd H (by simp)
   ·rw [if_neg c7] at H
    exact absurd H (by simp)
  ·rw [if_neg c6] at H
   exact absurd H (by simp)
 ·replace c4 := Bool.eq_false_iff.mpr c4
  subst c4
  have H1 : (some (0, 0, 0, 0, false)) = some (r1, r2, r3, r4, r5) := by rw [if_neg (show ¬ (false = true) by decide)] at H; exact H
  clear H
  have H := H1
  clear H1
  simp only [Option.some.injEq, Prod.mk.injEq] at H
  obtain ⟨rfl, rfl, rfl, rfl, rfl⟩ := H
  go_enter Tryd.func42, Tryd.ntmps42
  go_wp2_with (first | ((with_reducible refine qV (N := 3) rfl ?_); refine qU ?hg (N := 3) ?hd (cs := #[.int .i64 a1_0, .int .i64 a1_1, .int .i64 a1_2]) (t := 27) ?hr ?_; (case hd => rfl); (case hg => rfl); (case hr => first | (go_simp; done) | (go_simp; rfl)); intro gb797 hg w58 hbox hb; have n0_ := Aside0.mk (qG bl hb); have n1_ := Aside0.mk (hbox); have n2_ := Aside0.mk ((gg hg)); have n3_ := Aside0.mk ((gg hg)); clear HB; have HB := n0_; have BK797 := n1_; have GW797 := n2_; have GE797 := n3_; clear n0_ n1_ n2_ n3_; clear hb hbox hg) | ((with_reducible refine qV (N := 4) rfl ?_); refine qU ?hg (N := 4) ?hd (cs := #[.int .i64 0, .int .i64 0, .int .i64 0]) (t := 27) ?hr ?_; (case hd => rfl); (case hg => rfl); (case hr => first | (go_simp; done) | (go_simp; rfl)); intro gb798 hg w59 hbox hb; have n0_ := Aside0.mk (bb BK797 hb); have n1_ := Aside0.mk (qG bl hb); have n2_ := Aside0.mk (hbox); have n3_ := Aside0.mk ((gg hg)); have n4_ := Aside0.mk ((gg hg)); have n5_ := Aside0.mk ((nl BK797 hg)); have n6_ := Aside0.mk ((nr BK797 hg)); clear BK797; clear HB; have BK797 := n0_; have HB := n1_; have BK798 := n2_; have GW798 := n3_; have GE798 := n4_; have NB797_798 := n5_; have NB798_797 := n6_; clear n0_ n1_ n2_ n3_ n4_ n5_ n6_; clear hb hbox hg; have hnb60 := NB797_798.out; have hnc60 := NB798_797.out; have hcz61_0 := bc BK797 0; have hcz61_1 := bc BK797 1; have hcz61_2 := bc BK797 2; have hfz61_0 := qD BK797.out 0; have hfz61_1 := qD BK797.out 1; have hfz61_2 := qD BK797.out 2) | ((with_reducible refine qS (f := 66) rfl ?_); refine qq (some 18) rfl rfl Tryd.func66 (by kernel_rfl) rfl #[.string a0, .agg #[.int .i64 a1_0, .int .i64 a1_1, .int .i64 a1_2]] rfl (by (try simp only [List.map_toArray, List.map_cons, List.map_nil]); first | done | rfl | (simp only [List.length_drop, List.length_take]; rfl)) ?_; (with_reducible refine (qR.calls k a0 a1_0 a1_1 a1_2 t799 t802 false _ ?side1 A3.out).mono ?_); (case side1 => first | exact HLD.out | exact Laid.below HLD.out (by repeat (first | (with_reducible first | exact HB.out | apply qu | apply qv | apply qn | refine qcA ?_ (Aside0.out (by with_reducible assumption))) | exact HB.out))); rintro e w62 ⟨v800, v803, rfl, ho0, ho1, hb⟩; refine ⟨_, rfl, ?_⟩; have n0_ := Aside0.mk (Kd.qBA (Kd.qMB (Kd.qMB ho0 (g := gb797) (o := .cells #[.int .i64 a1_0, .int .i64 a1_1, .int .i64 a1_2] 27 (0, 0)) (by (with_reducible repeat (first | refine qB ?_ _ | refine qC ?_ | refine qA ?_ _)); exact BK797.out)) (g := gb798) (o := .cells #[.int .i64 0, .int .i64 0, .int .i64 0] 27 (0, 0)) (by (with_reducible repeat (first | refine qB ?_ _ | refine qC ?_ | refine qA ?_ _)); exact BK798.out)) (qg bl)); have n1_ := Aside0.mk (Kd.qBA ho1 (qg bl)); have n2_ := Aside0.mk (bb BK797 hb); have n3_ := Aside0.mk (bb BK798 hb); have n4_ := Aside0.mk (qG bl hb); clear BK797; clear BK798; clear HB; have HO801 := n0_; have HO804 := n1_; have BK797 := n2_; have BK798 := n3_; have HB := n4_; clear n0_ n1_ n2_ n3_ n4_; (try clear hb); (try clear hb2); (try clear hk); (try clear hi); (try clear ho0); (try clear ho1); have hcz63_0 := bc BK798 0; have hcz63_1 := bc BK798 1; have hcz63_2 := bc BK798 2; have hfz63_0 := qD BK798.out 0; have hfz63_1 := qD BK798.out 1; have hfz63_2 := qD BK798.out 2))
  refine bodyPost_ret (qUB rfl _ _ gb798 27 #[.int .i64 0, .int .i64 0, .int .i64 0] (0, 0) _ rfl (by (with_reducible repeat (first | refine qB ?_ _ | refine qC ?_ | refine qA ?_ _)); refine qO (cs := #[.int .i64 0, .int .i64 0, .int .i64 0]) ?_ 2 _ rfl; (with_reducible repeat (first | refine qB ?_ _ | refine qC ?_ | refine qA ?_ _)); refine qO (cs := #[.int .i64 0, .int .i64 0, .int .i64 0]) ?_ 1 _ rfl; (with_reducible repeat (first | refine qB ?_ _ | refine qC ?_ | refine qA ?_ _)); refine qO (cs := #[.int .i64 0, .int .i64 0, .int .i64 0]) ?_ 0 _ rfl; (with_reducible repeat (first | refine qB ?_ _ | refine qC ?_ | refine qA ?_ _)); exact BK798.out) Tryd.underlying27 rfl (by kernel_rfl)) rfl ?_
  exact ⟨by first | rfl | (simp [qM, qL] <;> rfl) | (simp [*, qM, qL] <;> rfl), bl⟩
end Go.Proofs.YtbpfhpjbeomfcaaDoor.P
