/- The program's BoxesReached returns what the reference's returns, for all texts and boxes (the law lets longer texts by). No further condition. -/
import Derived.Test.YtdagdhmcebeadaaDoorKFnExactBoxesReached3
import Derived.Shelf.SlSortCmp.NoneTotal
import Derived.Shelf.SlGeneric
import Derived.Ground.SlsfProg
import Derived.Test.YtdagdhmcebeadaaDoorProg

namespace Go.Proofs.YtdagdhmcebeadaaDoor.P
open Go.RowKit Go.Proofs.YtdagdhmcebeadaaDoorW.PrintWords Go.Proofs.YtdagdhmcebeadaaDoorW.PrintLast Go.Proofs.YtdagdhmcebeadaaDoorW.PrintMore
attribute [local go_sem] qDA qBA qLA qKA qq qp qCA qAA
set_option linter.unusedVariables false
set_option linter.unusedSimpArgs false
mutual
def qP.l0 : Nat → List (S27) → List ByteArray → Int → List ByteArray → Option ((List (S27)) × List ByteArray × Bool)
 | 0, _, _, _, _ => none
 | k + 1, x9, x10, x11, x19 => if x11 < (x9.length : Int) then (qP.l1 k x9 x10 x11 x19 0) else (some (x9, x10, decide ((x9.length : Int) ≤ 400)))
def qP.l1 : Nat → List (S27) → List ByteArray → Int → List ByteArray → Int → Option ((List (S27)) × List ByteArray × Bool)
 | 0, _, _, _, _, _ => none
 | k + 1, x9, x10, x11, x19, x32 => if x32 < 4 then (if 0 ≤ x11 then (if x11 < (x9.length : Int) then (if 0 ≤ x32 then ((qPA.f k x19 ((qK x9 x11).f0) ((qK x9 x11).f1) ((qK x9 x11).f2) (bt (⟨#[110, 101, 115, 119]⟩ : ByteArray) x32)).bind fun bt362 => (if bt362.2.2.2 = true then ((qn.f k x9 bt362.1 bt362.2.1 bt362.2.2.1).bind fun t367 => (if t367 = true then (qP.l1 k x9 x10 x11 x19 (wrap64 (x32 + 1))) else ((some (([(⟨bt362.1, bt362.2.1, bt362.2.2.1⟩ : S27)] : List (S27)) : List (S27))).bind fun y368 => (if x9.length + y368.length < 5864062014805 then (if x11 < (x10.length : Int) then (if x32 ≤ (wrap64 (x32 + 1)) then (if (wrap64 (x32 + 1)) ≤ 4 then (if (rdOf ByteArray.empty x10 x11).size + ((⟨#[110, 101, 115, 119]⟩ : ByteArray).extract (x32 : Int).toNat ((wrap64 (x32 + 1)) : Int).toNat).size ≤ 9223372036854775807 then ((some (([(rdOf ByteArray.empty x10 x11) ++ ((⟨#[110, 101, 115, 119]⟩ : ByteArray).extract (x32 : Int).toNat ((wrap64 (x32 + 1)) : Int).toNat)] : List ByteArray) : List ByteArray)).bind fun y375 => (if x10.length + y375.length < 8796093022208 then (qP.l1 k (x9 ++ y368) (x10 ++ y375) x11 x19 (wrap64 (x32 + 1))) else (none))) else (none)) else (none)) else (none)) else (none)) else (none))))) else (qP.l1 k x9 x10 x11 x19 (wrap64 (x32 + 1))))) else (none)) else (none)) else (none)) else (qP.l0 k x9 x10 (wrap64 (x11 + 1)) x19)
end
def qP.f (k : Nat) (a0 : ByteArray) (a1_0 : Int) (a1_1 : Int) (a1_2 : Int) : Option ((List (S27)) × List ByteArray × Bool) := (qhA.f k a0 a1_0 a1_1 a1_2).bind fun bt351 => (if bt351.2 = true then (qP.l0 k (([(⟨a1_0, a1_1, a1_2⟩ : S27)] : List (S27))) (([(⟨#[]⟩ : ByteArray)] : List ByteArray)) 0 bt351.1) else (some (([] : List (S27)), ([] : List ByteArray), false)))
def qP.T11 : Bool × List (List Nat × List Nat) := (true, [([], []), ([], []), ([], []), ([1, 2], [1, 2]), ([3], [3]), ([], []), ([5], [5]), ([0, 4, 6], [0, 4, 6]), ([7], [7]), ([8], [8]), ([8], [8]), ([], []), ([11, 9, 7, 0, 1, 2, 3, 4, 5, 6, 7, 8, 9, 11], [9, 11]), ([10, 12, 0, 1, 2, 3, 4, 5, 6, 7, 8, 9, 10, 11, 12], [10])])
def qP.B11 : List Nat := [0, 0, 0, 6, 14, 0, 32, 127, 255, 511, 511, 0, 3071, 8191]
theorem qP.tab11 : rtab .any (opsOf Tryd.f12 11) = qP.T11 := by kernel_rfl
theorem qP.bits11 : waitsOk qP.T11.2 qP.B11 = true := by kernel_rfl
def qP.T13 : Bool × List (List Nat × List Nat) := (true, [([], []), ([], []), ([1], [1]), ([0, 2], [0, 2]), ([], []), ([], []), ([], []), ([5, 6], [5, 6]), ([7], [7]), ([], []), ([], []), ([10], [10]), ([9, 11], [9, 11]), ([8, 12], [8, 12]), ([13], [13]), ([4, 14, 3], [4, 14]), ([3, 15, 0, 1, 2, 3], [0, 3]), ([15, 16, 0, 1, 2, 3, 4, 5, 6, 7, 8, 9, 10, 11, 12, 13, 14, 15, 16], [4, 5, 15])])
def qP.B13 : List Nat := [0, 0, 2, 7, 0, 0, 0, 96, 224, 0, 0, 1024, 3584, 8160, 16352, 32767, 65535, 131071]
theorem qP.tab13 : rtab .any (opsOf Tryd.f12 13) = qP.T13 := by kernel_rfl
theorem qP.bits13 : waitsOk qP.T13.2 qP.B13 = true := by kernel_rfl
set_option maxHeartbeats 8000000 in
set_option maxRecDepth 100000 in
theorem qP.calls (k : Nat) (a0 : ByteArray) (a1_0 : Int) (a1_1 : Int) (a1_2 : Int) (r1 : List (S27)) (r2 : List ByteArray) (r3 : Bool) (w : World) (hL : Laid w) (h : qP.f k a0 a1_0 a1_1 a1_2 = some (r1, r2, r3)) :
  Calls Tryd.prog 12 #[.string a0, .agg #[.int .i64 a1_0, .int .i64 a1_1, .int .i64 a1_2]] w fun e w' => ∃ v0_ v1_ : Value, e = .returned (.tuple #[v0_, v1_, .bool r3]) ∧ Kd.R k27 27 w' w.heap.size (fun _ => True) v0_ r1 ∧ Kd.R Kd.string 9 w' w.heap.size (fun _ => True) v1_ r2 ∧ Below w.heap.size w w' := by
 have hu27 := Tryd.underlying27
 have HLD := Aside0.mk hL
 clear hL
 have HB := Aside0.mk (Below.refl w.heap.size w)
 have H : ((qhA.f k a0 a1_0 a1_1 a1_2).bind fun bt351 => (if bt351.2 = true then (qP.l0 k (([(⟨a1_0, a1_1, a1_2⟩ : S27)] : List (S27))) (([(⟨#[]⟩ : ByteArray)] : List ByteArray)) 0 bt351.1) else (some (([] : List (S27)), ([] : List ByteArray), false)))) = some (r1, r2, r3) := h
 clear h
 replace H := Option.bind_eq_some_iff.mp H
 obtain ⟨⟨t351, t354⟩, A30, H⟩ := H
 replace H : (if t354 = true then (qP.l0 k (([(⟨a1_0, a1_1, a1_2⟩ : S27)] : List (S27))) (([(⟨#[]⟩ : ByteArray)] : List ByteArray)) 0 t351) else (some (([] : List (S27)), ([] : List ByteArray), false))) = some (r1, r2, r3) := H
 have A3 := Aside0.mk A30
 clear A30
 by_cases c4 : t354 = true
 ·subst c4
  have H1 : (qP.l0 k (([(⟨a1_0, a1_1, a1_2⟩ : S27)] : List (S27))) (([(⟨#[]⟩ : ByteArray)] : List ByteArray)) 0 t351) = some (r1, r2, r3) := by rw [if_pos rfl] at H; exact H
  clear H
  have H := H1
  clear H1
  obtain ⟨y355, hy355⟩ : ∃ y_ : List (S27), y_ = (([(⟨a1_0, a1_1, a1_2⟩ : S27)] : List (S27))) := ⟨_, rfl⟩
  replace H : (qP.l0 k y355 (([(⟨#[]⟩ : ByteArray)] : List ByteArray)) 0 t351) = some (r1, r2, r3) := by first | (rw [hy355]; with_reducible exact H) | (have H2_ := (Option.bind_some _ _).symm.trans H; rw [hy355]; with_reducible exact H2_) | (have H2_ := (Option.bind_some _ _).symm.trans H; with_reducible exact H2_) | with_reducible exact H | (rw [hy355]; exact H) | exact H
  have Ny355 := Aside0.mk hy355
  clear hy355
  obtain ⟨y358, hy358⟩ : ∃ y_ : List ByteArray, y_ = (([(⟨#[]⟩ : ByteArray)] : List ByteArray)) := ⟨_, rfl⟩
  replace H : (qP.l0 k y355 y358 0 t351) = some (r1, r2, r3) := by first | (rw [hy358]; with_reducible exact H) | (have H2_ := (Option.bind_some _ _).symm.trans H; rw [hy358]; with_reducible exact H2_) | (have H2_ := (Option.bind_some _ _).symm.trans H; with_reducible exact H2_) | with_reducible exact H | (rw [hy358]; exact H) | exact H
  have Ny358 := Aside0.mk hy358
  clear hy358
  have H' := Aside0.mk H
  clear H
  go_enter Tryd.func12, Tryd.ntmps12
  go_wp2_with (first | ((with_reducible refine qd (N := 3) rfl ?_); refine qY ?hg (N := 3) ?hd (cs := #[.int .i64 a1_0, .int .i64 a1_1, .int .i64 a1_2]) (t := 27) ?hr ?_; (case hd => rfl); (case hg => rfl); (case hr => first | (go_simp; done) | (go_simp; rfl)); intro gb350 hg w5 hbox hb; have n0_ := Aside0.mk (qG bl hb); have n1_ := Aside0.mk (hbox); have n2_ := Aside0.mk ((gg hg)); have n3_ := Aside0.mk ((gg hg)); clear HB; have HB := n0_; have BK350 := n1_; have GW350 := n2_; have GE350 := n3_; clear n0_ n1_ n2_ n3_; clear hb hbox hg; have hcz6_0 := bc BK350 0; have hcz6_1 := bc BK350 1; have hcz6_2 := bc BK350 2; have hfz6_0 := qC BK350.out 0; have hfz6_1 := qC BK350.out 1; have hfz6_2 := qC BK350.out 2) | ((with_reducible refine qS (f := 20) rfl ?_); refine qt (some 18) rfl rfl Tryd.func20 (by kernel_rfl) rfl #[.string a0, .agg #[.int .i64 a1_0, .int .i64 a1_1, .int .i64 a1_2]] rfl (by (try simp only [List.map_toArray, List.map_cons, List.map_nil]); first | done | rfl | (simp only [List.length_drop, List.length_take]; rfl)) ?_; (with_reducible refine (qhA.calls k a0 a1_0 a1_1 a1_2 t351 true _ ?side1 A3.out).mono ?_); (case side1 => first | exact HLD.out | exact Laid.below HLD.out (by repeat (first | (with_reducible first | exact HB.out | apply qv | apply qu | apply qm | refine qVA ?_ (Aside0.out (by with_reducible assumption))) | exact HB.out))); rintro e w7 ⟨v352, rfl, ho0, hb⟩; refine ⟨_, rfl, ?_⟩; have n0_ := Aside0.mk (Kd.qHA ho0 (qg bl)); have n1_ := Aside0.mk (bb BK350 hb); have n2_ := Aside0.mk (qG bl hb); clear BK350; clear HB; have HO353 := n0_; have BK350 := n1_; have HB := n2_; clear n0_ n1_ n2_; (try clear hb); (try clear hb2); (try clear hk); (try clear hi); (try clear ho0); have hcz8_0 := bc BK350 0; have hcz8_1 := bc BK350 1; have hcz8_2 := bc BK350 2; have hfz8_0 := qC BK350.out 0; have hfz8_1 := qC BK350.out 1; have hfz8_2 := qC BK350.out 2) | ((with_reducible refine qd (N := 24) rfl ?_); refine Kd.R_lit k27 _ 27 ?hg (N := 24) ?hd (xs := ([(⟨a1_0, a1_1, a1_2⟩ : S27)] : List (S27))) (inner := [.int .i64 a1_0, .int .i64 a1_1, .int .i64 a1_2]) (ok := fun _ => True) (okp := fun _ => True) ?hr ?hp (fun _ hk => hk) trivial (Below.refl _ _) (Nat.le_refl _) (by simp) ?_; (case hd => rfl); (case hg => rfl); (case hr => first | (go_simp; done) | (go_simp; rfl)); (case hp => exact (Reps.c3 (show Kd.M k27 _ _ _ (⟨a1_0, a1_1, a1_2⟩ : S27) [.int .i64 a1_0, .int .i64 a1_1, .int .i64 a1_2] from (qVB _ _ _ (⟨a1_0, a1_1, a1_2⟩ : S27) )) (Reps.none _ _))); intro v356 w9 ho10 hb hg_ hnew_; clear hg_ hnew_; (first | rw [← Ny355.out] at ho10 | (simp only [Int.reduceToNat] at ho10; rw [← Ny355.out] at ho10)); have n0_ := Aside0.mk (Kd.qa (by (with_reducible repeat (first | apply Kd.qF | apply Kd.qE | apply Kd.qH)); exact HO353.out) hb); have n1_ := Aside0.mk (Kd.qHA (Kd.qgB ho10 (g := gb350) (o := .cells #[.int .i64 a1_0, .int .i64 a1_1, .int .i64 a1_2] 27 (0, 0)) (by (with_reducible repeat (first | refine qB ?_ _ | refine qD ?_ | refine qA ?_ _)); exact BK350.out)) (qg bl)); have n2_ := Aside0.mk (bb BK350 hb); have n3_ := Aside0.mk (qG bl hb); clear HO353; clear BK350; clear HB; have HO353 := n0_; have HO357 := n1_; have BK350 := n2_; have HB := n3_; clear n0_ n1_ n2_ n3_; clear hb ho10) | ((with_reducible refine qd (N := 25) rfl ?_); refine Kd.R_lit Kd.string _ 9 ?hg (N := 25) ?hd (xs := ([(⟨#[]⟩ : ByteArray)] : List ByteArray)) (inner := [.string (⟨#[]⟩ : ByteArray)]) (ok := fun _ => True) (okp := fun _ => True) ?hr ?hp (fun _ hk => hk) trivial (Below.refl _ _) (Nat.le_refl _) (by simp) ?_; (case hd => rfl); (case hg => rfl); (case hr => first | (go_simp; done) | (go_simp; rfl)); (case hp => exact (Reps.one (show Kd.M Kd.string _ _ _ (⟨#[]⟩ : ByteArray) [.string (⟨#[]⟩ : ByteArray)] from rfl) (Reps.none _ _))); intro v359 w11 ho12 hb hg_ hnew_; clear hg_ hnew_; (first | rw [← Ny358.out] at ho12 | (simp only [Int.reduceToNat] at ho12; rw [← Ny358.out] at ho12)); have n0_ := Aside0.mk (Kd.qkA (by (with_reducible repeat (first | apply Kd.qF | apply Kd.qE | apply Kd.qH)); exact HO353.out) (Kd.qMB ho12) hb); have n1_ := Aside0.mk (Kd.qa (by (with_reducible repeat (first | apply Kd.qF | apply Kd.qE | apply Kd.qH)); exact HO357.out) hb); have n2_ := Aside0.mk (Kd.qHA (Kd.qLB ho12 (Kd.R_lt (by (with_reducible repeat (first | apply Kd.qF | apply Kd.qE | apply Kd.qH)); exact HO353.out))) (qg bl)); have n3_ := Aside0.mk (bb BK350 hb); have n4_ := Aside0.mk (qG bl hb); clear HO353; clear HO357; clear BK350; clear HB; have HO353 := n0_; have HO357 := n1_; have HO360 := n2_; have BK350 := n3_; have HB := n4_; clear n0_ n1_ n2_ n3_ n4_; clear hb ho12))
  go_loopg [9, 10, 11] k (fun kq v9 v10 v11 w' => ∃ (x9_1 : List (S27)) (x10_1 : List ByteArray) (x11_1 : Int), v11 = .int .i64 x11_1 ∧ Aside0 (qP.l0 kq x9_1 x10_1 x11_1 t351 = some (r1, r2, r3)) ∧ Aside0 (kq ≤ k) ∧ Aside0 (Kd.R k27 27 w' w.heap.size (fun k_ => k_ ≠ gb350) v9 x9_1) ∧ Aside0 (Kd.R Kd.string 9 w' w.heap.size (fun k_ => some k_ ≠ (v352 : Value).ownBlock) v10 x10_1) ∧ Aside0 (Kd.R Kd.string 9 w' w.heap.size (fun k_ => some k_ ≠ (v10 : Value).ownBlock) v352 t351) ∧ Aside0 (w'.heap[gb350]? = some (.cells #[.int .i64 a1_0, .int .i64 a1_1, .int .i64 a1_2] 27 (0, 0))) ∧ Aside0 (Below w.heap.size w w'))
  case atStart => exact ⟨(y355), (y358), (0), (by first | rfl | (simp; done) | (simp [*]; done)), H', ⟨Nat.le_refl _⟩, ⟨by (with_reducible repeat (first | apply Kd.qF | apply Kd.qE | apply Kd.qH)); exact Kd.qh HO357.out (fun _ hk => hk.2)⟩, ⟨by (with_reducible repeat (first | apply Kd.qF | apply Kd.qE | apply Kd.qH)); exact Kd.qh HO360.out (fun _ hk => hk.2)⟩, ⟨by (with_reducible repeat (first | apply Kd.qF | apply Kd.qE | apply Kd.qH)); exact Kd.qh HO353.out (fun _ hk => hk.2)⟩, ⟨by (with_reducible repeat (first | refine qB ?_ _ | refine qD ?_ | refine qA ?_ _)); exact BK350.out⟩, ⟨bl⟩⟩
  case round =>
   clear H'
   try clear c1
   try clear c2
   try clear p2
   try clear c3
   try clear c4
   try clear c12
   try clear hcz6_0
   try clear hcz6_1
   try clear hcz6_2
   try clear hcz8_0
   try clear hcz8_1
   try clear hcz8_2
   try clear hfz6_0
   try clear hfz6_1
   try clear hfz6_2
   try clear hfz8_0
   try clear hfz8_1
   try clear hfz8_2
   obtain ⟨x9_1, x10_1, x11_1, rfl, HA, HK1, HO_9, HO_10, HO_19, BK350, HB⟩ := hrel
   cases gk with
   | zero => exact absurd HA.out (by simp [qP.l0])
   | succ k1 =>
    have H := HA.out
    clear HA
    simp only [qP.l0] at H
    by_cases c13 : x11_1 < (x9_1.length : Int)
    ·rw [if_pos c13] at H
     have c13b0 : decide (x11_1 < (x9_1.length : Int)) = true := decide_eq_true c13
     clear c13
     have H' := Aside0.mk H
     clear H
     obtain ⟨Ao14, co14, eo14⟩ := Kd.qo HO_9.out
     subst eo14
     go_wp2
     go_loopg [9, 10, 32] k1 (fun kq v9 v10 v32 w' => ∃ (x9_2 : List (S27)) (x10_2 : List ByteArray) (x32_2 : Int), v32 = .int .i64 x32_2 ∧ Aside0 (qP.l1 kq x9_2 x10_2 x11_1 t351 x32_2 = some (r1, r2, r3)) ∧ Aside0 (kq ≤ k1) ∧ Aside0 (Kd.R k27 27 w' w.heap.size (fun k_ => k_ ≠ gb350) v9 x9_2) ∧ Aside0 (Kd.R Kd.string 9 w' w.heap.size (fun k_ => some k_ ≠ (v352 : Value).ownBlock) v10 x10_2) ∧ Aside0 (Kd.R Kd.string 9 w' w.heap.size (fun k_ => some k_ ≠ (v10 : Value).ownBlock) v352 t351) ∧ Aside0 (w'.heap[gb350]? = some (.cells #[.int .i64 a1_0, .int .i64 a1_1, .int .i64 a1_2] 27 (0, 0))) ∧ Aside0 (Below w.heap.size w w'))
     case atStart => exact ⟨(x9_1), (x10_1), (0), (by first | rfl | (simp; done) | (simp [*]; done)), H', ⟨Nat.le_refl _⟩, ⟨by (with_reducible repeat (first | apply Kd.qF | apply Kd.qE | apply Kd.qH)); exact HO_9.out⟩, ⟨by (with_reducible repeat (first | apply Kd.qF | apply Kd.qE | apply Kd.qH)); exact HO_10.out⟩, ⟨by (with_reducible repeat (first | apply Kd.qF | apply Kd.qE | apply Kd.qH)); exact HO_19.out⟩, ⟨by (with_reducible repeat (first | refine qB ?_ _ | refine qD ?_ | refine qA ?_ _)); exact BK350.out⟩, ⟨bl⟩⟩
     case round =>
      clear H'
      try clear c1
      try clear c2
      try clear p2
      try clear c3
      try clear c4
      try clear c12
      try clear c13
      try clear c13b0
      try clear hcz6_0
      try clear hcz6_1
      try clear hcz6_2
      try clear hcz8_0
      try clear hcz8_1
      try clear hcz8_2
      try clear hfz6_0
      try clear hfz6_1
      try clear hfz6_2
      try clear hfz8_0
      try clear hfz8_1
      try clear hfz8_2
      try clear p2
      obtain ⟨x9_2, x10_2, x32_2, rfl, HA, HK2, HO_9, HO_10, HO_19, BK350, HB⟩ := hrel
      cases gk with
      | zero => exact absurd HA.out (by simp [qP.l1])
      | succ k2 =>
       have H := HA.out
       clear HA
       simp only [qP.l1] at H
       by_cases c15 : x32_2 < 4
       ·rw [if_pos c15] at H
        have c15b0 : decide (x32_2 < 4) = true := decide_eq_true c15
        clear c15
        by_cases c16 : 0 ≤ x11_1
        ·rw [if_pos c16] at H
         have c16b0 : decide (0 ≤ x11_1) = true := decide_eq_true c16
         clear c16
         by_cases c17 : x11_1 < (x9_2.length : Int)
         ·rw [if_pos c17] at H
          have c17b0 : decide (x11_1 < (x9_2.length : Int)) = true := decide_eq_true c17
          clear c17
          by_cases c18 : 0 ≤ x32_2
          ·rw [if_pos c18] at H
           have c18b0 : decide (0 ≤ x32_2) = true := decide_eq_true c18
           clear c18
           replace H := Option.bind_eq_some_iff.mp H
           obtain ⟨⟨t362, t363, t364, t365⟩, A200, H⟩ := H
           replace H : (if t365 = true then ((qn.f k2 x9_2 t362 t363 t364).bind fun t367 => (if t367 = true then (qP.l1 k2 x9_2 x10_2 x11_1 t351 (wrap64 (x32_2 + 1))) else ((some (([(⟨t362, t363, t364⟩ : S27)] : List (S27)) : List (S27))).bind fun y368 => (if x9_2.length + y368.length < 5864062014805 then (if x11_1 < (x10_2.length : Int) then (if x32_2 ≤ (wrap64 (x32_2 + 1)) then (if (wrap64 (x32_2 + 1)) ≤ 4 then (if (rdOf ByteArray.empty x10_2 x11_1).size + ((⟨#[110, 101, 115, 119]⟩ : ByteArray).extract (x32_2 : Int).toNat ((wrap64 (x32_2 + 1)) : Int).toNat).size ≤ 9223372036854775807 then ((some (([(rdOf ByteArray.empty x10_2 x11_1) ++ ((⟨#[110, 101, 115, 119]⟩ : ByteArray).extract (x32_2 : Int).toNat ((wrap64 (x32_2 + 1)) : Int).toNat)] : List ByteArray) : List ByteArray)).bind fun y375 => (if x10_2.length + y375.length < 8796093022208 then (qP.l1 k2 (x9_2 ++ y368) (x10_2 ++ y375) x11_1 t351 (wrap64 (x32_2 + 1))) else (none))) else (none)) else (none)) else (none)) else (none)) else (none))))) else (qP.l1 k2 x9_2 x10_2 x11_1 t351 (wrap64 (x32_2 + 1)))) = some (r1, r2, r3) := H
           have A20 := Aside0.mk A200
           clear A200
           by_cases c21 : t365 = true
           ·subst c21
            have H1 : ((qn.f k2 x9_2 t362 t363 t364).bind fun t367 => (if t367 = true then (qP.l1 k2 x9_2 x10_2 x11_1 t351 (wrap64 (x32_2 + 1))) else ((some (([(⟨t362, t363, t364⟩ : S27)] : List (S27)) : List (S27))).bind fun y368 => (if x9_2.length + y368.length < 5864062014805 then (if x11_1 < (x10_2.length : Int) then (if x32_2 ≤ (wrap64 (x32_2 + 1)) then (if (wrap64 (x32_2 + 1)) ≤ 4 then (if (rdOf ByteArray.empty x10_2 x11_1).size + ((⟨#[110, 101, 115, 119]⟩ : ByteArray).extract (x32_2 : Int).toNat ((wrap64 (x32_2 + 1)) : Int).toNat).size ≤ 9223372036854775807 then ((some (([(rdOf ByteArray.empty x10_2 x11_1) ++ ((⟨#[110, 101, 115, 119]⟩ : ByteArray).extract (x32_2 : Int).toNat ((wrap64 (x32_2 + 1)) : Int).toNat)] : List ByteArray) : List ByteArray)).bind fun y375 => (if x10_2.length + y375.length < 8796093022208 then (qP.l1 k2 (x9_2 ++ y368) (x10_2 ++ y375) x11_1 t351 (wrap64 (x32_2 + 1))) else (none))) else (none)) else (none)) else (none)) else (none)) else (none))))) = some (r1, r2, r3) := by rw [if_pos rfl] at H; exact H
            clear H
            have H := H1
            clear H1
            replace H := Option.bind_eq_some_iff.mp H
            obtain ⟨t367, A220, H⟩ := H
            replace H : (if t367 = true then (qP.l1 k2 x9_2 x10_2 x11_1 t351 (wrap64 (x32_2 + 1))) else ((some (([(⟨t362, t363, t364⟩ : S27)] : List (S27)) : List (S27))).bind fun y368 => (if x9_2.length + y368.length < 5864062014805 then (if x11_1 < (x10_2.length : Int) then (if x32_2 ≤ (wrap64 (x32_2 + 1)) then (if (wrap64 (x32_2 + 1)) ≤ 4 then (if (rdOf ByteArray.empty x10_2 x11_1).size + ((⟨#[110, 101, 115, 119]⟩ : ByteArray).extract (x32_2 : Int).toNat ((wrap64 (x32_2 + 1)) : Int).toNat).size ≤ 9223372036854775807 then ((some (([(rdOf ByteArray.empty x10_2 x11_1) ++ ((⟨#[110, 101, 115, 119]⟩ : ByteArray).extract (x32_2 : Int).toNat ((wrap64 (x32_2 + 1)) : Int).toNat)] : List ByteArray) : List ByteArray)).bind fun y375 => (if x10_2.length + y375.length < 8796093022208 then (qP.l1 k2 (x9_2 ++ y368) (x10_2 ++ y375) x11_1 t351 (wrap64 (x32_2 + 1))) else (none))) else (none)) else (none)) else (none)) else (none)) else (none)))) = some (r1, r2, r3) := H
            have A22 := Aside0.mk A220
            clear A220
            by_cases c23 : t367 = true
            ·subst c23
             have H1 : (qP.l1 k2 x9_2 x10_2 x11_1 t351 (wrap64 (x32_2 + 1))) = some (r1, r2, r3) := by rw [if_pos rfl] at H; exact H
             clear H
             have H := H1
             clear H1
             have H' := Aside0.mk H
             clear H
             obtain ⟨Ao24, co24, eo24⟩ := Kd.qo HO_19.out
             subst eo24
             try go_wp2
             have n0_ := Aside0.mk (Kd.qH HO_9.out)
             have n1_ := Aside0.mk (Kd.qH HO_10.out)
             have n2_ := Aside0.mk (Kd.qH HO_19.out)
             have n3_ := Aside0.mk (qD BK350.out)
             have n4_ := Aside0.mk (qm HB.out)
             clear HO_9
             clear HO_10
             clear HO_19
             clear BK350
             clear HB
             have HO_9 := n0_
             have HO_10 := n1_
             have HO_19 := n2_
             have BK350 := n3_
             have HB := n4_
             clear n0_ n1_ n2_ n3_ n4_
             obtain ⟨Ao26, co26, eo26⟩ := Kd.qo HO_9.out
             (first | subst eo26 | (injection eo26 with f1_ f2_ f3_; have f4_ := f1_.symm; have f5_ := f3_.symm; clear f1_ f2_ f3_; subst f4_; subst f5_))
             have p361 : 0 ≤ (x11_1 : Int) := of_decide_eq_true (by first | (with_reducible assumption) | assumption)
             have q361 : x11_1 < (x9_2.length : Int) := of_decide_eq_true (by first | (with_reducible assumption) | assumption)
             obtain ⟨ad361, e361, hx361_0, hx361_1, hx361_2⟩ := qnA (Kd.qT HO_9.out).2.2 x11_1 p361 q361
             cases e361
             replace p361 := eq_true p361
             replace q361 := eq_true q361
             have p19 : 0 ≤ (x32_2 : Int) := of_decide_eq_true (by first | (with_reducible assumption) | assumption)
             have q19 : x32_2 < (4 : Int) := of_decide_eq_true (by first | (with_reducible assumption) | assumption)
             have hx19 := bt_at (⟨#[110, 101, 115, 119]⟩ : ByteArray) x32_2
             replace p19 := eq_true p19
             replace q19 := eq_true q19
             refine qyA (n := 14) (S := fun w' => w'.cell? (ad361.add ((x11_1).toNat * 3)) = some (.int .i64 ((qK x9_2 x11_1).f0)) ∧ w'.cell? ⟨(ad361.add ((x11_1).toNat * 3)).block, (ad361.add ((x11_1).toNat * 3)).off + 1, none⟩ = some (.int .i64 ((qK x9_2 x11_1).f1)) ∧ w'.cell? ⟨(ad361.add ((x11_1).toNat * 3)).block, (ad361.add ((x11_1).toNat * 3)).off + 2, none⟩ = some (.int .i64 ((qK x9_2 x11_1).f2))) (ds := []) #[false, false, false, false, false, false, false, false, false, false, false, false, false, false] (by kernel_rfl) rfl rfl ⟨hx361_0, hx361_1, hx361_2⟩ (fun hHeld => ?_); refine qWA qP.tab11 qP.bits11 (fun HT_ HW_ => ?_)
             generalize wr.drew = w25 at HO_9 HO_10 HO_19 BK350 HB hx361_0 hx361_1 hx361_2 hHeld ⊢
             refine pS (i := 0) (N := some 36) #[true, false, false, false, false, false, false, false, false, false, false, false, false, false] HT_ ?_
             refine pS (i := 1) (N := some 37) #[true, true, false, false, false, false, false, false, false, false, false, false, false, false] HT_ ?_
             refine pS (i := 2) (N := some 38) #[true, true, true, false, false, false, false, false, false, false, false, false, false, false] HT_ ?_
             refine pS (i := 3) (N := some 39) #[true, true, true, true, false, false, false, false, false, false, false, false, false, false] HT_ ?_
             refine pS (i := 5) (N := some 41) #[true, true, true, true, false, true, false, false, false, false, false, false, false, false] HT_ ?_
             refine tS (i := 4) (N := some 40) #[true, true, true, true, true, true, false, false, false, false, false, false, false, false] HT_ HW_ hHeld ?_
             refine tS (i := 6) (N := some 42) #[true, true, true, true, true, true, true, false, false, false, false, false, false, false] HT_ HW_ hHeld ?_
             refine join_ (σ := Nat) 2 #[true, true, true, true, true, true, true, true, true, true, true, true, false, false] (fun s_ => [(43, .tuple #[.agg #[.int .i64 t362, .int .i64 t363, .int .i64 t364], .bool true]), (13, .pointer (some ⟨s_, 0, none⟩)), (35, .tuple #[.agg #[.int .i64 t362, .int .i64 t363, .int .i64 t364], .bool true]), (44, .agg #[.int .i64 t362, .int .i64 t363, .int .i64 t364]), (45, .bool true)]) (fun s_ w' => (w'.cell? (ad361.add ((x11_1).toNat * 3)) = some (.int .i64 ((qK x9_2 x11_1).f0)) ∧ w'.cell? ⟨(ad361.add ((x11_1).toNat * 3)).block, (ad361.add ((x11_1).toNat * 3)).off + 1, none⟩ = some (.int .i64 ((qK x9_2 x11_1).f1)) ∧ w'.cell? ⟨(ad361.add ((x11_1).toNat * 3)).block, (ad361.add ((x11_1).toNat * 3)).off + 2, none⟩ = some (.int .i64 ((qK x9_2 x11_1).f2))) ∧ (Kd.R Kd.string 9 w' w.heap.size (fun k_ => some k_ ≠ (.slice Ao24 t351.length co24 : Value).ownBlock) u10 x10_2) ∧ (Kd.R Kd.string 9 w' w.heap.size (fun k_ => some k_ ≠ (u10 : Value).ownBlock) (.slice Ao24 t351.length co24) t351) ∧ (Kd.R k27 27 w' w.heap.size (fun k_ => k_ ≠ gb350 ∧ k_ ≠ s_) (.slice (some ad361) x9_2.length co26) x9_2) ∧ (w'.heap[gb350]? = some (.cells #[.int .i64 a1_0, .int .i64 a1_1, .int .i64 a1_2] 27 (0, 0))) ∧ (w'.heap[s_]? = some (.cells #[.int .i64 0, .int .i64 0, .int .i64 0] 27 (0, 0))) ∧ (w.heap.size ≤ s_) ∧ (w.heap.size ≤ s_) ∧ (gb350 ≠ s_) ∧ (s_ ≠ gb350) ∧ (Below w.heap.size w w')) ?_ ?_
             rotate_left
             ·intro hCont
              refine two_ (i := 7) (j := 11) (Ni := some 43) (Nj := some 13) #[true, true, true, true, true, true, true, true, false, false, false, false, false, false] #[true, true, true, true, true, true, true, false, false, false, false, true, false, false] rfl rfl rfl rfl (qKC HT_.out (by kernel_rfl)) (by decide) (by decide) (fun K hK => ?_) (fun K hK => ?_)
              ·skip
               refine goes_ Tryd.func21 (by kernel_rfl) rfl #[.slice Ao24 t351.length co24, .agg #[.int .i64 ((qK x9_2 x11_1).f0), .int .i64 ((qK x9_2 x11_1).f1), .int .i64 ((qK x9_2 x11_1).f2)], .int .u8 (bt (⟨#[110, 101, 115, 119]⟩ : ByteArray) x32_2)] (by rfl) rfl rfl (by (try simp only [List.map_toArray, List.map_cons, List.map_nil]); first | done | rfl | (simp only [List.length_drop, List.length_take]; rfl)) ?_
               with_reducible refine (qPA.calls k2 _ _ t351 ((qK x9_2 x11_1).f0) ((qK x9_2 x11_1).f1) ((qK x9_2 x11_1).f2) (bt (⟨#[110, 101, 115, 119]⟩ : ByteArray) x32_2) t362 t363 t364 true _ ?side1 ?side2 A20.out).mono ?_
               (case side1 => repeat (first | exact (Kd.qT HO_19.out).2.2 | (with_reducible refine Kd.qz ?_ _) | (with_reducible refine Kd.qy ?_ _) | (with_reducible refine Kd.qNA ?_)))
               (case side2 => exact (Kd.qT HO_19.out).2.1)
               rintro e w27 ⟨rfl, hb⟩
               have HS0_ := (hb.cell (World.block_lt_of_cell? _ _ (hHeld.1))).trans (hHeld.1)
               have HS1_ := (hb.cell (World.block_lt_of_cell? _ _ (hHeld.2.1))).trans (hHeld.2.1)
               have HS2_ := (hb.cell (World.block_lt_of_cell? _ _ (hHeld.2.2))).trans (hHeld.2.2)
               refine ⟨_, rfl, ?_⟩
               have n0_ := Aside0.mk (Kd.qa (by (with_reducible repeat (first | apply Kd.qF | apply Kd.qE | apply Kd.qH)); exact HO_9.out) hb)
               have n1_ := Aside0.mk (Kd.qa (by (with_reducible repeat (first | apply Kd.qF | apply Kd.qE | apply Kd.qH)); exact HO_10.out) hb)
               have n2_ := Aside0.mk (Kd.qa (by (with_reducible repeat (first | apply Kd.qF | apply Kd.qE | apply Kd.qH)); exact HO_19.out) hb)
               have n3_ := Aside0.mk (bb BK350 hb)
               have n4_ := Aside0.mk (qG bl hb)
               clear HO_9
               clear HO_10
               clear HO_19
               clear BK350
               clear HB
               have HO_9 := n0_
               have HO_10 := n1_
               have HO_19 := n2_
               have BK350 := n3_
               have HB := n4_
               clear n0_ n1_ n2_ n3_ n4_
               (try clear hb)
               (try clear hb2)
               (try clear hk)
               (try clear hi)
               refine hK.out _ _ ⟨HS0_, HS1_, HS2_⟩ (fun hHeld => ?_)
               clear hK K
               refine norm_ (a' := ?_) ?_ ?_
               rotate_left
               ·show Act.put _ (some 43) _ = _
                simp only [Act.put, List.setIfInBounds_toArray, List.set_cons_zero, List.set_cons_succ, i64_w, i32_w]
                rfl
               refine pS (i := 8) (N := some 35) #[true, true, true, true, true, true, true, true, true, false, false, false, false, false] HT_ ?_
               refine pS (i := 9) (N := some 44) #[true, true, true, true, true, true, true, true, true, true, false, false, false, false] HT_ ?_
               refine pS (i := 10) (N := some 45) #[true, true, true, true, true, true, true, true, true, true, true, false, false, false] HT_ ?_
               refine one_ (i := 11) (N := some 13) #[true, true, true, true, true, true, true, true, true, true, true, true, false, false] rfl rfl (qQA HT_.out (by kernel_rfl)) (by decide) (fun K hK => ?_)
               refine qIB ?hg (N := 13) ?hd (cs := #[.int .i64 0, .int .i64 0, .int .i64 0]) (t := 27) ?hr ?_; (case hd => rfl); (case hg => rfl); (case hr => first | (go_simp; done) | (go_simp; rfl))
               intro gb366 hg w28 hbox hb
               have HS0_ := (hb.cell (World.block_lt_of_cell? _ _ (hHeld.1))).trans (hHeld.1)
               have HS1_ := (hb.cell (World.block_lt_of_cell? _ _ (hHeld.2.1))).trans (hHeld.2.1)
               have HS2_ := (hb.cell (World.block_lt_of_cell? _ _ (hHeld.2.2))).trans (hHeld.2.2)
               have n0_ := Aside0.mk (Kd.qa (Kd.qsA (by (with_reducible repeat (first | apply Kd.qF | apply Kd.qE | apply Kd.qH)); exact HO_9.out) gb366 (Nat.le_of_eq hg.symm)) hb)
               have n1_ := Aside0.mk (Kd.qa (by (with_reducible repeat (first | apply Kd.qF | apply Kd.qE | apply Kd.qH)); exact HO_10.out) hb)
               have n2_ := Aside0.mk (Kd.qa (by (with_reducible repeat (first | apply Kd.qF | apply Kd.qE | apply Kd.qH)); exact HO_19.out) hb)
               have n3_ := Aside0.mk (bb BK350 hb)
               have n4_ := Aside0.mk (qG bl hb)
               have n5_ := Aside0.mk (hbox)
               have n6_ := Aside0.mk ((gg hg))
               have n7_ := Aside0.mk ((gg hg))
               have n8_ := Aside0.mk ((nl BK350 hg))
               have n9_ := Aside0.mk ((nr BK350 hg))
               clear HO_9
               clear HO_10
               clear HO_19
               clear BK350
               clear HB
               have HO_9 := n0_
               have HO_10 := n1_
               have HO_19 := n2_
               have BK350 := n3_
               have HB := n4_
               have BK366 := n5_
               have GW366 := n6_
               have GE366 := n7_
               have NB350_366 := n8_
               have NB366_350 := n9_
               clear n0_ n1_ n2_ n3_ n4_ n5_ n6_ n7_ n8_ n9_
               clear hb hbox hg
               refine hK.out _ _ ⟨HS0_, HS1_, HS2_⟩ (fun hHeld => ?_)
               clear hK K
               refine norm_ (a' := ?_) ?_ ?_
               rotate_left
               ·show Act.put _ (some 13) _ = _
                simp only [Act.put, List.setIfInBounds_toArray, List.set_cons_zero, List.set_cons_succ, i64_w, i32_w]
                rfl
               exact norm_ (by simp only [putAll, Act.put, List.setIfInBounds_toArray, List.set_cons_zero, List.set_cons_succ]) (hCont (gb366) _ ⟨hHeld, (by (with_reducible repeat (first | apply Kd.qF | apply Kd.qE | apply Kd.qH)); exact HO_10.out), (by (with_reducible repeat (first | apply Kd.qF | apply Kd.qE | apply Kd.qH)); exact HO_19.out), (by (with_reducible repeat (first | apply Kd.qF | apply Kd.qE | apply Kd.qH)); exact HO_9.out), (by (with_reducible repeat (first | refine qB ?_ _ | refine qD ?_ | refine qA ?_ _)); exact BK350.out), (by (with_reducible repeat (first | refine qB ?_ _ | refine qD ?_ | refine qA ?_ _)); exact BK366.out), GW366.out, GE366.out, NB350_366.out, NB366_350.out, bl⟩)
              ·skip
               refine qIB ?hg (N := 13) ?hd (cs := #[.int .i64 0, .int .i64 0, .int .i64 0]) (t := 27) ?hr ?_; (case hd => rfl); (case hg => rfl); (case hr => first | (go_simp; done) | (go_simp; rfl))
               intro gb366 hg w27 hbox hb
               have HS0_ := (hb.cell (World.block_lt_of_cell? _ _ (hHeld.1))).trans (hHeld.1)
               have HS1_ := (hb.cell (World.block_lt_of_cell? _ _ (hHeld.2.1))).trans (hHeld.2.1)
               have HS2_ := (hb.cell (World.block_lt_of_cell? _ _ (hHeld.2.2))).trans (hHeld.2.2)
               have n0_ := Aside0.mk (Kd.qa (Kd.qsA (by (with_reducible repeat (first | apply Kd.qF | apply Kd.qE | apply Kd.qH)); exact HO_9.out) gb366 (Nat.le_of_eq hg.symm)) hb)
               have n1_ := Aside0.mk (Kd.qa (by (with_reducible repeat (first | apply Kd.qF | apply Kd.qE | apply Kd.qH)); exact HO_10.out) hb)
               have n2_ := Aside0.mk (Kd.qa (by (with_reducible repeat (first | apply Kd.qF | apply Kd.qE | apply Kd.qH)); exact HO_19.out) hb)
               have n3_ := Aside0.mk (bb BK350 hb)
               have n4_ := Aside0.mk (qG bl hb)
               have n5_ := Aside0.mk (hbox)
               have n6_ := Aside0.mk ((gg hg))
               have n7_ := Aside0.mk ((gg hg))
               have n8_ := Aside0.mk ((nl BK350 hg))
               have n9_ := Aside0.mk ((nr BK350 hg))
               clear HO_9
               clear HO_10
               clear HO_19
               clear BK350
               clear HB
               have HO_9 := n0_
               have HO_10 := n1_
               have HO_19 := n2_
               have BK350 := n3_
               have HB := n4_
               have BK366 := n5_
               have GW366 := n6_
               have GE366 := n7_
               have NB350_366 := n8_
               have NB366_350 := n9_
               clear n0_ n1_ n2_ n3_ n4_ n5_ n6_ n7_ n8_ n9_
               clear hb hbox hg
               refine hK.out _ _ ⟨HS0_, HS1_, HS2_⟩ (fun hHeld => ?_)
               clear hK K
               refine norm_ (a' := ?_) ?_ ?_
               rotate_left
               ·show Act.put _ (some 13) _ = _
                simp only [Act.put, List.setIfInBounds_toArray, List.set_cons_zero, List.set_cons_succ, i64_w, i32_w]
                rfl
               refine one_ (i := 7) (N := some 43) #[true, true, true, true, true, true, true, true, false, false, false, true, false, false] rfl rfl (qQA HT_.out (by kernel_rfl)) (by decide) (fun K hK => ?_)
               refine goes_ Tryd.func21 (by kernel_rfl) rfl #[.slice Ao24 t351.length co24, .agg #[.int .i64 ((qK x9_2 x11_1).f0), .int .i64 ((qK x9_2 x11_1).f1), .int .i64 ((qK x9_2 x11_1).f2)], .int .u8 (bt (⟨#[110, 101, 115, 119]⟩ : ByteArray) x32_2)] (by rfl) rfl rfl (by (try simp only [List.map_toArray, List.map_cons, List.map_nil]); first | done | rfl | (simp only [List.length_drop, List.length_take]; rfl)) ?_
               with_reducible refine (qPA.calls k2 _ _ t351 ((qK x9_2 x11_1).f0) ((qK x9_2 x11_1).f1) ((qK x9_2 x11_1).f2) (bt (⟨#[110, 101, 115, 119]⟩ : ByteArray) x32_2) t362 t363 t364 true _ ?side1 ?side2 A20.out).mono ?_
               (case side1 => repeat (first | exact (Kd.qT HO_19.out).2.2 | (with_reducible refine Kd.qz ?_ _) | (with_reducible refine Kd.qy ?_ _) | (with_reducible refine Kd.qNA ?_)))
               (case side2 => exact (Kd.qT HO_19.out).2.1)
               rintro e w28 ⟨rfl, hb⟩
               have HS0_ := (hb.cell (World.block_lt_of_cell? _ _ (hHeld.1))).trans (hHeld.1)
               have HS1_ := (hb.cell (World.block_lt_of_cell? _ _ (hHeld.2.1))).trans (hHeld.2.1)
               have HS2_ := (hb.cell (World.block_lt_of_cell? _ _ (hHeld.2.2))).trans (hHeld.2.2)
               refine ⟨_, rfl, ?_⟩
               have n0_ := Aside0.mk (Kd.qa (by (with_reducible repeat (first | apply Kd.qF | apply Kd.qE | apply Kd.qH)); exact HO_9.out) hb)
               have n1_ := Aside0.mk (Kd.qa (by (with_reducible repeat (first | apply Kd.qF | apply Kd.qE | apply Kd.qH)); exact HO_10.out) hb)
               have n2_ := Aside0.mk (Kd.qa (by (with_reducible repeat (first | apply Kd.qF | apply Kd.qE | apply Kd.qH)); exact HO_19.out) hb)
               have n3_ := Aside0.mk (bb BK350 hb)
               have n4_ := Aside0.mk (bb BK366 hb)
               have n5_ := Aside0.mk (qG bl hb)
               clear HO_9
               clear HO_10
               clear HO_19
               clear BK350
               clear BK366
               clear HB
               have HO_9 := n0_
               have HO_10 := n1_
               have HO_19 := n2_
               have BK350 := n3_
               have BK366 := n4_
               have HB := n5_
               clear n0_ n1_ n2_ n3_ n4_ n5_
               (try clear hb)
               (try clear hb2)
               (try clear hk)
               (try clear hi)
               refine hK.out _ _ ⟨HS0_, HS1_, HS2_⟩ (fun hHeld => ?_)
               clear hK K
               refine norm_ (a' := ?_) ?_ ?_
               rotate_left
               ·show Act.put _ (some 43) _ = _
                simp only [Act.put, List.setIfInBounds_toArray, List.set_cons_zero, List.set_cons_succ, i64_w, i32_w]
                rfl
               refine pS (i := 8) (N := some 35) #[true, true, true, true, true, true, true, true, true, false, false, true, false, false] HT_ ?_
               refine pS (i := 9) (N := some 44) #[true, true, true, true, true, true, true, true, true, true, false, true, false, false] HT_ ?_
               refine pS (i := 10) (N := some 45) #[true, true, true, true, true, true, true, true, true, true, true, true, false, false] HT_ ?_
               exact norm_ (by simp only [putAll, Act.put, List.setIfInBounds_toArray, List.set_cons_zero, List.set_cons_succ]) (hCont (gb366) _ ⟨hHeld, (by (with_reducible repeat (first | apply Kd.qF | apply Kd.qE | apply Kd.qH)); exact HO_10.out), (by (with_reducible repeat (first | apply Kd.qF | apply Kd.qE | apply Kd.qH)); exact HO_19.out), (by (with_reducible repeat (first | apply Kd.qF | apply Kd.qE | apply Kd.qH)); exact HO_9.out), (by (with_reducible repeat (first | refine qB ?_ _ | refine qD ?_ | refine qA ?_ _)); exact BK350.out), (by (with_reducible repeat (first | refine qB ?_ _ | refine qD ?_ | refine qA ?_ _)); exact BK366.out), GW366.out, GE366.out, NB350_366.out, NB366_350.out, bl⟩)
             rintro gb366 w29 ⟨hS_, h0_, h1_, h2_, h3_, h4_, h5_, h6_, h7_, h8_, h9_⟩
             have n0_ : Aside0 (Kd.R Kd.string 9 w29 w.heap.size (fun k_ => some k_ ≠ (.slice Ao24 t351.length co24 : Value).ownBlock) u10 x10_2) := ⟨h0_⟩
             have n1_ : Aside0 (Kd.R Kd.string 9 w29 w.heap.size (fun k_ => some k_ ≠ (u10 : Value).ownBlock) (.slice Ao24 t351.length co24) t351) := ⟨h1_⟩
             have n2_ : Aside0 (Kd.R k27 27 w29 w.heap.size (fun k_ => k_ ≠ gb350 ∧ k_ ≠ gb366) (.slice (some ad361) x9_2.length co26) x9_2) := ⟨h2_⟩
             have n3_ : Aside0 (w29.heap[gb350]? = some (.cells #[.int .i64 a1_0, .int .i64 a1_1, .int .i64 a1_2] 27 (0, 0))) := ⟨h3_⟩
             have n4_ : Aside0 (w29.heap[gb366]? = some (.cells #[.int .i64 0, .int .i64 0, .int .i64 0] 27 (0, 0))) := ⟨h4_⟩
             have n5_ : Aside0 (w.heap.size ≤ gb366) := ⟨h5_⟩
             have n6_ : Aside0 (w.heap.size ≤ gb366) := ⟨h6_⟩
             have n7_ : Aside0 (gb350 ≠ gb366) := ⟨h7_⟩
             have n8_ : Aside0 (gb366 ≠ gb350) := ⟨h8_⟩
             have n9_ : Aside0 (Below w.heap.size w w29) := ⟨h9_⟩
             clear HO_9
             clear HO_10
             clear HO_19
             clear BK350
             clear HB
             clear h0_ h1_ h2_ h3_ h4_ h5_ h6_ h7_ h8_ h9_
             have HO_10 := n0_
             have HO_19 := n1_
             have HO_9 := n2_
             have BK350 := n3_
             have BK366 := n4_
             have GW366 := n5_
             have GE366 := n6_
             have NB350_366 := n7_
             have NB366_350 := n8_
             have HB := n9_
             clear n0_ n1_ n2_ n3_ n4_ n5_ n6_ n7_ n8_ n9_
             have hHeld : w29.cell? (ad361.add ((x11_1).toNat * 3)) = some (.int .i64 ((qK x9_2 x11_1).f0)) ∧ w29.cell? ⟨(ad361.add ((x11_1).toNat * 3)).block, (ad361.add ((x11_1).toNat * 3)).off + 1, none⟩ = some (.int .i64 ((qK x9_2 x11_1).f1)) ∧ w29.cell? ⟨(ad361.add ((x11_1).toNat * 3)).block, (ad361.add ((x11_1).toNat * 3)).off + 2, none⟩ = some (.int .i64 ((qK x9_2 x11_1).f2)) := hS_
             refine norm_ (a' := ?_) ?_ ?_
             rotate_left
             ·simp only [putAll, Act.put, List.setIfInBounds_toArray, List.set_cons_zero, List.set_cons_succ]
              rfl
             refine one_ (i := 12) (N := none) #[true, true, true, true, true, true, true, true, true, true, true, true, true, false] rfl rfl (qQA HT_.out (by kernel_rfl)) (by decide) (fun K hK => ?_)
             have hs30 : w29.cell? ⟨gb366, 0, none⟩ = some (.int .i64 0) := (qL BK366.out 0).trans rfl
             have hfs30 := qC BK366.out 0
             have hns30_0 := NB350_366.out
             have hms30_0 := NB366_350.out
             have hs31 : w29.cell? ⟨gb366, 1, none⟩ = some (.int .i64 0) := (qL BK366.out 1).trans rfl
             have hfs31 := qC BK366.out 1
             have hns31_0 := NB350_366.out
             have hms31_0 := NB366_350.out
             have hs32 : w29.cell? ⟨gb366, 2, none⟩ = some (.int .i64 0) := (qL BK366.out 2).trans rfl
             have hfs32 := qC BK366.out 2
             have hns32_0 := NB350_366.out
             have hms32_0 := NB366_350.out
             refine skip_ (w1 := ?_) (by rfl) rfl ?_ ?_
             rotate_left
             ·go_simp
              rfl
             refine hK.out _ _ ⟨((qR (p := ⟨gb366, _, none⟩) (by first | exact Kd.qO (Kd.qU HO_9.out (fun _ hk => hk.2)) | (rw [qW]; exact Kd.qO (Kd.qU HO_9.out (fun _ hk => hk.2))) | (show (Addr.add _ _).block ≠ _; rw [qW]; exact Kd.qO (Kd.qU HO_9.out (fun _ hk => hk.2))) | (dsimp only; exact Kd.qO (Kd.qU HO_9.out (fun _ hk => hk.2)))) _).trans (((qR (p := ⟨gb366, _, none⟩) (by first | exact Kd.qO (Kd.qU HO_9.out (fun _ hk => hk.2)) | (rw [qW]; exact Kd.qO (Kd.qU HO_9.out (fun _ hk => hk.2))) | (show (Addr.add _ _).block ≠ _; rw [qW]; exact Kd.qO (Kd.qU HO_9.out (fun _ hk => hk.2))) | (dsimp only; exact Kd.qO (Kd.qU HO_9.out (fun _ hk => hk.2)))) _).trans (((qR (p := ⟨gb366, _, none⟩) (by first | exact Kd.qO (Kd.qU HO_9.out (fun _ hk => hk.2)) | (rw [qW]; exact Kd.qO (Kd.qU HO_9.out (fun _ hk => hk.2))) | (show (Addr.add _ _).block ≠ _; rw [qW]; exact Kd.qO (Kd.qU HO_9.out (fun _ hk => hk.2))) | (dsimp only; exact Kd.qO (Kd.qU HO_9.out (fun _ hk => hk.2)))) _).trans (hHeld.1)))))), ((qR (p := ⟨gb366, _, none⟩) (by first | exact Kd.qO (Kd.qU HO_9.out (fun _ hk => hk.2)) | (rw [qW]; exact Kd.qO (Kd.qU HO_9.out (fun _ hk => hk.2))) | (show (Addr.add _ _).block ≠ _; rw [qW]; exact Kd.qO (Kd.qU HO_9.out (fun _ hk => hk.2))) | (dsimp only; exact Kd.qO (Kd.qU HO_9.out (fun _ hk => hk.2)))) _).trans (((qR (p := ⟨gb366, _, none⟩) (by first | exact Kd.qO (Kd.qU HO_9.out (fun _ hk => hk.2)) | (rw [qW]; exact Kd.qO (Kd.qU HO_9.out (fun _ hk => hk.2))) | (show (Addr.add _ _).block ≠ _; rw [qW]; exact Kd.qO (Kd.qU HO_9.out (fun _ hk => hk.2))) | (dsimp only; exact Kd.qO (Kd.qU HO_9.out (fun _ hk => hk.2)))) _).trans (((qR (p := ⟨gb366, _, none⟩) (by first | exact Kd.qO (Kd.qU HO_9.out (fun _ hk => hk.2)) | (rw [qW]; exact Kd.qO (Kd.qU HO_9.out (fun _ hk => hk.2))) | (show (Addr.add _ _).block ≠ _; rw [qW]; exact Kd.qO (Kd.qU HO_9.out (fun _ hk => hk.2))) | (dsimp only; exact Kd.qO (Kd.qU HO_9.out (fun _ hk => hk.2)))) _).trans (hHeld.2.1)))))), ((qR (p := ⟨gb366, _, none⟩) (by first | exact Kd.qO (Kd.qU HO_9.out (fun _ hk => hk.2)) | (rw [qW]; exact Kd.qO (Kd.qU HO_9.out (fun _ hk => hk.2))) | (show (Addr.add _ _).block ≠ _; rw [qW]; exact Kd.qO (Kd.qU HO_9.out (fun _ hk => hk.2))) | (dsimp only; exact Kd.qO (Kd.qU HO_9.out (fun _ hk => hk.2)))) _).trans (((qR (p := ⟨gb366, _, none⟩) (by first | exact Kd.qO (Kd.qU HO_9.out (fun _ hk => hk.2)) | (rw [qW]; exact Kd.qO (Kd.qU HO_9.out (fun _ hk => hk.2))) | (show (Addr.add _ _).block ≠ _; rw [qW]; exact Kd.qO (Kd.qU HO_9.out (fun _ hk => hk.2))) | (dsimp only; exact Kd.qO (Kd.qU HO_9.out (fun _ hk => hk.2)))) _).trans (((qR (p := ⟨gb366, _, none⟩) (by first | exact Kd.qO (Kd.qU HO_9.out (fun _ hk => hk.2)) | (rw [qW]; exact Kd.qO (Kd.qU HO_9.out (fun _ hk => hk.2))) | (show (Addr.add _ _).block ≠ _; rw [qW]; exact Kd.qO (Kd.qU HO_9.out (fun _ hk => hk.2))) | (dsimp only; exact Kd.qO (Kd.qU HO_9.out (fun _ hk => hk.2)))) _).trans (hHeld.2.2))))))⟩ (fun hHeld => ?_)
             clear hK K
             refine pS (i := 13) (N := some 14) #[true, true, true, true, true, true, true, true, true, true, true, true, true, true] HT_ ?_
             refine done_ (qqA HT_.out (by kernel_rfl)) ?_
             have hnb33 := NB366_350.out
             have hnc33 := NB350_366.out
             have hcz34_0 := bc BK366 0
             have hcz34_1 := bc BK366 1
             have hcz34_2 := bc BK366 2
             have hfz34_0 := qC BK366.out 0
             have hfz34_1 := qC BK366.out 1
             have hfz34_2 := qC BK366.out 2
             try go_wp2_with (first | (go_at_call 22; (with_reducible refine (qn.calls k2 _ _ x9_2 t362 t363 t364 true _ ?side1 ?side2 A22.out).mono ?_); (case side1 => refine (Kd.qT (e := 27) (base := w.heap.size) (ok := fun k_ => (k_ ≠ gb350 ∧ k_ ≠ gb366)) (n := x9_2.length) (c := co26) ?_).2.2; exact (by (with_reducible repeat (first | apply Kd.qF | apply Kd.qE | apply Kd.qH)); exact (Kd.qh (Kd.R_far (p := ⟨gb366, 2, none⟩) (Kd.R_far (p := ⟨gb366, 1, none⟩) (Kd.R_far (p := ⟨gb366, 0, none⟩) (Kd.qh HO_9.out (fun k_ hk => (⟨hk, hk.2⟩ : _ ∧ k_ ≠ gb366))) (fun _ hk => hk.2) (.int .i64 t362)) (fun _ hk => hk.2) (.int .i64 t363)) (fun _ hk => hk.2) (.int .i64 t364)) (fun _ h_ => h_.1)))); (case side2 => exact (Kd.qT HO_9.out).2.1); rintro e w35 ⟨rfl, hb⟩; have n0_ := Aside0.mk (Kd.qa (by (with_reducible repeat (first | apply Kd.qF | apply Kd.qE | apply Kd.qH)); exact (Kd.qh (Kd.R_far (p := ⟨gb366, 2, none⟩) (Kd.R_far (p := ⟨gb366, 1, none⟩) (Kd.R_far (p := ⟨gb366, 0, none⟩) (Kd.qh HO_9.out (fun k_ hk => (⟨hk, hk.2⟩ : _ ∧ k_ ≠ gb366))) (fun _ hk => hk.2) (.int .i64 t362)) (fun _ hk => hk.2) (.int .i64 t363)) (fun _ hk => hk.2) (.int .i64 t364)) (fun _ h_ => h_.1))) hb); have n1_ := Aside0.mk (Kd.qa (by (with_reducible repeat (first | apply Kd.qF | apply Kd.qE | apply Kd.qH)); exact (Kd.qh (Kd.R_far (p := ⟨gb366, 2, none⟩) (Kd.R_far (p := ⟨gb366, 1, none⟩) (Kd.R_far (p := ⟨gb366, 0, none⟩) (Kd.qEA HO_10.out BK366.out (by decide)) (fun _ hk => hk.2) (.int .i64 t362)) (fun _ hk => hk.2) (.int .i64 t363)) (fun _ hk => hk.2) (.int .i64 t364)) (fun _ h_ => h_.1))) hb); have n2_ := Aside0.mk (Kd.qa (by (with_reducible repeat (first | apply Kd.qF | apply Kd.qE | apply Kd.qH)); exact (Kd.qh (Kd.R_far (p := ⟨gb366, 2, none⟩) (Kd.R_far (p := ⟨gb366, 1, none⟩) (Kd.R_far (p := ⟨gb366, 0, none⟩) (Kd.qEA HO_19.out BK366.out (by decide)) (fun _ hk => hk.2) (.int .i64 t362)) (fun _ hk => hk.2) (.int .i64 t363)) (fun _ hk => hk.2) (.int .i64 t364)) (fun _ h_ => h_.1))) hb); have n3_ := Aside0.mk (qUA (g := gb350) (o := .cells #[.int .i64 a1_0, .int .i64 a1_1, .int .i64 a1_2] 27 (0, 0)) (by (with_reducible repeat (first | refine qB ?_ _ | refine qD ?_ | refine qA ?_ _)); refine qN ?_ NB350_366.out _; (with_reducible repeat (first | refine qB ?_ _ | refine qD ?_ | refine qA ?_ _)); refine qN ?_ NB350_366.out _; (with_reducible repeat (first | refine qB ?_ _ | refine qD ?_ | refine qA ?_ _)); refine qN ?_ NB350_366.out _; (with_reducible repeat (first | refine qB ?_ _ | refine qD ?_ | refine qA ?_ _)); exact BK350.out) hb); have n4_ := Aside0.mk (qUA (g := gb366) (o := .cells #[.int .i64 t362, .int .i64 t363, .int .i64 t364] 27 (0, 0)) (by (with_reducible repeat (first | refine qB ?_ _ | refine qD ?_ | refine qA ?_ _)); refine qQ (cs := #[.int .i64 t362, .int .i64 t363, .int .i64 0]) ?_ 2 _ rfl; (with_reducible repeat (first | refine qB ?_ _ | refine qD ?_ | refine qA ?_ _)); refine qQ (cs := #[.int .i64 t362, .int .i64 0, .int .i64 0]) ?_ 1 _ rfl; (with_reducible repeat (first | refine qB ?_ _ | refine qD ?_ | refine qA ?_ _)); refine qQ (cs := #[.int .i64 0, .int .i64 0, .int .i64 0]) ?_ 0 _ rfl; (with_reducible repeat (first | refine qB ?_ _ | refine qD ?_ | refine qA ?_ _)); exact BK366.out) hb); have n5_ := Aside0.mk (qG bl hb); clear HO_9; clear HO_10; clear HO_19; clear BK350; clear BK366; clear HB; have HO_9 := n0_; have HO_10 := n1_; have HO_19 := n2_; have BK350 := n3_; have BK366 := n4_; have HB := n5_; clear n0_ n1_ n2_ n3_ n4_ n5_; (try clear hb); (try clear hb2); (try clear hk); (try clear hi)))
             go_roundg k2
             case measure => have := HK1.out; have := HK2.out; omega
             case rel => exact ⟨(x9_2), (x10_2), (wrap64 (x32_2 + 1)), (by first | rfl | (simp; done) | (simp [*]; done)), H', ⟨by have := HK1.out; have := HK2.out; omega⟩, ⟨by (with_reducible repeat (first | apply Kd.qF | apply Kd.qE | apply Kd.qH)); exact Kd.qh HO_9.out (fun _ hk => hk.1)⟩, ⟨by (with_reducible repeat (first | apply Kd.qF | apply Kd.qE | apply Kd.qH)); exact HO_10.out⟩, ⟨by (with_reducible repeat (first | apply Kd.qF | apply Kd.qE | apply Kd.qH)); exact HO_19.out⟩, ⟨by (with_reducible repeat (first | refine qB ?_ _ | refine qD ?_ | refine qA ?_ _)); exact BK350.out⟩, ⟨bl⟩⟩
            ·replace c23 := Bool.eq_false_iff.mpr c23
             subst c23
             have H1 : ((some (([(⟨t362, t363, t364⟩ : S27)] : List (S27)) : List (S27))).bind fun y368 => (if x9_2.length + y368.length < 5864062014805 then (if x11_1 < (x10_2.length : Int) then (if x32_2 ≤ (wrap64 (x32_2 + 1)) then (if (wrap64 (x32_2 + 1)) ≤ 4 then (if (rdOf ByteArray.empty x10_2 x11_1).size + ((⟨#[110, 101, 115, 119]⟩ : ByteArray).extract (x32_2 : Int).toNat ((wrap64 (x32_2 + 1)) : Int).toNat).size ≤ 9223372036854775807 then ((some (([(rdOf ByteArray.empty x10_2 x11_1) ++ ((⟨#[110, 101, 115, 119]⟩ : ByteArray).extract (x32_2 : Int).toNat ((wrap64 (x32_2 + 1)) : Int).toNat)] : List ByteArray) : List ByteArray)).bind fun y375 => (if x10_2.length + y375.length < 8796093022208 then (qP.l1 k2 (x9_2 ++ y368) (x10_2 ++ y375) x11_1 t351 (wrap64 (x32_2 + 1))) else (none))) else (none)) else (none)) else (none)) else (none)) else (none))) = some (r1, r2, r3) := by rw [if_neg (show ¬ (false = true) by decide)] at H; exact H
             clear H
             have H := H1
             clear H1
             obtain ⟨y368, hy368⟩ : ∃ y_ : List (S27), y_ = (([(⟨t362, t363, t364⟩ : S27)] : List (S27))) := ⟨_, rfl⟩
             replace H : (if x9_2.length + y368.length < 5864062014805 then (if x11_1 < (x10_2.length : Int) then (if x32_2 ≤ (wrap64 (x32_2 + 1)) then (if (wrap64 (x32_2 + 1)) ≤ 4 then (if (rdOf ByteArray.empty x10_2 x11_1).size + ((⟨#[110, 101, 115, 119]⟩ : ByteArray).extract (x32_2 : Int).toNat ((wrap64 (x32_2 + 1)) : Int).toNat).size ≤ 9223372036854775807 then ((some (([(rdOf ByteArray.empty x10_2 x11_1) ++ ((⟨#[110, 101, 115, 119]⟩ : ByteArray).extract (x32_2 : Int).toNat ((wrap64 (x32_2 + 1)) : Int).toNat)] : List ByteArray) : List ByteArray)).bind fun y375 => (if x10_2.length + y375.length < 8796093022208 then (qP.l1 k2 (x9_2 ++ y368) (x10_2 ++ y375) x11_1 t351 (wrap64 (x32_2 + 1))) else (none))) else (none)) else (none)) else (none)) else (none)) else (none)) = some (r1, r2, r3) := by first | (rw [hy368]; with_reducible exact H) | (have H2_ := (Option.bind_some _ _).symm.trans H; rw [hy368]; with_reducible exact H2_) | (have H2_ := (Option.bind_some _ _).symm.trans H; with_reducible exact H2_) | with_reducible exact H | (rw [hy368]; exact H) | exact H
             have Ny368 := Aside0.mk hy368
             clear hy368
             by_cases c36 : x9_2.length + y368.length < 5864062014805
             ·rw [if_pos c36] at H
              have LMc36 := Aside0.mk c36
              clear c36
              obtain ⟨y371, hy371⟩ : ∃ y_ : List (S27), y_ = (x9_2 ++ y368) := ⟨_, rfl⟩
              replace H : (if x11_1 < (x10_2.length : Int) then (if x32_2 ≤ (wrap64 (x32_2 + 1)) then (if (wrap64 (x32_2 + 1)) ≤ 4 then (if (rdOf ByteArray.empty x10_2 x11_1).size + ((⟨#[110, 101, 115, 119]⟩ : ByteArray).extract (x32_2 : Int).toNat ((wrap64 (x32_2 + 1)) : Int).toNat).size ≤ 9223372036854775807 then ((some (([(rdOf ByteArray.empty x10_2 x11_1) ++ ((⟨#[110, 101, 115, 119]⟩ : ByteArray).extract (x32_2 : Int).toNat ((wrap64 (x32_2 + 1)) : Int).toNat)] : List ByteArray) : List ByteArray)).bind fun y375 => (if x10_2.length + y375.length < 8796093022208 then (qP.l1 k2 y371 (x10_2 ++ y375) x11_1 t351 (wrap64 (x32_2 + 1))) else (none))) else (none)) else (none)) else (none)) else (none)) = some (r1, r2, r3) := by first | (rw [hy371]; with_reducible exact H) | (have H2_ := (Option.bind_some _ _).symm.trans H; rw [hy371]; with_reducible exact H2_) | (have H2_ := (Option.bind_some _ _).symm.trans H; with_reducible exact H2_) | with_reducible exact H | (rw [hy371]; exact H) | exact H
              have Ny371 := Aside0.mk hy371
              clear hy371
              by_cases c37 : x11_1 < (x10_2.length : Int)
              ·rw [if_pos c37] at H
               have c37b0 : decide (x11_1 < (x10_2.length : Int)) = true := decide_eq_true c37
               clear c37
               have c38b0 := eq_true (of_decide_eq_true (by first | (with_reducible assumption) | assumption) : 0 ≤ x32_2)
               by_cases c39 : x32_2 ≤ (wrap64 (x32_2 + 1))
               ·rw [if_pos c39] at H
                have c39b0 := eq_true c39
                have c39b1 : decide (x32_2 ≤ (wrap64 (x32_2 + 1))) = true := decide_eq_true c39
                by_cases c40 : (wrap64 (x32_2 + 1)) ≤ 4
                ·rw [if_pos c40] at H
                 have c40b0 := eq_true c40
                 have c40b1 : decide ((wrap64 (x32_2 + 1)) ≤ 4) = true := decide_eq_true c40
                 by_cases c41 : (rdOf ByteArray.empty x10_2 x11_1).size + ((⟨#[110, 101, 115, 119]⟩ : ByteArray).extract (x32_2 : Int).toNat ((wrap64 (x32_2 + 1)) : Int).toNat).size ≤ 9223372036854775807
                 ·rw [if_pos c41] at H
                  have c41b0 := eq_true c41
                  have c41b1 : decide ((rdOf ByteArray.empty x10_2 x11_1).size + ((⟨#[110, 101, 115, 119]⟩ : ByteArray).extract (x32_2 : Int).toNat ((wrap64 (x32_2 + 1)) : Int).toNat).size ≤ 9223372036854775807) = true := decide_eq_true c41
                  try have c41b2 : (9223372036854775807 < (rdOf ByteArray.empty x10_2 x11_1).size + ((⟨#[110, 101, 115, 119]⟩ : ByteArray).extract (x32_2 : Int).toNat ((wrap64 (x32_2 + 1)) : Int).toNat).size) = False := eq_false (Nat.not_lt.2 c41)
                  obtain ⟨y375, hy375⟩ : ∃ y_ : List ByteArray, y_ = (([(rdOf ByteArray.empty x10_2 x11_1) ++ ((⟨#[110, 101, 115, 119]⟩ : ByteArray).extract (x32_2 : Int).toNat ((wrap64 (x32_2 + 1)) : Int).toNat)] : List ByteArray)) := ⟨_, rfl⟩
                  replace H : (if x10_2.length + y375.length < 8796093022208 then (qP.l1 k2 y371 (x10_2 ++ y375) x11_1 t351 (wrap64 (x32_2 + 1))) else (none)) = some (r1, r2, r3) := by first | (rw [hy375]; with_reducible exact H) | (have H2_ := (Option.bind_some _ _).symm.trans H; rw [hy375]; with_reducible exact H2_) | (have H2_ := (Option.bind_some _ _).symm.trans H; with_reducible exact H2_) | with_reducible exact H | (rw [hy375]; exact H) | exact H
                  have Ny375 := Aside0.mk hy375
                  clear hy375
                  by_cases c42 : x10_2.length + y375.length < 8796093022208
                  ·rw [if_pos c42] at H
                   have LMc42 := Aside0.mk c42
                   clear c42
                   obtain ⟨y378, hy378⟩ : ∃ y_ : List ByteArray, y_ = (x10_2 ++ y375) := ⟨_, rfl⟩
                   replace H : (qP.l1 k2 y371 y378 x11_1 t351 (wrap64 (x32_2 + 1))) = some (r1, r2, r3) := by first | (rw [hy378]; with_reducible exact H) | (have H2_ := (Option.bind_some _ _).symm.trans H; rw [hy378]; with_reducible exact H2_) | (have H2_ := (Option.bind_some _ _).symm.trans H; with_reducible exact H2_) | with_reducible exact H | (rw [hy378]; exact H) | exact H
                   have Ny378 := Aside0.mk hy378
                   clear hy378
                   have H' := Aside0.mk H
                   clear H
                   obtain ⟨Ao43, co43, eo43⟩ := Kd.qo HO_19.out
                   subst eo43
                   try go_wp2
                   have n0_ := Aside0.mk (Kd.qH HO_9.out)
                   have n1_ := Aside0.mk (Kd.qH HO_10.out)
                   have n2_ := Aside0.mk (Kd.qH HO_19.out)
                   have n3_ := Aside0.mk (qD BK350.out)
                   have n4_ := Aside0.mk (qm HB.out)
                   clear HO_9
                   clear HO_10
                   clear HO_19
                   clear BK350
                   clear HB
                   have HO_9 := n0_
                   have HO_10 := n1_
                   have HO_19 := n2_
                   have BK350 := n3_
                   have HB := n4_
                   clear n0_ n1_ n2_ n3_ n4_
                   obtain ⟨Ao45, co45, eo45⟩ := Kd.qo HO_9.out
                   (first | subst eo45 | (injection eo45 with f1_ f2_ f3_; have f4_ := f1_.symm; have f5_ := f3_.symm; clear f1_ f2_ f3_; subst f4_; subst f5_))
                   have p361 : 0 ≤ (x11_1 : Int) := of_decide_eq_true (by first | (with_reducible assumption) | assumption)
                   have q361 : x11_1 < (x9_2.length : Int) := of_decide_eq_true (by first | (with_reducible assumption) | assumption)
                   obtain ⟨ad361, e361, hx361_0, hx361_1, hx361_2⟩ := qnA (Kd.qT HO_9.out).2.2 x11_1 p361 q361
                   cases e361
                   replace p361 := eq_true p361
                   replace q361 := eq_true q361
                   have p19 : 0 ≤ (x32_2 : Int) := of_decide_eq_true (by first | (with_reducible assumption) | assumption)
                   have q19 : x32_2 < (4 : Int) := of_decide_eq_true (by first | (with_reducible assumption) | assumption)
                   have hx19 := bt_at (⟨#[110, 101, 115, 119]⟩ : ByteArray) x32_2
                   replace p19 := eq_true p19
                   replace q19 := eq_true q19
                   refine qyA (n := 14) (S := fun w' => w'.cell? (ad361.add ((x11_1).toNat * 3)) = some (.int .i64 ((qK x9_2 x11_1).f0)) ∧ w'.cell? ⟨(ad361.add ((x11_1).toNat * 3)).block, (ad361.add ((x11_1).toNat * 3)).off + 1, none⟩ = some (.int .i64 ((qK x9_2 x11_1).f1)) ∧ w'.cell? ⟨(ad361.add ((x11_1).toNat * 3)).block, (ad361.add ((x11_1).toNat * 3)).off + 2, none⟩ = some (.int .i64 ((qK x9_2 x11_1).f2))) (ds := []) #[false, false, false, false, false, false, false, false, false, false, false, false, false, false] (by kernel_rfl) rfl rfl ⟨hx361_0, hx361_1, hx361_2⟩ (fun hHeld => ?_); refine qWA qP.tab11 qP.bits11 (fun HT_ HW_ => ?_)
                   generalize wr.drew = w44 at HO_9 HO_10 HO_19 BK350 HB hx361_0 hx361_1 hx361_2 hHeld ⊢
                   refine pS (i := 0) (N := some 36) #[true, false, false, false, false, false, false, false, false, false, false, false, false, false] HT_ ?_
                   refine pS (i := 1) (N := some 37) #[true, true, false, false, false, false, false, false, false, false, false, false, false, false] HT_ ?_
                   refine pS (i := 2) (N := some 38) #[true, true, true, false, false, false, false, false, false, false, false, false, false, false] HT_ ?_
                   refine pS (i := 3) (N := some 39) #[true, true, true, true, false, false, false, false, false, false, false, false, false, false] HT_ ?_
                   refine pS (i := 5) (N := some 41) #[true, true, true, true, false, true, false, false, false, false, false, false, false, false] HT_ ?_
                   refine tS (i := 4) (N := some 40) #[true, true, true, true, true, true, false, false, false, false, false, false, false, false] HT_ HW_ hHeld ?_
                   refine tS (i := 6) (N := some 42) #[true, true, true, true, true, true, true, false, false, false, false, false, false, false] HT_ HW_ hHeld ?_
                   refine join_ (σ := Nat) 2 #[true, true, true, true, true, true, true, true, true, true, true, true, false, false] (fun s_ => [(43, .tuple #[.agg #[.int .i64 t362, .int .i64 t363, .int .i64 t364], .bool true]), (13, .pointer (some ⟨s_, 0, none⟩)), (35, .tuple #[.agg #[.int .i64 t362, .int .i64 t363, .int .i64 t364], .bool true]), (44, .agg #[.int .i64 t362, .int .i64 t363, .int .i64 t364]), (45, .bool true)]) (fun s_ w' => (w'.cell? (ad361.add ((x11_1).toNat * 3)) = some (.int .i64 ((qK x9_2 x11_1).f0)) ∧ w'.cell? ⟨(ad361.add ((x11_1).toNat * 3)).block, (ad361.add ((x11_1).toNat * 3)).off + 1, none⟩ = some (.int .i64 ((qK x9_2 x11_1).f1)) ∧ w'.cell? ⟨(ad361.add ((x11_1).toNat * 3)).block, (ad361.add ((x11_1).toNat * 3)).off + 2, none⟩ = some (.int .i64 ((qK x9_2 x11_1).f2))) ∧ (Kd.R Kd.string 9 w' w.heap.size (fun k_ => some k_ ≠ (.slice Ao43 t351.length co43 : Value).ownBlock) u10 x10_2) ∧ (Kd.R Kd.string 9 w' w.heap.size (fun k_ => some k_ ≠ (u10 : Value).ownBlock) (.slice Ao43 t351.length co43) t351) ∧ (Kd.R k27 27 w' w.heap.size (fun k_ => k_ ≠ gb350 ∧ k_ ≠ s_) (.slice (some ad361) x9_2.length co45) x9_2) ∧ (w'.heap[gb350]? = some (.cells #[.int .i64 a1_0, .int .i64 a1_1, .int .i64 a1_2] 27 (0, 0))) ∧ (w'.heap[s_]? = some (.cells #[.int .i64 0, .int .i64 0, .int .i64 0] 27 (0, 0))) ∧ (w.heap.size ≤ s_) ∧ (w.heap.size ≤ s_) ∧ (gb350 ≠ s_) ∧ (s_ ≠ gb350) ∧ (Below w.heap.size w w')) ?_ ?_
                   rotate_left
                   ·intro hCont
                    refine two_ (i := 7) (j := 11) (Ni := some 43) (Nj := some 13) #[true, true, true, true, true, true, true, true, false, false, false, false, false, false] #[true, true, true, true, true, true, true, false, false, false, false, true, false, false] rfl rfl rfl rfl (qKC HT_.out (by kernel_rfl)) (by decide) (by decide) (fun K hK => ?_) (fun K hK => ?_)
                    ·skip
                     refine goes_ Tryd.func21 (by kernel_rfl) rfl #[.slice Ao43 t351.length co43, .agg #[.int .i64 ((qK x9_2 x11_1).f0), .int .i64 ((qK x9_2 x11_1).f1), .int .i64 ((qK x9_2 x11_1).f2)], .int .u8 (bt (⟨#[110, 101, 115, 119]⟩ : ByteArray) x32_2)] (by rfl) rfl rfl (by (try simp only [List.map_toArray, List.map_cons, List.map_nil]); first | done | rfl | (simp only [List.length_drop, List.length_take]; rfl)) ?_
                     with_reducible refine (qPA.calls k2 _ _ t351 ((qK x9_2 x11_1).f0) ((qK x9_2 x11_1).f1) ((qK x9_2 x11_1).f2) (bt (⟨#[110, 101, 115, 119]⟩ : ByteArray) x32_2) t362 t363 t364 true _ ?side1 ?side2 A20.out).mono ?_
                     (case side1 => repeat (first | exact (Kd.qT HO_19.out).2.2 | (with_reducible refine Kd.qz ?_ _) | (with_reducible refine Kd.qy ?_ _) | (with_reducible refine Kd.qNA ?_)))
                     (case side2 => exact (Kd.qT HO_19.out).2.1)
                     rintro e w46 ⟨rfl, hb⟩
                     have HS0_ := (hb.cell (World.block_lt_of_cell? _ _ (hHeld.1))).trans (hHeld.1)
                     have HS1_ := (hb.cell (World.block_lt_of_cell? _ _ (hHeld.2.1))).trans (hHeld.2.1)
                     have HS2_ := (hb.cell (World.block_lt_of_cell? _ _ (hHeld.2.2))).trans (hHeld.2.2)
                     refine ⟨_, rfl, ?_⟩
                     have n0_ := Aside0.mk (Kd.qa (by (with_reducible repeat (first | apply Kd.qF | apply Kd.qE | apply Kd.qH)); exact HO_9.out) hb)
                     have n1_ := Aside0.mk (Kd.qa (by (with_reducible repeat (first | apply Kd.qF | apply Kd.qE | apply Kd.qH)); exact HO_10.out) hb)
                     have n2_ := Aside0.mk (Kd.qa (by (with_reducible repeat (first | apply Kd.qF | apply Kd.qE | apply Kd.qH)); exact HO_19.out) hb)
                     have n3_ := Aside0.mk (bb BK350 hb)
                     have n4_ := Aside0.mk (qG bl hb)
                     clear HO_9
                     clear HO_10
                     clear HO_19
                     clear BK350
                     clear HB
                     have HO_9 := n0_
                     have HO_10 := n1_
                     have HO_19 := n2_
                     have BK350 := n3_
                     have HB := n4_
                     clear n0_ n1_ n2_ n3_ n4_
                     (try clear hb)
                     (try clear hb2)
                     (try clear hk)
                     (try clear hi)
                     refine hK.out _ _ ⟨HS0_, HS1_, HS2_⟩ (fun hHeld => ?_)
                     clear hK K
                     refine norm_ (a' := ?_) ?_ ?_
                     rotate_left
                     ·show Act.put _ (some 43) _ = _
                      simp only [Act.put, List.setIfInBounds_toArray, List.set_cons_zero, List.set_cons_succ, i64_w, i32_w]
                      rfl
                     refine pS (i := 8) (N := some 35) #[true, true, true, true, true, true, true, true, true, false, false, false, false, false] HT_ ?_
                     refine pS (i := 9) (N := some 44) #[true, true, true, true, true, true, true, true, true, true, false, false, false, false] HT_ ?_
                     refine pS (i := 10) (N := some 45) #[true, true, true, true, true, true, true, true, true, true, true, false, false, false] HT_ ?_
                     refine one_ (i := 11) (N := some 13) #[true, true, true, true, true, true, true, true, true, true, true, true, false, false] rfl rfl (qQA HT_.out (by kernel_rfl)) (by decide) (fun K hK => ?_)
                     refine qIB ?hg (N := 13) ?hd (cs := #[.int .i64 0, .int .i64 0, .int .i64 0]) (t := 27) ?hr ?_; (case hd => rfl); (case hg => rfl); (case hr => first | (go_simp; done) | (go_simp; rfl))
                     intro gb366 hg w47 hbox hb
                     have HS0_ := (hb.cell (World.block_lt_of_cell? _ _ (hHeld.1))).trans (hHeld.1)
                     have HS1_ := (hb.cell (World.block_lt_of_cell? _ _ (hHeld.2.1))).trans (hHeld.2.1)
                     have HS2_ := (hb.cell (World.block_lt_of_cell? _ _ (hHeld.2.2))).trans (hHeld.2.2)
                     have n0_ := Aside0.mk (Kd.qa (Kd.qsA (by (with_reducible repeat (first | apply Kd.qF | apply Kd.qE | apply Kd.qH)); exact HO_9.out) gb366 (Nat.le_of_eq hg.symm)) hb)
                     have n1_ := Aside0.mk (Kd.qa (by (with_reducible repeat (first | apply Kd.qF | apply Kd.qE | apply Kd.qH)); exact HO_10.out) hb)
                     have n2_ := Aside0.mk (Kd.qa (by (with_reducible repeat (first | apply Kd.qF | apply Kd.qE | apply Kd.qH)); exact HO_19.out) hb)
                     have n3_ := Aside0.mk (bb BK350 hb)
                     have n4_ := Aside0.mk (qG bl hb)
                     have n5_ := Aside0.mk (hbox)
                     have n6_ := Aside0.mk ((gg hg))
                     have n7_ := Aside0.mk ((gg hg))
                     have n8_ := Aside0.mk ((nl BK350 hg))
                     have n9_ := Aside0.mk ((nr BK350 hg))
                     clear HO_9
                     clear HO_10
                     clear HO_19
                     clear BK350
                     clear HB
                     have HO_9 := n0_
                     have HO_10 := n1_
                     have HO_19 := n2_
                     have BK350 := n3_
                     have HB := n4_
                     have BK366 := n5_
                     have GW366 := n6_
                     have GE366 := n7_
                     have NB350_366 := n8_
                     have NB366_350 := n9_
                     clear n0_ n1_ n2_ n3_ n4_ n5_ n6_ n7_ n8_ n9_
                     clear hb hbox hg
                     refine hK.out _ _ ⟨HS0_, HS1_, HS2_⟩ (fun hHeld => ?_)
                     clear hK K
                     refine norm_ (a' := ?_) ?_ ?_
                     rotate_left
                     ·show Act.put _ (some 13) _ = _
                      simp only [Act.put, List.setIfInBounds_toArray, List.set_cons_zero, List.set_cons_succ, i64_w, i32_w]
                      rfl
                     exact norm_ (by simp only [putAll, Act.put, List.setIfInBounds_toArray, List.set_cons_zero, List.set_cons_succ]) (hCont (gb366) _ ⟨hHeld, (by (with_reducible repeat (first | apply Kd.qF | apply Kd.qE | apply Kd.qH)); exact HO_10.out), (by (with_reducible repeat (first | apply Kd.qF | apply Kd.qE | apply Kd.qH)); exact HO_19.out), (by (with_reducible repeat (first | apply Kd.qF | apply Kd.qE | apply Kd.qH)); exact HO_9.out), (by (with_reducible repeat (first | refine qB ?_ _ | refine qD ?_ | refine qA ?_ _)); exact BK350.out), (by (with_reducible repeat (first | refine qB ?_ _ | refine qD ?_ | refine qA ?_ _)); exact BK366.out), GW366.out, GE366.out, NB350_366.out, NB366_350.out, bl⟩)
                    ·skip
                     refine qIB ?hg (N := 13) ?hd (cs := #[.int .i64 0, .int .i64 0, .int .i64 0]) (t := 27) ?hr ?_; (case hd => rfl); (case hg => rfl); (case hr => first | (go_simp; done) | (go_simp; rfl))
                     intro gb366 hg w46 hbox hb
                     have HS0_ := (hb.cell (World.block_lt_of_cell? _ _ (hHeld.1))).trans (hHeld.1)
                     have HS1_ := (hb.cell (World.block_lt_of_cell? _ _ (hHeld.2.1))).trans (hHeld.2.1)
                     have HS2_ := (hb.cell (World.block_lt_of_cell? _ _ (hHeld.2.2))).trans (hHeld.2.2)
                     have n0_ := Aside0.mk (Kd.qa (Kd.qsA (by (with_reducible repeat (first | apply Kd.qF | apply Kd.qE | apply Kd.qH)); exact HO_9.out) gb366 (Nat.le_of_eq hg.symm)) hb)
                     have n1_ := Aside0.mk (Kd.qa (by (with_reducible repeat (first | apply Kd.qF | apply Kd.qE | apply Kd.qH)); exact HO_10.out) hb)
                     have n2_ := Aside0.mk (Kd.qa (by (with_reducible repeat (first | apply Kd.qF | apply Kd.qE | apply Kd.qH)); exact HO_19.out) hb)
                     have n3_ := Aside0.mk (bb BK350 hb)
                     have n4_ := Aside0.mk (qG bl hb)
                     have n5_ := Aside0.mk (hbox)
                     have n6_ := Aside0.mk ((gg hg))
                     have n7_ := Aside0.mk ((gg hg))
                     have n8_ := Aside0.mk ((nl BK350 hg))
                     have n9_ := Aside0.mk ((nr BK350 hg))
                     clear HO_9
                     clear HO_10
                     clear HO_19
                     clear BK350
                     clear HB
                     have HO_9 := n0_
                     have HO_10 := n1_
                     have HO_19 := n2_
                     have BK350 := n3_
                     have HB := n4_
                     have BK366 := n5_
                     have GW366 := n6_
                     have GE366 := n7_
                     have NB350_366 := n8_
                     have NB366_350 := n9_
                     clear n0_ n1_ n2_ n3_ n4_ n5_ n6_ n7_ n8_ n9_
                     clear hb hbox hg
                     refine hK.out _ _ ⟨HS0_, HS1_, HS2_⟩ (fun hHeld => ?_)
                     clear hK K
                     refine norm_ (a' := ?_) ?_ ?_
                     rotate_left
                     ·show Act.put _ (some 13) _ = _
                      simp only [Act.put, List.setIfInBounds_toArray, List.set_cons_zero, List.set_cons_succ, i64_w, i32_w]
                      rfl
                     refine one_ (i := 7) (N := some 43) #[true, true, true, true, true, true, true, true, false, false, false, true, false, false] rfl rfl (qQA HT_.out (by kernel_rfl)) (by decide) (fun K hK => ?_)
                     refine goes_ Tryd.func21 (by kernel_rfl) rfl #[.slice Ao43 t351.length co43, .agg #[.int .i64 ((qK x9_2 x11_1).f0), .int .i64 ((qK x9_2 x11_1).f1), .int .i64 ((qK x9_2 x11_1).f2)], .int .u8 (bt (⟨#[110, 101, 115, 119]⟩ : ByteArray) x32_2)] (by rfl) rfl rfl (by (try simp only [List.map_toArray, List.map_cons, List.map_nil]); first | done | rfl | (simp only [List.length_drop, List.length_take]; rfl)) ?_
                     with_reducible refine (qPA.calls k2 _ _ t351 ((qK x9_2 x11_1).f0) ((qK x9_2 x11_1).f1) ((qK x9_2 x11_1).f2) (bt (⟨#[110, 101, 115, 119]⟩ : ByteArray) x32_2) t362 t363 t364 true _ ?side1 ?side2 A20.out).mono ?_
                     (case side1 => repeat (first | exact (Kd.qT HO_19.out).2.2 | (with_reducible refine Kd.qz ?_ _) | (with_reducible refine Kd.qy ?_ _) | (with_reducible refine Kd.qNA ?_)))
                     (case side2 => exact (Kd.qT HO_19.out).2.1)
                     rintro e w47 ⟨rfl, hb⟩
                     have HS0_ := (hb.cell (World.block_lt_of_cell? _ _ (hHeld.1))).trans (hHeld.1)
                     have HS1_ := (hb.cell (World.block_lt_of_cell? _ _ (hHeld.2.1))).trans (hHeld.2.1)
                     have HS2_ := (hb.cell (World.block_lt_of_cell? _ _ (hHeld.2.2))).trans (hHeld.2.2)
                     refine ⟨_, rfl, ?_⟩
                     have n0_ := Aside0.mk (Kd.qa (by (with_reducible repeat (first | apply Kd.qF | apply Kd.qE | apply Kd.qH)); exact HO_9.out) hb)
                     have n1_ := Aside0.mk (Kd.qa (by (with_reducible repeat (first | apply Kd.qF | apply Kd.qE | apply Kd.qH)); exact HO_10.out) hb)
                     have n2_ := Aside0.mk (Kd.qa (by (with_reducible repeat (first | apply Kd.qF | apply Kd.qE | apply Kd.qH)); exact HO_19.out) hb)
                     have n3_ := Aside0.mk (bb BK350 hb)
                     have n4_ := Aside0.mk (bb BK366 hb)
                     have n5_ := Aside0.mk (qG bl hb)
                     clear HO_9
                     clear HO_10
                     clear HO_19
                     clear BK350
                     clear BK366
                     clear HB
                     have HO_9 := n0_
                     have HO_10 := n1_
                     have HO_19 := n2_
                     have BK350 := n3_
                     have BK366 := n4_
                     have HB := n5_
                     clear n0_ n1_ n2_ n3_ n4_ n5_
                     (try clear hb)
                     (try clear hb2)
                     (try clear hk)
                     (try clear hi)
                     refine hK.out _ _ ⟨HS0_, HS1_, HS2_⟩ (fun hHeld => ?_)
                     clear hK K
                     refine norm_ (a' := ?_) ?_ ?_
                     rotate_left
                     ·show Act.put _ (some 43) _ = _
                      simp only [Act.put, List.setIfInBounds_toArray, List.set_cons_zero, List.set_cons_succ, i64_w, i32_w]
                      rfl
                     refine pS (i := 8) (N := some 35) #[true, true, true, true, true, true, true, true, true, false, false, true, false, false] HT_ ?_
                     refine pS (i := 9) (N := some 44) #[true, true, true, true, true, true, true, true, true, true, false, true, false, false] HT_ ?_
                     refine pS (i := 10) (N := some 45) #[true, true, true, true, true, true, true, true, true, true, true, true, false, false] HT_ ?_
                     exact norm_ (by simp only [putAll, Act.put, List.setIfInBounds_toArray, List.set_cons_zero, List.set_cons_succ]) (hCont (gb366) _ ⟨hHeld, (by (with_reducible repeat (first | apply Kd.qF | apply Kd.qE | apply Kd.qH)); exact HO_10.out), (by (with_reducible repeat (first | apply Kd.qF | apply Kd.qE | apply Kd.qH)); exact HO_19.out), (by (with_reducible repeat (first | apply Kd.qF | apply Kd.qE | apply Kd.qH)); exact HO_9.out), (by (with_reducible repeat (first | refine qB ?_ _ | refine qD ?_ | refine qA ?_ _)); exact BK350.out), (by (with_reducible repeat (first | refine qB ?_ _ | refine qD ?_ | refine qA ?_ _)); exact BK366.out), GW366.out, GE366.out, NB350_366.out, NB366_350.out, bl⟩)
                   rintro gb366 w48 ⟨hS_, h0_, h1_, h2_, h3_, h4_, h5_, h6_, h7_, h8_, h9_⟩
                   have n0_ : Aside0 (Kd.R Kd.string 9 w48 w.heap.size (fun k_ => some k_ ≠ (.slice Ao43 t351.length co43 : Value).ownBlock) u10 x10_2) := ⟨h0_⟩
                   have n1_ : Aside0 (Kd.R Kd.string 9 w48 w.heap.size (fun k_ => some k_ ≠ (u10 : Value).ownBlock) (.slice Ao43 t351.length co43) t351) := ⟨h1_⟩
                   have n2_ : Aside0 (Kd.R k27 27 w48 w.heap.size (fun k_ => k_ ≠ gb350 ∧ k_ ≠ gb366) (.slice (some ad361) x9_2.length co45) x9_2) := ⟨h2_⟩
                   have n3_ : Aside0 (w48.heap[gb350]? = some (.cells #[.int .i64 a1_0, .int .i64 a1_1, .int .i64 a1_2] 27 (0, 0))) := ⟨h3_⟩
                   have n4_ : Aside0 (w48.heap[gb366]? = some (.cells #[.int .i64 0, .int .i64 0, .int .i64 0] 27 (0, 0))) := ⟨h4_⟩
                   have n5_ : Aside0 (w.heap.size ≤ gb366) := ⟨h5_⟩
                   have n6_ : Aside0 (w.heap.size ≤ gb366) := ⟨h6_⟩
                   have n7_ : Aside0 (gb350 ≠ gb366) := ⟨h7_⟩
                   have n8_ : Aside0 (gb366 ≠ gb350) := ⟨h8_⟩
                   have n9_ : Aside0 (Below w.heap.size w w48) := ⟨h9_⟩
                   clear HO_9
                   clear HO_10
                   clear HO_19
                   clear BK350
                   clear HB
                   clear h0_ h1_ h2_ h3_ h4_ h5_ h6_ h7_ h8_ h9_
                   have HO_10 := n0_
                   have HO_19 := n1_
                   have HO_9 := n2_
                   have BK350 := n3_
                   have BK366 := n4_
                   have GW366 := n5_
                   have GE366 := n6_
                   have NB350_366 := n7_
                   have NB366_350 := n8_
                   have HB := n9_
                   clear n0_ n1_ n2_ n3_ n4_ n5_ n6_ n7_ n8_ n9_
                   have hHeld : w48.cell? (ad361.add ((x11_1).toNat * 3)) = some (.int .i64 ((qK x9_2 x11_1).f0)) ∧ w48.cell? ⟨(ad361.add ((x11_1).toNat * 3)).block, (ad361.add ((x11_1).toNat * 3)).off + 1, none⟩ = some (.int .i64 ((qK x9_2 x11_1).f1)) ∧ w48.cell? ⟨(ad361.add ((x11_1).toNat * 3)).block, (ad361.add ((x11_1).toNat * 3)).off + 2, none⟩ = some (.int .i64 ((qK x9_2 x11_1).f2)) := hS_
                   refine norm_ (a' := ?_) ?_ ?_
                   rotate_left
                   ·simp only [putAll, Act.put, List.setIfInBounds_toArray, List.set_cons_zero, List.set_cons_succ]
                    rfl
                   refine one_ (i := 12) (N := none) #[true, true, true, true, true, true, true, true, true, true, true, true, true, false] rfl rfl (qQA HT_.out (by kernel_rfl)) (by decide) (fun K hK => ?_)
                   have hs49 : w48.cell? ⟨gb366, 0, none⟩ = some (.int .i64 0) := (qL BK366.out 0).trans rfl
                   have hfs49 := qC BK366.out 0
                   have hns49_0 := NB350_366.out
                   have hms49_0 := NB366_350.out
                   have hs50 : w48.cell? ⟨gb366, 1, none⟩ = some (.int .i64 0) := (qL BK366.out 1).trans rfl
                   have hfs50 := qC BK366.out 1
                   have hns50_0 := NB350_366.out
                   have hms50_0 := NB366_350.out
                   have hs51 : w48.cell? ⟨gb366, 2, none⟩ = some (.int .i64 0) := (qL BK366.out 2).trans rfl
                   have hfs51 := qC BK366.out 2
                   have hns51_0 := NB350_366.out
                   have hms51_0 := NB366_350.out
                   refine skip_ (w1 := ?_) (by rfl) rfl ?_ ?_
                   rotate_left
                   ·go_simp
                    rfl
                   refine hK.out _ _ ⟨((qR (p := ⟨gb366, _, none⟩) (by first | exact Kd.qO (Kd.qU HO_9.out (fun _ hk => hk.2)) | (rw [qW]; exact Kd.qO (Kd.qU HO_9.out (fun _ hk => hk.2))) | (show (Addr.add _ _).block ≠ _; rw [qW]; exact Kd.qO (Kd.qU HO_9.out (fun _ hk => hk.2))) | (dsimp only; exact Kd.qO (Kd.qU HO_9.out (fun _ hk => hk.2)))) _).trans (((qR (p := ⟨gb366, _, none⟩) (by first | exact Kd.qO (Kd.qU HO_9.out (fun _ hk => hk.2)) | (rw [qW]; exact Kd.qO (Kd.qU HO_9.out (fun _ hk => hk.2))) | (show (Addr.add _ _).block ≠ _; rw [qW]; exact Kd.qO (Kd.qU HO_9.out (fun _ hk => hk.2))) | (dsimp only; exact Kd.qO (Kd.qU HO_9.out (fun _ hk => hk.2)))) _).trans (((qR (p := ⟨gb366, _, none⟩) (by first | exact Kd.qO (Kd.qU HO_9.out (fun _ hk => hk.2)) | (rw [qW]; exact Kd.qO (Kd.qU HO_9.out (fun _ hk => hk.2))) | (show (Addr.add _ _).block ≠ _; rw [qW]; exact Kd.qO (Kd.qU HO_9.out (fun _ hk => hk.2))) | (dsimp only; exact Kd.qO (Kd.qU HO_9.out (fun _ hk => hk.2)))) _).trans (hHeld.1)))))), ((qR (p := ⟨gb366, _, none⟩) (by first | exact Kd.qO (Kd.qU HO_9.out (fun _ hk => hk.2)) | (rw [qW]; exact Kd.qO (Kd.qU HO_9.out (fun _ hk => hk.2))) | (show (Addr.add _ _).block ≠ _; rw [qW]; exact Kd.qO (Kd.qU HO_9.out (fun _ hk => hk.2))) | (dsimp only; exact Kd.qO (Kd.qU HO_9.out (fun _ hk => hk.2)))) _).trans (((qR (p := ⟨gb366, _, none⟩) (by first | exact Kd.qO (Kd.qU HO_9.out (fun _ hk => hk.2)) | (rw [qW]; exact Kd.qO (Kd.qU HO_9.out (fun _ hk => hk.2))) | (show (Addr.add _ _).block ≠ _; rw [qW]; exact Kd.qO (Kd.qU HO_9.out (fun _ hk => hk.2))) | (dsimp only; exact Kd.qO (Kd.qU HO_9.out (fun _ hk => hk.2)))) _).trans (((qR (p := ⟨gb366, _, none⟩) (by first | exact Kd.qO (Kd.qU HO_9.out (fun _ hk => hk.2)) | (rw [qW]; exact Kd.qO (Kd.qU HO_9.out (fun _ hk => hk.2))) | (show (Addr.add _ _).block ≠ _; rw [qW]; exact Kd.qO (Kd.qU HO_9.out (fun _ hk => hk.2))) | (dsimp only; exact Kd.qO (Kd.qU HO_9.out (fun _ hk => hk.2)))) _).trans (hHeld.2.1)))))), ((qR (p := ⟨gb366, _, none⟩) (by first | exact Kd.qO (Kd.qU HO_9.out (fun _ hk => hk.2)) | (rw [qW]; exact Kd.qO (Kd.qU HO_9.out (fun _ hk => hk.2))) | (show (Addr.add _ _).block ≠ _; rw [qW]; exact Kd.qO (Kd.qU HO_9.out (fun _ hk => hk.2))) | (dsimp only; exact Kd.qO (Kd.qU HO_9.out (fun _ hk => hk.2)))) _).trans (((qR (p := ⟨gb366, _, none⟩) (by first | exact Kd.qO (Kd.qU HO_9.out (fun _ hk => hk.2)) | (rw [qW]; exact Kd.qO (Kd.qU HO_9.out (fun _ hk => hk.2))) | (show (Addr.add _ _).block ≠ _; rw [qW]; exact Kd.qO (Kd.qU HO_9.out (fun _ hk => hk.2))) | (dsimp only; exact Kd.qO (Kd.qU HO_9.out (fun _ hk => hk.2)))) _).trans (((qR (p := ⟨gb366, _, none⟩) (by first | exact Kd.qO (Kd.qU HO_9.out (fun _ hk => hk.2)) | (rw [qW]; exact Kd.qO (Kd.qU HO_9.out (fun _ hk => hk.2))) | (show (Addr.add _ _).block ≠ _; rw [qW]; exact Kd.qO (Kd.qU HO_9.out (fun _ hk => hk.2))) | (dsimp only; exact Kd.qO (Kd.qU HO_9.out (fun _ hk => hk.2)))) _).trans (hHeld.2.2))))))⟩ (fun hHeld => ?_)
                   clear hK K
                   refine pS (i := 13) (N := some 14) #[true, true, true, true, true, true, true, true, true, true, true, true, true, true] HT_ ?_
                   refine done_ (qqA HT_.out (by kernel_rfl)) ?_
                   have hnb52 := NB366_350.out
                   have hnc52 := NB350_366.out
                   have hcz53_0 := bc BK366 0
                   have hcz53_1 := bc BK366 1
                   have hcz53_2 := bc BK366 2
                   have hfz53_0 := qC BK366.out 0
                   have hfz53_1 := qC BK366.out 1
                   have hfz53_2 := qC BK366.out 2
                   try go_wp2_with (first | (go_at_call 22; (with_reducible refine (qn.calls k2 _ _ x9_2 t362 t363 t364 false _ ?side1 ?side2 A22.out).mono ?_); (case side1 => refine (Kd.qT (e := 27) (base := w.heap.size) (ok := fun k_ => (k_ ≠ gb350 ∧ k_ ≠ gb366)) (n := x9_2.length) (c := co45) ?_).2.2; exact (by (with_reducible repeat (first | apply Kd.qF | apply Kd.qE | apply Kd.qH)); exact (Kd.qh (Kd.R_far (p := ⟨gb366, 2, none⟩) (Kd.R_far (p := ⟨gb366, 1, none⟩) (Kd.R_far (p := ⟨gb366, 0, none⟩) (Kd.qh HO_9.out (fun k_ hk => (⟨hk, hk.2⟩ : _ ∧ k_ ≠ gb366))) (fun _ hk => hk.2) (.int .i64 t362)) (fun _ hk => hk.2) (.int .i64 t363)) (fun _ hk => hk.2) (.int .i64 t364)) (fun _ h_ => h_.1)))); (case side2 => exact (Kd.qT HO_9.out).2.1); rintro e w54 ⟨rfl, hb⟩; have n0_ := Aside0.mk (Kd.qa (by (with_reducible repeat (first | apply Kd.qF | apply Kd.qE | apply Kd.qH)); exact (Kd.qh (Kd.R_far (p := ⟨gb366, 2, none⟩) (Kd.R_far (p := ⟨gb366, 1, none⟩) (Kd.R_far (p := ⟨gb366, 0, none⟩) (Kd.qh HO_9.out (fun k_ hk => (⟨hk, hk.2⟩ : _ ∧ k_ ≠ gb366))) (fun _ hk => hk.2) (.int .i64 t362)) (fun _ hk => hk.2) (.int .i64 t363)) (fun _ hk => hk.2) (.int .i64 t364)) (fun _ h_ => h_.1))) hb); have n1_ := Aside0.mk (Kd.qa (by (with_reducible repeat (first | apply Kd.qF | apply Kd.qE | apply Kd.qH)); exact (Kd.qh (Kd.R_far (p := ⟨gb366, 2, none⟩) (Kd.R_far (p := ⟨gb366, 1, none⟩) (Kd.R_far (p := ⟨gb366, 0, none⟩) (Kd.qEA HO_10.out BK366.out (by decide)) (fun _ hk => hk.2) (.int .i64 t362)) (fun _ hk => hk.2) (.int .i64 t363)) (fun _ hk => hk.2) (.int .i64 t364)) (fun _ h_ => h_.1))) hb); have n2_ := Aside0.mk (Kd.qa (by (with_reducible repeat (first | apply Kd.qF | apply Kd.qE | apply Kd.qH)); exact (Kd.qh (Kd.R_far (p := ⟨gb366, 2, none⟩) (Kd.R_far (p := ⟨gb366, 1, none⟩) (Kd.R_far (p := ⟨gb366, 0, none⟩) (Kd.qEA HO_19.out BK366.out (by decide)) (fun _ hk => hk.2) (.int .i64 t362)) (fun _ hk => hk.2) (.int .i64 t363)) (fun _ hk => hk.2) (.int .i64 t364)) (fun _ h_ => h_.1))) hb); have n3_ := Aside0.mk (qUA (g := gb350) (o := .cells #[.int .i64 a1_0, .int .i64 a1_1, .int .i64 a1_2] 27 (0, 0)) (by (with_reducible repeat (first | refine qB ?_ _ | refine qD ?_ | refine qA ?_ _)); refine qN ?_ NB350_366.out _; (with_reducible repeat (first | refine qB ?_ _ | refine qD ?_ | refine qA ?_ _)); refine qN ?_ NB350_366.out _; (with_reducible repeat (first | refine qB ?_ _ | refine qD ?_ | refine qA ?_ _)); refine qN ?_ NB350_366.out _; (with_reducible repeat (first | refine qB ?_ _ | refine qD ?_ | refine qA ?_ _)); exact BK350.out) hb); have n4_ := Aside0.mk (qUA (g := gb366) (o := .cells #[.int .i64 t362, .int .i64 t363, .int .i64 t364] 27 (0, 0)) (by (with_reducible repeat (first | refine qB ?_ _ | refine qD ?_ | refine qA ?_ _)); refine qQ (cs := #[.int .i64 t362, .int .i64 t363, .int .i64 0]) ?_ 2 _ rfl; (with_reducible repeat (first | refine qB ?_ _ | refine qD ?_ | refine qA ?_ _)); refine qQ (cs := #[.int .i64 t362, .int .i64 0, .int .i64 0]) ?_ 1 _ rfl; (with_reducible repeat (first | refine qB ?_ _ | refine qD ?_ | refine qA ?_ _)); refine qQ (cs := #[.int .i64 0, .int .i64 0, .int .i64 0]) ?_ 0 _ rfl; (with_reducible repeat (first | refine qB ?_ _ | refine qD ?_ | refine qA ?_ _)); exact BK366.out) hb); have n5_ := Aside0.mk (qG bl hb); clear HO_9; clear HO_10; clear HO_19; clear BK350; clear BK366; clear HB; have HO_9 := n0_; have HO_10 := n1_; have HO_19 := n2_; have BK350 := n3_; have BK366 := n4_; have HB := n5_; clear n0_ n1_ n2_ n3_ n4_ n5_; (try clear hb); (try clear hb2); (try clear hk); (try clear hi); obtain ⟨Ao55, co55, eo55⟩ := Kd.qo HO_10.out; subst eo55))
                   have n0_ := Aside0.mk (Kd.qH HO_9.out)
                   have n1_ := Aside0.mk (Kd.qH HO_10.out)
                   have n2_ := Aside0.mk (Kd.qH HO_19.out)
                   have n3_ := Aside0.mk (qD BK350.out)
                   have n4_ := Aside0.mk (qD BK366.out)
                   have n5_ := Aside0.mk (qm HB.out)
                   clear HO_9
                   clear HO_10
                   clear HO_19
                   clear BK350
                   clear BK366
                   clear HB
                   have HO_9 := n0_
                   have HO_10 := n1_
                   have HO_19 := n2_
                   have BK350 := n3_
                   have BK366 := n4_
                   have HB := n5_
                   clear n0_ n1_ n2_ n3_ n4_ n5_
                   have p374 : 0 ≤ (x11_1 : Int) := of_decide_eq_true (by first | (with_reducible assumption) | assumption)
                   have q374 : x11_1 < (x10_2.length : Int) := of_decide_eq_true (by first | (with_reducible assumption) | assumption)
                   obtain ⟨ad374, e374, hx374_0⟩ := Kd.qKB (Kd.qT HO_10.out).2.2 x11_1 p374 q374
                   cases e374
                   replace p374 := eq_true p374
                   replace q374 := eq_true q374
                   have hof374 := Aside0.mk (R_off1 _ HO_10.out (by rfl) x11_1 (of_eq_true p374) (of_eq_true q374))
                   have hnr374_HO_9 := Aside0.mk (R_apart1 _ _ HO_10.out HO_9.out (by decide) (x11_1).toNat)
                   refine qyA (n := 18) (S := fun w' => w'.cell? ⟨gb366, 0, none⟩ = some (.int .i64 t362) ∧ w'.cell? ⟨gb366, 1, none⟩ = some (.int .i64 t363) ∧ w'.cell? ⟨gb366, 2, none⟩ = some (.int .i64 t364) ∧ w'.cell? (ad374.add (x11_1).toNat) = some (.string (rdOf ByteArray.empty x10_2 x11_1))) (ds := []) #[false, false, false, false, false, false, false, false, false, false, false, false, false, false, false, false, false, false] (by kernel_rfl) rfl rfl ⟨(qL BK366.out 0).trans rfl, (qL BK366.out 1).trans rfl, (qL BK366.out 2).trans rfl, hx374_0⟩ (fun hHeld => ?_); refine qWA qP.tab13 qP.bits13 (fun HT_ HW_ => ?_)
                   generalize w54.drew = w56 at HO_9 HO_10 HO_19 BK350 BK366 HB hx374_0 hHeld ⊢
                   refine pS (i := 0) (N := some 53) #[true, false, false, false, false, false, false, false, false, false, false, false, false, false, false, false, false, false] HT_ ?_
                   refine pS (i := 4) (N := some 57) #[true, false, false, false, true, false, false, false, false, false, false, false, false, false, false, false, false, false] HT_ ?_
                   refine pS (i := 5) (N := some 58) #[true, false, false, false, true, true, false, false, false, false, false, false, false, false, false, false, false, false] HT_ ?_
                   refine pS (i := 6) (N := some 59) #[true, false, false, false, true, true, true, false, false, false, false, false, false, false, false, false, false, false] HT_ ?_
                   refine pS (i := 7) (N := some 60) #[true, false, false, false, true, true, true, true, false, false, false, false, false, false, false, false, false, false] HT_ ?_
                   refine pS (i := 9) (N := some 62) #[true, false, false, false, true, true, true, true, false, true, false, false, false, false, false, false, false, false] HT_ ?_
                   refine pS (i := 10) (N := some 63) #[true, false, false, false, true, true, true, true, false, true, true, false, false, false, false, false, false, false] HT_ ?_
                   refine pS (i := 11) (N := some 64) #[true, false, false, false, true, true, true, true, false, true, true, true, false, false, false, false, false, false] HT_ ?_
                   refine pS (i := 12) (N := some 65) #[true, false, false, false, true, true, true, true, false, true, true, true, true, false, false, false, false, false] HT_ ?_
                   refine tS (i := 1) (N := some 54) #[true, true, false, false, true, true, true, true, false, true, true, true, true, false, false, false, false, false] HT_ HW_ hHeld ?_
                   refine tS (i := 8) (N := some 61) #[true, true, false, false, true, true, true, true, true, true, true, true, true, false, false, false, false, false] HT_ HW_ hHeld ?_
                   refine pS (i := 13) (N := some 66) #[true, true, false, false, true, true, true, true, true, true, true, true, true, true, false, false, false, false] HT_ ?_
                   refine join_ (σ := Value × Value × Value) 3 #[true, true, true, true, true, true, true, true, true, true, true, true, true, true, true, false, false, false] (fun s_ => [(55, s_.1), (56, s_.2.1), (67, s_.2.2)]) (fun s_ w' => (w'.cell? ⟨gb366, 0, none⟩ = some (.int .i64 t362) ∧ w'.cell? ⟨gb366, 1, none⟩ = some (.int .i64 t363) ∧ w'.cell? ⟨gb366, 2, none⟩ = some (.int .i64 t364) ∧ w'.cell? (ad374.add (x11_1).toNat) = some (.string (rdOf ByteArray.empty x10_2 x11_1))) ∧ (Kd.R k27 27 w' w.heap.size (fun k_ => some k_ ≠ (s_.2.1 : Value).ownBlock ∧ k_ ≠ gb350 ∧ k_ ≠ gb366) s_.1 y368) ∧ (Kd.R k27 27 w' w.heap.size (fun k_ => some k_ ≠ (s_.1 : Value).ownBlock ∧ k_ ≠ gb350 ∧ k_ ≠ gb366) s_.2.1 y371) ∧ (Kd.R Kd.string 9 w' w.heap.size (fun k_ => some k_ ≠ (.slice (some ad374) x10_2.length co55 : Value).ownBlock ∧ some k_ ≠ (.slice Ao43 t351.length co43 : Value).ownBlock) s_.2.2 y375) ∧ (Kd.R Kd.string 9 w' w.heap.size (fun k_ => some k_ ≠ (s_.2.2 : Value).ownBlock ∧ some k_ ≠ (.slice Ao43 t351.length co43 : Value).ownBlock) (.slice (some ad374) x10_2.length co55) x10_2) ∧ (Kd.R Kd.string 9 w' w.heap.size (fun k_ => some k_ ≠ (s_.2.2 : Value).ownBlock ∧ some k_ ≠ (.slice (some ad374) x10_2.length co55 : Value).ownBlock) (.slice Ao43 t351.length co43) t351) ∧ (w'.heap[gb350]? = some (.cells #[.int .i64 a1_0, .int .i64 a1_1, .int .i64 a1_2] 27 (0, 0))) ∧ (w'.heap[gb366]? = some (.cells #[.int .i64 t362, .int .i64 t363, .int .i64 t364] 27 (0, 0))) ∧ (Below w.heap.size w w')) ?_ ?_
                   rotate_left
                   ·intro hCont
                    refine two_ (i := 2) (j := 14) (Ni := some 55) (Nj := some 67) #[true, true, true, false, true, true, true, true, true, true, true, true, true, true, false, false, false, false] #[true, true, false, false, true, true, true, true, true, true, true, true, true, true, true, false, false, false] rfl rfl rfl rfl (qKC HT_.out (by kernel_rfl)) (by decide) (by decide) (fun K hK => ?_) (fun K hK => ?_)
                    ·skip
                     refine Kd.qYB k27 _ 27 ?hg (N := 55) ?hd (xs := ([(⟨t362, t363, t364⟩ : S27)] : List (S27))) (inner := [.int .i64 t362, .int .i64 t363, .int .i64 t364]) (ok := fun _ => True) (okp := fun _ => True) ?hr ?hp (fun _ hk => hk) trivial (Below.refl _ _) (Nat.le_refl _) (by simp) ?_; (case hd => rfl); (case hg => rfl); (case hr => first | (go_simp; done) | (go_simp; rfl)); (case hp => exact (Reps.c3 (show Kd.M k27 _ _ _ (⟨t362, t363, t364⟩ : S27) [.int .i64 t362, .int .i64 t363, .int .i64 t364] from (qVB _ _ _ (⟨t362, t363, t364⟩ : S27) )) (Reps.none _ _)))
                     intro v369 w57 ho58 hb hg_ hnew_
                     have HS3_ := (hb.cell (World.block_lt_of_cell? _ _ (hHeld.2.2.2))).trans (hHeld.2.2.2)
                     clear hg_ hnew_
                     (first | rw [← Ny368.out] at ho58 | (simp only [Int.reduceToNat] at ho58; rw [← Ny368.out] at ho58))
                     have n0_ := Aside0.mk (Kd.qkA (by (with_reducible repeat (first | apply Kd.qF | apply Kd.qE | apply Kd.qH)); exact HO_9.out) (Kd.qMB ho58) hb)
                     have n1_ := Aside0.mk (Kd.qa (by (with_reducible repeat (first | apply Kd.qF | apply Kd.qE | apply Kd.qH)); exact HO_10.out) hb)
                     have n2_ := Aside0.mk (Kd.qa (by (with_reducible repeat (first | apply Kd.qF | apply Kd.qE | apply Kd.qH)); exact HO_19.out) hb)
                     have n3_ := Aside0.mk (Kd.qHA (Kd.qgB (Kd.qgB (Kd.qLB ho58 (Kd.R_lt (by (with_reducible repeat (first | apply Kd.qF | apply Kd.qE | apply Kd.qH)); exact HO_9.out))) (g := gb350) (o := .cells #[.int .i64 a1_0, .int .i64 a1_1, .int .i64 a1_2] 27 (0, 0)) (by (with_reducible repeat (first | refine qB ?_ _ | refine qD ?_ | refine qA ?_ _)); exact BK350.out)) (g := gb366) (o := .cells #[.int .i64 t362, .int .i64 t363, .int .i64 t364] 27 (0, 0)) (by (with_reducible repeat (first | refine qB ?_ _ | refine qD ?_ | refine qA ?_ _)); exact BK366.out)) (qg bl))
                     have n4_ := Aside0.mk (bb BK350 hb)
                     have n5_ := Aside0.mk (bb BK366 hb)
                     have n6_ := Aside0.mk (qG bl hb)
                     clear HO_9
                     clear HO_10
                     clear HO_19
                     clear BK350
                     clear BK366
                     clear HB
                     have HO_9 := n0_
                     have HO_10 := n1_
                     have HO_19 := n2_
                     have HO370 := n3_
                     have BK350 := n4_
                     have BK366 := n5_
                     have HB := n6_
                     clear n0_ n1_ n2_ n3_ n4_ n5_ n6_
                     clear hb ho58
                     obtain ⟨Ao60, co60, eo60⟩ := Kd.qo HO370.out
                     (first | subst eo60 | (injection eo60 with f1_ f2_ f3_; have f4_ := f1_.symm; have f5_ := f3_.symm; clear f1_ f2_ f3_; subst f4_; subst f5_))
                     refine hK.out _ _ ⟨(qL BK366.out 0).trans rfl, (qL BK366.out 1).trans rfl, (qL BK366.out 2).trans rfl, HS3_⟩ (fun hHeld => ?_)
                     clear hK K
                     refine norm_ (a' := ?_) ?_ ?_
                     rotate_left
                     ·show Act.put _ (some 55) _ = _
                      simp only [Act.put, List.setIfInBounds_toArray, List.set_cons_zero, List.set_cons_succ, i64_w, i32_w]
                      rfl
                     refine two_ (i := 3) (j := 14) (Ni := some 56) (Nj := some 67) #[true, true, true, true, true, true, true, true, true, true, true, true, true, true, false, false, false, false] #[true, true, true, false, true, true, true, true, true, true, true, true, true, true, true, false, false, false] rfl rfl rfl rfl (qKC HT_.out (by kernel_rfl)) (by decide) (by decide) (fun K hK => ?_) (fun K hK => ?_)
                     ·skip
                      refine qtA k27 (w0 := w) w.heap.size (by rfl) (.tmp 53) (.tmp 55) 24 27 (.agg #[(.int .i64 0), (.int .i64 0), (.int .i64 0)]) 24 rfl Tryd.underlying24 info27 rfl (by decide) (by omega) (.slice (some ad361) x9_2.length co45) x9_2 y368 _ _ _ (fun k_ => some k_ ≠ (.slice Ao60 y368.length co60 : Value).ownBlock ∧ k_ ≠ gb350 ∧ k_ ≠ gb366) (fun _ => False) rfl rfl ?aO ?aR (fun _ _ h => h) (fun _ h => h.elim) ?aF ?aB ?aS ?aL ?_
                      (case aR => repeat (first | exact (Kd.qT HO370.out).2.2 | (with_reducible refine Kd.qz ?_ _) | (with_reducible refine Kd.qy ?_ _) | (with_reducible refine Kd.qNA ?_)))
                      (case aB => exact bl)
                      (case aF => exact (fun k_ hk => ⟨Kd.fresh' (Kd.R_lt (by (with_reducible repeat (first | apply Kd.qF | apply Kd.qE | apply Kd.qH)); exact HO370.out)) k_ hk, Kd.freshB (g := gb350) (o := .cells #[.int .i64 a1_0, .int .i64 a1_1, .int .i64 a1_2] 27 (0, 0)) (by (with_reducible repeat (first | refine qB ?_ _ | refine qD ?_ | refine qA ?_ _)); exact BK350.out) k_ hk, Kd.freshB (g := gb366) (o := .cells #[.int .i64 t362, .int .i64 t363, .int .i64 t364] 27 (0, 0)) (by (with_reducible repeat (first | refine qB ?_ _ | refine qD ?_ | refine qA ?_ _)); exact BK366.out) k_ hk⟩))
                      (case aO => exact (by (with_reducible repeat (first | apply Kd.qF | apply Kd.qE | apply Kd.qH)); exact Kd.qh HO_9.out (fun _ hk => ⟨hk.2, ⟨hk.1.1, hk.1.2⟩⟩)))
                      (case aS => exact (qg bl))
                      (case aL => have := LMc36.out; omega)
                      intro v372 w59 ho hb hg hat hkp_
                      have HS3_ := hkp_ _ _ (hHeld.2.2.2) (fun e_ => absurd e_ hnr374_HO_9.out)
                      clear hkp_
                      rw [← Ny371.out] at ho
                      have n0_ := Aside0.mk (Kd.qCB (by (with_reducible repeat (first | apply Kd.qF | apply Kd.qE | apply Kd.qH)); exact HO_10.out) (Kd.qxA (by (with_reducible repeat (first | apply Kd.qF | apply Kd.qE | apply Kd.qH)); exact HO_9.out)) (by decide) hg)
                      have n1_ := Aside0.mk (Kd.qCB (by (with_reducible repeat (first | apply Kd.qF | apply Kd.qE | apply Kd.qH)); exact HO_19.out) (Kd.qxA (by (with_reducible repeat (first | apply Kd.qF | apply Kd.qE | apply Kd.qH)); exact HO_9.out)) (by decide) hg)
                      have n2_ := Aside0.mk (qFA (g := gb350) (o := .cells #[.int .i64 a1_0, .int .i64 a1_1, .int .i64 a1_2] 27 (0, 0)) (by (with_reducible repeat (first | refine qB ?_ _ | refine qD ?_ | refine qA ?_ _)); exact BK350.out) hg (Kd.qU HO_9.out (fun _ hk => hk.1.1)))
                      have n3_ := Aside0.mk (qFA (g := gb366) (o := .cells #[.int .i64 t362, .int .i64 t363, .int .i64 t364] 27 (0, 0)) (by (with_reducible repeat (first | refine qB ?_ _ | refine qD ?_ | refine qA ?_ _)); exact BK366.out) hg (Kd.qU HO_9.out (fun _ hk => hk.1.2)))
                      have n4_ := Aside0.mk (Kd.qlA (ok := (fun k_ => k_ ≠ gb350 ∧ k_ ≠ gb366)) (by (with_reducible repeat (first | apply Kd.qF | apply Kd.qE | apply Kd.qH)); exact Kd.qh HO370.out (fun _ hk => ⟨⟨hk.1.2, hk.2⟩, hk.1.1.2⟩)) hg hat)
                      have n5_ := Aside0.mk (hb)
                      have n6_ := Aside0.mk (ho)
                      clear HO_10
                      clear HO_19
                      clear BK350
                      clear BK366
                      clear HO370
                      clear HB
                      clear HO_9
                      have HO_10 := n0_
                      have HO_19 := n1_
                      have BK350 := n2_
                      have BK366 := n3_
                      have HO370 := n4_
                      have HB := n5_
                      have HO373 := n6_
                      clear n0_ n1_ n2_ n3_ n4_ n5_ n6_
                      clear ho hb hg hat
                      refine hK.out _ _ ⟨(qL BK366.out 0).trans rfl, (qL BK366.out 1).trans rfl, (qL BK366.out 2).trans rfl, HS3_⟩ (fun hHeld => ?_)
                      clear hK K
                      refine norm_ (a' := ?_) ?_ ?_
                      rotate_left
                      ·show Act.put _ (some 56) _ = _
                       simp only [Act.put, List.setIfInBounds_toArray, List.set_cons_zero, List.set_cons_succ, i64_w, i32_w]
                       rfl
                      refine one_ (i := 14) (N := some 67) #[true, true, true, true, true, true, true, true, true, true, true, true, true, true, true, false, false, false] rfl rfl (qQA HT_.out (by kernel_rfl)) (by decide) (fun K hK => ?_)
                      refine Kd.qYB Kd.string _ 9 ?hg (N := 67) ?hd (xs := ([(rdOf ByteArray.empty x10_2 x11_1) ++ ((⟨#[110, 101, 115, 119]⟩ : ByteArray).extract (x32_2 : Int).toNat ((wrap64 (x32_2 + 1)) : Int).toNat)] : List ByteArray)) (inner := [.string ((rdOf ByteArray.empty x10_2 x11_1) ++ ((⟨#[110, 101, 115, 119]⟩ : ByteArray).extract (x32_2 : Int).toNat ((wrap64 (x32_2 + 1)) : Int).toNat))]) (ok := fun _ => True) (okp := fun _ => True) ?hr ?hp (fun _ hk => hk) trivial (Below.refl _ _) (Nat.le_refl _) (by simp) ?_; (case hd => rfl); (case hg => rfl); (case hr => first | (go_simp; done) | (go_simp; rfl)); (case hp => exact (Reps.one (show Kd.M Kd.string _ _ _ ((rdOf ByteArray.empty x10_2 x11_1) ++ ((⟨#[110, 101, 115, 119]⟩ : ByteArray).extract (x32_2 : Int).toNat ((wrap64 (x32_2 + 1)) : Int).toNat)) [.string ((rdOf ByteArray.empty x10_2 x11_1) ++ ((⟨#[110, 101, 115, 119]⟩ : ByteArray).extract (x32_2 : Int).toNat ((wrap64 (x32_2 + 1)) : Int).toNat))] from rfl) (Reps.none _ _)))
                      intro v376 w61 ho62 hb hg_ hnew_
                      have HS3_ := (hb.cell (World.block_lt_of_cell? _ _ (hHeld.2.2.2))).trans (hHeld.2.2.2)
                      clear hg_ hnew_
                      (first | rw [← Ny375.out] at ho62 | (simp only [Int.reduceToNat] at ho62; rw [← Ny375.out] at ho62))
                      have n0_ := Aside0.mk (Kd.qkA (by (with_reducible repeat (first | apply Kd.qF | apply Kd.qE | apply Kd.qH)); exact HO_10.out) (Kd.qMB ho62) hb)
                      have n1_ := Aside0.mk (Kd.qkA (by (with_reducible repeat (first | apply Kd.qF | apply Kd.qE | apply Kd.qH)); exact HO_19.out) (Kd.qMB ho62) hb)
                      have n2_ := Aside0.mk (Kd.qa (by (with_reducible repeat (first | apply Kd.qF | apply Kd.qE | apply Kd.qH)); exact HO370.out) hb)
                      have n3_ := Aside0.mk (Kd.qa (by (with_reducible repeat (first | apply Kd.qF | apply Kd.qE | apply Kd.qH)); exact HO373.out) hb)
                      have n4_ := Aside0.mk (Kd.qHA (Kd.qLB (Kd.qLB ho62 (Kd.R_lt (by (with_reducible repeat (first | apply Kd.qF | apply Kd.qE | apply Kd.qH)); exact HO_10.out))) (Kd.R_lt (by (with_reducible repeat (first | apply Kd.qF | apply Kd.qE | apply Kd.qH)); exact HO_19.out))) (qg bl))
                      have n5_ := Aside0.mk (bb BK350 hb)
                      have n6_ := Aside0.mk (bb BK366 hb)
                      have n7_ := Aside0.mk (qG bl hb)
                      clear HO_10
                      clear HO_19
                      clear HO370
                      clear HO373
                      clear BK350
                      clear BK366
                      clear HB
                      have HO_10 := n0_
                      have HO_19 := n1_
                      have HO370 := n2_
                      have HO373 := n3_
                      have HO377 := n4_
                      have BK350 := n5_
                      have BK366 := n6_
                      have HB := n7_
                      clear n0_ n1_ n2_ n3_ n4_ n5_ n6_ n7_
                      clear hb ho62
                      refine hK.out _ _ ⟨(qL BK366.out 0).trans rfl, (qL BK366.out 1).trans rfl, (qL BK366.out 2).trans rfl, HS3_⟩ (fun hHeld => ?_)
                      clear hK K
                      refine norm_ (a' := ?_) ?_ ?_
                      rotate_left
                      ·show Act.put _ (some 67) _ = _
                       simp only [Act.put, List.setIfInBounds_toArray, List.set_cons_zero, List.set_cons_succ, i64_w, i32_w]
                       rfl
                      exact norm_ (by simp only [putAll, Act.put, List.setIfInBounds_toArray, List.set_cons_zero, List.set_cons_succ]) (hCont (.slice Ao60 y368.length co60, v372, v376) _ ⟨hHeld, (by (with_reducible repeat (first | apply Kd.qF | apply Kd.qE | apply Kd.qH)); exact Kd.qh HO370.out (fun _ hk => ⟨hk.2, ⟨hk.1.1, hk.1.2⟩⟩)), (by (with_reducible repeat (first | apply Kd.qF | apply Kd.qE | apply Kd.qH)); exact HO373.out), (by (with_reducible repeat (first | apply Kd.qF | apply Kd.qE | apply Kd.qH)); exact Kd.qh HO377.out (fun _ hk => ⟨hk.1.2, hk.2⟩)), (by (with_reducible repeat (first | apply Kd.qF | apply Kd.qE | apply Kd.qH)); exact Kd.qh HO_10.out (fun _ hk => ⟨hk.2, hk.1⟩)), (by (with_reducible repeat (first | apply Kd.qF | apply Kd.qE | apply Kd.qH)); exact Kd.qh HO_19.out (fun _ hk => ⟨hk.2, hk.1⟩)), (by (with_reducible repeat (first | refine qB ?_ _ | refine qD ?_ | refine qA ?_ _)); exact BK350.out), (by (with_reducible repeat (first | refine qB ?_ _ | refine qD ?_ | refine qA ?_ _)); exact BK366.out), bl⟩)
                     ·skip
                      refine Kd.qYB Kd.string _ 9 ?hg (N := 67) ?hd (xs := ([(rdOf ByteArray.empty x10_2 x11_1) ++ ((⟨#[110, 101, 115, 119]⟩ : ByteArray).extract (x32_2 : Int).toNat ((wrap64 (x32_2 + 1)) : Int).toNat)] : List ByteArray)) (inner := [.string ((rdOf ByteArray.empty x10_2 x11_1) ++ ((⟨#[110, 101, 115, 119]⟩ : ByteArray).extract (x32_2 : Int).toNat ((wrap64 (x32_2 + 1)) : Int).toNat))]) (ok := fun _ => True) (okp := fun _ => True) ?hr ?hp (fun _ hk => hk) trivial (Below.refl _ _) (Nat.le_refl _) (by simp) ?_; (case hd => rfl); (case hg => rfl); (case hr => first | (go_simp; done) | (go_simp; rfl)); (case hp => exact (Reps.one (show Kd.M Kd.string _ _ _ ((rdOf ByteArray.empty x10_2 x11_1) ++ ((⟨#[110, 101, 115, 119]⟩ : ByteArray).extract (x32_2 : Int).toNat ((wrap64 (x32_2 + 1)) : Int).toNat)) [.string ((rdOf ByteArray.empty x10_2 x11_1) ++ ((⟨#[110, 101, 115, 119]⟩ : ByteArray).extract (x32_2 : Int).toNat ((wrap64 (x32_2 + 1)) : Int).toNat))] from rfl) (Reps.none _ _)))
                      intro v376 w59 ho60 hb hg_ hnew_
                      have HS3_ := (hb.cell (World.block_lt_of_cell? _ _ (hHeld.2.2.2))).trans (hHeld.2.2.2)
                      clear hg_ hnew_
                      (first | rw [← Ny375.out] at ho60 | (simp only [Int.reduceToNat] at ho60; rw [← Ny375.out] at ho60))
                      have n0_ := Aside0.mk (Kd.qa (by (with_reducible repeat (first | apply Kd.qF | apply Kd.qE | apply Kd.qH)); exact HO_9.out) hb)
                      have n1_ := Aside0.mk (Kd.qkA (by (with_reducible repeat (first | apply Kd.qF | apply Kd.qE | apply Kd.qH)); exact HO_10.out) (Kd.qMB ho60) hb)
                      have n2_ := Aside0.mk (Kd.qkA (by (with_reducible repeat (first | apply Kd.qF | apply Kd.qE | apply Kd.qH)); exact HO_19.out) (Kd.qMB ho60) hb)
                      have n3_ := Aside0.mk (Kd.qa (by (with_reducible repeat (first | apply Kd.qF | apply Kd.qE | apply Kd.qH)); exact HO370.out) hb)
                      have n4_ := Aside0.mk (Kd.qHA (Kd.qLB (Kd.qLB ho60 (Kd.R_lt (by (with_reducible repeat (first | apply Kd.qF | apply Kd.qE | apply Kd.qH)); exact HO_10.out))) (Kd.R_lt (by (with_reducible repeat (first | apply Kd.qF | apply Kd.qE | apply Kd.qH)); exact HO_19.out))) (qg bl))
                      have n5_ := Aside0.mk (bb BK350 hb)
                      have n6_ := Aside0.mk (bb BK366 hb)
                      have n7_ := Aside0.mk (qG bl hb)
                      clear HO_9
                      clear HO_10
                      clear HO_19
                      clear HO370
                      clear BK350
                      clear BK366
                      clear HB
                      have HO_9 := n0_
                      have HO_10 := n1_
                      have HO_19 := n2_
                      have HO370 := n3_
                      have HO377 := n4_
                      have BK350 := n5_
                      have BK366 := n6_
                      have HB := n7_
                      clear n0_ n1_ n2_ n3_ n4_ n5_ n6_ n7_
                      clear hb ho60
                      obtain ⟨Ao62, co62, eo62⟩ := Kd.qo HO370.out
                      (first | subst eo62 | (injection eo62 with f1_ f2_ f3_; have f4_ := f1_.symm; have f5_ := f3_.symm; clear f1_ f2_ f3_; subst f4_; subst f5_))
                      refine hK.out _ _ ⟨(qL BK366.out 0).trans rfl, (qL BK366.out 1).trans rfl, (qL BK366.out 2).trans rfl, HS3_⟩ (fun hHeld => ?_)
                      clear hK K
                      refine norm_ (a' := ?_) ?_ ?_
                      rotate_left
                      ·show Act.put _ (some 67) _ = _
                       simp only [Act.put, List.setIfInBounds_toArray, List.set_cons_zero, List.set_cons_succ, i64_w, i32_w]
                       rfl
                      refine one_ (i := 3) (N := some 56) #[true, true, true, true, true, true, true, true, true, true, true, true, true, true, true, false, false, false] rfl rfl (qQA HT_.out (by kernel_rfl)) (by decide) (fun K hK => ?_)
                      refine qtA k27 (w0 := w) w.heap.size (by rfl) (.tmp 53) (.tmp 55) 24 27 (.agg #[(.int .i64 0), (.int .i64 0), (.int .i64 0)]) 24 rfl Tryd.underlying24 info27 rfl (by decide) (by omega) (.slice (some ad361) x9_2.length co45) x9_2 y368 _ _ _ (fun k_ => some k_ ≠ (.slice Ao62 y368.length co62 : Value).ownBlock ∧ k_ ≠ gb350 ∧ k_ ≠ gb366) (fun _ => False) rfl rfl ?aO ?aR (fun _ _ h => h) (fun _ h => h.elim) ?aF ?aB ?aS ?aL ?_
                      (case aR => repeat (first | exact (Kd.qT HO370.out).2.2 | (with_reducible refine Kd.qz ?_ _) | (with_reducible refine Kd.qy ?_ _) | (with_reducible refine Kd.qNA ?_)))
                      (case aB => exact bl)
                      (case aF => exact (fun k_ hk => ⟨Kd.fresh' (Kd.R_lt (by (with_reducible repeat (first | apply Kd.qF | apply Kd.qE | apply Kd.qH)); exact HO370.out)) k_ hk, Kd.freshB (g := gb350) (o := .cells #[.int .i64 a1_0, .int .i64 a1_1, .int .i64 a1_2] 27 (0, 0)) (by (with_reducible repeat (first | refine qB ?_ _ | refine qD ?_ | refine qA ?_ _)); exact BK350.out) k_ hk, Kd.freshB (g := gb366) (o := .cells #[.int .i64 t362, .int .i64 t363, .int .i64 t364] 27 (0, 0)) (by (with_reducible repeat (first | refine qB ?_ _ | refine qD ?_ | refine qA ?_ _)); exact BK366.out) k_ hk⟩))
                      (case aO => exact (by (with_reducible repeat (first | apply Kd.qF | apply Kd.qE | apply Kd.qH)); exact Kd.qh HO_9.out (fun _ hk => ⟨hk.2, ⟨hk.1.1, hk.1.2⟩⟩)))
                      (case aS => exact (qg bl))
                      (case aL => have := LMc36.out; omega)
                      intro v372 w61 ho hb hg hat hkp_
                      have HS3_ := hkp_ _ _ (hHeld.2.2.2) (fun e_ => absurd e_ hnr374_HO_9.out)
                      clear hkp_
                      rw [← Ny371.out] at ho
                      have n0_ := Aside0.mk (Kd.qCB (by (with_reducible repeat (first | apply Kd.qF | apply Kd.qE | apply Kd.qH)); exact HO_10.out) (Kd.qxA (by (with_reducible repeat (first | apply Kd.qF | apply Kd.qE | apply Kd.qH)); exact HO_9.out)) (by decide) hg)
                      have n1_ := Aside0.mk (Kd.qCB (by (with_reducible repeat (first | apply Kd.qF | apply Kd.qE | apply Kd.qH)); exact HO_19.out) (Kd.qxA (by (with_reducible repeat (first | apply Kd.qF | apply Kd.qE | apply Kd.qH)); exact HO_9.out)) (by decide) hg)
                      have n2_ := Aside0.mk (qFA (g := gb350) (o := .cells #[.int .i64 a1_0, .int .i64 a1_1, .int .i64 a1_2] 27 (0, 0)) (by (with_reducible repeat (first | refine qB ?_ _ | refine qD ?_ | refine qA ?_ _)); exact BK350.out) hg (Kd.qU HO_9.out (fun _ hk => hk.1.1)))
                      have n3_ := Aside0.mk (qFA (g := gb366) (o := .cells #[.int .i64 t362, .int .i64 t363, .int .i64 t364] 27 (0, 0)) (by (with_reducible repeat (first | refine qB ?_ _ | refine qD ?_ | refine qA ?_ _)); exact BK366.out) hg (Kd.qU HO_9.out (fun _ hk => hk.1.2)))
                      have n4_ := Aside0.mk (Kd.qlA (ok := (fun k_ => k_ ≠ gb350 ∧ k_ ≠ gb366)) (by (with_reducible repeat (first | apply Kd.qF | apply Kd.qE | apply Kd.qH)); exact Kd.qh HO370.out (fun _ hk => ⟨⟨hk.1.2, hk.2⟩, hk.1.1.2⟩)) hg hat)
                      have n5_ := Aside0.mk (Kd.qCB (by (with_reducible repeat (first | apply Kd.qF | apply Kd.qE | apply Kd.qH)); exact HO377.out) (Kd.qxA (by (with_reducible repeat (first | apply Kd.qF | apply Kd.qE | apply Kd.qH)); exact HO_9.out)) (by decide) hg)
                      have n6_ := Aside0.mk (hb)
                      have n7_ := Aside0.mk (ho)
                      clear HO_10
                      clear HO_19
                      clear BK350
                      clear BK366
                      clear HO370
                      clear HO377
                      clear HB
                      clear HO_9
                      have HO_10 := n0_
                      have HO_19 := n1_
                      have BK350 := n2_
                      have BK366 := n3_
                      have HO370 := n4_
                      have HO377 := n5_
                      have HB := n6_
                      have HO373 := n7_
                      clear n0_ n1_ n2_ n3_ n4_ n5_ n6_ n7_
                      clear ho hb hg hat
                      refine hK.out _ _ ⟨(qL BK366.out 0).trans rfl, (qL BK366.out 1).trans rfl, (qL BK366.out 2).trans rfl, HS3_⟩ (fun hHeld => ?_)
                      clear hK K
                      refine norm_ (a' := ?_) ?_ ?_
                      rotate_left
                      ·show Act.put _ (some 56) _ = _
                       simp only [Act.put, List.setIfInBounds_toArray, List.set_cons_zero, List.set_cons_succ, i64_w, i32_w]
                       rfl
                      exact norm_ (by simp only [putAll, Act.put, List.setIfInBounds_toArray, List.set_cons_zero, List.set_cons_succ]) (hCont (.slice Ao62 y368.length co62, v372, v376) _ ⟨hHeld, (by (with_reducible repeat (first | apply Kd.qF | apply Kd.qE | apply Kd.qH)); exact Kd.qh HO370.out (fun _ hk => ⟨hk.2, ⟨hk.1.1, hk.1.2⟩⟩)), (by (with_reducible repeat (first | apply Kd.qF | apply Kd.qE | apply Kd.qH)); exact HO373.out), (by (with_reducible repeat (first | apply Kd.qF | apply Kd.qE | apply Kd.qH)); exact Kd.qh HO377.out (fun _ hk => ⟨hk.1.2, hk.2⟩)), (by (with_reducible repeat (first | apply Kd.qF | apply Kd.qE | apply Kd.qH)); exact Kd.qh HO_10.out (fun _ hk => ⟨hk.2, hk.1⟩)), (by (with_reducible repeat (first | apply Kd.qF | apply Kd.qE | apply Kd.qH)); exact Kd.qh HO_19.out (fun _ hk => ⟨hk.2, hk.1⟩)), (by (with_reducible repeat (first | refine qB ?_ _ | refine qD ?_ | refine qA ?_ _)); exact BK350.out), (by (with_reducible repeat (first | refine qB ?_ _ | refine qD ?_ | refine qA ?_ _)); exact BK366.out), bl⟩)
                    ·skip
                     refine Kd.qYB Kd.string _ 9 ?hg (N := 67) ?hd (xs := ([(rdOf ByteArray.empty x10_2 x11_1) ++ ((⟨#[110, 101, 115, 119]⟩ : ByteArray).extract (x32_2 : Int).toNat ((wrap64 (x32_2 + 1)) : Int).toNat)] : List ByteArray)) (inner := [.string ((rdOf ByteArray.empty x10_2 x11_1) ++ ((⟨#[110, 101, 115, 119]⟩ : ByteArray).extract (x32_2 : Int).toNat ((wrap64 (x32_2 + 1)) : Int).toNat))]) (ok := fun _ => True) (okp := fun _ => True) ?hr ?hp (fun _ hk => hk) trivial (Below.refl _ _) (Nat.le_refl _) (by simp) ?_; (case hd => rfl); (case hg => rfl); (case hr => first | (go_simp; done) | (go_simp; rfl)); (case hp => exact (Reps.one (show Kd.M Kd.string _ _ _ ((rdOf ByteArray.empty x10_2 x11_1) ++ ((⟨#[110, 101, 115, 119]⟩ : ByteArray).extract (x32_2 : Int).toNat ((wrap64 (x32_2 + 1)) : Int).toNat)) [.string ((rdOf ByteArray.empty x10_2 x11_1) ++ ((⟨#[110, 101, 115, 119]⟩ : ByteArray).extract (x32_2 : Int).toNat ((wrap64 (x32_2 + 1)) : Int).toNat))] from rfl) (Reps.none _ _)))
                     intro v376 w57 ho58 hb hg_ hnew_
                     have HS3_ := (hb.cell (World.block_lt_of_cell? _ _ (hHeld.2.2.2))).trans (hHeld.2.2.2)
                     clear hg_ hnew_
                     (first | rw [← Ny375.out] at ho58 | (simp only [Int.reduceToNat] at ho58; rw [← Ny375.out] at ho58))
                     have n0_ := Aside0.mk (Kd.qa (by (with_reducible repeat (first | apply Kd.qF | apply Kd.qE | apply Kd.qH)); exact HO_9.out) hb)
                     have n1_ := Aside0.mk (Kd.qkA (by (with_reducible repeat (first | apply Kd.qF | apply Kd.qE | apply Kd.qH)); exact HO_10.out) (Kd.qMB ho58) hb)
                     have n2_ := Aside0.mk (Kd.qkA (by (with_reducible repeat (first | apply Kd.qF | apply Kd.qE | apply Kd.qH)); exact HO_19.out) (Kd.qMB ho58) hb)
                     have n3_ := Aside0.mk (Kd.qHA (Kd.qLB (Kd.qLB ho58 (Kd.R_lt (by (with_reducible repeat (first | apply Kd.qF | apply Kd.qE | apply Kd.qH)); exact HO_10.out))) (Kd.R_lt (by (with_reducible repeat (first | apply Kd.qF | apply Kd.qE | apply Kd.qH)); exact HO_19.out))) (qg bl))
                     have n4_ := Aside0.mk (bb BK350 hb)
                     have n5_ := Aside0.mk (bb BK366 hb)
                     have n6_ := Aside0.mk (qG bl hb)
                     clear HO_9
                     clear HO_10
                     clear HO_19
                     clear BK350
                     clear BK366
                     clear HB
                     have HO_9 := n0_
                     have HO_10 := n1_
                     have HO_19 := n2_
                     have HO377 := n3_
                     have BK350 := n4_
                     have BK366 := n5_
                     have HB := n6_
                     clear n0_ n1_ n2_ n3_ n4_ n5_ n6_
                     clear hb ho58
                     refine hK.out _ _ ⟨(qL BK366.out 0).trans rfl, (qL BK366.out 1).trans rfl, (qL BK366.out 2).trans rfl, HS3_⟩ (fun hHeld => ?_)
                     clear hK K
                     refine norm_ (a' := ?_) ?_ ?_
                     rotate_left
                     ·show Act.put _ (some 67) _ = _
                      simp only [Act.put, List.setIfInBounds_toArray, List.set_cons_zero, List.set_cons_succ, i64_w, i32_w]
                      rfl
                     refine one_ (i := 2) (N := some 55) #[true, true, true, false, true, true, true, true, true, true, true, true, true, true, true, false, false, false] rfl rfl (qQA HT_.out (by kernel_rfl)) (by decide) (fun K hK => ?_)
                     refine Kd.qYB k27 _ 27 ?hg (N := 55) ?hd (xs := ([(⟨t362, t363, t364⟩ : S27)] : List (S27))) (inner := [.int .i64 t362, .int .i64 t363, .int .i64 t364]) (ok := fun _ => True) (okp := fun _ => True) ?hr ?hp (fun _ hk => hk) trivial (Below.refl _ _) (Nat.le_refl _) (by simp) ?_; (case hd => rfl); (case hg => rfl); (case hr => first | (go_simp; done) | (go_simp; rfl)); (case hp => exact (Reps.c3 (show Kd.M k27 _ _ _ (⟨t362, t363, t364⟩ : S27) [.int .i64 t362, .int .i64 t363, .int .i64 t364] from (qVB _ _ _ (⟨t362, t363, t364⟩ : S27) )) (Reps.none _ _)))
                     intro v369 w59 ho60 hb hg_ hnew_
                     have HS3_ := (hb.cell (World.block_lt_of_cell? _ _ (hHeld.2.2.2))).trans (hHeld.2.2.2)
                     clear hg_ hnew_
                     (first | rw [← Ny368.out] at ho60 | (simp only [Int.reduceToNat] at ho60; rw [← Ny368.out] at ho60))
                     have n0_ := Aside0.mk (Kd.qkA (by (with_reducible repeat (first | apply Kd.qF | apply Kd.qE | apply Kd.qH)); exact HO_9.out) (Kd.qMB ho60) hb)
                     have n1_ := Aside0.mk (Kd.qa (by (with_reducible repeat (first | apply Kd.qF | apply Kd.qE | apply Kd.qH)); exact HO_10.out) hb)
                     have n2_ := Aside0.mk (Kd.qa (by (with_reducible repeat (first | apply Kd.qF | apply Kd.qE | apply Kd.qH)); exact HO_19.out) hb)
                     have n3_ := Aside0.mk (Kd.qa (by (with_reducible repeat (first | apply Kd.qF | apply Kd.qE | apply Kd.qH)); exact HO377.out) hb)
                     have n4_ := Aside0.mk (Kd.qHA (Kd.qgB (Kd.qgB (Kd.qLB ho60 (Kd.R_lt (by (with_reducible repeat (first | apply Kd.qF | apply Kd.qE | apply Kd.qH)); exact HO_9.out))) (g := gb350) (o := .cells #[.int .i64 a1_0, .int .i64 a1_1, .int .i64 a1_2] 27 (0, 0)) (by (with_reducible repeat (first | refine qB ?_ _ | refine qD ?_ | refine qA ?_ _)); exact BK350.out)) (g := gb366) (o := .cells #[.int .i64 t362, .int .i64 t363, .int .i64 t364] 27 (0, 0)) (by (with_reducible repeat (first | refine qB ?_ _ | refine qD ?_ | refine qA ?_ _)); exact BK366.out)) (qg bl))
                     have n5_ := Aside0.mk (bb BK350 hb)
                     have n6_ := Aside0.mk (bb BK366 hb)
                     have n7_ := Aside0.mk (qG bl hb)
                     clear HO_9
                     clear HO_10
                     clear HO_19
                     clear HO377
                     clear BK350
                     clear BK366
                     clear HB
                     have HO_9 := n0_
                     have HO_10 := n1_
                     have HO_19 := n2_
                     have HO377 := n3_
                     have HO370 := n4_
                     have BK350 := n5_
                     have BK366 := n6_
                     have HB := n7_
                     clear n0_ n1_ n2_ n3_ n4_ n5_ n6_ n7_
                     clear hb ho60
                     obtain ⟨Ao62, co62, eo62⟩ := Kd.qo HO370.out
                     (first | subst eo62 | (injection eo62 with f1_ f2_ f3_; have f4_ := f1_.symm; have f5_ := f3_.symm; clear f1_ f2_ f3_; subst f4_; subst f5_))
                     refine hK.out _ _ ⟨(qL BK366.out 0).trans rfl, (qL BK366.out 1).trans rfl, (qL BK366.out 2).trans rfl, HS3_⟩ (fun hHeld => ?_)
                     clear hK K
                     refine norm_ (a' := ?_) ?_ ?_
                     rotate_left
                     ·show Act.put _ (some 55) _ = _
                      simp only [Act.put, List.setIfInBounds_toArray, List.set_cons_zero, List.set_cons_succ, i64_w, i32_w]
                      rfl
                     refine one_ (i := 3) (N := some 56) #[true, true, true, true, true, true, true, true, true, true, true, true, true, true, true, false, false, false] rfl rfl (qQA HT_.out (by kernel_rfl)) (by decide) (fun K hK => ?_)
                     refine qtA k27 (w0 := w) w.heap.size (by rfl) (.tmp 53) (.tmp 55) 24 27 (.agg #[(.int .i64 0), (.int .i64 0), (.int .i64 0)]) 24 rfl Tryd.underlying24 info27 rfl (by decide) (by omega) (.slice (some ad361) x9_2.length co45) x9_2 y368 _ _ _ (fun k_ => some k_ ≠ (.slice Ao62 y368.length co62 : Value).ownBlock ∧ k_ ≠ gb350 ∧ k_ ≠ gb366) (fun _ => False) rfl rfl ?aO ?aR (fun _ _ h => h) (fun _ h => h.elim) ?aF ?aB ?aS ?aL ?_
                     (case aR => repeat (first | exact (Kd.qT HO370.out).2.2 | (with_reducible refine Kd.qz ?_ _) | (with_reducible refine Kd.qy ?_ _) | (with_reducible refine Kd.qNA ?_)))
                     (case aB => exact bl)
                     (case aF => exact (fun k_ hk => ⟨Kd.fresh' (Kd.R_lt (by (with_reducible repeat (first | apply Kd.qF | apply Kd.qE | apply Kd.qH)); exact HO370.out)) k_ hk, Kd.freshB (g := gb350) (o := .cells #[.int .i64 a1_0, .int .i64 a1_1, .int .i64 a1_2] 27 (0, 0)) (by (with_reducible repeat (first | refine qB ?_ _ | refine qD ?_ | refine qA ?_ _)); exact BK350.out) k_ hk, Kd.freshB (g := gb366) (o := .cells #[.int .i64 t362, .int .i64 t363, .int .i64 t364] 27 (0, 0)) (by (with_reducible repeat (first | refine qB ?_ _ | refine qD ?_ | refine qA ?_ _)); exact BK366.out) k_ hk⟩))
                     (case aO => exact (by (with_reducible repeat (first | apply Kd.qF | apply Kd.qE | apply Kd.qH)); exact Kd.qh HO_9.out (fun _ hk => ⟨hk.2, ⟨hk.1.1, hk.1.2⟩⟩)))
                     (case aS => exact (qg bl))
                     (case aL => have := LMc36.out; omega)
                     intro v372 w61 ho hb hg hat hkp_
                     have HS3_ := hkp_ _ _ (hHeld.2.2.2) (fun e_ => absurd e_ hnr374_HO_9.out)
                     clear hkp_
                     rw [← Ny371.out] at ho
                     have n0_ := Aside0.mk (Kd.qCB (by (with_reducible repeat (first | apply Kd.qF | apply Kd.qE | apply Kd.qH)); exact HO_10.out) (Kd.qxA (by (with_reducible repeat (first | apply Kd.qF | apply Kd.qE | apply Kd.qH)); exact HO_9.out)) (by decide) hg)
                     have n1_ := Aside0.mk (Kd.qCB (by (with_reducible repeat (first | apply Kd.qF | apply Kd.qE | apply Kd.qH)); exact HO_19.out) (Kd.qxA (by (with_reducible repeat (first | apply Kd.qF | apply Kd.qE | apply Kd.qH)); exact HO_9.out)) (by decide) hg)
                     have n2_ := Aside0.mk (qFA (g := gb350) (o := .cells #[.int .i64 a1_0, .int .i64 a1_1, .int .i64 a1_2] 27 (0, 0)) (by (with_reducible repeat (first | refine qB ?_ _ | refine qD ?_ | refine qA ?_ _)); exact BK350.out) hg (Kd.qU HO_9.out (fun _ hk => hk.1.1)))
                     have n3_ := Aside0.mk (qFA (g := gb366) (o := .cells #[.int .i64 t362, .int .i64 t363, .int .i64 t364] 27 (0, 0)) (by (with_reducible repeat (first | refine qB ?_ _ | refine qD ?_ | refine qA ?_ _)); exact BK366.out) hg (Kd.qU HO_9.out (fun _ hk => hk.1.2)))
                     have n4_ := Aside0.mk (Kd.qCB (by (with_reducible repeat (first | apply Kd.qF | apply Kd.qE | apply Kd.qH)); exact HO377.out) (Kd.qxA (by (with_reducible repeat (first | apply Kd.qF | apply Kd.qE | apply Kd.qH)); exact HO_9.out)) (by decide) hg)
                     have n5_ := Aside0.mk (Kd.qlA (ok := (fun k_ => k_ ≠ gb350 ∧ k_ ≠ gb366)) (by (with_reducible repeat (first | apply Kd.qF | apply Kd.qE | apply Kd.qH)); exact Kd.qh HO370.out (fun _ hk => ⟨⟨hk.1.2, hk.2⟩, hk.1.1.2⟩)) hg hat)
                     have n6_ := Aside0.mk (hb)
                     have n7_ := Aside0.mk (ho)
                     clear HO_10
                     clear HO_19
                     clear BK350
                     clear BK366
                     clear HO377
                     clear HO370
                     clear HB
                     clear HO_9
                     have HO_10 := n0_
                     have HO_19 := n1_
                     have BK350 := n2_
                     have BK366 := n3_
                     have HO377 := n4_
                     have HO370 := n5_
                     have HB := n6_
                     have HO373 := n7_
                     clear n0_ n1_ n2_ n3_ n4_ n5_ n6_ n7_
                     clear ho hb hg hat
                     refine hK.out _ _ ⟨(qL BK366.out 0).trans rfl, (qL BK366.out 1).trans rfl, (qL BK366.out 2).trans rfl, HS3_⟩ (fun hHeld => ?_)
                     clear hK K
                     refine norm_ (a' := ?_) ?_ ?_
                     rotate_left
                     ·show Act.put _ (some 56) _ = _
                      simp only [Act.put, List.setIfInBounds_toArray, List.set_cons_zero, List.set_cons_succ, i64_w, i32_w]
                      rfl
                     exact norm_ (by simp only [putAll, Act.put, List.setIfInBounds_toArray, List.set_cons_zero, List.set_cons_succ]) (hCont (.slice Ao62 y368.length co62, v372, v376) _ ⟨hHeld, (by (with_reducible repeat (first | apply Kd.qF | apply Kd.qE | apply Kd.qH)); exact Kd.qh HO370.out (fun _ hk => ⟨hk.2, ⟨hk.1.1, hk.1.2⟩⟩)), (by (with_reducible repeat (first | apply Kd.qF | apply Kd.qE | apply Kd.qH)); exact HO373.out), (by (with_reducible repeat (first | apply Kd.qF | apply Kd.qE | apply Kd.qH)); exact Kd.qh HO377.out (fun _ hk => ⟨hk.1.2, hk.2⟩)), (by (with_reducible repeat (first | apply Kd.qF | apply Kd.qE | apply Kd.qH)); exact Kd.qh HO_10.out (fun _ hk => ⟨hk.2, hk.1⟩)), (by (with_reducible repeat (first | apply Kd.qF | apply Kd.qE | apply Kd.qH)); exact Kd.qh HO_19.out (fun _ hk => ⟨hk.2, hk.1⟩)), (by (with_reducible repeat (first | refine qB ?_ _ | refine qD ?_ | refine qA ?_ _)); exact BK350.out), (by (with_reducible repeat (first | refine qB ?_ _ | refine qD ?_ | refine qA ?_ _)); exact BK366.out), bl⟩)
                   rintro ⟨v369, v372, v376⟩ w63 ⟨hS_, h0_, h1_, h2_, h3_, h4_, h5_, h6_, h7_⟩
                   have n0_ : Aside0 (Kd.R k27 27 w63 w.heap.size (fun k_ => some k_ ≠ (v372 : Value).ownBlock ∧ k_ ≠ gb350 ∧ k_ ≠ gb366) v369 y368) := ⟨h0_⟩
                   have n1_ : Aside0 (Kd.R k27 27 w63 w.heap.size (fun k_ => some k_ ≠ (v369 : Value).ownBlock ∧ k_ ≠ gb350 ∧ k_ ≠ gb366) v372 y371) := ⟨h1_⟩
                   have n2_ : Aside0 (Kd.R Kd.string 9 w63 w.heap.size (fun k_ => some k_ ≠ (.slice (some ad374) x10_2.length co55 : Value).ownBlock ∧ some k_ ≠ (.slice Ao43 t351.length co43 : Value).ownBlock) v376 y375) := ⟨h2_⟩
                   have n3_ : Aside0 (Kd.R Kd.string 9 w63 w.heap.size (fun k_ => some k_ ≠ (v376 : Value).ownBlock ∧ some k_ ≠ (.slice Ao43 t351.length co43 : Value).ownBlock) (.slice (some ad374) x10_2.length co55) x10_2) := ⟨h3_⟩
                   have n4_ : Aside0 (Kd.R Kd.string 9 w63 w.heap.size (fun k_ => some k_ ≠ (v376 : Value).ownBlock ∧ some k_ ≠ (.slice (some ad374) x10_2.length co55 : Value).ownBlock) (.slice Ao43 t351.length co43) t351) := ⟨h4_⟩
                   have n5_ : Aside0 (w63.heap[gb350]? = some (.cells #[.int .i64 a1_0, .int .i64 a1_1, .int .i64 a1_2] 27 (0, 0))) := ⟨h5_⟩
                   have n6_ : Aside0 (w63.heap[gb366]? = some (.cells #[.int .i64 t362, .int .i64 t363, .int .i64 t364] 27 (0, 0))) := ⟨h6_⟩
                   have n7_ : Aside0 (Below w.heap.size w w63) := ⟨h7_⟩
                   clear HO_9
                   clear HO_10
                   clear HO_19
                   clear BK350
                   clear BK366
                   clear HB
                   clear h0_ h1_ h2_ h3_ h4_ h5_ h6_ h7_
                   have HO370 := n0_
                   have HO373 := n1_
                   have HO377 := n2_
                   have HO_10 := n3_
                   have HO_19 := n4_
                   have BK350 := n5_
                   have BK366 := n6_
                   have HB := n7_
                   clear n0_ n1_ n2_ n3_ n4_ n5_ n6_ n7_
                   have hHeld : w63.cell? ⟨gb366, 0, none⟩ = some (.int .i64 t362) ∧ w63.cell? ⟨gb366, 1, none⟩ = some (.int .i64 t363) ∧ w63.cell? ⟨gb366, 2, none⟩ = some (.int .i64 t364) ∧ w63.cell? (ad374.add (x11_1).toNat) = some (.string (rdOf ByteArray.empty x10_2 x11_1)) := hS_
                   obtain ⟨Ao65, co65, eo65⟩ := Kd.qo HO377.out
                   (first | subst eo65 | (injection eo65 with f1_ f2_ f3_; have f4_ := f1_.symm; have f5_ := f3_.symm; clear f1_ f2_ f3_; subst f4_; subst f5_))
                   refine norm_ (a' := ?_) ?_ ?_
                   rotate_left
                   ·simp only [putAll, Act.put, List.setIfInBounds_toArray, List.set_cons_zero, List.set_cons_succ]
                    rfl
                   refine one_ (i := 15) (N := some 68) #[true, true, true, true, true, true, true, true, true, true, true, true, true, true, true, true, false, false] rfl rfl (qQA HT_.out (by kernel_rfl)) (by decide) (fun K hK => ?_)
                   refine qtA Kd.string (w0 := w) w.heap.size (by rfl) (.tmp 57) (.tmp 67) 35 9 (.string ⟨#[]⟩) 16 rfl Tryd.underlying35 info9 rfl (by decide) (by omega) (.slice (some ad374) x10_2.length co55) x10_2 y375 _ _ _ (fun k_ => some k_ ≠ (.slice Ao43 t351.length co43 : Value).ownBlock ∧ some k_ ≠ (.slice Ao65 y375.length co65 : Value).ownBlock) (fun _ => False) rfl rfl ?aO ?aR (fun _ _ h => h) (fun _ h => h.elim) ?aF ?aB ?aS ?aL ?_
                   (case aR => repeat (first | exact (Kd.qT HO377.out).2.2 | (with_reducible refine Kd.qz ?_ _) | (with_reducible refine Kd.qy ?_ _) | (with_reducible refine Kd.qNA ?_)))
                   (case aB => exact bl)
                   (case aF => exact (fun k_ hk => ⟨Kd.fresh' (Kd.R_lt (by (with_reducible repeat (first | apply Kd.qF | apply Kd.qE | apply Kd.qH)); exact HO_19.out)) k_ hk, Kd.fresh' (Kd.R_lt (by (with_reducible repeat (first | apply Kd.qF | apply Kd.qE | apply Kd.qH)); exact HO377.out)) k_ hk⟩))
                   (case aO => exact (by (with_reducible repeat (first | apply Kd.qF | apply Kd.qE | apply Kd.qH)); exact Kd.qh HO_10.out (fun _ hk => ⟨hk.2, hk.1⟩)))
                   (case aS => exact (qg bl))
                   (case aL => have := LMc42.out; omega)
                   intro v379 w64 ho hb hg hat hkp_
                   have HS3_ := hkp_ _ _ (hHeld.2.2.2) (fun _ => hof374.out)
                   clear hkp_
                   rw [← Ny378.out] at ho
                   have n0_ := Aside0.mk (Kd.qlA (ok := (fun k_ => some k_ ≠ (.slice Ao65 y375.length co65 : Value).ownBlock)) (by (with_reducible repeat (first | apply Kd.qF | apply Kd.qE | apply Kd.qH)); exact HO_19.out) hg hat)
                   have n1_ := Aside0.mk (qFA (g := gb350) (o := .cells #[.int .i64 a1_0, .int .i64 a1_1, .int .i64 a1_2] 27 (0, 0)) (by (with_reducible repeat (first | refine qB ?_ _ | refine qD ?_ | refine qA ?_ _)); exact BK350.out) hg (Kd.R_ne HO_10.out BK350.out (by decide)))
                   have n2_ := Aside0.mk (qFA (g := gb366) (o := .cells #[.int .i64 t362, .int .i64 t363, .int .i64 t364] 27 (0, 0)) (by (with_reducible repeat (first | refine qB ?_ _ | refine qD ?_ | refine qA ?_ _)); exact BK366.out) hg (Kd.R_ne HO_10.out BK366.out (by decide)))
                   have n3_ := Aside0.mk (Kd.qCB (by (with_reducible repeat (first | apply Kd.qF | apply Kd.qE | apply Kd.qH)); exact HO370.out) (Kd.qxA (by (with_reducible repeat (first | apply Kd.qF | apply Kd.qE | apply Kd.qH)); exact HO_10.out)) (by decide) hg)
                   have n4_ := Aside0.mk (Kd.qCB (by (with_reducible repeat (first | apply Kd.qF | apply Kd.qE | apply Kd.qH)); exact HO373.out) (Kd.qxA (by (with_reducible repeat (first | apply Kd.qF | apply Kd.qE | apply Kd.qH)); exact HO_10.out)) (by decide) hg)
                   have n5_ := Aside0.mk (Kd.qlA (ok := (fun k_ => some k_ ≠ (.slice Ao43 t351.length co43 : Value).ownBlock)) (by (with_reducible repeat (first | apply Kd.qF | apply Kd.qE | apply Kd.qH)); exact Kd.qh HO377.out (fun _ hk => ⟨hk.2, hk.1⟩)) hg hat)
                   have n6_ := Aside0.mk (hb)
                   have n7_ := Aside0.mk (ho)
                   clear HO_19
                   clear BK350
                   clear BK366
                   clear HO370
                   clear HO373
                   clear HO377
                   clear HB
                   clear HO_10
                   have HO_19 := n0_
                   have BK350 := n1_
                   have BK366 := n2_
                   have HO370 := n3_
                   have HO373 := n4_
                   have HO377 := n5_
                   have HB := n6_
                   have HO380 := n7_
                   clear n0_ n1_ n2_ n3_ n4_ n5_ n6_ n7_
                   clear ho hb hg hat
                   refine hK.out _ _ ⟨(qL BK366.out 0).trans rfl, (qL BK366.out 1).trans rfl, (qL BK366.out 2).trans rfl, HS3_⟩ (fun hHeld => ?_)
                   clear hK K
                   refine norm_ (a' := ?_) ?_ ?_
                   rotate_left
                   ·show Act.put _ (some 68) _ = _
                    simp only [Act.put, List.setIfInBounds_toArray, List.set_cons_zero, List.set_cons_succ, i64_w, i32_w]
                    rfl
                   refine pS (i := 16) (N := some 9) #[true, true, true, true, true, true, true, true, true, true, true, true, true, true, true, true, true, false] HT_ ?_
                   refine pS (i := 17) (N := some 10) #[true, true, true, true, true, true, true, true, true, true, true, true, true, true, true, true, true, true] HT_ ?_
                   refine done_ (qqA HT_.out (by kernel_rfl)) ?_
                   try go_wp2
                   go_roundg k2
                   case measure => have := HK1.out; have := HK2.out; omega
                   case rel => exact ⟨(y371), (y378), (wrap64 (x32_2 + 1)), (by first | rfl | (simp; done) | (simp [*]; done)), H', ⟨by have := HK1.out; have := HK2.out; omega⟩, ⟨by (with_reducible repeat (first | apply Kd.qF | apply Kd.qE | apply Kd.qH)); exact Kd.qh HO373.out (fun _ hk => hk.2.1)⟩, ⟨by (with_reducible repeat (first | apply Kd.qF | apply Kd.qE | apply Kd.qH)); exact Kd.qh HO380.out (fun _ hk => hk.1)⟩, ⟨by (with_reducible repeat (first | apply Kd.qF | apply Kd.qE | apply Kd.qH)); exact Kd.qh HO_19.out (fun _ hk => hk.2)⟩, ⟨by (with_reducible repeat (first | refine qB ?_ _ | refine qD ?_ | refine qA ?_ _)); exact BK350.out⟩, ⟨bl⟩⟩
                  ·rw [if_neg c42] at H
                   exact absurd H (by simp)
                 ·rw [if_neg c41] at H
                  exact absurd H (by simp)
                ·rw [if_neg c40] at H
                 exact absurd H (by simp)
               ·rw [if_neg c39] at H
                exact absurd H (by simp)
              ·rw [if_neg c37] at H
               exact absurd H (by simp)
             ·rw [if_neg c36] at H
              exact absurd H (by simp)
           ·replace c21 := Bool.eq_false_iff.mpr c21
            subst c21
            have H1 : (qP.l1 k2 x9_2 x10_2 x11_1 t351 (wrap64 (x32_2 + 1))) = some (r1, r2, r3) := by rw [if_neg (show ¬ (false = true) by decide)] at H; exact H
            clear H
            have H := H1
            clear H1
            have H' := Aside0.mk H
            clear H
            obtain ⟨Ao66, co66, eo66⟩ := Kd.qo HO_19.out
            subst eo66
            try go_wp2
            have n0_ := Aside0.mk (Kd.qH HO_9.out)
            have n1_ := Aside0.mk (Kd.qH HO_10.out)
            have n2_ := Aside0.mk (Kd.qH HO_19.out)
            have n3_ := Aside0.mk (qD BK350.out)
            have n4_ := Aside0.mk (qm HB.out)
            clear HO_9
            clear HO_10
            clear HO_19
            clear BK350
            clear HB
            have HO_9 := n0_
            have HO_10 := n1_
            have HO_19 := n2_
            have BK350 := n3_
            have HB := n4_
            clear n0_ n1_ n2_ n3_ n4_
            obtain ⟨Ao68, co68, eo68⟩ := Kd.qo HO_9.out
            (first | subst eo68 | (injection eo68 with f1_ f2_ f3_; have f4_ := f1_.symm; have f5_ := f3_.symm; clear f1_ f2_ f3_; subst f4_; subst f5_))
            have p361 : 0 ≤ (x11_1 : Int) := of_decide_eq_true (by first | (with_reducible assumption) | assumption)
            have q361 : x11_1 < (x9_2.length : Int) := of_decide_eq_true (by first | (with_reducible assumption) | assumption)
            obtain ⟨ad361, e361, hx361_0, hx361_1, hx361_2⟩ := qnA (Kd.qT HO_9.out).2.2 x11_1 p361 q361
            cases e361
            replace p361 := eq_true p361
            replace q361 := eq_true q361
            have p19 : 0 ≤ (x32_2 : Int) := of_decide_eq_true (by first | (with_reducible assumption) | assumption)
            have q19 : x32_2 < (4 : Int) := of_decide_eq_true (by first | (with_reducible assumption) | assumption)
            have hx19 := bt_at (⟨#[110, 101, 115, 119]⟩ : ByteArray) x32_2
            replace p19 := eq_true p19
            replace q19 := eq_true q19
            refine qyA (n := 14) (S := fun w' => w'.cell? (ad361.add ((x11_1).toNat * 3)) = some (.int .i64 ((qK x9_2 x11_1).f0)) ∧ w'.cell? ⟨(ad361.add ((x11_1).toNat * 3)).block, (ad361.add ((x11_1).toNat * 3)).off + 1, none⟩ = some (.int .i64 ((qK x9_2 x11_1).f1)) ∧ w'.cell? ⟨(ad361.add ((x11_1).toNat * 3)).block, (ad361.add ((x11_1).toNat * 3)).off + 2, none⟩ = some (.int .i64 ((qK x9_2 x11_1).f2))) (ds := []) #[false, false, false, false, false, false, false, false, false, false, false, false, false, false] (by kernel_rfl) rfl rfl ⟨hx361_0, hx361_1, hx361_2⟩ (fun hHeld => ?_); refine qWA qP.tab11 qP.bits11 (fun HT_ HW_ => ?_)
            generalize wr.drew = w67 at HO_9 HO_10 HO_19 BK350 HB hx361_0 hx361_1 hx361_2 hHeld ⊢
            refine pS (i := 0) (N := some 36) #[true, false, false, false, false, false, false, false, false, false, false, false, false, false] HT_ ?_
            refine pS (i := 1) (N := some 37) #[true, true, false, false, false, false, false, false, false, false, false, false, false, false] HT_ ?_
            refine pS (i := 2) (N := some 38) #[true, true, true, false, false, false, false, false, false, false, false, false, false, false] HT_ ?_
            refine pS (i := 3) (N := some 39) #[true, true, true, true, false, false, false, false, false, false, false, false, false, false] HT_ ?_
            refine pS (i := 5) (N := some 41) #[true, true, true, true, false, true, false, false, false, false, false, false, false, false] HT_ ?_
            refine tS (i := 4) (N := some 40) #[true, true, true, true, true, true, false, false, false, false, false, false, false, false] HT_ HW_ hHeld ?_
            refine tS (i := 6) (N := some 42) #[true, true, true, true, true, true, true, false, false, false, false, false, false, false] HT_ HW_ hHeld ?_
            refine join_ (σ := Nat) 2 #[true, true, true, true, true, true, true, true, true, true, true, true, false, false] (fun s_ => [(43, .tuple #[.agg #[.int .i64 t362, .int .i64 t363, .int .i64 t364], .bool false]), (13, .pointer (some ⟨s_, 0, none⟩)), (35, .tuple #[.agg #[.int .i64 t362, .int .i64 t363, .int .i64 t364], .bool false]), (44, .agg #[.int .i64 t362, .int .i64 t363, .int .i64 t364]), (45, .bool false)]) (fun s_ w' => (w'.cell? (ad361.add ((x11_1).toNat * 3)) = some (.int .i64 ((qK x9_2 x11_1).f0)) ∧ w'.cell? ⟨(ad361.add ((x11_1).toNat * 3)).block, (ad361.add ((x11_1).toNat * 3)).off + 1, none⟩ = some (.int .i64 ((qK x9_2 x11_1).f1)) ∧ w'.cell? ⟨(ad361.add ((x11_1).toNat * 3)).block, (ad361.add ((x11_1).toNat * 3)).off + 2, none⟩ = some (.int .i64 ((qK x9_2 x11_1).f2))) ∧ (Kd.R Kd.string 9 w' w.heap.size (fun k_ => some k_ ≠ (.slice Ao66 t351.length co66 : Value).ownBlock) u10 x10_2) ∧ (Kd.R Kd.string 9 w' w.heap.size (fun k_ => some k_ ≠ (u10 : Value).ownBlock) (.slice Ao66 t351.length co66) t351) ∧ (Kd.R k27 27 w' w.heap.size (fun k_ => k_ ≠ gb350 ∧ k_ ≠ s_) (.slice (some ad361) x9_2.length co68) x9_2) ∧ (w'.heap[gb350]? = some (.cells #[.int .i64 a1_0, .int .i64 a1_1, .int .i64 a1_2] 27 (0, 0))) ∧ (w'.heap[s_]? = some (.cells #[.int .i64 0, .int .i64 0, .int .i64 0] 27 (0, 0))) ∧ (w.heap.size ≤ s_) ∧ (w.heap.size ≤ s_) ∧ (gb350 ≠ s_) ∧ (s_ ≠ gb350) ∧ (Below w.heap.size w w')) ?_ ?_
            rotate_left
            ·intro hCont
             refine two_ (i := 7) (j := 11) (Ni := some 43) (Nj := some 13) #[true, true, true, true, true, true, true, true, false, false, false, false, false, false] #[true, true, true, true, true, true, true, false, false, false, false, true, false, false] rfl rfl rfl rfl (qKC HT_.out (by kernel_rfl)) (by decide) (by decide) (fun K hK => ?_) (fun K hK => ?_)
             ·skip
              refine goes_ Tryd.func21 (by kernel_rfl) rfl #[.slice Ao66 t351.length co66, .agg #[.int .i64 ((qK x9_2 x11_1).f0), .int .i64 ((qK x9_2 x11_1).f1), .int .i64 ((qK x9_2 x11_1).f2)], .int .u8 (bt (⟨#[110, 101, 115, 119]⟩ : ByteArray) x32_2)] (by rfl) rfl rfl (by (try simp only [List.map_toArray, List.map_cons, List.map_nil]); first | done | rfl | (simp only [List.length_drop, List.length_take]; rfl)) ?_
              with_reducible refine (qPA.calls k2 _ _ t351 ((qK x9_2 x11_1).f0) ((qK x9_2 x11_1).f1) ((qK x9_2 x11_1).f2) (bt (⟨#[110, 101, 115, 119]⟩ : ByteArray) x32_2) t362 t363 t364 false _ ?side1 ?side2 A20.out).mono ?_
              (case side1 => repeat (first | exact (Kd.qT HO_19.out).2.2 | (with_reducible refine Kd.qz ?_ _) | (with_reducible refine Kd.qy ?_ _) | (with_reducible refine Kd.qNA ?_)))
              (case side2 => exact (Kd.qT HO_19.out).2.1)
              rintro e w69 ⟨rfl, hb⟩
              have HS0_ := (hb.cell (World.block_lt_of_cell? _ _ (hHeld.1))).trans (hHeld.1)
              have HS1_ := (hb.cell (World.block_lt_of_cell? _ _ (hHeld.2.1))).trans (hHeld.2.1)
              have HS2_ := (hb.cell (World.block_lt_of_cell? _ _ (hHeld.2.2))).trans (hHeld.2.2)
              refine ⟨_, rfl, ?_⟩
              have n0_ := Aside0.mk (Kd.qa (by (with_reducible repeat (first | apply Kd.qF | apply Kd.qE | apply Kd.qH)); exact HO_9.out) hb)
              have n1_ := Aside0.mk (Kd.qa (by (with_reducible repeat (first | apply Kd.qF | apply Kd.qE | apply Kd.qH)); exact HO_10.out) hb)
              have n2_ := Aside0.mk (Kd.qa (by (with_reducible repeat (first | apply Kd.qF | apply Kd.qE | apply Kd.qH)); exact HO_19.out) hb)
              have n3_ := Aside0.mk (bb BK350 hb)
              have n4_ := Aside0.mk (qG bl hb)
              clear HO_9
              clear HO_10
              clear HO_19
              clear BK350
              clear HB
              have HO_9 := n0_
              have HO_10 := n1_
              have HO_19 := n2_
              have BK350 := n3_
              have HB := n4_
              clear n0_ n1_ n2_ n3_ n4_
              (try clear hb)
              (try clear hb2)
              (try clear hk)
              (try clear hi)
              refine hK.out _ _ ⟨HS0_, HS1_, HS2_⟩ (fun hHeld => ?_)
              clear hK K
              refine norm_ (a' := ?_) ?_ ?_
              rotate_left
              ·show Act.put _ (some 43) _ = _
               simp only [Act.put, List.setIfInBounds_toArray, List.set_cons_zero, List.set_cons_succ, i64_w, i32_w]
               rfl
              refine pS (i := 8) (N := some 35) #[true, true, true, true, true, true, true, true, true, false, false, false, false, false] HT_ ?_
              refine pS (i := 9) (N := some 44) #[true, true, true, true, true, true, true, true, true, true, false, false, false, false] HT_ ?_
              refine pS (i := 10) (N := some 45) #[true, true, true, true, true, true, true, true, true, true, true, false, false, false] HT_ ?_
              refine one_ (i := 11) (N := some 13) #[true, true, true, true, true, true, true, true, true, true, true, true, false, false] rfl rfl (qQA HT_.out (by kernel_rfl)) (by decide) (fun K hK => ?_)
              refine qIB ?hg (N := 13) ?hd (cs := #[.int .i64 0, .int .i64 0, .int .i64 0]) (t := 27) ?hr ?_; (case hd => rfl); (case hg => rfl); (case hr => first | (go_simp; done) | (go_simp; rfl))
              intro gb366 hg w70 hbox hb
              have HS0_ := (hb.cell (World.block_lt_of_cell? _ _ (hHeld.1))).trans (hHeld.1)
              have HS1_ := (hb.cell (World.block_lt_of_cell? _ _ (hHeld.2.1))).trans (hHeld.2.1)
              have HS2_ := (hb.cell (World.block_lt_of_cell? _ _ (hHeld.2.2))).trans (hHeld.2.2)
              have n0_ := Aside0.mk (Kd.qa (Kd.qsA (by (with_reducible repeat (first | apply Kd.qF | apply Kd.qE | apply Kd.qH)); exact HO_9.out) gb366 (Nat.le_of_eq hg.symm)) hb)
              have n1_ := Aside0.mk (Kd.qa (by (with_reducible repeat (first | apply Kd.qF | apply Kd.qE | apply Kd.qH)); exact HO_10.out) hb)
              have n2_ := Aside0.mk (Kd.qa (by (with_reducible repeat (first | apply Kd.qF | apply Kd.qE | apply Kd.qH)); exact HO_19.out) hb)
              have n3_ := Aside0.mk (bb BK350 hb)
              have n4_ := Aside0.mk (qG bl hb)
              have n5_ := Aside0.mk (hbox)
              have n6_ := Aside0.mk ((gg hg))
              have n7_ := Aside0.mk ((gg hg))
              have n8_ := Aside0.mk ((nl BK350 hg))
              have n9_ := Aside0.mk ((nr BK350 hg))
              clear HO_9
              clear HO_10
              clear HO_19
              clear BK350
              clear HB
              have HO_9 := n0_
              have HO_10 := n1_
              have HO_19 := n2_
              have BK350 := n3_
              have HB := n4_
              have BK366 := n5_
              have GW366 := n6_
              have GE366 := n7_
              have NB350_366 := n8_
              have NB366_350 := n9_
              clear n0_ n1_ n2_ n3_ n4_ n5_ n6_ n7_ n8_ n9_
              clear hb hbox hg
              refine hK.out _ _ ⟨HS0_, HS1_, HS2_⟩ (fun hHeld => ?_)
              clear hK K
              refine norm_ (a' := ?_) ?_ ?_
              rotate_left
              ·show Act.put _ (some 13) _ = _
               simp only [Act.put, List.setIfInBounds_toArray, List.set_cons_zero, List.set_cons_succ, i64_w, i32_w]
               rfl
              exact norm_ (by simp only [putAll, Act.put, List.setIfInBounds_toArray, List.set_cons_zero, List.set_cons_succ]) (hCont (gb366) _ ⟨hHeld, (by (with_reducible repeat (first | apply Kd.qF | apply Kd.qE | apply Kd.qH)); exact HO_10.out), (by (with_reducible repeat (first | apply Kd.qF | apply Kd.qE | apply Kd.qH)); exact HO_19.out), (by (with_reducible repeat (first | apply Kd.qF | apply Kd.qE | apply Kd.qH)); exact HO_9.out), (by (with_reducible repeat (first | refine qB ?_ _ | refine qD ?_ | refine qA ?_ _)); exact BK350.out), (by (with_reducible repeat (first | refine qB ?_ _ | refine qD ?_ | refine qA ?_ _)); exact BK366.out), GW366.out, GE366.out, NB350_366.out, NB366_350.out, bl⟩)
             ·skip
              refine qIB ?hg (N := 13) ?hd (cs := #[.int .i64 0, .int .i64 0, .int .i64 0]) (t := 27) ?hr ?_; (case hd => rfl); (case hg => rfl); (case hr => first | (go_simp; done) | (go_simp; rfl))
              intro gb366 hg w69 hbox hb
              have HS0_ := (hb.cell (World.block_lt_of_cell? _ _ (hHeld.1))).trans (hHeld.1)
              have HS1_ := (hb.cell (World.block_lt_of_cell? _ _ (hHeld.2.1))).trans (hHeld.2.1)
              have HS2_ := (hb.cell (World.block_lt_of_cell? _ _ (hHeld.2.2))).trans (hHeld.2.2)
              have n0_ := Aside0.mk (Kd.qa (Kd.qsA (by (with_reducible repeat (first | apply Kd.qF | apply Kd.qE | apply Kd.qH)); exact HO_9.out) gb366 (Nat.le_of_eq hg.symm)) hb)
              have n1_ := Aside0.mk (Kd.qa (by (with_reducible repeat (first | apply Kd.qF | apply Kd.qE | apply Kd.qH)); exact HO_10.out) hb)
              have n2_ := Aside0.mk (Kd.qa (by (with_reducible repeat (first | apply Kd.qF | apply Kd.qE | apply Kd.qH)); exact HO_19.out) hb)
              have n3_ := Aside0.mk (bb BK350 hb)
              have n4_ := Aside0.mk (qG bl hb)
              have n5_ := Aside0.mk (hbox)
              have n6_ := Aside0.mk ((gg hg))
              have n7_ := Aside0.mk ((gg hg))
              have n8_ := Aside0.mk ((nl BK350 hg))
              have n9_ := Aside0.mk ((nr BK350 hg))
              clear HO_9
              clear HO_10
              clear HO_19
              clear BK350
              clear HB
              have HO_9 := n0_
              have HO_10 := n1_
              have HO_19 := n2_
              have BK350 := n3_
              have HB := n4_
              have BK366 := n5_
              have GW366 := n6_
              have GE366 := n7_
              have NB350_366 := n8_
              have NB366_350 := n9_
              clear n0_ n1_ n2_ n3_ n4_ n5_ n6_ n7_ n8_ n9_
              clear hb hbox hg
              refine hK.out _ _ ⟨HS0_, HS1_, HS2_⟩ (fun hHeld => ?_)
              clear hK K
              refine norm_ (a' := ?_) ?_ ?_
              rotate_left
              ·show Act.put _ (some 13) _ = _
               simp only [Act.put, List.setIfInBounds_toArray, List.set_cons_zero, List.set_cons_succ, i64_w, i32_w]
               rfl
              refine one_ (i := 7) (N := some 43) #[true, true, true, true, true, true, true, true, false, false, false, true, false, false] rfl rfl (qQA HT_.out (by kernel_rfl)) (by decide) (fun K hK => ?_)
              refine goes_ Tryd.func21 (by kernel_rfl) rfl #[.slice Ao66 t351.length co66, .agg #[.int .i64 ((qK x9_2 x11_1).f0), .int .i64 ((qK x9_2 x11_1).f1), .int .i64 ((qK x9_2 x11_1).f2)], .int .u8 (bt (⟨#[110, 101, 115, 119]⟩ : ByteArray) x32_2)] (by rfl) rfl rfl (by (try simp only [List.map_toArray, List.map_cons, List.map_nil]); first | done | rfl | (simp only [List.length_drop, List.length_take]; rfl)) ?_
              with_reducible refine (qPA.calls k2 _ _ t351 ((qK x9_2 x11_1).f0) ((qK x9_2 x11_1).f1) ((qK x9_2 x11_1).f2) (bt (⟨#[110, 101, 115, 119]⟩ : ByteArray) x32_2) t362 t363 t364 false _ ?side1 ?side2 A20.out).mono ?_
              (case side1 => repeat (first | exact (Kd.qT HO_19.out).2.2 | (with_reducible refine Kd.qz ?_ _) | (with_reducible refine Kd.qy ?_ _) | (with_reducible refine Kd.qNA ?_)))
              (case side2 => exact (Kd.qT HO_19.out).2.1)
              rintro e w70 ⟨rfl, hb⟩
              have HS0_ := (hb.cell (World.block_lt_of_cell? _ _ (hHeld.1))).trans (hHeld.1)
              have HS1_ := (hb.cell (World.block_lt_of_cell? _ _ (hHeld.2.1))).trans (hHeld.2.1)
              have HS2_ := (hb.cell (World.block_lt_of_cell? _ _ (hHeld.2.2))).trans (hHeld.2.2)
              refine ⟨_, rfl, ?_⟩
              have n0_ := Aside0.mk (Kd.qa (by (with_reducible repeat (first | apply Kd.qF | apply Kd.qE | apply Kd.qH)); exact HO_9.out) hb)
              have n1_ := Aside0.mk (Kd.qa (by (with_reducible repeat (first | apply Kd.qF | apply Kd.qE | apply Kd.qH)); exact HO_10.out) hb)
              have n2_ := Aside0.mk (Kd.qa (by (with_reducible repeat (first | apply Kd.qF | apply Kd.qE | apply Kd.qH)); exact HO_19.out) hb)
              have n3_ := Aside0.mk (bb BK350 hb)
              have n4_ := Aside0.mk (bb BK366 hb)
              have n5_ := Aside0.mk (qG bl hb)
              clear HO_9
              clear HO_10
              clear HO_19
              clear BK350
              clear BK366
              clear HB
              have HO_9 := n0_
              have HO_10 := n1_
              have HO_19 := n2_
              have BK350 := n3_
              have BK366 := n4_
              have HB := n5_
              clear n0_ n1_ n2_ n3_ n4_ n5_
              (try clear hb)
              (try clear hb2)
              (try clear hk)
              (try clear hi)
              refine hK.out _ _ ⟨HS0_, HS1_, HS2_⟩ (fun hHeld => ?_)
              clear hK K
              refine norm_ (a' := ?_) ?_ ?_
              rotate_left
              ·show Act.put _ (some 43) _ = _
               simp only [Act.put, List.setIfInBounds_toArray, List.set_cons_zero, List.set_cons_succ, i64_w, i32_w]
               rfl
              refine pS (i := 8) (N := some 35) #[true, true, true, true, true, true, true, true, true, false, false, true, false, false] HT_ ?_
              refine pS (i := 9) (N := some 44) #[true, true, true, true, true, true, true, true, true, true, false, true, false, false] HT_ ?_
              refine pS (i := 10) (N := some 45) #[true, true, true, true, true, true, true, true, true, true, true, true, false, false] HT_ ?_
              exact norm_ (by simp only [putAll, Act.put, List.setIfInBounds_toArray, List.set_cons_zero, List.set_cons_succ]) (hCont (gb366) _ ⟨hHeld, (by (with_reducible repeat (first | apply Kd.qF | apply Kd.qE | apply Kd.qH)); exact HO_10.out), (by (with_reducible repeat (first | apply Kd.qF | apply Kd.qE | apply Kd.qH)); exact HO_19.out), (by (with_reducible repeat (first | apply Kd.qF | apply Kd.qE | apply Kd.qH)); exact HO_9.out), (by (with_reducible repeat (first | refine qB ?_ _ | refine qD ?_ | refine qA ?_ _)); exact BK350.out), (by (with_reducible repeat (first | refine qB ?_ _ | refine qD ?_ | refine qA ?_ _)); exact BK366.out), GW366.out, GE366.out, NB350_366.out, NB366_350.out, bl⟩)
            rintro gb366 w71 ⟨hS_, h0_, h1_, h2_, h3_, h4_, h5_, h6_, h7_, h8_, h9_⟩
            have n0_ : Aside0 (Kd.R Kd.string 9 w71 w.heap.size (fun k_ => some k_ ≠ (.slice Ao66 t351.length co66 : Value).ownBlock) u10 x10_2) := ⟨h0_⟩
            have n1_ : Aside0 (Kd.R Kd.string 9 w71 w.heap.size (fun k_ => some k_ ≠ (u10 : Value).ownBlock) (.slice Ao66 t351.length co66) t351) := ⟨h1_⟩
            have n2_ : Aside0 (Kd.R k27 27 w71 w.heap.size (fun k_ => k_ ≠ gb350 ∧ k_ ≠ gb366) (.slice (some ad361) x9_2.length co68) x9_2) := ⟨h2_⟩
            have n3_ : Aside0 (w71.heap[gb350]? = some (.cells #[.int .i64 a1_0, .int .i64 a1_1, .int .i64 a1_2] 27 (0, 0))) := ⟨h3_⟩
            have n4_ : Aside0 (w71.heap[gb366]? = some (.cells #[.int .i64 0, .int .i64 0, .int .i64 0] 27 (0, 0))) := ⟨h4_⟩
            have n5_ : Aside0 (w.heap.size ≤ gb366) := ⟨h5_⟩
            have n6_ : Aside0 (w.heap.size ≤ gb366) := ⟨h6_⟩
            have n7_ : Aside0 (gb350 ≠ gb366) := ⟨h7_⟩
            have n8_ : Aside0 (gb366 ≠ gb350) := ⟨h8_⟩
            have n9_ : Aside0 (Below w.heap.size w w71) := ⟨h9_⟩
            clear HO_9
            clear HO_10
            clear HO_19
            clear BK350
            clear HB
            clear h0_ h1_ h2_ h3_ h4_ h5_ h6_ h7_ h8_ h9_
            have HO_10 := n0_
            have HO_19 := n1_
            have HO_9 := n2_
            have BK350 := n3_
            have BK366 := n4_
            have GW366 := n5_
            have GE366 := n6_
            have NB350_366 := n7_
            have NB366_350 := n8_
            have HB := n9_
            clear n0_ n1_ n2_ n3_ n4_ n5_ n6_ n7_ n8_ n9_
            have hHeld : w71.cell? (ad361.add ((x11_1).toNat * 3)) = some (.int .i64 ((qK x9_2 x11_1).f0)) ∧ w71.cell? ⟨(ad361.add ((x11_1).toNat * 3)).block, (ad361.add ((x11_1).toNat * 3)).off + 1, none⟩ = some (.int .i64 ((qK x9_2 x11_1).f1)) ∧ w71.cell? ⟨(ad361.add ((x11_1).toNat * 3)).block, (ad361.add ((x11_1).toNat * 3)).off + 2, none⟩ = some (.int .i64 ((qK x9_2 x11_1).f2)) := hS_
            refine norm_ (a' := ?_) ?_ ?_
            rotate_left
            ·simp only [putAll, Act.put, List.setIfInBounds_toArray, List.set_cons_zero, List.set_cons_succ]
             rfl
            refine one_ (i := 12) (N := none) #[true, true, true, true, true, true, true, true, true, true, true, true, true, false] rfl rfl (qQA HT_.out (by kernel_rfl)) (by decide) (fun K hK => ?_)
            have hs72 : w71.cell? ⟨gb366, 0, none⟩ = some (.int .i64 0) := (qL BK366.out 0).trans rfl
            have hfs72 := qC BK366.out 0
            have hns72_0 := NB350_366.out
            have hms72_0 := NB366_350.out
            have hs73 : w71.cell? ⟨gb366, 1, none⟩ = some (.int .i64 0) := (qL BK366.out 1).trans rfl
            have hfs73 := qC BK366.out 1
            have hns73_0 := NB350_366.out
            have hms73_0 := NB366_350.out
            have hs74 : w71.cell? ⟨gb366, 2, none⟩ = some (.int .i64 0) := (qL BK366.out 2).trans rfl
            have hfs74 := qC BK366.out 2
            have hns74_0 := NB350_366.out
            have hms74_0 := NB366_350.out
            refine skip_ (w1 := ?_) (by rfl) rfl ?_ ?_
            rotate_left
            ·go_simp
             rfl
            refine hK.out _ _ ⟨((qR (p := ⟨gb366, _, none⟩) (by first | exact Kd.qO (Kd.qU HO_9.out (fun _ hk => hk.2)) | (rw [qW]; exact Kd.qO (Kd.qU HO_9.out (fun _ hk => hk.2))) | (show (Addr.add _ _).block ≠ _; rw [qW]; exact Kd.qO (Kd.qU HO_9.out (fun _ hk => hk.2))) | (dsimp only; exact Kd.qO (Kd.qU HO_9.out (fun _ hk => hk.2)))) _).trans (((qR (p := ⟨gb366, _, none⟩) (by first | exact Kd.qO (Kd.qU HO_9.out (fun _ hk => hk.2)) | (rw [qW]; exact Kd.qO (Kd.qU HO_9.out (fun _ hk => hk.2))) | (show (Addr.add _ _).block ≠ _; rw [qW]; exact Kd.qO (Kd.qU HO_9.out (fun _ hk => hk.2))) | (dsimp only; exact Kd.qO (Kd.qU HO_9.out (fun _ hk => hk.2)))) _).trans (((qR (p := ⟨gb366, _, none⟩) (by first | exact Kd.qO (Kd.qU HO_9.out (fun _ hk => hk.2)) | (rw [qW]; exact Kd.qO (Kd.qU HO_9.out (fun _ hk => hk.2))) | (show (Addr.add _ _).block ≠ _; rw [qW]; exact Kd.qO (Kd.qU HO_9.out (fun _ hk => hk.2))) | (dsimp only; exact Kd.qO (Kd.qU HO_9.out (fun _ hk => hk.2)))) _).trans (hHeld.1)))))), ((qR (p := ⟨gb366, _, none⟩) (by first | exact Kd.qO (Kd.qU HO_9.out (fun _ hk => hk.2)) | (rw [qW]; exact Kd.qO (Kd.qU HO_9.out (fun _ hk => hk.2))) | (show (Addr.add _ _).block ≠ _; rw [qW]; exact Kd.qO (Kd.qU HO_9.out (fun _ hk => hk.2))) | (dsimp only; exact Kd.qO (Kd.qU HO_9.out (fun _ hk => hk.2)))) _).trans (((qR (p := ⟨gb366, _, none⟩) (by first | exact Kd.qO (Kd.qU HO_9.out (fun _ hk => hk.2)) | (rw [qW]; exact Kd.qO (Kd.qU HO_9.out (fun _ hk => hk.2))) | (show (Addr.add _ _).block ≠ _; rw [qW]; exact Kd.qO (Kd.qU HO_9.out (fun _ hk => hk.2))) | (dsimp only; exact Kd.qO (Kd.qU HO_9.out (fun _ hk => hk.2)))) _).trans (((qR (p := ⟨gb366, _, none⟩) (by first | exact Kd.qO (Kd.qU HO_9.out (fun _ hk => hk.2)) | (rw [qW]; exact Kd.qO (Kd.qU HO_9.out (fun _ hk => hk.2))) | (show (Addr.add _ _).block ≠ _; rw [qW]; exact Kd.qO (Kd.qU HO_9.out (fun _ hk => hk.2))) | (dsimp only; exact Kd.qO (Kd.qU HO_9.out (fun _ hk => hk.2)))) _).trans (hHeld.2.1)))))), ((qR (p := ⟨gb366, _, none⟩) (by first | exact Kd.qO (Kd.qU HO_9.out (fun _ hk => hk.2)) | (rw [qW]; exact Kd.qO (Kd.qU HO_9.out (fun _ hk => hk.2))) | (show (Addr.add _ _).block ≠ _; rw [qW]; exact Kd.qO (Kd.qU HO_9.out (fun _ hk => hk.2))) | (dsimp only; exact Kd.qO (Kd.qU HO_9.out (fun _ hk => hk.2)))) _).trans (((qR (p := ⟨gb366, _, none⟩) (by first | exact Kd.qO (Kd.qU HO_9.out (fun _ hk => hk.2)) | (rw [qW]; exact Kd.qO (Kd.qU HO_9.out (fun _ hk => hk.2))) | (show (Addr.add _ _).block ≠ _; rw [qW]; exact Kd.qO (Kd.qU HO_9.out (fun _ hk => hk.2))) | (dsimp only; exact Kd.qO (Kd.qU HO_9.out (fun _ hk => hk.2)))) _).trans (((qR (p := ⟨gb366, _, none⟩) (by first | exact Kd.qO (Kd.qU HO_9.out (fun _ hk => hk.2)) | (rw [qW]; exact Kd.qO (Kd.qU HO_9.out (fun _ hk => hk.2))) | (show (Addr.add _ _).block ≠ _; rw [qW]; exact Kd.qO (Kd.qU HO_9.out (fun _ hk => hk.2))) | (dsimp only; exact Kd.qO (Kd.qU HO_9.out (fun _ hk => hk.2)))) _).trans (hHeld.2.2))))))⟩ (fun hHeld => ?_)
            clear hK K
            refine pS (i := 13) (N := some 14) #[true, true, true, true, true, true, true, true, true, true, true, true, true, true] HT_ ?_
            refine done_ (qqA HT_.out (by kernel_rfl)) ?_
            try go_wp2
            go_roundg k2
            case measure => have := HK1.out; have := HK2.out; omega
            case rel => exact ⟨(x9_2), (x10_2), (wrap64 (x32_2 + 1)), (by first | rfl | (simp; done) | (simp [*]; done)), H', ⟨by have := HK1.out; have := HK2.out; omega⟩, ⟨by (with_reducible repeat (first | apply Kd.qF | apply Kd.qE | apply Kd.qH)); exact Kd.qh (Kd.R_far (p := ⟨gb366, 2, none⟩) (Kd.R_far (p := ⟨gb366, 1, none⟩) (Kd.R_far (p := ⟨gb366, 0, none⟩) (Kd.qh HO_9.out (fun k_ hk => (⟨hk, hk.2⟩ : _ ∧ k_ ≠ gb366))) (fun _ hk => hk.2) (.int .i64 t362)) (fun _ hk => hk.2) (.int .i64 t363)) (fun _ hk => hk.2) (.int .i64 t364)) (fun _ hk => hk.1.1)⟩, ⟨by (with_reducible repeat (first | apply Kd.qF | apply Kd.qE | apply Kd.qH)); exact Kd.qh (Kd.R_far (p := ⟨gb366, 2, none⟩) (Kd.R_far (p := ⟨gb366, 1, none⟩) (Kd.R_far (p := ⟨gb366, 0, none⟩) (Kd.qEA HO_10.out BK366.out (by decide)) (fun _ hk => hk.2) (.int .i64 t362)) (fun _ hk => hk.2) (.int .i64 t363)) (fun _ hk => hk.2) (.int .i64 t364)) (fun _ hk => hk.1)⟩, ⟨by (with_reducible repeat (first | apply Kd.qF | apply Kd.qE | apply Kd.qH)); exact Kd.qh (Kd.R_far (p := ⟨gb366, 2, none⟩) (Kd.R_far (p := ⟨gb366, 1, none⟩) (Kd.R_far (p := ⟨gb366, 0, none⟩) (Kd.qEA HO_19.out BK366.out (by decide)) (fun _ hk => hk.2) (.int .i64 t362)) (fun _ hk => hk.2) (.int .i64 t363)) (fun _ hk => hk.2) (.int .i64 t364)) (fun _ hk => hk.1)⟩, ⟨by (with_reducible repeat (first | refine qB ?_ _ | refine qD ?_ | refine qA ?_ _)); refine qN ?_ NB350_366.out _; (with_reducible repeat (first | refine qB ?_ _ | refine qD ?_ | refine qA ?_ _)); refine qN ?_ NB350_366.out _; (with_reducible repeat (first | refine qB ?_ _ | refine qD ?_ | refine qA ?_ _)); refine qN ?_ NB350_366.out _; (with_reducible repeat (first | refine qB ?_ _ | refine qD ?_ | refine qA ?_ _)); exact BK350.out⟩, ⟨bl⟩⟩
          ·rw [if_neg c18] at H
           exact absurd H (by simp)
         ·rw [if_neg c17] at H
          exact absurd H (by simp)
        ·rw [if_neg c16] at H
         exact absurd H (by simp)
       ·rw [if_neg c15] at H
        have c15b0 : decide (x32_2 < 4) = false := decide_eq_false c15
        clear c15
        have H' := Aside0.mk H
        clear H
        go_wp2
        go_roundg k2
        case measure => have := HK1.out; have := HK2.out; omega
        case rel => exact ⟨(x9_2), (x10_2), (wrap64 (x11_1 + 1)), (by first | rfl | (simp; done) | (simp [*]; done)), H', ⟨by have := HK1.out; have := HK2.out; omega⟩, ⟨by (with_reducible repeat (first | apply Kd.qF | apply Kd.qE | apply Kd.qH)); exact HO_9.out⟩, ⟨by (with_reducible repeat (first | apply Kd.qF | apply Kd.qE | apply Kd.qH)); exact HO_10.out⟩, ⟨by (with_reducible repeat (first | apply Kd.qF | apply Kd.qE | apply Kd.qH)); exact HO_19.out⟩, ⟨by (with_reducible repeat (first | refine qB ?_ _ | refine qD ?_ | refine qA ?_ _)); exact BK350.out⟩, ⟨bl⟩⟩
    ·rw [if_neg c13] at H
     have c13b0 : decide (x11_1 < (x9_1.length : Int)) = false := decide_eq_false c13
     clear c13
     simp only [Option.some.injEq, Prod.mk.injEq] at H
     obtain ⟨rfl, rfl, rfl⟩ := H
     obtain ⟨Ao75, co75, eo75⟩ := Kd.qo HO_9.out
     subst eo75
     go_wp2
     go_ret3
     exact ⟨_, _, by first | rfl | (simp [qJ, qI] <;> rfl) | (simp [*, qJ, qI] <;> rfl), by (with_reducible repeat (first | apply Kd.qF | apply Kd.qE | apply Kd.qH)); exact Kd.qh HO_9.out (fun _ hk => trivial), by (with_reducible repeat (first | apply Kd.qF | apply Kd.qE | apply Kd.qH)); exact Kd.qh HO_10.out (fun _ hk => trivial), bl⟩
 ·replace c4 := Bool.eq_false_iff.mpr c4
  subst c4
  have H1 : (some (([] : List (S27)), ([] : List ByteArray), false)) = some (r1, r2, r3) := by rw [if_neg (show ¬ (false = true) by decide)] at H; exact H
  clear H
  have H := H1
  clear H1
  simp only [Option.some.injEq, Prod.mk.injEq] at H
  obtain ⟨rfl, rfl, rfl⟩ := H
  go_enter Tryd.func12, Tryd.ntmps12
  go_wp2_with (first | ((with_reducible refine qd (N := 3) rfl ?_); refine qY ?hg (N := 3) ?hd (cs := #[.int .i64 a1_0, .int .i64 a1_1, .int .i64 a1_2]) (t := 27) ?hr ?_; (case hd => rfl); (case hg => rfl); (case hr => first | (go_simp; done) | (go_simp; rfl)); intro gb350 hg w76 hbox hb; have n0_ := Aside0.mk (qG bl hb); have n1_ := Aside0.mk (hbox); have n2_ := Aside0.mk ((gg hg)); have n3_ := Aside0.mk ((gg hg)); clear HB; have HB := n0_; have BK350 := n1_; have GW350 := n2_; have GE350 := n3_; clear n0_ n1_ n2_ n3_; clear hb hbox hg; have hcz77_0 := bc BK350 0; have hcz77_1 := bc BK350 1; have hcz77_2 := bc BK350 2; have hfz77_0 := qC BK350.out 0; have hfz77_1 := qC BK350.out 1; have hfz77_2 := qC BK350.out 2) | ((with_reducible refine qS (f := 20) rfl ?_); refine qt (some 18) rfl rfl Tryd.func20 (by kernel_rfl) rfl #[.string a0, .agg #[.int .i64 a1_0, .int .i64 a1_1, .int .i64 a1_2]] rfl (by (try simp only [List.map_toArray, List.map_cons, List.map_nil]); first | done | rfl | (simp only [List.length_drop, List.length_take]; rfl)) ?_; (with_reducible refine (qhA.calls k a0 a1_0 a1_1 a1_2 t351 false _ ?side1 A3.out).mono ?_); (case side1 => first | exact HLD.out | exact Laid.below HLD.out (by repeat (first | (with_reducible first | exact HB.out | apply qv | apply qu | apply qm | refine qVA ?_ (Aside0.out (by with_reducible assumption))) | exact HB.out))); rintro e w78 ⟨v352, rfl, ho0, hb⟩; refine ⟨_, rfl, ?_⟩; have n0_ := Aside0.mk (Kd.qHA ho0 (qg bl)); have n1_ := Aside0.mk (bb BK350 hb); have n2_ := Aside0.mk (qG bl hb); clear BK350; clear HB; have HO353 := n0_; have BK350 := n1_; have HB := n2_; clear n0_ n1_ n2_; (try clear hb); (try clear hb2); (try clear hk); (try clear hi); (try clear ho0)))
  go_ret3
  exact ⟨_, _, by first | rfl | (simp [qJ, qI] <;> rfl) | (simp [*, qJ, qI] <;> rfl), by first | exact Kd.R_nil _ _ _ _ _ | exact Kd.N_nil _ _ _ _ _ | exact Kd.V_nil _ _ _ _ _ | exact Kd.Q_nil _ _ _ _ _ | exact Kd.S_nil _ _ _ _ _, by first | exact Kd.R_nil _ _ _ _ _ | exact Kd.N_nil _ _ _ _ _ | exact Kd.V_nil _ _ _ _ _ | exact Kd.Q_nil _ _ _ _ _ | exact Kd.S_nil _ _ _ _ _, bl⟩
def qGA.f (a0 : Int) : Option (Bool) := some (a0 != a0)
set_option maxHeartbeats 8000000 in
set_option maxRecDepth 100000 in
theorem qGA.calls (a0 : Int) (r : Bool) (w : World) (h : qGA.f a0 = some r) :
  Calls Tryd.prog 63 #[.int .i64 a0] w fun e w' => e = .returned (.bool r) ∧ Drawn0 w w' := by
 have H : (some (a0 != a0)) = some r := h
 clear h
 obtain rfl := Option.some.inj H
 go_enter Tryd.func63, Tryd.ntmps63
 go_wp2
 go_ret
 exact ⟨by first | rfl | (simp; done) | (simp [*]; done), by repeat (first | exact Drawn0.refl _ | apply Drawn0.step)⟩
def qdA.f (a0 : Int) (a1 : Int) : Option (Int) := (qGA.f a0).bind fun t431 => ((qGA.f a1).bind fun t432 => (if t431 = true then (if t432 = true then (some 0) else (some (-1))) else (if t432 = true then (some 1) else (if a0 < a1 then (some (-1)) else (if a0 > a1 then (some 1) else (some 0))))))
set_option maxHeartbeats 8000000 in
set_option maxRecDepth 100000 in
theorem qdA.calls (a0 : Int) (a1 : Int) (r : Int) (w : World) (h : qdA.f a0 a1 = some r) :
  Calls Tryd.prog 44 #[.int .i64 a0, .int .i64 a1] w fun e w' => e = .returned (.int .i64 r) ∧ Drawn0 w w' := by
 have H : ((qGA.f a0).bind fun t431 => ((qGA.f a1).bind fun t432 => (if t431 = true then (if t432 = true then (some 0) else (some (-1))) else (if t432 = true then (some 1) else (if a0 < a1 then (some (-1)) else (if a0 > a1 then (some 1) else (some 0))))))) = some r := h
 clear h
 replace H := Option.bind_eq_some_iff.mp H
 obtain ⟨t431, A30, H⟩ := H
 replace H : ((qGA.f a1).bind fun t432 => (if t431 = true then (if t432 = true then (some 0) else (some (-1))) else (if t432 = true then (some 1) else (if a0 < a1 then (some (-1)) else (if a0 > a1 then (some 1) else (some 0)))))) = some r := H
 have A3 := Aside0.mk A30
 clear A30
 replace H := Option.bind_eq_some_iff.mp H
 obtain ⟨t432, A40, H⟩ := H
 replace H : (if t431 = true then (if t432 = true then (some 0) else (some (-1))) else (if t432 = true then (some 1) else (if a0 < a1 then (some (-1)) else (if a0 > a1 then (some 1) else (some 0))))) = some r := H
 have A4 := Aside0.mk A40
 clear A40
 by_cases c5 : t431 = true
 ·subst c5
  have H1 : (if t432 = true then (some 0) else (some (-1))) = some r := by rw [if_pos rfl] at H; exact H
  clear H
  have H := H1
  clear H1
  by_cases c6 : t432 = true
  ·subst c6
   have H1 : (some 0) = some r := by rw [if_pos rfl] at H; exact H
   clear H
   have H := H1
   clear H1
   obtain rfl := Option.some.inj H
   go_enter Tryd.func44, Tryd.ntmps44
   go_wp2_with (first | ((with_reducible refine qS (f := 63) rfl ?_); refine qt (some 8) rfl rfl Tryd.func63 (by kernel_rfl) rfl #[.int .i64 a0] rfl (by (try simp only [List.map_toArray, List.map_cons, List.map_nil]); first | done | rfl | (simp only [List.length_drop, List.length_take]; rfl)) ?_; (with_reducible refine (qGA.calls a0 true _ A3.out).mono ?_); rintro e w' ⟨rfl, ⟨nd, rfl⟩⟩; refine ⟨_, rfl, ?_⟩) | ((with_reducible refine qS (f := 63) rfl ?_); refine qt (some 10) rfl rfl Tryd.func63 (by kernel_rfl) rfl #[.int .i64 a1] rfl (by (try simp only [List.map_toArray, List.map_cons, List.map_nil]); first | done | rfl | (simp only [List.length_drop, List.length_take]; rfl)) ?_; (with_reducible refine (qGA.calls a1 true _ A4.out).mono ?_); rintro e w' ⟨rfl, ⟨nd, rfl⟩⟩; refine ⟨_, rfl, ?_⟩))
   go_ret
   exact ⟨by first | rfl | (simp; done) | (simp [*]; done), by repeat (first | exact Drawn0.refl _ | apply Drawn0.step)⟩
  ·replace c6 := Bool.eq_false_iff.mpr c6
   subst c6
   have H1 : (some (-1)) = some r := by rw [if_neg (show ¬ (false = true) by decide)] at H; exact H
   clear H
   have H := H1
   clear H1
   obtain rfl := Option.some.inj H
   go_enter Tryd.func44, Tryd.ntmps44
   go_wp2_with (first | ((with_reducible refine qS (f := 63) rfl ?_); refine qt (some 8) rfl rfl Tryd.func63 (by kernel_rfl) rfl #[.int .i64 a0] rfl (by (try simp only [List.map_toArray, List.map_cons, List.map_nil]); first | done | rfl | (simp only [List.length_drop, List.length_take]; rfl)) ?_; (with_reducible refine (qGA.calls a0 true _ A3.out).mono ?_); rintro e w' ⟨rfl, ⟨nd, rfl⟩⟩; refine ⟨_, rfl, ?_⟩) | ((with_reducible refine qS (f := 63) rfl ?_); refine qt (some 10) rfl rfl Tryd.func63 (by kernel_rfl) rfl #[.int .i64 a1] rfl (by (try simp only [List.map_toArray, List.map_cons, List.map_nil]); first | done | rfl | (simp only [List.length_drop, List.length_take]; rfl)) ?_; (with_reducible refine (qGA.calls a1 false _ A4.out).mono ?_); rintro e w' ⟨rfl, ⟨nd, rfl⟩⟩; refine ⟨_, rfl, ?_⟩))
   go_ret
   exact ⟨by first | rfl | (simp; done) | (simp [*]; done), by repeat (first | exact Drawn0.refl _ | apply Drawn0.step)⟩
 ·replace c5 := Bool.eq_false_iff.mpr c5
  subst c5
  have H1 : (if t432 = true then (some 1) else (if a0 < a1 then (some (-1)) else (if a0 > a1 then (some 1) else (some 0)))) = some r := by rw [if_neg (show ¬ (false = true) by decide)] at H; exact H
  clear H
  have H := H1
  clear H1
  by_cases c7 : t432 = true
  ·subst c7
   have H1 : (some 1) = some r := by rw [if_pos rfl] at H; exact H
   clear H
   have H := H1
   clear H1
   obtain rfl := Option.some.inj H
   go_enter Tryd.func44, Tryd.ntmps44
   go_wp2_with (first | ((with_reducible refine qS (f := 63) rfl ?_); refine qt (some 8) rfl rfl Tryd.func63 (by kernel_rfl) rfl #[.int .i64 a0] rfl (by (try simp only [List.map_toArray, List.map_cons, List.map_nil]); first | done | rfl | (simp only [List.length_drop, List.length_take]; rfl)) ?_; (with_reducible refine (qGA.calls a0 false _ A3.out).mono ?_); rintro e w' ⟨rfl, ⟨nd, rfl⟩⟩; refine ⟨_, rfl, ?_⟩) | ((with_reducible refine qS (f := 63) rfl ?_); refine qt (some 10) rfl rfl Tryd.func63 (by kernel_rfl) rfl #[.int .i64 a1] rfl (by (try simp only [List.map_toArray, List.map_cons, List.map_nil]); first | done | rfl | (simp only [List.length_drop, List.length_take]; rfl)) ?_; (with_reducible refine (qGA.calls a1 true _ A4.out).mono ?_); rintro e w' ⟨rfl, ⟨nd, rfl⟩⟩; refine ⟨_, rfl, ?_⟩))
   go_ret
   exact ⟨by first | rfl | (simp; done) | (simp [*]; done), by repeat (first | exact Drawn0.refl _ | apply Drawn0.step)⟩
  ·replace c7 := Bool.eq_false_iff.mpr c7
   subst c7
   have H1 : (if a0 < a1 then (some (-1)) else (if a0 > a1 then (some 1) else (some 0))) = some r := by rw [if_neg (show ¬ (false = true) by decide)] at H; exact H
   clear H
   have H := H1
   clear H1
   by_cases c8 : a0 < a1
   ·rw [if_pos c8] at H
    have c8b0 : decide (a0 < a1) = true := decide_eq_true c8
    clear c8
    obtain rfl := Option.some.inj H
    go_enter Tryd.func44, Tryd.ntmps44
    go_wp2_with (first | ((with_reducible refine qS (f := 63) rfl ?_); refine qt (some 8) rfl rfl Tryd.func63 (by kernel_rfl) rfl #[.int .i64 a0] rfl (by (try simp only [List.map_toArray, List.map_cons, List.map_nil]); first | done | rfl | (simp only [List.length_drop, List.length_take]; rfl)) ?_; (with_reducible refine (qGA.calls a0 false _ A3.out).mono ?_); rintro e w' ⟨rfl, ⟨nd, rfl⟩⟩; refine ⟨_, rfl, ?_⟩) | ((with_reducible refine qS (f := 63) rfl ?_); refine qt (some 10) rfl rfl Tryd.func63 (by kernel_rfl) rfl #[.int .i64 a1] rfl (by (try simp only [List.map_toArray, List.map_cons, List.map_nil]); first | done | rfl | (simp only [List.length_drop, List.length_take]; rfl)) ?_; (with_reducible refine (qGA.calls a1 false _ A4.out).mono ?_); rintro e w' ⟨rfl, ⟨nd, rfl⟩⟩; refine ⟨_, rfl, ?_⟩))
    go_ret
    exact ⟨by first | rfl | (simp; done) | (simp [*]; done), by repeat (first | exact Drawn0.refl _ | apply Drawn0.step)⟩
   ·rw [if_neg c8] at H
    have c8b0 : decide (a0 < a1) = false := decide_eq_false c8
    clear c8
    by_cases c9 : a0 > a1
    ·rw [if_pos c9] at H
     have c9b0 : decide (a1 < a0) = true := decide_eq_true c9
     clear c9
     obtain rfl := Option.some.inj H
     go_enter Tryd.func44, Tryd.ntmps44
     go_wp2_with (first | ((with_reducible refine qS (f := 63) rfl ?_); refine qt (some 8) rfl rfl Tryd.func63 (by kernel_rfl) rfl #[.int .i64 a0] rfl (by (try simp only [List.map_toArray, List.map_cons, List.map_nil]); first | done | rfl | (simp only [List.length_drop, List.length_take]; rfl)) ?_; (with_reducible refine (qGA.calls a0 false _ A3.out).mono ?_); rintro e w' ⟨rfl, ⟨nd, rfl⟩⟩; refine ⟨_, rfl, ?_⟩) | ((with_reducible refine qS (f := 63) rfl ?_); refine qt (some 10) rfl rfl Tryd.func63 (by kernel_rfl) rfl #[.int .i64 a1] rfl (by (try simp only [List.map_toArray, List.map_cons, List.map_nil]); first | done | rfl | (simp only [List.length_drop, List.length_take]; rfl)) ?_; (with_reducible refine (qGA.calls a1 false _ A4.out).mono ?_); rintro e w' ⟨rfl, ⟨nd, rfl⟩⟩; refine ⟨_, rfl, ?_⟩))
     go_ret
     exact ⟨by first | rfl | (simp; done) | (simp [*]; done), by repeat (first | exact Drawn0.refl _ | apply Drawn0.step)⟩
    ·rw [if_neg c9] at H
     have c9b0 : decide (a1 < a0) = false := decide_eq_false c9
     clear c9
     obtain rfl := Option.some.inj H
     go_enter Tryd.func44, Tryd.ntmps44
     go_wp2_with (first | ((with_reducible refine qS (f := 63) rfl ?_); refine qt (some 8) rfl rfl Tryd.func63 (by kernel_rfl) rfl #[.int .i64 a0] rfl (by (try simp only [List.map_toArray, List.map_cons, List.map_nil]); first | done | rfl | (simp only [List.length_drop, List.length_take]; rfl)) ?_; (with_reducible refine (qGA.calls a0 false _ A3.out).mono ?_); rintro e w' ⟨rfl, ⟨nd, rfl⟩⟩; refine ⟨_, rfl, ?_⟩) | ((with_reducible refine qS (f := 63) rfl ?_); refine qt (some 10) rfl rfl Tryd.func63 (by kernel_rfl) rfl #[.int .i64 a1] rfl (by (try simp only [List.map_toArray, List.map_cons, List.map_nil]); first | done | rfl | (simp only [List.length_drop, List.length_take]; rfl)) ?_; (with_reducible refine (qGA.calls a1 false _ A4.out).mono ?_); rintro e w' ⟨rfl, ⟨nd, rfl⟩⟩; refine ⟨_, rfl, ?_⟩))
     go_ret
     exact ⟨by first | rfl | (simp; done) | (simp [*]; done), by repeat (first | exact Drawn0.refl _ | apply Drawn0.step)⟩
def qk.l0 : Nat → List Int → List Int → List Int → Int → Int → Option (Int)
 | 0, _, _, _, _, _ => none
 | k + 1, x0, x1, x9, x10, x11 => if x11 < x10 then (if 0 ≤ x11 then (if x11 < (x9.length : Int) then (if x11 ≥ (x1.length : Int) then (some 1) else (if x11 < (x1.length : Int) then ((qdA.f (rd x9 x11) (rd x1 x11)).bind fun t435 => (if t435 = 0 then (qk.l0 k x0 x1 x9 x10 (wrap64 (x11 + 1))) else (some t435))) else (none))) else (none)) else (none)) else (if (x0.length : Int) < (x1.length : Int) then (some (-1)) else (some 0))
def qk.f (k : Nat) (l0 : List Int) (l1 : List Int) : Option (Int) := qk.l0 k l0 l1 l0 (l0.length : Int) 0
set_option maxHeartbeats 8000000 in
set_option maxRecDepth 100000 in
theorem qk.calls (k : Nat) (A0 : Option Addr) (c0 : Nat) (l0 : List Int) (A1 : Option Addr) (c1 : Nat) (l1 : List Int) (r : Int) (w : World) (hr0 : Kd.C (Kd.int .i64) w A0 l0.length l0) (hc0 : l0.length ≤ c0) (hr1 : Kd.C (Kd.int .i64) w A1 l1.length l1) (hc1 : l1.length ≤ c1) (h : qk.f k l0 l1 = some r) :
  Calls Tryd.prog 25 #[.slice A0 l0.length c0, .slice A1 l1.length c1] w fun e w' => e = .returned (.int .i64 r) ∧ Drawn0 w w' := by
 have HR0 := Aside0.mk hr0
 have HC0 := Aside0.mk hc0
 clear hr0 hc0
 have HR1 := Aside0.mk hr1
 have HC1 := Aside0.mk hc1
 clear hr1 hc1
 have H : (qk.l0 k l0 l1 l0 (l0.length : Int) 0) = some r := h
 clear h
 have H' := Aside0.mk H
 clear H
 go_enter Tryd.func25, Tryd.ntmps25
 go_wp2
 go_loopg [11] k (fun kq v11 w' => ∃ (x11_1 : Int), v11 = .int .i64 x11_1 ∧ Aside0 (qk.l0 kq l0 l1 l0 (l0.length : Int) x11_1 = some r) ∧ Aside0 (kq ≤ k) ∧ Drawn0 w w')
 case atStart => exact ⟨(0), (by first | rfl | (simp; done) | (simp [*]; done)), H', ⟨Nat.le_refl _⟩, by repeat (first | exact Drawn0.refl _ | apply Drawn0.step)⟩
 case round =>
  clear H'
  try clear c1
  try clear c2
  try clear p2
  obtain ⟨x11_1, rfl, HA, HK1, ⟨m1, rfl⟩⟩ := hrel
  cases gk with
  | zero => exact absurd HA.out (by simp [qk.l0])
  | succ k1 =>
   have H := HA.out
   clear HA
   simp only [qk.l0] at H
   by_cases c3 : x11_1 < (l0.length : Int)
   ·rw [if_pos c3] at H
    have c3b0 : decide (x11_1 < (l0.length : Int)) = true := decide_eq_true c3
    clear c3
    by_cases c4 : 0 ≤ x11_1
    ·rw [if_pos c4] at H
     have c4b0 : decide (0 ≤ x11_1) = true := decide_eq_true c4
     clear c4
     by_cases c5 : x11_1 < (l0.length : Int)
     ·rw [if_pos c5] at H
      have c5b0 : decide (x11_1 < (l0.length : Int)) = true := decide_eq_true c5
      clear c5
      by_cases c6 : x11_1 ≥ (l1.length : Int)
      ·rw [if_pos c6] at H
       have c6b0 : decide ((l1.length : Int) ≤ x11_1) = true := decide_eq_true c6
       clear c6
       obtain rfl := Option.some.inj H
       have p433 : 0 ≤ (x11_1 : Int) := of_decide_eq_true (by first | (with_reducible assumption) | assumption)
       have q433 : x11_1 < (l0.length : Int) := of_decide_eq_true (by first | (with_reducible assumption) | assumption)
       obtain ⟨ad433, e433, hx433_0⟩ := Kd.qAB HR0.out x11_1 p433 q433
       cases e433
       replace p433 := eq_true p433
       replace q433 := eq_true q433
       go_wp2
       go_ret
       exact ⟨by first | rfl | (simp; done) | (simp [*]; done), by repeat (first | exact Drawn0.refl _ | apply Drawn0.step)⟩
      ·rw [if_neg c6] at H
       have c6b0 : decide ((l1.length : Int) ≤ x11_1) = false := decide_eq_false c6
       clear c6
       by_cases c7 : x11_1 < (l1.length : Int)
       ·rw [if_pos c7] at H
        have c7b0 : decide (x11_1 < (l1.length : Int)) = true := decide_eq_true c7
        clear c7
        replace H := Option.bind_eq_some_iff.mp H
        obtain ⟨t435, A80, H⟩ := H
        replace H : (if t435 = 0 then (qk.l0 k1 l0 l1 l0 (l0.length : Int) (wrap64 (x11_1 + 1))) else (some t435)) = some r := H
        have A8 := Aside0.mk A80
        clear A80
        by_cases c9 : t435 = 0
        ·rw [if_pos c9] at H
         have c9b0 : (t435 == 0) = true := beq_iff_eq.mpr c9
         have c9b1 : (t435 != 0) = false := bne_eq_false_iff_eq.mpr c9
         clear c9
         have H' := Aside0.mk H
         clear H
         have p433 : 0 ≤ (x11_1 : Int) := of_decide_eq_true (by first | (with_reducible assumption) | assumption)
         have q433 : x11_1 < (l0.length : Int) := of_decide_eq_true (by first | (with_reducible assumption) | assumption)
         obtain ⟨ad433, e433, hx433_0⟩ := Kd.qAB HR0.out x11_1 p433 q433
         cases e433
         replace p433 := eq_true p433
         replace q433 := eq_true q433
         have p434 : 0 ≤ (x11_1 : Int) := of_decide_eq_true (by first | (with_reducible assumption) | assumption)
         have q434 : x11_1 < (l1.length : Int) := of_decide_eq_true (by first | (with_reducible assumption) | assumption)
         obtain ⟨ad434, e434, hx434_0⟩ := Kd.qAB HR1.out x11_1 p434 q434
         cases e434
         replace p434 := eq_true p434
         replace q434 := eq_true q434
         go_wp2_with (first | ((with_reducible refine qS (f := 44) rfl ?_); refine qt (some 26) rfl rfl Tryd.func44 (by kernel_rfl) rfl #[.int .i64 (rd l0 x11_1), .int .i64 (rd l1 x11_1)] rfl (by (try simp only [List.map_toArray, List.map_cons, List.map_nil]); first | done | rfl | (simp only [List.length_drop, List.length_take]; rfl)) ?_; (with_reducible refine (qdA.calls (rd l0 x11_1) (rd l1 x11_1) t435 _ A8.out).mono ?_); rintro e w' ⟨rfl, ⟨nd, rfl⟩⟩; refine ⟨_, rfl, ?_⟩))
         go_roundg k1
         case measure => have := HK1.out; omega
         case rel => exact ⟨(wrap64 (x11_1 + 1)), (by first | rfl | (simp; done) | (simp [*]; done)), H', ⟨by have := HK1.out; omega⟩, by repeat (first | exact Drawn0.refl _ | apply Drawn0.step)⟩
        ·rw [if_neg c9] at H
         have c9b0 : (t435 == 0) = false := beq_eq_false_iff_ne.mpr c9
         have c9b1 : (t435 != 0) = true := bne_iff_ne.mpr c9
         obtain rfl := Option.some.inj H
         have p433 : 0 ≤ (x11_1 : Int) := of_decide_eq_true (by first | (with_reducible assumption) | assumption)
         have q433 : x11_1 < (l0.length : Int) := of_decide_eq_true (by first | (with_reducible assumption) | assumption)
         obtain ⟨ad433, e433, hx433_0⟩ := Kd.qAB HR0.out x11_1 p433 q433
         cases e433
         replace p433 := eq_true p433
         replace q433 := eq_true q433
         have p434 : 0 ≤ (x11_1 : Int) := of_decide_eq_true (by first | (with_reducible assumption) | assumption)
         have q434 : x11_1 < (l1.length : Int) := of_decide_eq_true (by first | (with_reducible assumption) | assumption)
         obtain ⟨ad434, e434, hx434_0⟩ := Kd.qAB HR1.out x11_1 p434 q434
         cases e434
         replace p434 := eq_true p434
         replace q434 := eq_true q434
         go_wp2_with (first | ((with_reducible refine qS (f := 44) rfl ?_); refine qt (some 26) rfl rfl Tryd.func44 (by kernel_rfl) rfl #[.int .i64 (rd l0 x11_1), .int .i64 (rd l1 x11_1)] rfl (by (try simp only [List.map_toArray, List.map_cons, List.map_nil]); first | done | rfl | (simp only [List.length_drop, List.length_take]; rfl)) ?_; (with_reducible refine (qdA.calls (rd l0 x11_1) (rd l1 x11_1) t435 _ A8.out).mono ?_); rintro e w' ⟨rfl, ⟨nd, rfl⟩⟩; refine ⟨_, rfl, ?_⟩))
         go_ret
         exact ⟨by first | rfl | (simp; done) | (simp [*]; done), by repeat (first | exact Drawn0.refl _ | apply Drawn0.step)⟩
       ·rw [if_neg c7] at H
        exact absurd H (by simp)
     ·rw [if_neg c5] at H
      exact absurd H (by simp)
    ·rw [if_neg c4] at H
     exact absurd H (by simp)
   ·rw [if_neg c3] at H
    have c3b0 : decide (x11_1 < (l0.length : Int)) = false := decide_eq_false c3
    clear c3
    by_cases c10 : (l0.length : Int) < (l1.length : Int)
    ·rw [if_pos c10] at H
     have c10b0 : decide ((l0.length : Int) < (l1.length : Int)) = true := decide_eq_true c10
     have c10b1 : decide (l0.length < l1.length) = true := decide_eq_true (Int.ofNat_lt.mp c10)
     clear c10
     obtain rfl := Option.some.inj H
     go_wp2
     go_ret
     exact ⟨by first | rfl | (simp; done) | (simp [*]; done), by repeat (first | exact Drawn0.refl _ | apply Drawn0.step)⟩
    ·rw [if_neg c10] at H
     have c10b0 : decide ((l0.length : Int) < (l1.length : Int)) = false := decide_eq_false c10
     have c10b1 : decide (l0.length < l1.length) = false := decide_eq_false (fun h => c10 (Int.ofNat_lt.mpr h))
     clear c10
     obtain rfl := Option.some.inj H
     go_wp2
     go_ret
     exact ⟨by first | rfl | (simp; done) | (simp [*]; done), by repeat (first | exact Drawn0.refl _ | apply Drawn0.step)⟩
def qzA.f (k : Nat) (a0_0 : Int) (a0_1 : Int) (a0_2 : Int) (a1_0 : Int) (a1_1 : Int) (a1_2 : Int) : Option (Int) := (qk.f k (([a0_1, a0_0, a0_2] : List Int)) (([a1_1, a1_0, a1_2] : List Int))).bind fun t444 => (some t444)
end Go.Proofs.YtdagdhmcebeadaaDoor.P
namespace Go.Proofs.YtdagdhmcebeadaaDoor
open Go.RowKit Go.Sort Go.Proofs.YtdagdhmcebeadaaDoor.P Go.Proofs.YtdagdhmcebeadaaDoorW.PrintWords Go.Proofs.YtdagdhmcebeadaaDoorW.PrintLast
set_option linter.unusedVariables false
set_option linter.unusedSimpArgs false
theorem lit3 {w : World} {g : Nat} {a b c : Int} {t : TypeId} {fr : Nat × Nat} (h : w.heap[g]? = some (.cells #[.int .i64 a, .int .i64 b, .int .i64 c] t fr)) : Kd.C (Kd.int .i64) w (some ⟨g, 0, none⟩) 3 [a, b, c] := by
 refine ⟨rfl, by decide, fun _ => ⟨⟨g, 0, none⟩, rfl, fun j p hp => ⟨[.int .i64 p], rfl, rfl, fun i u hu => ?_⟩⟩⟩
 have hi : i = 0 ∧ u = .int .i64 p := by
  cases i with
  | zero => simp at hu; exact ⟨rfl, hu.symm⟩
  | succ i => simp at hu
 obtain ⟨rfl, rfl⟩ := hi
 have e : (⟨g, 0, none⟩ : Addr).add (j * (Kd.int .i64).sz + 0) = ⟨g, j, none⟩ := by
  rw [show j * (Kd.int .i64).sz + 0 = j from Nat.mul_one j, qPC]
 rw [e]
 simp only [World.cell?, h]
 rcases j with _ | _ | _ | j
 ·simp at hp; subst hp; rfl
 ·simp at hp; subst hp; rfl
 ·simp at hp; subst hp; rfl
 ·simp at hp
theorem heap2 (W : World) (A B C D : Obj) : ((((W.alloc A).alloc B).alloc C).alloc D).heap[W.heap.size + 1 + 1]? = some C := by
 show ((((W.heap.push A).push B).push C).push D)[W.heap.size + 1 + 1]? = some C
 rw [Array.getElem?_push, if_neg (by simp only [Array.size_push]; omega), Array.getElem?_push, if_pos (by simp only [Array.size_push])]
theorem heap3 (W : World) (A B C D : Obj) : ((((W.alloc A).alloc B).alloc C).alloc D).heap[W.heap.size + 1 + 1 + 1]? = some D := by
 show ((((W.heap.push A).push B).push C).push D)[W.heap.size + 1 + 1 + 1]? = some D
 rw [Array.getElem?_push, if_pos (by simp only [Array.size_push])]
set_option maxHeartbeats 2000000 in
set_option maxRecDepth 100000 in
theorem order_grow (k : Nat) (x y : S27) (r : Int) (h : qzA.f k x.f0 x.f1 x.f2 y.f0 y.f1 y.f2 = some r) (W : World) :
  Calls Tryd.prog 14 #[.agg #[.int .i64 x.f0, .int .i64 x.f1, .int .i64 x.f2], .agg #[.int .i64 y.f0, .int .i64 y.f1, .int .i64 y.f2]] W fun e w' => e = .returned (.int .i64 r) ∧ ∃ q os', w' = grow (W.drewN q) os' := by
 have hu := Tryd.underlying27
 unfold qzA.f at h
 replace h := Option.bind_eq_some_iff.mp h
 obtain ⟨r', h, h'⟩ := h
 obtain rfl := Option.some.inj h'
 have H := Lib.hid h
 clear h h'
 go_enter Tryd.func14, Tryd.ntmps14
 go_wp2_with (first | (go_at_call 25; refine (qk.calls k _ _ [x.f1, x.f0, x.f2] _ _ [y.f1, y.f0, y.f2] r' _ ?sa (Nat.le_refl 3) ?sb (Nat.le_refl 3) H.out).mono ?_; (case sa => exact lit3 (heap2 _ _ _ _ _)); (case sb => exact lit3 (heap3 _ _ _ _ _)); rintro e w2 ⟨rfl, ⟨nd, rfl⟩⟩))
 go_ret
 exact ⟨rfl, nd, _, by rw [alloc_eq_grow, alloc_eq_grow, alloc_eq_grow, alloc_eq_grow, grow_grow, grow_grow, grow_grow]; rfl⟩
end Go.Proofs.YtdagdhmcebeadaaDoor
namespace Go.Proofs.YtdagdhmcebeadaaDoor
open Go.RowKit Go.Proofs.YtdagdhmcebeadaaDoorW.PrintWords Go.Proofs.YtdagdhmcebeadaaDoorW.PrintLast
set_option linter.unusedVariables false
set_option linter.unusedSimpArgs false
theorem Ev.at_ {α : Type} {g : Nat → Option α} {r : α} (n : Nat) (h : ∀ k, g (k + n) = some r) : Ev g r := ⟨n, fun k hk => by
 obtain ⟨m, rfl⟩ : ∃ m, k = m + n := ⟨k - n, by omega⟩
 exact h m⟩
theorem Ev.pos {α : Type} {c : Prop} [Decidable c] {g f : Nat → Option α} {r : α} (hc : c) (h : Ev g r) : Ev (fun k => if c then g k else f k) r := h.congr fun k => if_pos hc
theorem Ev.neg {α : Type} {c : Prop} [Decidable c] {g f : Nat → Option α} {r : α} (hc : ¬ c) (h : Ev f r) : Ev (fun k => if c then g k else f k) r := h.congr fun k => if_neg hc
theorem Ev.some_ {α : Type} {a r : α} (h : a = r) : Ev (fun _ => some a) r := ⟨0, fun _ _ => by rw [h]⟩
theorem Ev.bindc {α β : Type} {o : Option α} {f : Nat → α → Option β} {a : α} {r : β} (h : o = some a) (k : Ev (fun n => f n a) r) : Ev (fun n => o.bind (f n)) r := k.congr fun n => by rw [h]; rfl
theorem w64 {i : Int} (h0 : -9223372036854775808 ≤ i) (h1 : i ≤ 9223372036854775807) : wrap64 i = i := by unfold wrap64; omega
end Go.Proofs.YtdagdhmcebeadaaDoor
namespace Go.Proofs.YtdagdhmcebeadaaDoor.Sorts
section
variable {α : Type}
def ins (lt : α → α → Bool) (x : α) : List α → List α
 | [] => [x]
 | y :: l => if lt y x = true then y :: ins lt x l else x :: y :: l
def insAll (lt : α → α → Bool) : List α → List α → List α
 | acc, [] => acc
 | acc, x :: l => insAll lt (ins lt x acc) l
structure Weak (lt : α → α → Bool) : Prop where
 asym : ∀ a b, lt a b = true → lt b a = false
 trans : ∀ a b c, lt b a = false → lt c b = false → lt c a = false
variable {lt : α → α → Bool}
theorem Weak.total (W : Weak lt) (a b : α) : ((!lt b a) || (!lt a b)) = true := by
 cases h : lt b a with
 | false => rfl
 | true => rw [W.asym b a h]; rfl
theorem Weak.of_rank (r : α → Int) : Weak fun a b => decide (r a < r b) := ⟨fun a b h => by simp only [decide_eq_true_eq] at h; simp only [decide_eq_false_iff_not]; omega, fun a b c h1 h2 => by simp only [decide_eq_false_iff_not] at *; omega⟩
theorem qGC (lt : α → α → Bool) (x : α) : ∀ l : List α, (ins lt x l).Perm (x :: l)
 | [] => List.Perm.refl _
 | y :: l => by
  unfold ins
  split
  ·exact ((qGC lt x l).cons y).trans (List.Perm.swap x y l)
  ·exact List.Perm.refl _
theorem qnB (lt : α → α → Bool) : ∀ (l acc : List α), (insAll lt acc l).Perm (l ++ acc)
 | [], acc => List.Perm.refl _
 | x :: l, acc => by
  refine (qnB lt l (ins lt x acc)).trans ?_
  exact ((List.Perm.refl l).append (qGC lt x acc)).trans List.perm_middle
theorem ins_sorted (W : Weak lt) (x : α) : ∀ l : List α, l.Pairwise (fun a b => lt b a = false) → (ins lt x l).Pairwise (fun a b => lt b a = false)
 | [], _ => List.pairwise_singleton _ _
 | y :: l, h => by
  obtain ⟨h1, h2⟩ := List.pairwise_cons.1 h
  unfold ins
  split
  ·rename_i hy
   refine List.pairwise_cons.2 ⟨fun z hz => ?_, ins_sorted W x l h2⟩
   rcases List.mem_cons.1 ((qGC lt x l).mem_iff.1 hz) with rfl | hz
   ·exact W.asym _ _ hy
   ·exact h1 z hz
  ·rename_i hy
   have hy : lt y x = false := by simpa using hy
   refine List.pairwise_cons.2 ⟨fun z hz => ?_, h⟩
   rcases List.mem_cons.1 hz with rfl | hz
   ·exact hy
   ·exact W.trans _ _ _ hy (h1 z hz)
theorem insAll_sorted (W : Weak lt) : ∀ (l acc : List α), acc.Pairwise (fun a b => lt b a = false) → (insAll lt acc l).Pairwise (fun a b => lt b a = false)
 | [], _, h => h
 | x :: l, acc, h => insAll_sorted W l _ (ins_sorted W x acc h)
def sorted (lt : α → α → Bool) (l : List α) : List α := l.mergeSort fun x y => !lt y x
theorem sorted_perm (lt : α → α → Bool) (l : List α) : (sorted lt l).Perm l := List.mergeSort_perm _ _
theorem sorted_sorted (W : Weak lt) (l : List α) : (sorted lt l).Pairwise (fun a b => lt b a = false) := by
 have := List.pairwise_mergeSort (le := fun x y => !lt y x) (fun a b c h1 h2 => by
  simp only [Bool.not_eq_true'] at *
  exact W.trans a b c h1 h2) (fun a b => W.total a b) l
 refine this.imp fun h => ?_
 simpa using h
theorem one {l l' : List α} (h : l.Pairwise (fun a b => lt b a = false)) (h' : l'.Pairwise (fun a b => lt b a = false)) (hp : l.Perm l') (ha : ∀ a ∈ l, ∀ b ∈ l, lt a b = false → lt b a = false → a = b) : l = l' :=
 List.Perm.eq_of_pairwise (le := fun a b => lt b a = false) (fun a b h1 h2 h3 h4 => ha a h1 b (hp.mem_iff.2 h2) h4 h3) h h' hp
def less (lt : α → α → Bool) (x : α) : List α → Nat
 | [] => 0
 | y :: l => if lt y x = true then less lt x l + 1 else 0
theorem qkC (x : α) : ∀ l : List α, ins lt x l = l.take (less lt x l) ++ x :: l.drop (less lt x l)
 | [] => rfl
 | y :: l => by
  unfold ins less
  split
  ·rw [qkC x l]; rfl
  ·rfl
end
theorem qHB {α : Type} {L : List α} {i : Nat} {c : α} {cs : List α} (h : L.drop i = c :: cs) : ∃ hi : i < L.length, L[i] = c ∧ L.drop (i + 1) = cs := by
 have hi : i < L.length := by
  rcases Nat.lt_or_ge i L.length with h1 | h1
  ·exact h1
  ·rw [List.drop_eq_nil_of_le h1] at h; cases h
 rw [List.drop_eq_getElem_cons hi] at h
 injection h with h1 h2
 exact ⟨hi, h1, h2⟩
theorem qRB {α : Type} {L : List α} {i : Nat} (h : L.drop i = []) : L.length ≤ i := by
 rcases Nat.lt_or_ge i L.length with h1 | h1
 ·rw [List.drop_eq_getElem_cons h1] at h; cases h
 ·exact h1
end Go.Proofs.YtdagdhmcebeadaaDoor.Sorts
namespace Go.Proofs.YtdagdhmcebeadaaDoor
open Go.RowKit Go.Proofs.YtdagdhmcebeadaaDoor.P Go.Proofs.YtdagdhmcebeadaaDoorW.PrintWords Go.Proofs.YtdagdhmcebeadaaDoorW.PrintLast
set_option linter.unusedVariables false
set_option linter.unusedSimpArgs false
def cmpI (a b : Int) : Int := if a < b then -1 else if a > b then 1 else 0
def lexI : List Int → List Int → Int
 | [], [] => 0
 | [], _ :: _ => -1
 | _ :: _, [] => 1
 | a :: l, b :: m => if cmpI a b = 0 then lexI l m else cmpI a b
theorem cmp_eq (a b : Int) : qdA.f a b = some (cmpI a b) := by
 unfold qdA.f qGA.f cmpI
 simp only [bne_self_eq_false, Option.bind_some]
 rw [if_neg (by decide), if_neg (by decide)]
 split
 ·rfl
 ·split <;> rfl
theorem rd_is (l : List Int) (i : Nat) {x : Int} (h : i < l.length) (e : l[i] = x) : rd l (i : Int) = x := by
 unfold rd
 rw [Int.toNat_natCast, List.getD_eq_getElem?_getD, List.getElem?_eq_getElem h, e]; rfl
theorem compare_loop (l m : List Int) (hl : l.length ≤ 100000) (hm : m.length ≤ 100000) : ∀ (u v : List Int) (i : Nat), l.drop i = u → m.drop i = v → i ≤ l.length → i ≤ m.length →
  Ev (fun k => qk.l0 k l m l (l.length : Int) (i : Int)) (lexI u v)
 | [], v, i, hu, hv, h1, h2 => by
  have hi := Sorts.qRB hu
  refine Ev.step (f := fun k => _) (fun k => by rw [qk.l0]) (Ev.neg (by omega) ?_)
  match v, hv with
  | [], hv =>
   have := Sorts.qRB hv
   exact Ev.neg (by omega) (Ev.now _)
  | b :: v, hv =>
   obtain ⟨h3, _, _⟩ := Sorts.qHB hv
   exact Ev.pos (by omega) (Ev.now _)
 | a :: u, v, i, hu, hv, h1, h2 => by
  obtain ⟨h3, e3, hu'⟩ := Sorts.qHB hu
  have ea := rd_is l i h3 e3
  have w : wrap64 ((i : Int) + 1) = ((i + 1 : Nat) : Int) := by unfold wrap64; omega
  clear hu e3
  refine Ev.step (f := fun k => _) (fun k => by rw [qk.l0]) ?_
  rw [w, ea]
  refine Ev.pos (by omega) (Ev.pos (by omega) (Ev.pos (by omega) ?_))
  match v, hv with
  | [], hv =>
   have := Sorts.qRB hv
   exact Ev.pos (by omega) (Ev.now _)
  | b :: v, hv =>
   obtain ⟨h4, e4, hv'⟩ := Sorts.qHB hv
   have eb := rd_is m i h4 e4
   have ih := compare_loop l m hl hm u v (i + 1) hu' hv' (by omega) (by omega)
   clear hv e4 hu' hv'
   rw [eb]
   refine Ev.neg (by omega) (Ev.pos (by omega) (Ev.bindc (cmp_eq a b) ?_))
   rw [lexI]
   by_cases h0 : cmpI a b = 0
   ·rw [if_pos h0]
    exact Ev.pos h0 ih
   ·rw [if_neg h0]
    exact Ev.neg h0 (Ev.now _)
theorem compare_ev (l m : List Int) (hl : l.length ≤ 100000) (hm : m.length ≤ 100000) : Ev (fun k => qk.f k l m) (lexI l m) :=
 compare_loop l m hl hm l m 0 rfl rfl (by omega) (by omega)
theorem qkB (a b : Int) : cmpI a b < 0 ↔ a < b := by
 unfold cmpI
 split
 ·omega
 ·split <;> omega
theorem qXB (a b : Int) : cmpI a b = 0 ↔ a = b := by
 unfold cmpI
 split
 ·omega
 ·split <;> omega
end Go.Proofs.YtdagdhmcebeadaaDoor
namespace Go.Proofs
open Go.Shelf
def Tryd.sortB_ren : Go.Shelf.Ren := ⟨fun | 6 => 13 | 15 => 24 | 14 => 23 | 28 => 42 | 29 => 43 | 20 => 34 | 21 => 35 | 22 => 36 | 23 => 37 | 24 => 38 | 25 => 39 | 26 => 40 | 27 => 41 | 46 => 58 | 47 => 59 | 48 => 60 | 49 => 61 | 50 => 62 | 57 => 72 | n => n, fun | 22 => 24 | 24 => 27 | 25 => 45 | 3 => 3 | 39 => 61 | 0 => 0 | 53 => 80 | 55 => 82 | 4 => 4 | 46 => 73 | 45 => 72 | 50 => 77 | 5 => 5 | 9 => 9 | 66 => 99 | 70 => 103 | 76 => 112 | 77 => 97 | n => n, fun | n => n⟩
theorem Tryd.sortB : Go.Proofs.SlLaysF0.n6 Tryd.prog Tryd.sortB_ren := {
 mixed := by kernel_rfl
 f6 := ⟨Tryd.f13.name, by decide, Tryd.func13.trans (congrArg some (by kernel_rfl))⟩
 f14 := ⟨Tryd.f23.name, by decide, Tryd.func23.trans (congrArg some (by kernel_rfl))⟩
 f15 := Tryd.func24.trans (congrArg some (by kernel_rfl))
 f20 := ⟨Tryd.f34.name, by decide, Tryd.func34.trans (congrArg some (by kernel_rfl))⟩
 f21 := ⟨Tryd.f35.name, by decide, Tryd.func35.trans (congrArg some (by kernel_rfl))⟩
 f22 := ⟨Tryd.f36.name, by decide, Tryd.func36.trans (congrArg some (by kernel_rfl))⟩
 f23 := ⟨Tryd.f37.name, by decide, Tryd.func37.trans (congrArg some (by kernel_rfl))⟩
 f24 := ⟨Tryd.f38.name, by decide, Tryd.func38.trans (congrArg some (by kernel_rfl))⟩
 f25 := ⟨Tryd.f39.name, by decide, Tryd.func39.trans (congrArg some (by kernel_rfl))⟩
 f26 := ⟨Tryd.f40.name, by decide, Tryd.func40.trans (congrArg some (by kernel_rfl))⟩
 f27 := ⟨Tryd.f41.name, by decide, Tryd.func41.trans (congrArg some (by kernel_rfl))⟩
 f28 := Tryd.func42.trans (congrArg some (by kernel_rfl))
 f29 := Tryd.func43.trans (congrArg some (by kernel_rfl))
 f46 := ⟨Tryd.f58.name, by decide, Tryd.func58.trans (congrArg some (by kernel_rfl))⟩
 f47 := Tryd.func59.trans (congrArg some (by kernel_rfl))
 f48 := Tryd.func60.trans (congrArg some (by kernel_rfl))
 f49 := ⟨Tryd.f61.name, by decide, Tryd.func61.trans (congrArg some (by kernel_rfl))⟩
 f50 := ⟨Tryd.f62.name, by decide, Tryd.func62.trans (congrArg some (by kernel_rfl))⟩
 f57 := ⟨Tryd.f72.name, by decide, Tryd.func72.trans (congrArg some (by kernel_rfl))⟩
 t0 := Tryd.underlying0
 a0 := Tryd.isAgg0
 z0 := Tryd.sizeOf0
 v0 := Tryd.zeroValue0
 t3 := Tryd.underlying3
 a3 := Tryd.isAgg3
 z3 := Tryd.sizeOf3
 v3 := Tryd.zeroValue3
 t4 := Tryd.underlying4
 a4 := Tryd.isAgg4
 z4 := Tryd.sizeOf4
 v4 := Tryd.zeroValue4
 t5 := Tryd.underlying5
 a5 := Tryd.isAgg5
 z5 := Tryd.sizeOf5
 v5 := Tryd.zeroValue5
 t9 := Tryd.underlying9
 a9 := Tryd.isAgg9
 z9 := Tryd.sizeOf9
 v9 := Tryd.zeroValue9
 t22 := Tryd.underlying24
 a22 := Tryd.isAgg24
 z22 := Tryd.sizeOf24
 v22 := Tryd.zeroValue24
 t25 := Tryd.underlying45
 a25 := Tryd.isAgg45
 z25 := Tryd.sizeOf45
 v25 := Tryd.zeroValue45
 t39 := Tryd.underlying61
 a39 := Tryd.isAgg61
 z39 := Tryd.sizeOf61
 v39 := Tryd.zeroValue61
 t45 := Tryd.underlying72
 a45 := Tryd.isAgg72
 z45 := Tryd.sizeOf72
 v45 := Tryd.zeroValue72
 t46 := Tryd.underlying73
 a46 := Tryd.isAgg73
 z46 := Tryd.sizeOf73
 v46 := Tryd.zeroValue73
 t50 := Tryd.underlying77
 a50 := Tryd.isAgg77
 z50 := Tryd.sizeOf77
 v50 := Tryd.zeroValue77
 t53 := Tryd.underlying80
 a53 := Tryd.isAgg80
 z53 := Tryd.sizeOf80
 v53 := Tryd.zeroValue80
 t55 := Tryd.underlying82
 a55 := Tryd.isAgg82
 z55 := Tryd.sizeOf82
 v55 := Tryd.zeroValue82
 t66 := Tryd.underlying99
 a66 := Tryd.isAgg99
 z66 := Tryd.sizeOf99
 v66 := Tryd.zeroValue99
 t70 := Tryd.underlying103
 a70 := Tryd.isAgg103
 z70 := Tryd.sizeOf103
 v70 := Tryd.zeroValue103
 t76 := Tryd.underlying112
 a76 := Tryd.isAgg112
 z76 := Tryd.sizeOf112
 v76 := Tryd.zeroValue112
 t77 := Tryd.underlying97
 a77 := Tryd.isAgg97
 z77 := Tryd.sizeOf97
 v77 := Tryd.zeroValue97 }
end Go.Proofs
namespace Go.Proofs.YtdagdhmcebeadaaDoor
open Go.RowKit Go.Sort Go.Proofs.YtdagdhmcebeadaaDoor.P Go.Proofs.YtdagdhmcebeadaaDoorW.PrintWords Go.Proofs.YtdagdhmcebeadaaDoorW.PrintLast
set_option linter.unusedVariables false
set_option linter.unusedSimpArgs false
instance instBox0 : Inhabited S27 := ⟨⟨0, 0, 0⟩⟩
def encX (x : S27) : List Value := [.int .i64 x.f0, .int .i64 x.f1, .int .i64 x.f2]
def ordB (x y : S27) : Int := lexI [x.f1, x.f0, x.f2] [y.f1, y.f0, y.f2]
theorem ordB_run (x y : S27) : ∃ k, qzA.f k x.f0 x.f1 x.f2 y.f0 y.f1 y.f2 = some (ordB x y) := by
 have h : Ev (fun k => qzA.f k x.f0 x.f1 x.f2 y.f0 y.f1 y.f2) (ordB x y) := by
  unfold qzA.f
  exact Ev.bind (compare_ev _ _ (by simp) (by simp)) (Ev.now _)
 obtain ⟨k, hk⟩ := h
 exact ⟨k, hk k (Nat.le_refl k)⟩
theorem cmpLaysB (blk off size : Nat) (w : World) : CmpLays Tryd.prog 14 #[] encX 3 ordB blk off size w := fun m os dk _ x y => by
 obtain ⟨k, hk⟩ := ordB_run x y
 exact order_grow k x y _ hk _
theorem ordB_neg (x y : S27) : ordB x y < 0 ↔ x.f1 < y.f1 ∨ (x.f1 = y.f1 ∧ (x.f0 < y.f0 ∨ (x.f0 = y.f0 ∧ x.f2 < y.f2))) := by
 unfold ordB
 simp only [lexI]
 have c1 := qkB x.f1 y.f1
 have c2 := qkB x.f0 y.f0
 have c3 := qkB x.f2 y.f2
 have d1 := qXB x.f1 y.f1
 have d2 := qXB x.f0 y.f0
 have d3 := qXB x.f2 y.f2
 generalize cmpI x.f1 y.f1 = u at *
 generalize cmpI x.f0 y.f0 = v at *
 generalize cmpI x.f2 y.f2 = z at *
 split
 ·split
  ·split <;> omega
  ·omega
 ·omega
theorem ltB_true (x y : S27) : (ltOf ordB) x y = true ↔ (x.f1 < y.f1 ∨ (x.f1 = y.f1 ∧ (x.f0 < y.f0 ∨ (x.f0 = y.f0 ∧ x.f2 < y.f2)))) := by
 unfold ltOf
 rw [decide_eq_true_eq, ordB_neg]
theorem qeB (x y : S27) : (ltOf ordB) x y = false ↔ ¬ (x.f1 < y.f1 ∨ (x.f1 = y.f1 ∧ (x.f0 < y.f0 ∨ (x.f0 = y.f0 ∧ x.f2 < y.f2)))) := by
 unfold ltOf
 rw [decide_eq_false_iff_not, ordB_neg]
theorem swoB : SWO (ltOf ordB) where
 irrefl := fun x => by rw [qeB]; omega
 trans := fun x y z h1 h2 => by rw [ltB_true] at *; omega
 ntrans := fun x y z h1 h2 => by rw [qeB] at *; omega
theorem totB (x y : S27) (h1 : (ltOf ordB) x y = false) (h2 : (ltOf ordB) y x = false) : x = y := by
 rw [qeB] at h1 h2
 have a0 : x.f0 = y.f0 := by omega
 have a1 : x.f1 = y.f1 := by omega
 have a2 : x.f2 = y.f2 := by omega
 cases x
 cases y
 simp only at a0 a1 a2
 subst a0 a1 a2
 rfl
theorem encX_get (x : S27) (m : Nat) (h : m < 3) : (encX x)[m]? = some ((encX x)[m]!) := by
 have hm : m < (encX x).length := h
 rw [List.getElem?_eq_getElem hm, getElem!_pos (encX x) m hm]
theorem sortB_holds {R : S27 → List Value → Prop} (hR : ∀ x cs, R x cs → cs = encX x) {w : World} {g : Nat} {cur : Array Value} {t : TypeId} {xs : List S27} {inner : List Value} (hh : w.heap[g]? = some (.cells cur t (0, 0))) (ht : cur.toList.take (xs.length * 3) = inner) (hr : Reps R 3 xs inner) : HoldsK encX 3 w g 0 xs.toArray := by
 intro t' ht'
 rw [size_flatK] at ht'
 have hlt : t' < xs.length * 3 := by simpa using ht'
 have hj : t' / 3 < xs.length := by omega
 have hc := hR _ _ (hr.2 (t' / 3) xs[t' / 3] (List.getElem?_eq_getElem hj))
 have h1 : cur[t']? = (encX xs[t' / 3])[t' % 3]? := by
  rw [← hc, List.getElem?_take, if_pos (Nat.mod_lt _ (by decide)), List.getElem?_drop, show t' / 3 * 3 + t' % 3 = t' by omega, ← ht, List.getElem?_take, if_pos hlt, Array.getElem?_toList]
 have e : xs.toArray[t' / 3]! = xs[t' / 3] := by simp [hj]
 refine ⟨?_, by simp [World.frozen?, hh]⟩
 rw [get_flatK _ _ _ _ ht', e]
 simp only [World.cell?, hh, Nat.zero_add]
 rw [h1, encX_get _ _ (Nat.mod_lt _ (by decide))]
 rfl
theorem sortB_put {cur : Array Value} {ys : List S27} {n : Nat} (hlen : ys.length = n) (hc : n * 3 ≤ cur.size) (w : World) (base : Nat) (ok : Nat → Prop) :
  Reps (k27.M w base ok) 3 ys ((putCells id 0 (flatK encX 3 ys.toArray) cur).toList.take (n * 3)) := by
 have hsz : (putCells id 0 (flatK encX 3 ys.toArray) cur).toList.length = cur.size := by simp [putCells]
 refine ⟨by rw [List.length_take, hsz, hlen]; omega, fun j x hx => ?_⟩
 have hj : j < ys.length := (List.getElem?_eq_some_iff.1 hx).1
 have hv : ys[j] = x := by rw [List.getElem?_eq_getElem hj] at hx; injection hx
 have e : (((putCells id 0 (flatK encX 3 ys.toArray) cur).toList.take (n * 3)).drop (j * 3)).take 3 = encX x := by
  refine List.ext_getElem? fun i => ?_
  rw [List.getElem?_take]
  by_cases hi : i < 3
  ·rw [if_pos hi, List.getElem?_drop, List.getElem?_take, if_pos (by omega), Array.getElem?_toList]
   have hk : j * 3 + i < (flatK encX 3 ys.toArray).size := by rw [size_flatK]; simp; omega
   have hk2 : j * 3 + i < ys.toArray.size * 3 := by simp; omega
   simp only [putCells, Array.getElem?_mapIdx]
   rw [Array.getElem?_eq_getElem (show j * 3 + i < cur.size by omega), Option.map_some, if_pos ⟨Nat.zero_le _, by omega⟩, Nat.sub_zero, get_flatK _ _ _ _ hk2, show (j * 3 + i) / 3 = j by omega, show (j * 3 + i) % 3 = i by omega]
   have e2 : ys.toArray[j]! = x := by simp [hj, hv]
   rw [e2, encX_get _ _ hi]
   rfl
  ·rw [if_neg hi, List.getElem?_eq_none (by show 3 ≤ i; omega)]
 rw [e]
 exact qVB w base ok x
def qUB.f (l0 : List S27) : Option (List S27) := if l0.length < 4611686018427387904 then some (l0.mergeSort fun x y => !(ltOf ordB) y x) else none
theorem qUB.calls (P0_ : Nat → Prop) (u9000_ : Value) (l0 : List S27) (r : List S27) (w0 w : World) (hB : Below w0.heap.size w0 w) (ho0 : Kd.R k27 27 w w0.heap.size P0_ u9000_ l0) (h : qUB.f l0 = some r) :
  Calls Tryd.prog 13 #[u9000_, .func (.func 14) #[] #[]] w fun e w' => e = .returned (.tuple #[]) ∧ Kd.R k27 27 w' w0.heap.size (fun k_ => (P0_ k_ ∨ w.heap.size ≤ k_)) u9000_ r ∧ Below w0.heap.size w0 w' ∧ Kept w w' (fun k_ => P0_ k_) := by
 unfold qUB.f at h
 by_cases hs : l0.length < 4611686018427387904
 case neg => rw [if_neg hs] at h; cases h
 rw [if_pos hs] at h
 obtain rfl := Option.some.inj h
 obtain ⟨hok, inner, hown, hr⟩ := ho0
 have hsz : k27.sz = 3 := rfl
 rcases hown.2 with ⟨hv, hn⟩ | ⟨g, cap, cur, hv, hbase, hheap, hncap, hmax, hsize, htake⟩
 ·subst hv
  have hl : l0 = [] := List.eq_nil_of_length_eq_zero hn
  subst hl
  refine (AnyF.slices_SortFunc_none Tryd.sortB none 0 (.func (.func 14) #[] #[]) w).mono fun e w' hq => ?_
  obtain ⟨he, rfl⟩ := hq
  exact ⟨he, by simpa using Kd.R_nil k27 27 w' w0.heap.size _, hB, Kept.refl _ _⟩
 ·subst hv
  rw [hsz] at htake hsize hr
  have hg : g < w.heap.size := by
   rcases Nat.lt_or_ge g w.heap.size with h1 | h1
   ·exact h1
   ·rw [Array.getElem?_eq_none h1] at hheap; cases hheap
  have eg := Go.Proofs.enters_of Tryd.func14 (by kernel_rfl) rfl
  have hH : HoldsK encX 3 w g 0 l0.toArray := sortB_holds (fun x cs hx => qPB hx) hheap htake hr
  have hcall := AnyQ.slices_SortFunc_total Tryd.sortB 3 Tryd.isAgg27 Tryd.sizeOf27 encX (fun _ => rfl) (fun x v hv => by simp [encX] at hv; rcases hv with rfl | rfl | rfl <;> rfl) ordB swoB 14 #[] g 0 cap l0.toArray w eg (cmpLaysB g 0 _ w) hH hg (by simpa using hs) totB
  have hcall2 : Calls Tryd.prog 13 #[.slice (some ⟨g, 0, none⟩) l0.length cap, .func (.func 14) #[] #[]] w _ := hcall
  refine hcall2.mono fun e w' hq => ?_
  obtain ⟨he, n, os, rfl⟩ := hq
  have hlen : (l0.mergeSort fun x y => !(ltOf ordB) y x).length = l0.length := List.length_mergeSort l0
  have hoth : ∀ k, k < w.heap.size → k ≠ g → (sortWorldK encX 3 w g 0 n (l0.mergeSort fun x y => !(ltOf ordB) y x).toArray os).heap[k]? = w.heap[k]? := by
   intro k hk hne
   unfold sortWorldK putRowK
   rw [heap_grow_old _ _ (by simpa using hk)]
   simp only [putRow, mapBlock, Array.getElem?_modify, if_neg (Ne.symm hne), heap_ahead]
  have hown' : (sortWorldK encX 3 w g 0 n (l0.mergeSort fun x y => !(ltOf ordB) y x).toArray os).heap[g]? = some (.cells (putCells id 0 (flatK encX 3 (l0.mergeSort fun x y => !(ltOf ordB) y x).toArray) cur) 27 (0, 0)) := by
   unfold sortWorldK putRowK
   rw [heap_grow_old _ _ (by simpa using hg)]
   simp only [putRow, mapBlock, Array.getElem?_modify, heap_ahead, hheap, if_true, Option.map_some, onCells]
  have hle : l0.length * 3 ≤ cur.size := by rw [hsize]; exact Nat.mul_le_mul_right 3 hncap
  refine ⟨he, ⟨fun k hk => .inl (hok k hk), _, ⟨?_, .inr ⟨g, cap, _, by rw [hlen], hbase, hown', by rw [hlen]; exact hncap, hmax, by rw [hsz, ← hsize]; simp [putCells], by rw [hsz, hlen]⟩⟩, sortB_put hlen hle _ _ _⟩, ⟨hB.os, hB.tape, hB.output, Nat.le_trans hB.size (by unfold sortWorldK putRowK; simp), ?_⟩, ⟨by unfold sortWorldK putRowK; simp, ?_⟩⟩
  ·rw [hsz, hlen, List.length_take]
   simp [putCells]
   omega
  ·intro k hk
   rw [hoth k (Nat.lt_of_lt_of_le hk hB.size) (by omega)]
   exact hB.block k hk
  ·intro k hk hn
   exact hoth k hk (fun e => hn (e ▸ hok g rfl))
end Go.Proofs.YtdagdhmcebeadaaDoor
namespace Go.Proofs.YtdagdhmcebeadaaDoor.P
open Go.RowKit Go.Proofs.YtdagdhmcebeadaaDoorW.PrintWords Go.Proofs.YtdagdhmcebeadaaDoorW.PrintLast Go.Proofs.YtdagdhmcebeadaaDoorW.PrintMore
attribute [local go_sem] qDA qBA qLA qKA qq qp qCA qAA
set_option linter.unusedVariables false
set_option linter.unusedSimpArgs false
def qw.f (k : Nat) (a0 : ByteArray) (a1_0 : Int) (a1_1 : Int) (a1_2 : Int) : Option ((List (S27)) × Bool) := (qP.f k a0 a1_0 a1_1 a1_2).bind fun bt384 => (if bt384.2.2 = true then ((qUB.f bt384.1).bind fun t391 => (some (t391, true))) else (some (([] : List (S27)), false)))
set_option maxHeartbeats 8000000 in
set_option maxRecDepth 100000 in
theorem qw.calls (k : Nat) (a0 : ByteArray) (a1_0 : Int) (a1_1 : Int) (a1_2 : Int) (r1 : List (S27)) (r2 : Bool) (w : World) (hL : Laid w) (h : qw.f k a0 a1_0 a1_1 a1_2 = some (r1, r2)) :
  Calls Tryd.prog 6 #[.string a0, .agg #[.int .i64 a1_0, .int .i64 a1_1, .int .i64 a1_2]] w fun e w' => ∃ v0_ : Value, e = .returned (.tuple #[v0_, .bool r2]) ∧ Kd.R k27 27 w' w.heap.size (fun _ => True) v0_ r1 ∧ Below w.heap.size w w' := by
 have hu27 := Tryd.underlying27
 have HLD := Aside0.mk hL
 clear hL
 have HB := Aside0.mk (Below.refl w.heap.size w)
 have H : ((qP.f k a0 a1_0 a1_1 a1_2).bind fun bt384 => (if bt384.2.2 = true then ((qUB.f bt384.1).bind fun t391 => (some (t391, true))) else (some (([] : List (S27)), false)))) = some (r1, r2) := h
 clear h
 replace H := Option.bind_eq_some_iff.mp H
 obtain ⟨⟨t384, t387, t390⟩, A30, H⟩ := H
 replace H : (if t390 = true then ((qUB.f t384).bind fun t391 => (some (t391, true))) else (some (([] : List (S27)), false))) = some (r1, r2) := H
 have A3 := Aside0.mk A30
 clear A30
 by_cases c4 : t390 = true
 ·subst c4
  have H1 : ((qUB.f t384).bind fun t391 => (some (t391, true))) = some (r1, r2) := by rw [if_pos rfl] at H; exact H
  clear H
  have H := H1
  clear H1
  replace H := Option.bind_eq_some_iff.mp H
  obtain ⟨t391, A50, H⟩ := H
  replace H : (some (t391, true)) = some (r1, r2) := H
  have A5 := Aside0.mk A50
  clear A50
  simp only [Option.some.injEq, Prod.mk.injEq] at H
  obtain ⟨rfl, rfl⟩ := H
  go_enter Tryd.func6, Tryd.ntmps6
  go_wp2_with (first | ((with_reducible refine qd (N := 3) rfl ?_); refine qY ?hg (N := 3) ?hd (cs := #[.int .i64 a1_0, .int .i64 a1_1, .int .i64 a1_2]) (t := 27) ?hr ?_; (case hd => rfl); (case hg => rfl); (case hr => first | (go_simp; done) | (go_simp; rfl)); intro gb383 hg w6 hbox hb; have n0_ := Aside0.mk (qG bl hb); have n1_ := Aside0.mk (hbox); have n2_ := Aside0.mk ((gg hg)); have n3_ := Aside0.mk ((gg hg)); clear HB; have HB := n0_; have BK383 := n1_; have GW383 := n2_; have GE383 := n3_; clear n0_ n1_ n2_ n3_; clear hb hbox hg; have hcz7_0 := bc BK383 0; have hcz7_1 := bc BK383 1; have hcz7_2 := bc BK383 2; have hfz7_0 := qC BK383.out 0; have hfz7_1 := qC BK383.out 1; have hfz7_2 := qC BK383.out 2) | ((with_reducible refine qS (f := 12) rfl ?_); refine qt (some 12) rfl rfl Tryd.func12 (by kernel_rfl) rfl #[.string a0, .agg #[.int .i64 a1_0, .int .i64 a1_1, .int .i64 a1_2]] rfl (by (try simp only [List.map_toArray, List.map_cons, List.map_nil]); first | done | rfl | (simp only [List.length_drop, List.length_take]; rfl)) ?_; (with_reducible refine (qP.calls k a0 a1_0 a1_1 a1_2 t384 t387 true _ ?side1 A3.out).mono ?_); (case side1 => first | exact HLD.out | exact Laid.below HLD.out (by repeat (first | (with_reducible first | exact HB.out | apply qv | apply qu | apply qm | refine qVA ?_ (Aside0.out (by with_reducible assumption))) | exact HB.out))); rintro e w8 ⟨v385, v388, rfl, ho0, ho1, hb⟩; refine ⟨_, rfl, ?_⟩; have n0_ := Aside0.mk (Kd.qHA (Kd.qgB ho0 (g := gb383) (o := .cells #[.int .i64 a1_0, .int .i64 a1_1, .int .i64 a1_2] 27 (0, 0)) (by (with_reducible repeat (first | refine qB ?_ _ | refine qD ?_ | refine qA ?_ _)); exact BK383.out)) (qg bl)); have n1_ := Aside0.mk (Kd.qHA ho1 (qg bl)); have n2_ := Aside0.mk (bb BK383 hb); have n3_ := Aside0.mk (qG bl hb); clear BK383; clear HB; have HO386 := n0_; have HO389 := n1_; have BK383 := n2_; have HB := n3_; clear n0_ n1_ n2_ n3_; (try clear hb); (try clear hb2); (try clear hk); (try clear hi); (try clear ho0); (try clear ho1); obtain ⟨Ao9, co9, eo9⟩ := Kd.qo HO386.out; subst eo9) | ((with_reducible refine qS (f := 13) rfl ?_); refine qt (some 19) rfl rfl Tryd.func13 (by kernel_rfl) rfl #[.slice Ao9 t384.length co9, .func (.func 14) #[] #[]] rfl (by (try simp only [List.map_toArray, List.map_cons, List.map_nil]); first | done | rfl | (simp only [List.length_drop, List.length_take]; rfl)) ?_; (with_reducible refine (qUB.calls (fun k_ => some k_ = (.slice Ao9 t384.length co9 : Value).ownBlock) (.slice Ao9 t384.length co9) t384  t391 w _ ?side1 ?side2 A5.out).mono ?_); (case side1 => repeat (first | (with_reducible first | exact HB.out | apply qv | apply qu | apply qm | refine qVA ?_ GE383.out) | exact HB.out)); (case side2 => exact Kd.qRC rfl HO386.out); rintro e w10 ⟨rfl, hy0, hb, hkp⟩; refine ⟨_, rfl, ?_⟩; have n0_ := Aside0.mk (qIC (by (with_reducible repeat (first | refine qB ?_ _ | refine qD ?_ | refine qA ?_ _)); exact BK383.out) hkp (fun hs_ => (fun e_ => (Kd.qU HO386.out (fun _ hk => hk.2)) e_) hs_)); have n1_ := Aside0.mk (Kd.qhC rfl hy0 (fun k_ e_ => HO386.out.1 k_ e_)); have n2_ := Aside0.mk (Kd.qh (ok' := fun k_ => True) (Kd.qXC ((Kd.R_apart' HO389.out (Kd.qxA HO386.out) (by decide))) hkp (fun k_ hk_ hs_ => (hk_.2) hs_)) (fun k_ hk_ => trivial)); have n3_ := Aside0.mk (hb); clear BK383; clear HO386; clear HO389; clear HB; have BK383 := n0_; have HO386 := n1_; have HO389 := n2_; have HB := n3_; clear n0_ n1_ n2_ n3_; (try clear hb); (try clear hkp); (try clear hy0)))
  go_ret2
  exact ⟨_, by first | rfl | (simp [qJ, qI] <;> rfl) | (simp [*, qJ, qI] <;> rfl), by (with_reducible repeat (first | apply Kd.qF | apply Kd.qE | apply Kd.qH)); exact Kd.qh HO386.out (fun _ hk => trivial), bl⟩
 ·replace c4 := Bool.eq_false_iff.mpr c4
  subst c4
  have H1 : (some (([] : List (S27)), false)) = some (r1, r2) := by rw [if_neg (show ¬ (false = true) by decide)] at H; exact H
  clear H
  have H := H1
  clear H1
  simp only [Option.some.injEq, Prod.mk.injEq] at H
  obtain ⟨rfl, rfl⟩ := H
  go_enter Tryd.func6, Tryd.ntmps6
  go_wp2_with (first | ((with_reducible refine qd (N := 3) rfl ?_); refine qY ?hg (N := 3) ?hd (cs := #[.int .i64 a1_0, .int .i64 a1_1, .int .i64 a1_2]) (t := 27) ?hr ?_; (case hd => rfl); (case hg => rfl); (case hr => first | (go_simp; done) | (go_simp; rfl)); intro gb383 hg w11 hbox hb; have n0_ := Aside0.mk (qG bl hb); have n1_ := Aside0.mk (hbox); have n2_ := Aside0.mk ((gg hg)); have n3_ := Aside0.mk ((gg hg)); clear HB; have HB := n0_; have BK383 := n1_; have GW383 := n2_; have GE383 := n3_; clear n0_ n1_ n2_ n3_; clear hb hbox hg; have hcz12_0 := bc BK383 0; have hcz12_1 := bc BK383 1; have hcz12_2 := bc BK383 2; have hfz12_0 := qC BK383.out 0; have hfz12_1 := qC BK383.out 1; have hfz12_2 := qC BK383.out 2) | ((with_reducible refine qS (f := 12) rfl ?_); refine qt (some 12) rfl rfl Tryd.func12 (by kernel_rfl) rfl #[.string a0, .agg #[.int .i64 a1_0, .int .i64 a1_1, .int .i64 a1_2]] rfl (by (try simp only [List.map_toArray, List.map_cons, List.map_nil]); first | done | rfl | (simp only [List.length_drop, List.length_take]; rfl)) ?_; (with_reducible refine (qP.calls k a0 a1_0 a1_1 a1_2 t384 t387 false _ ?side1 A3.out).mono ?_); (case side1 => first | exact HLD.out | exact Laid.below HLD.out (by repeat (first | (with_reducible first | exact HB.out | apply qv | apply qu | apply qm | refine qVA ?_ (Aside0.out (by with_reducible assumption))) | exact HB.out))); rintro e w13 ⟨v385, v388, rfl, ho0, ho1, hb⟩; refine ⟨_, rfl, ?_⟩; have n0_ := Aside0.mk (Kd.qHA (Kd.qgB ho0 (g := gb383) (o := .cells #[.int .i64 a1_0, .int .i64 a1_1, .int .i64 a1_2] 27 (0, 0)) (by (with_reducible repeat (first | refine qB ?_ _ | refine qD ?_ | refine qA ?_ _)); exact BK383.out)) (qg bl)); have n1_ := Aside0.mk (Kd.qHA ho1 (qg bl)); have n2_ := Aside0.mk (bb BK383 hb); have n3_ := Aside0.mk (qG bl hb); clear BK383; clear HB; have HO386 := n0_; have HO389 := n1_; have BK383 := n2_; have HB := n3_; clear n0_ n1_ n2_ n3_; (try clear hb); (try clear hb2); (try clear hk); (try clear hi); (try clear ho0); (try clear ho1)))
  go_ret2
  exact ⟨_, by first | rfl | (simp [qJ, qI] <;> rfl) | (simp [*, qJ, qI] <;> rfl), by first | exact Kd.R_nil _ _ _ _ _ | exact Kd.N_nil _ _ _ _ _ | exact Kd.V_nil _ _ _ _ _ | exact Kd.Q_nil _ _ _ _ _ | exact Kd.S_nil _ _ _ _ _, bl⟩
def qGB.f (a0_0 : Int) (a0_1 : Int) (a0_2 : Int) (a1_0 : Int) (a1_1 : Int) (a1_2 : Int) : Option (Bool) := if a0_0 = a1_0 then (if a0_1 = a1_1 then (if a0_2 = a1_2 then (some true) else (some false)) else (some false)) else (some false)
set_option maxHeartbeats 8000000 in
set_option maxRecDepth 100000 in
theorem qGB.calls (a0_0 : Int) (a0_1 : Int) (a0_2 : Int) (a1_0 : Int) (a1_1 : Int) (a1_2 : Int) (r : Bool) (w : World) (h : qGB.f a0_0 a0_1 a0_2 a1_0 a1_1 a1_2 = some r) :
  Calls Tryd.prog 15 #[.agg #[.int .i64 a0_0, .int .i64 a0_1, .int .i64 a0_2], .agg #[.int .i64 a1_0, .int .i64 a1_1, .int .i64 a1_2]] w fun e w' => e = .returned (.bool r) ∧ Below w.heap.size w w' := by
 have hu27 := Tryd.underlying27
 have HB := Aside0.mk (Below.refl w.heap.size w)
 have H : (if a0_0 = a1_0 then (if a0_1 = a1_1 then (if a0_2 = a1_2 then (some true) else (some false)) else (some false)) else (some false)) = some r := h
 clear h
 by_cases c3 : a0_0 = a1_0
 ·rw [if_pos c3] at H
  have c3b0 : (a0_0 == a1_0) = true := beq_iff_eq.mpr c3
  have c3b1 : (a0_0 != a1_0) = false := bne_eq_false_iff_eq.mpr c3
  clear c3
  by_cases c4 : a0_1 = a1_1
  ·rw [if_pos c4] at H
   have c4b0 : (a0_1 == a1_1) = true := beq_iff_eq.mpr c4
   have c4b1 : (a0_1 != a1_1) = false := bne_eq_false_iff_eq.mpr c4
   clear c4
   by_cases c5 : a0_2 = a1_2
   ·rw [if_pos c5] at H
    have c5b0 : (a0_2 == a1_2) = true := beq_iff_eq.mpr c5
    have c5b1 : (a0_2 != a1_2) = false := bne_eq_false_iff_eq.mpr c5
    clear c5
    obtain rfl := Option.some.inj H
    go_enter Tryd.func15, Tryd.ntmps15
    go_wp2_with (first | ((with_reducible refine qd (N := 2) rfl ?_); refine qY ?hg (N := 2) ?hd (cs := #[.int .i64 a0_0, .int .i64 a0_1, .int .i64 a0_2]) (t := 27) ?hr ?_; (case hd => rfl); (case hg => rfl); (case hr => first | (go_simp; done) | (go_simp; rfl)); intro gb392 hg w6 hbox hb; have n0_ := Aside0.mk (qG bl hb); have n1_ := Aside0.mk (hbox); have n2_ := Aside0.mk ((gg hg)); have n3_ := Aside0.mk ((gg hg)); clear HB; have HB := n0_; have BK392 := n1_; have GW392 := n2_; have GE392 := n3_; clear n0_ n1_ n2_ n3_; clear hb hbox hg) | ((with_reducible refine qd (N := 3) rfl ?_); refine qY ?hg (N := 3) ?hd (cs := #[.int .i64 a1_0, .int .i64 a1_1, .int .i64 a1_2]) (t := 27) ?hr ?_; (case hd => rfl); (case hg => rfl); (case hr => first | (go_simp; done) | (go_simp; rfl)); intro gb393 hg w7 hbox hb; have n0_ := Aside0.mk (bb BK392 hb); have n1_ := Aside0.mk (qG bl hb); have n2_ := Aside0.mk (hbox); have n3_ := Aside0.mk ((gg hg)); have n4_ := Aside0.mk ((gg hg)); have n5_ := Aside0.mk ((nl BK392 hg)); have n6_ := Aside0.mk ((nr BK392 hg)); clear BK392; clear HB; have BK392 := n0_; have HB := n1_; have BK393 := n2_; have GW393 := n3_; have GE393 := n4_; have NB392_393 := n5_; have NB393_392 := n6_; clear n0_ n1_ n2_ n3_ n4_ n5_ n6_; clear hb hbox hg; have hnb8 := NB392_393.out; have hnc8 := NB393_392.out; have hcz9_0 := bc BK392 0; have hcz9_1 := bc BK392 1; have hcz9_2 := bc BK392 2; have hfz9_0 := qC BK392.out 0; have hfz9_1 := qC BK392.out 1; have hfz9_2 := qC BK392.out 2; have hcz10_0 := bc BK393 0; have hcz10_1 := bc BK393 1; have hcz10_2 := bc BK393 2; have hfz10_0 := qC BK393.out 0; have hfz10_1 := qC BK393.out 1; have hfz10_2 := qC BK393.out 2))
    go_ret
    exact ⟨by first | rfl | (simp [qJ, qI] <;> rfl) | (simp [*, qJ, qI] <;> rfl), bl⟩
   ·rw [if_neg c5] at H
    have c5b0 : (a0_2 == a1_2) = false := beq_eq_false_iff_ne.mpr c5
    have c5b1 : (a0_2 != a1_2) = true := bne_iff_ne.mpr c5
    obtain rfl := Option.some.inj H
    go_enter Tryd.func15, Tryd.ntmps15
    go_wp2_with (first | ((with_reducible refine qd (N := 2) rfl ?_); refine qY ?hg (N := 2) ?hd (cs := #[.int .i64 a0_0, .int .i64 a0_1, .int .i64 a0_2]) (t := 27) ?hr ?_; (case hd => rfl); (case hg => rfl); (case hr => first | (go_simp; done) | (go_simp; rfl)); intro gb392 hg w11 hbox hb; have n0_ := Aside0.mk (qG bl hb); have n1_ := Aside0.mk (hbox); have n2_ := Aside0.mk ((gg hg)); have n3_ := Aside0.mk ((gg hg)); clear HB; have HB := n0_; have BK392 := n1_; have GW392 := n2_; have GE392 := n3_; clear n0_ n1_ n2_ n3_; clear hb hbox hg) | ((with_reducible refine qd (N := 3) rfl ?_); refine qY ?hg (N := 3) ?hd (cs := #[.int .i64 a1_0, .int .i64 a1_1, .int .i64 a1_2]) (t := 27) ?hr ?_; (case hd => rfl); (case hg => rfl); (case hr => first | (go_simp; done) | (go_simp; rfl)); intro gb393 hg w12 hbox hb; have n0_ := Aside0.mk (bb BK392 hb); have n1_ := Aside0.mk (qG bl hb); have n2_ := Aside0.mk (hbox); have n3_ := Aside0.mk ((gg hg)); have n4_ := Aside0.mk ((gg hg)); have n5_ := Aside0.mk ((nl BK392 hg)); have n6_ := Aside0.mk ((nr BK392 hg)); clear BK392; clear HB; have BK392 := n0_; have HB := n1_; have BK393 := n2_; have GW393 := n3_; have GE393 := n4_; have NB392_393 := n5_; have NB393_392 := n6_; clear n0_ n1_ n2_ n3_ n4_ n5_ n6_; clear hb hbox hg; have hnb13 := NB392_393.out; have hnc13 := NB393_392.out; have hcz14_0 := bc BK392 0; have hcz14_1 := bc BK392 1; have hcz14_2 := bc BK392 2; have hfz14_0 := qC BK392.out 0; have hfz14_1 := qC BK392.out 1; have hfz14_2 := qC BK392.out 2; have hcz15_0 := bc BK393 0; have hcz15_1 := bc BK393 1; have hcz15_2 := bc BK393 2; have hfz15_0 := qC BK393.out 0; have hfz15_1 := qC BK393.out 1; have hfz15_2 := qC BK393.out 2))
    go_ret
    exact ⟨by first | rfl | (simp [qJ, qI] <;> rfl) | (simp [*, qJ, qI] <;> rfl), bl⟩
  ·rw [if_neg c4] at H
   have c4b0 : (a0_1 == a1_1) = false := beq_eq_false_iff_ne.mpr c4
   have c4b1 : (a0_1 != a1_1) = true := bne_iff_ne.mpr c4
   obtain rfl := Option.some.inj H
   go_enter Tryd.func15, Tryd.ntmps15
   go_wp2_with (first | ((with_reducible refine qd (N := 2) rfl ?_); refine qY ?hg (N := 2) ?hd (cs := #[.int .i64 a0_0, .int .i64 a0_1, .int .i64 a0_2]) (t := 27) ?hr ?_; (case hd => rfl); (case hg => rfl); (case hr => first | (go_simp; done) | (go_simp; rfl)); intro gb392 hg w16 hbox hb; have n0_ := Aside0.mk (qG bl hb); have n1_ := Aside0.mk (hbox); have n2_ := Aside0.mk ((gg hg)); have n3_ := Aside0.mk ((gg hg)); clear HB; have HB := n0_; have BK392 := n1_; have GW392 := n2_; have GE392 := n3_; clear n0_ n1_ n2_ n3_; clear hb hbox hg) | ((with_reducible refine qd (N := 3) rfl ?_); refine qY ?hg (N := 3) ?hd (cs := #[.int .i64 a1_0, .int .i64 a1_1, .int .i64 a1_2]) (t := 27) ?hr ?_; (case hd => rfl); (case hg => rfl); (case hr => first | (go_simp; done) | (go_simp; rfl)); intro gb393 hg w17 hbox hb; have n0_ := Aside0.mk (bb BK392 hb); have n1_ := Aside0.mk (qG bl hb); have n2_ := Aside0.mk (hbox); have n3_ := Aside0.mk ((gg hg)); have n4_ := Aside0.mk ((gg hg)); have n5_ := Aside0.mk ((nl BK392 hg)); have n6_ := Aside0.mk ((nr BK392 hg)); clear BK392; clear HB; have BK392 := n0_; have HB := n1_; have BK393 := n2_; have GW393 := n3_; have GE393 := n4_; have NB392_393 := n5_; have NB393_392 := n6_; clear n0_ n1_ n2_ n3_ n4_ n5_ n6_; clear hb hbox hg; have hnb18 := NB392_393.out; have hnc18 := NB393_392.out; have hcz19_0 := bc BK392 0; have hcz19_1 := bc BK392 1; have hcz19_2 := bc BK392 2; have hfz19_0 := qC BK392.out 0; have hfz19_1 := qC BK392.out 1; have hfz19_2 := qC BK392.out 2; have hcz20_0 := bc BK393 0; have hcz20_1 := bc BK393 1; have hcz20_2 := bc BK393 2; have hfz20_0 := qC BK393.out 0; have hfz20_1 := qC BK393.out 1; have hfz20_2 := qC BK393.out 2))
   go_ret
   exact ⟨by first | rfl | (simp [qJ, qI] <;> rfl) | (simp [*, qJ, qI] <;> rfl), bl⟩
 ·rw [if_neg c3] at H
  have c3b0 : (a0_0 == a1_0) = false := beq_eq_false_iff_ne.mpr c3
  have c3b1 : (a0_0 != a1_0) = true := bne_iff_ne.mpr c3
  obtain rfl := Option.some.inj H
  go_enter Tryd.func15, Tryd.ntmps15
  go_wp2_with (first | ((with_reducible refine qd (N := 2) rfl ?_); refine qY ?hg (N := 2) ?hd (cs := #[.int .i64 a0_0, .int .i64 a0_1, .int .i64 a0_2]) (t := 27) ?hr ?_; (case hd => rfl); (case hg => rfl); (case hr => first | (go_simp; done) | (go_simp; rfl)); intro gb392 hg w21 hbox hb; have n0_ := Aside0.mk (qG bl hb); have n1_ := Aside0.mk (hbox); have n2_ := Aside0.mk ((gg hg)); have n3_ := Aside0.mk ((gg hg)); clear HB; have HB := n0_; have BK392 := n1_; have GW392 := n2_; have GE392 := n3_; clear n0_ n1_ n2_ n3_; clear hb hbox hg) | ((with_reducible refine qd (N := 3) rfl ?_); refine qY ?hg (N := 3) ?hd (cs := #[.int .i64 a1_0, .int .i64 a1_1, .int .i64 a1_2]) (t := 27) ?hr ?_; (case hd => rfl); (case hg => rfl); (case hr => first | (go_simp; done) | (go_simp; rfl)); intro gb393 hg w22 hbox hb; have n0_ := Aside0.mk (bb BK392 hb); have n1_ := Aside0.mk (qG bl hb); have n2_ := Aside0.mk (hbox); have n3_ := Aside0.mk ((gg hg)); have n4_ := Aside0.mk ((gg hg)); have n5_ := Aside0.mk ((nl BK392 hg)); have n6_ := Aside0.mk ((nr BK392 hg)); clear BK392; clear HB; have BK392 := n0_; have HB := n1_; have BK393 := n2_; have GW393 := n3_; have GE393 := n4_; have NB392_393 := n5_; have NB393_392 := n6_; clear n0_ n1_ n2_ n3_ n4_ n5_ n6_; clear hb hbox hg; have hnb23 := NB392_393.out; have hnc23 := NB393_392.out; have hcz24_0 := bc BK392 0; have hcz24_1 := bc BK392 1; have hcz24_2 := bc BK392 2; have hfz24_0 := qC BK392.out 0; have hfz24_1 := qC BK392.out 1; have hfz24_2 := qC BK392.out 2; have hcz25_0 := bc BK393 0; have hcz25_1 := bc BK393 1; have hcz25_2 := bc BK393 2; have hfz25_0 := qC BK393.out 0; have hfz25_1 := qC BK393.out 1; have hfz25_2 := qC BK393.out 2))
  go_ret
  exact ⟨by first | rfl | (simp [qJ, qI] <;> rfl) | (simp [*, qJ, qI] <;> rfl), bl⟩
def qj.l0 : Nat → List (S27) → List (S27) → Int → Option (Bool)
 | 0, _, _, _ => none
 | k + 1, x0, x1, x5 => if x5 < (x0.length : Int) then (if 0 ≤ x5 then (if x5 < (x1.length : Int) then ((qGB.f ((qK x0 x5).f0) ((qK x0 x5).f1) ((qK x0 x5).f2) ((qK x1 x5).f0) ((qK x1 x5).f1) ((qK x1 x5).f2)).bind fun t396 => (if t396 = true then (qj.l0 k x0 x1 (wrap64 (x5 + 1))) else (some false))) else (none)) else (none)) else (some true)
def qj.f (k : Nat) (l0 : List (S27)) (l1 : List (S27)) : Option (Bool) := if (l0.length : Int) = (l1.length : Int) then (qj.l0 k l0 l1 0) else (some false)
def qj.T6 : Bool × List (List Nat × List Nat) := (true, [([], []), ([], []), ([0, 1], [0, 1]), ([2], [2]), ([], []), ([], []), ([4, 5], [4, 5]), ([6], [6]), ([3, 7], [3, 7]), ([8], [8])])
def qj.B6 : List Nat := [0, 0, 3, 7, 0, 0, 48, 112, 255, 511]
theorem qj.tab6 : rtab .any (opsOf Tryd.f7 6) = qj.T6 := by kernel_rfl
theorem qj.bits6 : waitsOk qj.T6.2 qj.B6 = true := by kernel_rfl
set_option maxHeartbeats 8000000 in
set_option maxRecDepth 100000 in
theorem qj.calls (k : Nat) (A0 : Option Addr) (c0 : Nat) (l0 : List (S27)) (A1 : Option Addr) (c1 : Nat) (l1 : List (S27)) (r : Bool) (w : World) (hr0 : Kd.C k27 w A0 l0.length l0) (hc0 : l0.length ≤ c0) (hr1 : Kd.C k27 w A1 l1.length l1) (hc1 : l1.length ≤ c1) (h : qj.f k l0 l1 = some r) :
  Calls Tryd.prog 7 #[.slice A0 l0.length c0, .slice A1 l1.length c1] w fun e w' => e = .returned (.bool r) ∧ Below w.heap.size w w' := by
 have hu27 := Tryd.underlying27
 have HR0 := Aside0.mk hr0
 have HC0 := Aside0.mk hc0
 clear hr0 hc0
 have HR1 := Aside0.mk hr1
 have HC1 := Aside0.mk hc1
 clear hr1 hc1
 have HB := Aside0.mk (Below.refl w.heap.size w)
 have H : (if (l0.length : Int) = (l1.length : Int) then (qj.l0 k l0 l1 0) else (some false)) = some r := h
 clear h
 by_cases c3 : (l0.length : Int) = (l1.length : Int)
 ·rw [if_pos c3] at H
  have c3b0 : ((l0.length : Int) == (l1.length : Int)) = true := beq_iff_eq.mpr c3
  have c3b1 : ((l0.length : Int) != (l1.length : Int)) = false := bne_eq_false_iff_eq.mpr c3
  have c3b2 : (l0.length == l1.length) = true := by first | simpa using c3 | (simp at c3 ⊢; omega)
  clear c3
  have H' := Aside0.mk H
  clear H
  go_enter Tryd.func7, Tryd.ntmps7
  go_wp2
  go_loopg [5] k (fun kq v5 w' => ∃ (x5_1 : Int), v5 = .int .i64 x5_1 ∧ Aside0 (qj.l0 kq l0 l1 x5_1 = some r) ∧ Aside0 (kq ≤ k) ∧ Aside0 (Below w.heap.size w w'))
  case atStart => exact ⟨(0), (by first | rfl | (simp; done) | (simp [*]; done)), H', ⟨Nat.le_refl _⟩, ⟨bl⟩⟩
  case round =>
   clear H'
   try clear c1
   try clear p2
   try clear c3
   try clear c3b0
   try clear c3b1
   try clear c3b2
   obtain ⟨x5_1, rfl, HA, HK1, HB⟩ := hrel
   cases gk with
   | zero => exact absurd HA.out (by simp [qj.l0])
   | succ k1 =>
    have H := HA.out
    clear HA
    simp only [qj.l0] at H
    by_cases c4 : x5_1 < (l0.length : Int)
    ·rw [if_pos c4] at H
     have c4b0 : decide (x5_1 < (l0.length : Int)) = true := decide_eq_true c4
     clear c4
     by_cases c5 : 0 ≤ x5_1
     ·rw [if_pos c5] at H
      have c5b0 : decide (0 ≤ x5_1) = true := decide_eq_true c5
      clear c5
      by_cases c6 : x5_1 < (l1.length : Int)
      ·rw [if_pos c6] at H
       have c6b0 : decide (x5_1 < (l1.length : Int)) = true := decide_eq_true c6
       clear c6
       replace H := Option.bind_eq_some_iff.mp H
       obtain ⟨t396, A70, H⟩ := H
       replace H : (if t396 = true then (qj.l0 k1 l0 l1 (wrap64 (x5_1 + 1))) else (some false)) = some r := H
       have A7 := Aside0.mk A70
       clear A70
       by_cases c8 : t396 = true
       ·subst c8
        have H1 : (qj.l0 k1 l0 l1 (wrap64 (x5_1 + 1))) = some r := by rw [if_pos rfl] at H; exact H
        clear H
        have H := H1
        clear H1
        have H' := Aside0.mk H
        clear H
        try go_wp2
        have n0_ := Aside0.mk (qm HB.out)
        clear HB
        have HB := n0_
        clear n0_
        have p394 : 0 ≤ (x5_1 : Int) := of_decide_eq_true (by first | (with_reducible assumption) | assumption)
        have q394 : x5_1 < (l0.length : Int) := of_decide_eq_true (by first | (with_reducible assumption) | assumption)
        obtain ⟨ad394, e394, hx394_0, hx394_1, hx394_2⟩ := qnA HR0.out x5_1 p394 q394
        have hw394_2 := hx394_2
        have hw394_1 := hx394_1
        have hw394_0 := hx394_0
        cases e394
        replace hx394_0 := (HB.out.cell (World.block_lt_of_cell? w _ hx394_0)).trans hx394_0
        replace hx394_1 := (HB.out.cell (World.block_lt_of_cell? w _ hx394_1)).trans hx394_1
        replace hx394_2 := (HB.out.cell (World.block_lt_of_cell? w _ hx394_2)).trans hx394_2
        replace p394 := eq_true p394
        replace q394 := eq_true q394
        have p395 : 0 ≤ (x5_1 : Int) := of_decide_eq_true (by first | (with_reducible assumption) | assumption)
        have q395 : x5_1 < (l1.length : Int) := of_decide_eq_true (by first | (with_reducible assumption) | assumption)
        obtain ⟨ad395, e395, hx395_0, hx395_1, hx395_2⟩ := qnA HR1.out x5_1 p395 q395
        have hw395_2 := hx395_2
        have hw395_1 := hx395_1
        have hw395_0 := hx395_0
        cases e395
        replace hx395_0 := (HB.out.cell (World.block_lt_of_cell? w _ hx395_0)).trans hx395_0
        replace hx395_1 := (HB.out.cell (World.block_lt_of_cell? w _ hx395_1)).trans hx395_1
        replace hx395_2 := (HB.out.cell (World.block_lt_of_cell? w _ hx395_2)).trans hx395_2
        replace p395 := eq_true p395
        replace q395 := eq_true q395
        refine qyA (n := 10) (S := fun w' => w'.cell? (ad394.add ((x5_1).toNat * 3)) = some (.int .i64 ((qK l0 x5_1).f0)) ∧ w'.cell? ⟨(ad394.add ((x5_1).toNat * 3)).block, (ad394.add ((x5_1).toNat * 3)).off + 1, none⟩ = some (.int .i64 ((qK l0 x5_1).f1)) ∧ w'.cell? ⟨(ad394.add ((x5_1).toNat * 3)).block, (ad394.add ((x5_1).toNat * 3)).off + 2, none⟩ = some (.int .i64 ((qK l0 x5_1).f2)) ∧ w'.cell? (ad395.add ((x5_1).toNat * 3)) = some (.int .i64 ((qK l1 x5_1).f0)) ∧ w'.cell? ⟨(ad395.add ((x5_1).toNat * 3)).block, (ad395.add ((x5_1).toNat * 3)).off + 1, none⟩ = some (.int .i64 ((qK l1 x5_1).f1)) ∧ w'.cell? ⟨(ad395.add ((x5_1).toNat * 3)).block, (ad395.add ((x5_1).toNat * 3)).off + 2, none⟩ = some (.int .i64 ((qK l1 x5_1).f2))) (ds := []) #[false, false, false, false, false, false, false, false, false, false] (by kernel_rfl) rfl rfl ⟨((HB.out.cell (World.block_lt_of_cell? w _ hw394_0)).trans hw394_0), ((HB.out.cell (World.block_lt_of_cell? w _ hw394_1)).trans hw394_1), ((HB.out.cell (World.block_lt_of_cell? w _ hw394_2)).trans hw394_2), ((HB.out.cell (World.block_lt_of_cell? w _ hw395_0)).trans hw395_0), ((HB.out.cell (World.block_lt_of_cell? w _ hw395_1)).trans hw395_1), ((HB.out.cell (World.block_lt_of_cell? w _ hw395_2)).trans hw395_2)⟩ (fun hHeld => ?_); refine qWA qj.tab6 qj.bits6 (fun HT_ HW_ => ?_)
        generalize wr.drew = w9 at HB hx394_0 hx394_1 hx394_2 hx395_0 hx395_1 hx395_2 hHeld ⊢
        refine pS (i := 0) (N := some 17) #[true, false, false, false, false, false, false, false, false, false] HT_ ?_
        refine pS (i := 1) (N := some 18) #[true, true, false, false, false, false, false, false, false, false] HT_ ?_
        refine pS (i := 2) (N := some 19) #[true, true, true, false, false, false, false, false, false, false] HT_ ?_
        refine pS (i := 4) (N := some 21) #[true, true, true, false, true, false, false, false, false, false] HT_ ?_
        refine pS (i := 5) (N := some 22) #[true, true, true, false, true, true, false, false, false, false] HT_ ?_
        refine pS (i := 6) (N := some 23) #[true, true, true, false, true, true, true, false, false, false] HT_ ?_
        refine tS (i := 3) (N := some 20) #[true, true, true, true, true, true, true, false, false, false] HT_ HW_ hHeld ?_
        refine tS (i := 7) (N := some 24) #[true, true, true, true, true, true, true, true, false, false] HT_ HW_ hHeld ?_
        refine one_ (i := 8) (N := some 25) #[true, true, true, true, true, true, true, true, true, false] rfl rfl (qQA HT_.out (by kernel_rfl)) (by decide) (fun K hK => ?_)
        refine goes_ Tryd.func15 (by kernel_rfl) rfl #[.agg #[.int .i64 ((qK l0 x5_1).f0), .int .i64 ((qK l0 x5_1).f1), .int .i64 ((qK l0 x5_1).f2)], .agg #[.int .i64 ((qK l1 x5_1).f0), .int .i64 ((qK l1 x5_1).f1), .int .i64 ((qK l1 x5_1).f2)]] (by rfl) rfl rfl (by (try simp only [List.map_toArray, List.map_cons, List.map_nil]); first | done | rfl | (simp only [List.length_drop, List.length_take]; rfl)) ?_
        with_reducible refine (qGB.calls ((qK l0 x5_1).f0) ((qK l0 x5_1).f1) ((qK l0 x5_1).f2) ((qK l1 x5_1).f0) ((qK l1 x5_1).f1) ((qK l1 x5_1).f2) true _ A7.out).mono ?_
        rintro e w10 ⟨rfl, hb⟩
        refine ⟨_, rfl, ?_⟩
        have n0_ := Aside0.mk (qG bl hb)
        clear HB
        have HB := n0_
        clear n0_
        (try clear hb)
        (try clear hb2)
        (try clear hk)
        (try clear hi)
        refine hK.out _ _ ⟨((HB.out.cell (World.block_lt_of_cell? w _ hw394_0)).trans hw394_0), ((HB.out.cell (World.block_lt_of_cell? w _ hw394_1)).trans hw394_1), ((HB.out.cell (World.block_lt_of_cell? w _ hw394_2)).trans hw394_2), ((HB.out.cell (World.block_lt_of_cell? w _ hw395_0)).trans hw395_0), ((HB.out.cell (World.block_lt_of_cell? w _ hw395_1)).trans hw395_1), ((HB.out.cell (World.block_lt_of_cell? w _ hw395_2)).trans hw395_2)⟩ (fun hHeld => ?_)
        clear hK K
        refine norm_ (a' := ?_) ?_ ?_
        rotate_left
        ·show Act.put _ (some 25) _ = _
         simp only [Act.put, List.setIfInBounds_toArray, List.set_cons_zero, List.set_cons_succ, i64_w, i32_w]
         rfl
        refine pS (i := 9) (N := some 26) #[true, true, true, true, true, true, true, true, true, true] HT_ ?_
        refine done_ (qqA HT_.out (by kernel_rfl)) ?_
        try go_wp2
        go_roundg k1
        case measure => have := HK1.out; omega
        case rel => exact ⟨(wrap64 (x5_1 + 1)), (by first | rfl | (simp; done) | (simp [*]; done)), H', ⟨by have := HK1.out; omega⟩, ⟨bl⟩⟩
       ·replace c8 := Bool.eq_false_iff.mpr c8
        subst c8
        have H1 : (some false) = some r := by rw [if_neg (show ¬ (false = true) by decide)] at H; exact H
        clear H
        have H := H1
        clear H1
        obtain rfl := Option.some.inj H
        try go_wp2
        have n0_ := Aside0.mk (qm HB.out)
        clear HB
        have HB := n0_
        clear n0_
        have p394 : 0 ≤ (x5_1 : Int) := of_decide_eq_true (by first | (with_reducible assumption) | assumption)
        have q394 : x5_1 < (l0.length : Int) := of_decide_eq_true (by first | (with_reducible assumption) | assumption)
        obtain ⟨ad394, e394, hx394_0, hx394_1, hx394_2⟩ := qnA HR0.out x5_1 p394 q394
        have hw394_2 := hx394_2
        have hw394_1 := hx394_1
        have hw394_0 := hx394_0
        cases e394
        replace hx394_0 := (HB.out.cell (World.block_lt_of_cell? w _ hx394_0)).trans hx394_0
        replace hx394_1 := (HB.out.cell (World.block_lt_of_cell? w _ hx394_1)).trans hx394_1
        replace hx394_2 := (HB.out.cell (World.block_lt_of_cell? w _ hx394_2)).trans hx394_2
        replace p394 := eq_true p394
        replace q394 := eq_true q394
        have p395 : 0 ≤ (x5_1 : Int) := of_decide_eq_true (by first | (with_reducible assumption) | assumption)
        have q395 : x5_1 < (l1.length : Int) := of_decide_eq_true (by first | (with_reducible assumption) | assumption)
        obtain ⟨ad395, e395, hx395_0, hx395_1, hx395_2⟩ := qnA HR1.out x5_1 p395 q395
        have hw395_2 := hx395_2
        have hw395_1 := hx395_1
        have hw395_0 := hx395_0
        cases e395
        replace hx395_0 := (HB.out.cell (World.block_lt_of_cell? w _ hx395_0)).trans hx395_0
        replace hx395_1 := (HB.out.cell (World.block_lt_of_cell? w _ hx395_1)).trans hx395_1
        replace hx395_2 := (HB.out.cell (World.block_lt_of_cell? w _ hx395_2)).trans hx395_2
        replace p395 := eq_true p395
        replace q395 := eq_true q395
        refine qyA (n := 10) (S := fun w' => w'.cell? (ad394.add ((x5_1).toNat * 3)) = some (.int .i64 ((qK l0 x5_1).f0)) ∧ w'.cell? ⟨(ad394.add ((x5_1).toNat * 3)).block, (ad394.add ((x5_1).toNat * 3)).off + 1, none⟩ = some (.int .i64 ((qK l0 x5_1).f1)) ∧ w'.cell? ⟨(ad394.add ((x5_1).toNat * 3)).block, (ad394.add ((x5_1).toNat * 3)).off + 2, none⟩ = some (.int .i64 ((qK l0 x5_1).f2)) ∧ w'.cell? (ad395.add ((x5_1).toNat * 3)) = some (.int .i64 ((qK l1 x5_1).f0)) ∧ w'.cell? ⟨(ad395.add ((x5_1).toNat * 3)).block, (ad395.add ((x5_1).toNat * 3)).off + 1, none⟩ = some (.int .i64 ((qK l1 x5_1).f1)) ∧ w'.cell? ⟨(ad395.add ((x5_1).toNat * 3)).block, (ad395.add ((x5_1).toNat * 3)).off + 2, none⟩ = some (.int .i64 ((qK l1 x5_1).f2))) (ds := []) #[false, false, false, false, false, false, false, false, false, false] (by kernel_rfl) rfl rfl ⟨((HB.out.cell (World.block_lt_of_cell? w _ hw394_0)).trans hw394_0), ((HB.out.cell (World.block_lt_of_cell? w _ hw394_1)).trans hw394_1), ((HB.out.cell (World.block_lt_of_cell? w _ hw394_2)).trans hw394_2), ((HB.out.cell (World.block_lt_of_cell? w _ hw395_0)).trans hw395_0), ((HB.out.cell (World.block_lt_of_cell? w _ hw395_1)).trans hw395_1), ((HB.out.cell (World.block_lt_of_cell? w _ hw395_2)).trans hw395_2)⟩ (fun hHeld => ?_); refine qWA qj.tab6 qj.bits6 (fun HT_ HW_ => ?_)
        generalize wr.drew = w11 at HB hx394_0 hx394_1 hx394_2 hx395_0 hx395_1 hx395_2 hHeld ⊢
        refine pS (i := 0) (N := some 17) #[true, false, false, false, false, false, false, false, false, false] HT_ ?_
        refine pS (i := 1) (N := some 18) #[true, true, false, false, false, false, false, false, false, false] HT_ ?_
        refine pS (i := 2) (N := some 19) #[true, true, true, false, false, false, false, false, false, false] HT_ ?_
        refine pS (i := 4) (N := some 21) #[true, true, true, false, true, false, false, false, false, false] HT_ ?_
        refine pS (i := 5) (N := some 22) #[true, true, true, false, true, true, false, false, false, false] HT_ ?_
        refine pS (i := 6) (N := some 23) #[true, true, true, false, true, true, true, false, false, false] HT_ ?_
        refine tS (i := 3) (N := some 20) #[true, true, true, true, true, true, true, false, false, false] HT_ HW_ hHeld ?_
        refine tS (i := 7) (N := some 24) #[true, true, true, true, true, true, true, true, false, false] HT_ HW_ hHeld ?_
        refine one_ (i := 8) (N := some 25) #[true, true, true, true, true, true, true, true, true, false] rfl rfl (qQA HT_.out (by kernel_rfl)) (by decide) (fun K hK => ?_)
        refine goes_ Tryd.func15 (by kernel_rfl) rfl #[.agg #[.int .i64 ((qK l0 x5_1).f0), .int .i64 ((qK l0 x5_1).f1), .int .i64 ((qK l0 x5_1).f2)], .agg #[.int .i64 ((qK l1 x5_1).f0), .int .i64 ((qK l1 x5_1).f1), .int .i64 ((qK l1 x5_1).f2)]] (by rfl) rfl rfl (by (try simp only [List.map_toArray, List.map_cons, List.map_nil]); first | done | rfl | (simp only [List.length_drop, List.length_take]; rfl)) ?_
        with_reducible refine (qGB.calls ((qK l0 x5_1).f0) ((qK l0 x5_1).f1) ((qK l0 x5_1).f2) ((qK l1 x5_1).f0) ((qK l1 x5_1).f1) ((qK l1 x5_1).f2) false _ A7.out).mono ?_
        rintro e w12 ⟨rfl, hb⟩
        refine ⟨_, rfl, ?_⟩
        have n0_ := Aside0.mk (qG bl hb)
        clear HB
        have HB := n0_
        clear n0_
        (try clear hb)
        (try clear hb2)
        (try clear hk)
        (try clear hi)
        refine hK.out _ _ ⟨((HB.out.cell (World.block_lt_of_cell? w _ hw394_0)).trans hw394_0), ((HB.out.cell (World.block_lt_of_cell? w _ hw394_1)).trans hw394_1), ((HB.out.cell (World.block_lt_of_cell? w _ hw394_2)).trans hw394_2), ((HB.out.cell (World.block_lt_of_cell? w _ hw395_0)).trans hw395_0), ((HB.out.cell (World.block_lt_of_cell? w _ hw395_1)).trans hw395_1), ((HB.out.cell (World.block_lt_of_cell? w _ hw395_2)).trans hw395_2)⟩ (fun hHeld => ?_)
        clear hK K
        refine norm_ (a' := ?_) ?_ ?_
        rotate_left
        ·show Act.put _ (some 25) _ = _
         simp only [Act.put, List.setIfInBounds_toArray, List.set_cons_zero, List.set_cons_succ, i64_w, i32_w]
         rfl
        refine pS (i := 9) (N := some 26) #[true, true, true, true, true, true, true, true, true, true] HT_ ?_
        refine done_ (qqA HT_.out (by kernel_rfl)) ?_
        try go_wp2
        go_ret
        exact ⟨by first | rfl | (simp [qJ, qI] <;> rfl) | (simp [*, qJ, qI] <;> rfl), bl⟩
      ·rw [if_neg c6] at H
       exact absurd H (by simp)
     ·rw [if_neg c5] at H
      exact absurd H (by simp)
    ·rw [if_neg c4] at H
     have c4b0 : decide (x5_1 < (l0.length : Int)) = false := decide_eq_false c4
     clear c4
     obtain rfl := Option.some.inj H
     go_wp2
     go_ret
     exact ⟨by first | rfl | (simp [qJ, qI] <;> rfl) | (simp [*, qJ, qI] <;> rfl), bl⟩
 ·rw [if_neg c3] at H
  have c3b0 : ((l0.length : Int) == (l1.length : Int)) = false := beq_eq_false_iff_ne.mpr c3
  have c3b1 : ((l0.length : Int) != (l1.length : Int)) = true := bne_iff_ne.mpr c3
  have c3b2 : (l0.length == l1.length) = false := by first | simpa using c3 | (simp at c3 ⊢; omega)
  obtain rfl := Option.some.inj H
  go_enter Tryd.func7, Tryd.ntmps7
  go_wp2
  go_ret
  exact ⟨by first | rfl | (simp [qJ, qI] <;> rfl) | (simp [*, qJ, qI] <;> rfl), bl⟩
def qx.l0 : Nat → List (S27) → Int → Int → Option (Int × (List (S27)))
 | 0, _, _, _ => none
 | k + 1, x0, x1, x5 => if x5 < (x0.length : Int) then (if 0 ≤ x5 then ((some (x0.set (x5 : Int).toNat (⟨x1, (qK x0 x5).f1, (qK x0 x5).f2⟩ : S27) : List (S27))).bind fun y397 => ((some (y397.set (x5 : Int).toNat (⟨(qK y397 x5).f0, wrap64 (x1 + 1), (qK y397 x5).f2⟩ : S27) : List (S27))).bind fun y398 => (qx.l0 k (y398.set (x5 : Int).toNat (⟨(qK y398 x5).f0, (qK y398 x5).f1, wrap64 ((wrap64 (x1 + 1)) + 1)⟩ : S27)) (wrap64 ((wrap64 ((wrap64 (x1 + 1)) + 1)) + 1)) (wrap64 (x5 + 1))))) else (none)) else (some (x1, x0))
def qx.f (k : Nat) (l0 : List (S27)) (a1 : Int) : Option (Int × (List (S27))) := qx.l0 k l0 a1 0
set_option maxHeartbeats 8000000 in
set_option maxRecDepth 100000 in
theorem qx.calls (k : Nat) (P0_ : Nat → Prop) (u9000_ : Value) (l0 : List (S27)) (a1 : Int) (r1 : Int) (r2 : List (S27)) (w0 w : World) (hB : Below w0.heap.size w0 w) (ho0 : Kd.R k27 27 w w0.heap.size P0_ u9000_ l0) (h : qx.f k l0 a1 = some (r1, r2)) :
  Calls Tryd.prog 8 #[u9000_, .int .i64 a1] w fun e w' => e = .returned (.int .i64 r1) ∧ Kd.R k27 27 w' w0.heap.size (fun k_ => (P0_ k_ ∨ w.heap.size ≤ k_)) u9000_ r2 ∧ Below w0.heap.size w0 w' ∧ Kept w w' (fun k_ => P0_ k_) := by
 have HO0 := Aside0.mk (show Kd.R k27 27 w w0.heap.size (fun k_ => (P0_ k_ ∨ w.heap.size ≤ k_)) u9000_ l0 from Kd.qh ho0 (fun k_ hk => (.inl hk)))
 have HK := Aside0.mk (Kept.refl w (fun k_ => P0_ k_))
 have HW0 := Aside0.mk hB.size
 have HB := Aside0.mk hB
 clear hB
 have H : (qx.l0 k l0 a1 0) = some (r1, r2) := h
 clear h
 have H' := Aside0.mk H
 clear H
 go_enter Tryd.func8, Tryd.ntmps8
 go_wp2
 go_loopg [1, 5] k (fun kq v1 v5 w' => ∃ (x0_1 : List (S27)) (x1_1 : Int) (x5_1 : Int), v1 = .int .i64 x1_1 ∧ v5 = .int .i64 x5_1 ∧ Aside0 (qx.l0 kq x0_1 x1_1 x5_1 = some (r1, r2)) ∧ Aside0 (kq ≤ k) ∧ Aside0 (Kd.R k27 27 w' w0.heap.size (fun k_ => (P0_ k_ ∨ w.heap.size ≤ k_)) u9000_ x0_1) ∧ Aside0 (Kept w w' (fun k_ => P0_ k_)) ∧ Aside0 (Below w0.heap.size w0 w'))
 case atStart => exact ⟨(l0), (a1), (0), (by first | rfl | (simp; done) | (simp [*]; done)), (by first | rfl | (simp; done) | (simp [*]; done)), H', ⟨Nat.le_refl _⟩, ⟨by (with_reducible repeat (first | apply Kd.qF | apply Kd.qE | apply Kd.qH)); exact HO0.out⟩, ⟨by repeat (first | (with_reducible first | exact HK.out | apply Kept.alloc | apply Kept.drewN | apply Kept.drew) | exact HK.out)⟩, ⟨bl⟩⟩
 case round =>
  clear H'
  try clear p2
  obtain ⟨x0_1, x1_1, x5_1, rfl, rfl, HA, HK1, HO_0, HK, HB⟩ := hrel
  cases gk with
  | zero => exact absurd HA.out (by simp [qx.l0])
  | succ k1 =>
   have H := HA.out
   clear HA
   simp only [qx.l0] at H
   by_cases c3 : x5_1 < (x0_1.length : Int)
   ·rw [if_pos c3] at H
    have c3b0 : decide (x5_1 < (x0_1.length : Int)) = true := decide_eq_true c3
    clear c3
    by_cases c4 : 0 ≤ x5_1
    ·rw [if_pos c4] at H
     have c4b0 : decide (0 ≤ x5_1) = true := decide_eq_true c4
     clear c4
     obtain ⟨y397, hy397⟩ : ∃ y_ : List (S27), y_ = (x0_1.set (x5_1 : Int).toNat (⟨x1_1, (qK x0_1 x5_1).f1, (qK x0_1 x5_1).f2⟩ : S27)) := ⟨_, rfl⟩
     replace H : ((some (y397.set (x5_1 : Int).toNat (⟨(qK y397 x5_1).f0, wrap64 (x1_1 + 1), (qK y397 x5_1).f2⟩ : S27) : List (S27))).bind fun y398 => (qx.l0 k1 (y398.set (x5_1 : Int).toNat (⟨(qK y398 x5_1).f0, (qK y398 x5_1).f1, wrap64 ((wrap64 (x1_1 + 1)) + 1)⟩ : S27)) (wrap64 ((wrap64 ((wrap64 (x1_1 + 1)) + 1)) + 1)) (wrap64 (x5_1 + 1)))) = some (r1, r2) := by first | (rw [hy397]; with_reducible exact H) | (have H2_ := (Option.bind_some _ _).symm.trans H; rw [hy397]; with_reducible exact H2_) | (have H2_ := (Option.bind_some _ _).symm.trans H; with_reducible exact H2_) | with_reducible exact H | (rw [hy397]; exact H) | exact H
     have Ny397 := Aside0.mk hy397
     clear hy397
     obtain ⟨y398, hy398⟩ : ∃ y_ : List (S27), y_ = (y397.set (x5_1 : Int).toNat (⟨(qK y397 x5_1).f0, wrap64 (x1_1 + 1), (qK y397 x5_1).f2⟩ : S27)) := ⟨_, rfl⟩
     replace H : (qx.l0 k1 (y398.set (x5_1 : Int).toNat (⟨(qK y398 x5_1).f0, (qK y398 x5_1).f1, wrap64 ((wrap64 (x1_1 + 1)) + 1)⟩ : S27)) (wrap64 ((wrap64 ((wrap64 (x1_1 + 1)) + 1)) + 1)) (wrap64 (x5_1 + 1))) = some (r1, r2) := by first | (rw [hy398]; with_reducible exact H) | (have H2_ := (Option.bind_some _ _).symm.trans H; rw [hy398]; with_reducible exact H2_) | (have H2_ := (Option.bind_some _ _).symm.trans H; with_reducible exact H2_) | with_reducible exact H | (rw [hy398]; exact H) | exact H
     have Ny398 := Aside0.mk hy398
     clear hy398
     obtain ⟨y399, hy399⟩ : ∃ y_ : List (S27), y_ = (y398.set (x5_1 : Int).toNat (⟨(qK y398 x5_1).f0, (qK y398 x5_1).f1, wrap64 ((wrap64 (x1_1 + 1)) + 1)⟩ : S27)) := ⟨_, rfl⟩
     replace H : (qx.l0 k1 y399 (wrap64 ((wrap64 ((wrap64 (x1_1 + 1)) + 1)) + 1)) (wrap64 (x5_1 + 1))) = some (r1, r2) := by first | (rw [hy399]; with_reducible exact H) | (have H2_ := (Option.bind_some _ _).symm.trans H; rw [hy399]; with_reducible exact H2_) | (have H2_ := (Option.bind_some _ _).symm.trans H; with_reducible exact H2_) | with_reducible exact H | (rw [hy399]; exact H) | exact H
     have Ny399 := Aside0.mk hy399
     clear hy399
     have H' := Aside0.mk H
     clear H
     obtain ⟨Ao8, co8, eo8⟩ := Kd.qo HO_0.out
     subst eo8
     have p5 : 0 ≤ (x5_1 : Int) := of_decide_eq_true (by first | (with_reducible assumption) | assumption)
     have q5 : (x5_1 : Int) < ((x0_1.length : Int) : Int) := of_decide_eq_true (by first | (with_reducible assumption) | assumption)
     obtain ⟨go5, co5, eo5, gb5, gl5, cl5, HG5⟩ := Kd.R_form HO_0.out (by omega)
     (first | cases eo5 | (injection eo5 with ea_ en_ ec_; (first | subst ea_ | (injection ea_ with ea_; subst ea_)); subst ec_; clear en_))
     have GB5 := Aside0.mk gb5
     have GG5 := Aside0.mk HG5
     clear gb5 gl5 HG5
     have HMgo5 := Aside0.mk (show (P0_ go5 ∨ w.heap.size ≤ go5) from (HO_0.out.1 _ rfl))
     obtain ⟨ce5, hcl5, hM5, hcc5, hfr5⟩ := Kd.qTC HO_0.out z27 (x5_1 : Int) p5 q5
     obtain rfl := qPB hM5
     have hx5_0 : wr.cell? ⟨go5, (x5_1 : Int).toNat * 3, none⟩ = some (.int .i64 ((qK x0_1 x5_1).f0)) := hcc5 0 _ rfl
     have hx5_1 : wr.cell? ⟨go5, (x5_1 : Int).toNat * 3 + 1, none⟩ = some (.int .i64 ((qK x0_1 x5_1).f1)) := hcc5 1 _ rfl
     have hx5_2 : wr.cell? ⟨go5, (x5_1 : Int).toNat * 3 + 2, none⟩ = some (.int .i64 ((qK x0_1 x5_1).f2)) := hcc5 2 _ rfl
     have hf5_0 : wr.frozen? ⟨go5, (x5_1 : Int).toNat * 3, none⟩ = false := hfr5 0
     have hf5_1 : wr.frozen? ⟨go5, (x5_1 : Int).toNat * 3 + 1, none⟩ = false := hfr5 1
     have hf5_2 : wr.frozen? ⟨go5, (x5_1 : Int).toNat * 3 + 2, none⟩ = false := hfr5 2
     clear hcl5 hcc5 hfr5 hM5
     replace p5 := eq_true p5
     replace q5 := eq_true q5
     have HX9 := Aside0.mk (show Kd.R k27 27 wr w0.heap.size (fun k_ => (P0_ k_ ∨ w.heap.size ≤ k_)) (.slice (some ⟨go5, 0, none⟩) x0_1.length co8) x0_1 from (by (with_reducible repeat (first | apply Kd.qF | apply Kd.qE | apply Kd.qH)); exact HO_0.out))
     obtain ⟨ce9, hcl9, hM9, hcc9, hfr9⟩ := Kd.qTC HX9.out z27 (x5_1 : Int) (of_decide_eq_true (by first | (with_reducible assumption) | assumption)) (by have h_ : (x5_1 : Int) < ((x0_1.length : Int) : Int) := of_decide_eq_true (by first | (with_reducible assumption) | assumption); first | exact h_ | (have e_ := (Kd.qT HO_0.out).1; omega) | simpa using h_)
     obtain rfl := qPB hM9
     have HP9 := Kd.R_seg HX9.out (x5_1 : Int) (of_decide_eq_true (by first | (with_reducible assumption) | assumption)) (by have h_ : (x5_1 : Int) < ((x0_1.length : Int) : Int) := of_decide_eq_true (by first | (with_reducible assumption) | assumption); first | exact h_ | (have e_ := (Kd.qT HO_0.out).1; omega) | simpa using h_) (seg := [.int .i64 x1_1]) (j := 0) hcl9 hcc9 (show 1 ≤ 3 from by decide) (x' := (⟨x1_1, (qK x0_1 x5_1).f1, (qK x0_1 x5_1).f2⟩ : S27)) (qVB _ _ _ (⟨x1_1, (qK x0_1 x5_1).f1, (qK x0_1 x5_1).f2⟩ : S27) ) (fun _ hk => hk)
     have hx9_0 := hcc9 0 _ rfl
     (try simp only [show (k27).sz = 3 from rfl, Nat.mul_one, Nat.add_zero] at hx9_0)
     have hf9_0 := hfr9 0
     (try simp only [show (k27).sz = 3 from rfl, Nat.mul_one, Nat.add_zero] at hf9_0)
     clear hcl9 hcc9 hfr9 hM9
     go_wp2_with (first | ((with_reducible refine qAC (t := 3) (p := 16) rfl ?_); refine qmB (t := 3) (p := 16) (v := ?vo_w10) (w1 := (wr.setCell ⟨go5, (x5_1 : Int).toNat * 3, none⟩ (.int .i64 x1_1))) ?hg ?ho ?hn ?hr ?_; (case ho => rfl); (case hg => rfl); (case hn => rfl); (case hr => first | (go_simp; done) | (go_simp; rfl)); intro w10 hw; have hg : wr.grownBy w10 (some go5) := (by rw [hw]; exact HP9.2); have hp_ : Kd.R k27 27 w10 w0.heap.size (fun k_ => (P0_ k_ ∨ w.heap.size ≤ k_)) (.slice (some ⟨go5, 0, none⟩) x0_1.length co8) y397 := (by rw [hw, Ny397.out]; exact HP9.1); clear HP9; have n0_ := Aside0.mk (hp_); have n1_ := Aside0.mk ((by rw [hw]; exact qVA (HB.out) GB5.out : Below w0.heap.size w0 w10)); have n2_ := Aside0.mk (Kept.qEC (S := (fun k_ => P0_ k_)) hg (by repeat (first | (with_reducible first | exact HK.out | apply Kept.alloc | apply Kept.drewN | apply Kept.drew) | exact HK.out)) (fun k_ e_ => (HO_0.out.1 k_ e_))); clear HO_0; clear HB; clear HK; have HO_0 := n0_; have HB := n1_; have HK := n2_; clear n0_ n1_ n2_; clear hg hw hp_; have p6 : 0 ≤ (x5_1 : Int) := of_decide_eq_true (by first | (with_reducible assumption) | assumption); have q6 : (x5_1 : Int) < ((x0_1.length : Int) : Int) := of_decide_eq_true (by first | (with_reducible assumption) | assumption); obtain ⟨ce6, hcl6, hM6, hcc6, hfr6⟩ := Kd.qTC HO_0.out z27 (x5_1 : Int) p6 q6; obtain rfl := qPB hM6; have hx6_0 : w10.cell? ⟨go5, (x5_1 : Int).toNat * 3, none⟩ = some (.int .i64 ((qK y397 x5_1).f0)) := hcc6 0 _ rfl; have hx6_1 : w10.cell? ⟨go5, (x5_1 : Int).toNat * 3 + 1, none⟩ = some (.int .i64 ((qK y397 x5_1).f1)) := hcc6 1 _ rfl; have hx6_2 : w10.cell? ⟨go5, (x5_1 : Int).toNat * 3 + 2, none⟩ = some (.int .i64 ((qK y397 x5_1).f2)) := hcc6 2 _ rfl; have hf6_0 : w10.frozen? ⟨go5, (x5_1 : Int).toNat * 3, none⟩ = false := hfr6 0; have hf6_1 : w10.frozen? ⟨go5, (x5_1 : Int).toNat * 3 + 1, none⟩ = false := hfr6 1; have hf6_2 : w10.frozen? ⟨go5, (x5_1 : Int).toNat * 3 + 2, none⟩ = false := hfr6 2; clear hcl6 hcc6 hfr6 hM6; replace p6 := eq_true p6; replace q6 := eq_true q6; have HX11 := Aside0.mk (show Kd.R k27 27 w10 w0.heap.size (fun k_ => (P0_ k_ ∨ w.heap.size ≤ k_)) (.slice (some ⟨go5, 0, none⟩) x0_1.length co8) y397 from (by (with_reducible repeat (first | apply Kd.qF | apply Kd.qE | apply Kd.qH)); exact HO_0.out)); obtain ⟨ce11, hcl11, hM11, hcc11, hfr11⟩ := Kd.qTC HX11.out z27 (x5_1 : Int) (of_decide_eq_true (by first | (with_reducible assumption) | assumption)) (by have h_ : (x5_1 : Int) < ((x0_1.length : Int) : Int) := of_decide_eq_true (by first | (with_reducible assumption) | assumption); first | exact h_ | (have e_ := (Kd.qT HO_0.out).1; omega) | simpa using h_); obtain rfl := qPB hM11; have HP11 := Kd.R_seg HX11.out (x5_1 : Int) (of_decide_eq_true (by first | (with_reducible assumption) | assumption)) (by have h_ : (x5_1 : Int) < ((x0_1.length : Int) : Int) := of_decide_eq_true (by first | (with_reducible assumption) | assumption); first | exact h_ | (have e_ := (Kd.qT HO_0.out).1; omega) | simpa using h_) (seg := [.int .i64 (wrap64 (x1_1 + 1))]) (j := 1) hcl11 hcc11 (show 2 ≤ 3 from by decide) (x' := (⟨(qK y397 x5_1).f0, wrap64 (x1_1 + 1), (qK y397 x5_1).f2⟩ : S27)) (qVB _ _ _ (⟨(qK y397 x5_1).f0, wrap64 (x1_1 + 1), (qK y397 x5_1).f2⟩ : S27) ) (fun _ hk => hk); have hx11_1 := hcc11 1 _ rfl; (try simp only [show (k27).sz = 3 from rfl, Nat.mul_one, Nat.add_zero] at hx11_1); have hf11_1 := hfr11 1; (try simp only [show (k27).sz = 3 from rfl, Nat.mul_one, Nat.add_zero] at hf11_1); clear hcl11 hcc11 hfr11 hM11) | ((with_reducible refine qAC (t := 3) (p := 23) rfl ?_); refine qmB (t := 3) (p := 23) (v := ?vo_w12) (w1 := (w10.setCell ⟨go5, (x5_1 : Int).toNat * 3 + 1, none⟩ (.int .i64 (wrap64 (x1_1 + 1))))) ?hg ?ho ?hn ?hr ?_; (case ho => rfl); (case hg => rfl); (case hn => rfl); (case hr => first | (go_simp; done) | (go_simp; rfl)); intro w12 hw; have hg : w10.grownBy w12 (some go5) := (by rw [hw]; exact HP11.2); have hp_ : Kd.R k27 27 w12 w0.heap.size (fun k_ => (P0_ k_ ∨ w.heap.size ≤ k_)) (.slice (some ⟨go5, 0, none⟩) x0_1.length co8) y398 := (by rw [hw, Ny398.out]; exact HP11.1); clear HP11; have n0_ := Aside0.mk (hp_); have n1_ := Aside0.mk ((by rw [hw]; exact qVA (HB.out) GB5.out : Below w0.heap.size w0 w12)); have n2_ := Aside0.mk (Kept.qEC (S := (fun k_ => P0_ k_)) hg (by repeat (first | (with_reducible first | exact HK.out | apply Kept.alloc | apply Kept.drewN | apply Kept.drew) | exact HK.out)) (fun k_ e_ => (HO_0.out.1 k_ e_))); clear HO_0; clear HB; clear HK; have HO_0 := n0_; have HB := n1_; have HK := n2_; clear n0_ n1_ n2_; clear hg hw hp_; have p7 : 0 ≤ (x5_1 : Int) := of_decide_eq_true (by first | (with_reducible assumption) | assumption); have q7 : (x5_1 : Int) < ((x0_1.length : Int) : Int) := of_decide_eq_true (by first | (with_reducible assumption) | assumption); obtain ⟨ce7, hcl7, hM7, hcc7, hfr7⟩ := Kd.qTC HO_0.out z27 (x5_1 : Int) p7 q7; obtain rfl := qPB hM7; have hx7_0 : w12.cell? ⟨go5, (x5_1 : Int).toNat * 3, none⟩ = some (.int .i64 ((qK y398 x5_1).f0)) := hcc7 0 _ rfl; have hx7_1 : w12.cell? ⟨go5, (x5_1 : Int).toNat * 3 + 1, none⟩ = some (.int .i64 ((qK y398 x5_1).f1)) := hcc7 1 _ rfl; have hx7_2 : w12.cell? ⟨go5, (x5_1 : Int).toNat * 3 + 2, none⟩ = some (.int .i64 ((qK y398 x5_1).f2)) := hcc7 2 _ rfl; have hf7_0 : w12.frozen? ⟨go5, (x5_1 : Int).toNat * 3, none⟩ = false := hfr7 0; have hf7_1 : w12.frozen? ⟨go5, (x5_1 : Int).toNat * 3 + 1, none⟩ = false := hfr7 1; have hf7_2 : w12.frozen? ⟨go5, (x5_1 : Int).toNat * 3 + 2, none⟩ = false := hfr7 2; clear hcl7 hcc7 hfr7 hM7; replace p7 := eq_true p7; replace q7 := eq_true q7; have HX13 := Aside0.mk (show Kd.R k27 27 w12 w0.heap.size (fun k_ => (P0_ k_ ∨ w.heap.size ≤ k_)) (.slice (some ⟨go5, 0, none⟩) x0_1.length co8) y398 from (by (with_reducible repeat (first | apply Kd.qF | apply Kd.qE | apply Kd.qH)); exact HO_0.out)); obtain ⟨ce13, hcl13, hM13, hcc13, hfr13⟩ := Kd.qTC HX13.out z27 (x5_1 : Int) (of_decide_eq_true (by first | (with_reducible assumption) | assumption)) (by have h_ : (x5_1 : Int) < ((x0_1.length : Int) : Int) := of_decide_eq_true (by first | (with_reducible assumption) | assumption); first | exact h_ | (have e_ := (Kd.qT HO_0.out).1; omega) | simpa using h_); obtain rfl := qPB hM13; have HP13 := Kd.R_seg HX13.out (x5_1 : Int) (of_decide_eq_true (by first | (with_reducible assumption) | assumption)) (by have h_ : (x5_1 : Int) < ((x0_1.length : Int) : Int) := of_decide_eq_true (by first | (with_reducible assumption) | assumption); first | exact h_ | (have e_ := (Kd.qT HO_0.out).1; omega) | simpa using h_) (seg := [.int .i64 (wrap64 ((wrap64 (x1_1 + 1)) + 1))]) (j := 2) hcl13 hcc13 (show 3 ≤ 3 from by decide) (x' := (⟨(qK y398 x5_1).f0, (qK y398 x5_1).f1, wrap64 ((wrap64 (x1_1 + 1)) + 1)⟩ : S27)) (qVB _ _ _ (⟨(qK y398 x5_1).f0, (qK y398 x5_1).f1, wrap64 ((wrap64 (x1_1 + 1)) + 1)⟩ : S27) ) (fun _ hk => hk); have hx13_2 := hcc13 2 _ rfl; (try simp only [show (k27).sz = 3 from rfl, Nat.mul_one, Nat.add_zero] at hx13_2); have hf13_2 := hfr13 2; (try simp only [show (k27).sz = 3 from rfl, Nat.mul_one, Nat.add_zero] at hf13_2); clear hcl13 hcc13 hfr13 hM13) | ((with_reducible refine qAC (t := 3) (p := 30) rfl ?_); refine qmB (t := 3) (p := 30) (v := ?vo_w14) (w1 := (w12.setCell ⟨go5, (x5_1 : Int).toNat * 3 + 2, none⟩ (.int .i64 (wrap64 ((wrap64 (x1_1 + 1)) + 1))))) ?hg ?ho ?hn ?hr ?_; (case ho => rfl); (case hg => rfl); (case hn => rfl); (case hr => first | (go_simp; done) | (go_simp; rfl)); intro w14 hw; have hg : w12.grownBy w14 (some go5) := (by rw [hw]; exact HP13.2); have hp_ : Kd.R k27 27 w14 w0.heap.size (fun k_ => (P0_ k_ ∨ w.heap.size ≤ k_)) (.slice (some ⟨go5, 0, none⟩) x0_1.length co8) y399 := (by rw [hw, Ny399.out]; exact HP13.1); clear HP13; have n0_ := Aside0.mk (hp_); have n1_ := Aside0.mk ((by rw [hw]; exact qVA (HB.out) GB5.out : Below w0.heap.size w0 w14)); have n2_ := Aside0.mk (Kept.qEC (S := (fun k_ => P0_ k_)) hg (by repeat (first | (with_reducible first | exact HK.out | apply Kept.alloc | apply Kept.drewN | apply Kept.drew) | exact HK.out)) (fun k_ e_ => (HO_0.out.1 k_ e_))); clear HO_0; clear HB; clear HK; have HO_0 := n0_; have HB := n1_; have HK := n2_; clear n0_ n1_ n2_; clear hg hw hp_))
     go_roundg k1
     case measure => have := HK1.out; omega
     case rel => exact ⟨(y399), (wrap64 ((wrap64 ((wrap64 (x1_1 + 1)) + 1)) + 1)), (wrap64 (x5_1 + 1)), (by first | rfl | (simp; done) | (simp [*]; done)), (by first | rfl | (simp; done) | (simp [*]; done)), H', ⟨by have := HK1.out; omega⟩, ⟨by (with_reducible repeat (first | apply Kd.qF | apply Kd.qE | apply Kd.qH)); exact HO_0.out⟩, ⟨by repeat (first | (with_reducible first | exact HK.out | apply Kept.alloc | apply Kept.drewN | apply Kept.drew) | exact HK.out)⟩, ⟨bl⟩⟩
    ·rw [if_neg c4] at H
     exact absurd H (by simp)
   ·rw [if_neg c3] at H
    have c3b0 : decide (x5_1 < (x0_1.length : Int)) = false := decide_eq_false c3
    clear c3
    simp only [Option.some.injEq, Prod.mk.injEq] at H
    obtain ⟨rfl, rfl⟩ := H
    obtain ⟨Ao15, co15, eo15⟩ := Kd.qo HO_0.out
    subst eo15
    go_wp2
    go_ret
    exact ⟨by first | rfl | (simp [qJ, qI] <;> rfl) | (simp [*, qJ, qI] <;> rfl), by (with_reducible repeat (first | apply Kd.qF | apply Kd.qE | apply Kd.qH)); exact HO_0.out, bl, by repeat (first | (with_reducible first | exact HK.out | apply Kept.alloc | apply Kept.drewN | apply Kept.drew) | exact HK.out)⟩
def qr.l0 : Nat → List (S27) → Int → Int → Option (Int)
 | 0, _, _, _ => none
 | k + 1, x0, x1, x5 => if x5 < (x0.length : Int) then (if 0 ≤ x5 then (if ((qK x0 x5).f0) = x1 then (if ((qK x0 x5).f1) = (wrap64 (x1 + 1)) then (if ((qK x0 x5).f2) = (wrap64 ((wrap64 (x1 + 1)) + 1)) then (qr.l0 k x0 (wrap64 ((wrap64 ((wrap64 (x1 + 1)) + 1)) + 1)) (wrap64 (x5 + 1))) else (some (-1))) else (some (-1))) else (some (-1))) else (none)) else (some x1)
def qr.f (k : Nat) (l0 : List (S27)) (a1 : Int) : Option (Int) := qr.l0 k l0 a1 0
set_option maxHeartbeats 8000000 in
set_option maxRecDepth 100000 in
theorem qr.calls (k : Nat) (A0 : Option Addr) (c0 : Nat) (l0 : List (S27)) (a1 : Int) (r : Int) (w : World) (hr0 : Kd.C k27 w A0 l0.length l0) (hc0 : l0.length ≤ c0) (h : qr.f k l0 a1 = some r) :
  Calls Tryd.prog 9 #[.slice A0 l0.length c0, .int .i64 a1] w fun e w' => e = .returned (.int .i64 r) ∧ Drawn0 w w' := by
 have HR0 := Aside0.mk hr0
 have HC0 := Aside0.mk hc0
 clear hr0 hc0
 have H : (qr.l0 k l0 a1 0) = some r := h
 clear h
 have H' := Aside0.mk H
 clear H
 go_enter Tryd.func9, Tryd.ntmps9
 go_wp2
 go_loopg [1, 5] k (fun kq v1 v5 w' => ∃ (x1_1 : Int) (x5_1 : Int), v1 = .int .i64 x1_1 ∧ v5 = .int .i64 x5_1 ∧ Aside0 (qr.l0 kq l0 x1_1 x5_1 = some r) ∧ Aside0 (kq ≤ k) ∧ Drawn0 w w')
 case atStart => exact ⟨(a1), (0), (by first | rfl | (simp; done) | (simp [*]; done)), (by first | rfl | (simp; done) | (simp [*]; done)), H', ⟨Nat.le_refl _⟩, by repeat (first | exact Drawn0.refl _ | apply Drawn0.step)⟩
 case round =>
  clear H'
  try clear p2
  obtain ⟨x1_1, x5_1, rfl, rfl, HA, HK1, ⟨m1, rfl⟩⟩ := hrel
  cases gk with
  | zero => exact absurd HA.out (by simp [qr.l0])
  | succ k1 =>
   have H := HA.out
   clear HA
   simp only [qr.l0] at H
   by_cases c3 : x5_1 < (l0.length : Int)
   ·rw [if_pos c3] at H
    have c3b0 : decide (x5_1 < (l0.length : Int)) = true := decide_eq_true c3
    clear c3
    by_cases c4 : 0 ≤ x5_1
    ·rw [if_pos c4] at H
     have c4b0 : decide (0 ≤ x5_1) = true := decide_eq_true c4
     clear c4
     by_cases c5 : ((qK l0 x5_1).f0) = x1_1
     ·rw [if_pos c5] at H
      have c5b0 : (((qK l0 x5_1).f0) == x1_1) = true := beq_iff_eq.mpr c5
      have c5b1 : (((qK l0 x5_1).f0) != x1_1) = false := bne_eq_false_iff_eq.mpr c5
      clear c5
      by_cases c6 : ((qK l0 x5_1).f1) = (wrap64 (x1_1 + 1))
      ·rw [if_pos c6] at H
       have c6b0 : (((qK l0 x5_1).f1) == (wrap64 (x1_1 + 1))) = true := beq_iff_eq.mpr c6
       have c6b1 : (((qK l0 x5_1).f1) != (wrap64 (x1_1 + 1))) = false := bne_eq_false_iff_eq.mpr c6
       clear c6
       by_cases c7 : ((qK l0 x5_1).f2) = (wrap64 ((wrap64 (x1_1 + 1)) + 1))
       ·rw [if_pos c7] at H
        have c7b0 : (((qK l0 x5_1).f2) == (wrap64 ((wrap64 (x1_1 + 1)) + 1))) = true := beq_iff_eq.mpr c7
        have c7b1 : (((qK l0 x5_1).f2) != (wrap64 ((wrap64 (x1_1 + 1)) + 1))) = false := bne_eq_false_iff_eq.mpr c7
        clear c7
        have H' := Aside0.mk H
        clear H
        have p400 : 0 ≤ (x5_1 : Int) := of_decide_eq_true (by first | (with_reducible assumption) | assumption)
        have q400 : x5_1 < (l0.length : Int) := of_decide_eq_true (by first | (with_reducible assumption) | assumption)
        obtain ⟨ad400, e400, hx400_0, hx400_1, hx400_2⟩ := qnA HR0.out x5_1 p400 q400
        cases e400
        replace p400 := eq_true p400
        replace q400 := eq_true q400
        have p401 : 0 ≤ (x5_1 : Int) := of_decide_eq_true (by first | (with_reducible assumption) | assumption)
        have q401 : x5_1 < (l0.length : Int) := of_decide_eq_true (by first | (with_reducible assumption) | assumption)
        obtain ⟨ad401, e401, hx401_0, hx401_1, hx401_2⟩ := qnA HR0.out x5_1 p401 q401
        obtain rfl : ad400 = ad401 := (by injection e401)
        replace p401 := eq_true p401
        replace q401 := eq_true q401
        have p402 : 0 ≤ (x5_1 : Int) := of_decide_eq_true (by first | (with_reducible assumption) | assumption)
        have q402 : x5_1 < (l0.length : Int) := of_decide_eq_true (by first | (with_reducible assumption) | assumption)
        obtain ⟨ad402, e402, hx402_0, hx402_1, hx402_2⟩ := qnA HR0.out x5_1 p402 q402
        obtain rfl : ad400 = ad402 := (by injection e402)
        replace p402 := eq_true p402
        replace q402 := eq_true q402
        go_wp2
        go_roundg k1
        case measure => have := HK1.out; omega
        case rel => exact ⟨(wrap64 ((wrap64 ((wrap64 (x1_1 + 1)) + 1)) + 1)), (wrap64 (x5_1 + 1)), (by first | rfl | (simp; done) | (simp [*]; done)), (by first | rfl | (simp; done) | (simp [*]; done)), H', ⟨by have := HK1.out; omega⟩, by repeat (first | exact Drawn0.refl _ | apply Drawn0.step)⟩
       ·rw [if_neg c7] at H
        have c7b0 : (((qK l0 x5_1).f2) == (wrap64 ((wrap64 (x1_1 + 1)) + 1))) = false := beq_eq_false_iff_ne.mpr c7
        have c7b1 : (((qK l0 x5_1).f2) != (wrap64 ((wrap64 (x1_1 + 1)) + 1))) = true := bne_iff_ne.mpr c7
        obtain rfl := Option.some.inj H
        have p400 : 0 ≤ (x5_1 : Int) := of_decide_eq_true (by first | (with_reducible assumption) | assumption)
        have q400 : x5_1 < (l0.length : Int) := of_decide_eq_true (by first | (with_reducible assumption) | assumption)
        obtain ⟨ad400, e400, hx400_0, hx400_1, hx400_2⟩ := qnA HR0.out x5_1 p400 q400
        cases e400
        replace p400 := eq_true p400
        replace q400 := eq_true q400
        have p401 : 0 ≤ (x5_1 : Int) := of_decide_eq_true (by first | (with_reducible assumption) | assumption)
        have q401 : x5_1 < (l0.length : Int) := of_decide_eq_true (by first | (with_reducible assumption) | assumption)
        obtain ⟨ad401, e401, hx401_0, hx401_1, hx401_2⟩ := qnA HR0.out x5_1 p401 q401
        obtain rfl : ad400 = ad401 := (by injection e401)
        replace p401 := eq_true p401
        replace q401 := eq_true q401
        have p402 : 0 ≤ (x5_1 : Int) := of_decide_eq_true (by first | (with_reducible assumption) | assumption)
        have q402 : x5_1 < (l0.length : Int) := of_decide_eq_true (by first | (with_reducible assumption) | assumption)
        obtain ⟨ad402, e402, hx402_0, hx402_1, hx402_2⟩ := qnA HR0.out x5_1 p402 q402
        obtain rfl : ad400 = ad402 := (by injection e402)
        replace p402 := eq_true p402
        replace q402 := eq_true q402
        go_wp2
        go_ret
        exact ⟨by first | rfl | (simp; done) | (simp [*]; done), by repeat (first | exact Drawn0.refl _ | apply Drawn0.step)⟩
      ·rw [if_neg c6] at H
       have c6b0 : (((qK l0 x5_1).f1) == (wrap64 (x1_1 + 1))) = false := beq_eq_false_iff_ne.mpr c6
       have c6b1 : (((qK l0 x5_1).f1) != (wrap64 (x1_1 + 1))) = true := bne_iff_ne.mpr c6
       obtain rfl := Option.some.inj H
       have p400 : 0 ≤ (x5_1 : Int) := of_decide_eq_true (by first | (with_reducible assumption) | assumption)
       have q400 : x5_1 < (l0.length : Int) := of_decide_eq_true (by first | (with_reducible assumption) | assumption)
       obtain ⟨ad400, e400, hx400_0, hx400_1, hx400_2⟩ := qnA HR0.out x5_1 p400 q400
       cases e400
       replace p400 := eq_true p400
       replace q400 := eq_true q400
       have p401 : 0 ≤ (x5_1 : Int) := of_decide_eq_true (by first | (with_reducible assumption) | assumption)
       have q401 : x5_1 < (l0.length : Int) := of_decide_eq_true (by first | (with_reducible assumption) | assumption)
       obtain ⟨ad401, e401, hx401_0, hx401_1, hx401_2⟩ := qnA HR0.out x5_1 p401 q401
       obtain rfl : ad400 = ad401 := (by injection e401)
       replace p401 := eq_true p401
       replace q401 := eq_true q401
       go_wp2
       go_ret
       exact ⟨by first | rfl | (simp; done) | (simp [*]; done), by repeat (first | exact Drawn0.refl _ | apply Drawn0.step)⟩
     ·rw [if_neg c5] at H
      have c5b0 : (((qK l0 x5_1).f0) == x1_1) = false := beq_eq_false_iff_ne.mpr c5
      have c5b1 : (((qK l0 x5_1).f0) != x1_1) = true := bne_iff_ne.mpr c5
      obtain rfl := Option.some.inj H
      have p400 : 0 ≤ (x5_1 : Int) := of_decide_eq_true (by first | (with_reducible assumption) | assumption)
      have q400 : x5_1 < (l0.length : Int) := of_decide_eq_true (by first | (with_reducible assumption) | assumption)
      obtain ⟨ad400, e400, hx400_0, hx400_1, hx400_2⟩ := qnA HR0.out x5_1 p400 q400
      cases e400
      replace p400 := eq_true p400
      replace q400 := eq_true q400
      go_wp2
      go_ret
      exact ⟨by first | rfl | (simp; done) | (simp [*]; done), by repeat (first | exact Drawn0.refl _ | apply Drawn0.step)⟩
    ·rw [if_neg c4] at H
     exact absurd H (by simp)
   ·rw [if_neg c3] at H
    have c3b0 : decide (x5_1 < (l0.length : Int)) = false := decide_eq_false c3
    clear c3
    obtain rfl := Option.some.inj H
    go_wp2
    go_ret
    exact ⟨by first | rfl | (simp; done) | (simp [*]; done), by repeat (first | exact Drawn0.refl _ | apply Drawn0.step)⟩
end Go.Proofs.YtdagdhmcebeadaaDoor.P
