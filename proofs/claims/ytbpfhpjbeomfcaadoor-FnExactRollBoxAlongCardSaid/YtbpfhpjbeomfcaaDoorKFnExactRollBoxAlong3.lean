/- The program's RollBoxAlong returns what the reference's returns, for all texts, boxes and words (the law lets longer texts by). No further condition. -/
import Derived.Test.YtbpfhpjbeomfcaaDoorKFnExactRollBoxAlong2
import Derived.ChangeArms
import Derived.ChangeSame
import Derived.Deep.Slices
import Derived.ProofKit
import Derived.OpenShut
import Derived.SizedLaws
import Derived.Test.YtbpfhpjbeomfcaaDoorProg
import Derived.Lib.Strings
import Derived.Lib.SplitLaws

namespace Go.Proofs.YtbpfhpjbeomfcaaDoor.P
open Go.RowKit Go.Proofs.YtbpfhpjbeomfcaaDoorW.PrintWords Go.Proofs.YtbpfhpjbeomfcaaDoorW.PrintLast Go.Proofs.YtbpfhpjbeomfcaaDoorW.PrintMore
attribute [local go_sem] qx qv qGA qFA qm ql qw qu   -- for this text's walks alone
set_option linter.unusedVariables false
set_option linter.unusedSimpArgs false
mutual
def qU.j0 : Nat → Int → Bool → Int → Int → Int → Option (Int × Int × Int)
 | 0, _, _, _, _, _ => none
 | k + 1, x1, x5, x330000, x330001, x330002 => if x330002 = 0 then (if x1 = 110 then (some (x330000, wrap64 (x330001 - 2), 2)) else (if x1 = 101 then (some (wrap64 (x330000 + 1), x330001, 1)) else (if x1 = 115 then (some (x330000, wrap64 (x330001 + 1), 2)) else (some (wrap64 (x330000 - 2), x330001, 1))))) else (if x5 = true then (qU.j1 k x1 x5 (x1 == 101) x330000 x330001 x330002) else (qU.j1 k x1 x5 false x330000 x330001 x330002))
def qU.j1 : Nat → Int → Bool → Bool → Int → Int → Int → Option (Int × Int × Int)
 | 0, _, _, _, _, _, _ => none
 | k + 1, x1, x5, x67, x330000, x330001, x330002 => if x67 = true then (some (wrap64 (x330000 + 2), x330001, 0)) else (if x5 = true then (qU.j2 k x1 x5 (x1 == 115) x330000 x330001 x330002) else (qU.j2 k x1 x5 false x330000 x330001 x330002))
def qU.j2 : Nat → Int → Bool → Bool → Int → Int → Int → Option (Int × Int × Int)
 | 0, _, _, _, _, _, _ => none
 | k + 1, x1, x5, x79, x330000, x330001, x330002 => if x79 = true then (some (x330000, wrap64 (x330001 + 2), 0)) else ((qoA.f x330000 x330001 x1).bind fun bt331 => (if x5 = true then (some (bt331.1, bt331.2, 0)) else (some (bt331.1, bt331.2, x330002))))
end
def qU.f (k : Nat) (a0_0 : Int) (a0_1 : Int) (a0_2 : Int) (a1 : Int) : Option (Int × Int × Int) := if a0_2 = 2 then (if a1 = 110 then (qU.j0 k a1 true a0_0 a0_1 a0_2) else (if a1 = 115 then (qU.j0 k a1 true a0_0 a0_1 a0_2) else (if a0_2 = 1 then (if a1 = 101 then (qU.j0 k a1 true a0_0 a0_1 a0_2) else (qU.j0 k a1 (a1 == 119) a0_0 a0_1 a0_2)) else (qU.j0 k a1 false a0_0 a0_1 a0_2)))) else (if a0_2 = 1 then (if a1 = 101 then (qU.j0 k a1 true a0_0 a0_1 a0_2) else (qU.j0 k a1 (a1 == 119) a0_0 a0_1 a0_2)) else (qU.j0 k a1 false a0_0 a0_1 a0_2))
set_option maxHeartbeats 8000000 in
set_option maxRecDepth 100000 in
theorem qU.calls (k : Nat) (a0_0 : Int) (a0_1 : Int) (a0_2 : Int) (a1 : Int) (r1 : Int) (r2 : Int) (r3 : Int) (w : World) (h : qU.f k a0_0 a0_1 a0_2 a1 = some (r1, r2, r3)) :
  Calls Tryd.prog 88 #[.agg #[.int .i64 a0_0, .int .i64 a0_1, .int .i64 a0_2], .int .u8 a1] w fun e w' => e = .returned (.agg #[.int .i64 r1, .int .i64 r2, .int .i64 r3]) ∧ Below w.heap.size w w' := by
 have hu27 := Tryd.underlying27
 have HB := Aside0.mk (Below.refl w.heap.size w)
 have H : (if a0_2 = 2 then (if a1 = 110 then (qU.j0 k a1 true a0_0 a0_1 a0_2) else (if a1 = 115 then (qU.j0 k a1 true a0_0 a0_1 a0_2) else (if a0_2 = 1 then (if a1 = 101 then (qU.j0 k a1 true a0_0 a0_1 a0_2) else (qU.j0 k a1 (a1 == 119) a0_0 a0_1 a0_2)) else (qU.j0 k a1 false a0_0 a0_1 a0_2)))) else (if a0_2 = 1 then (if a1 = 101 then (qU.j0 k a1 true a0_0 a0_1 a0_2) else (qU.j0 k a1 (a1 == 119) a0_0 a0_1 a0_2)) else (qU.j0 k a1 false a0_0 a0_1 a0_2))) = some (r1, r2, r3) := h
 clear h
 have HC3 := Aside0.mk H
 clear H
 go_enter Tryd.func88, Tryd.ntmps88
 go_upto_region 1 with (first | ((with_reducible refine qc (N := 2) rfl ?_); refine qY ?hg (N := 2) ?hd (cs := #[.int .i64 a0_0, .int .i64 a0_1, .int .i64 a0_2]) (t := 27) ?hr ?_; (case hd => rfl); (case hg => rfl); (case hr => first | (go_simp; done) | (go_simp; rfl)); intro gb329 hg w4 hbox hb; have n0_ := Aside0.mk (qL (by repeat (first | (with_reducible first | exact HB.out | apply qF | apply qA | apply qE) | exact HB.out)) hb); have n1_ := Aside0.mk (hbox); have n2_ := Aside0.mk ((by rw [hg]; exact (qJ (by repeat (first | (with_reducible first | exact HB.out | apply qF | apply qA | apply qE) | exact HB.out))) : w.heap.size ≤ gb329)); have n3_ := Aside0.mk ((by rw [hg]; exact (qJ (by repeat (first | (with_reducible first | exact HB.out | apply qF | apply qA | apply qE) | exact HB.out))) : w.heap.size ≤ gb329)); clear HB; have HB := n0_; have BK329 := n1_; have GW329 := n2_; have GE329 := n3_; clear n0_ n1_ n2_ n3_; clear hb hbox hg) | ((with_reducible refine qc (N := 4) rfl ?_); refine qY ?hg (N := 4) ?hd (cs := #[.int .i64 0, .int .i64 0, .int .i64 0]) (t := 27) ?hr ?_; (case hd => rfl); (case hg => rfl); (case hr => first | (go_simp; done) | (go_simp; rfl)); intro gb330 hg w5 hbox hb; have n0_ := Aside0.mk (qK (g := gb329) (o := .cells #[.int .i64 a0_0, .int .i64 a0_1, .int .i64 a0_2] 27 (0, 0)) (by (with_reducible repeat (first | refine qC ?_ _ | refine qD ?_ | refine qB ?_ _)); exact BK329.out) hb); have n1_ := Aside0.mk (qL (by repeat (first | (with_reducible first | exact HB.out | apply qF | apply qA | apply qE | refine qG ?_ GE329.out) | exact HB.out)) hb); have n2_ := Aside0.mk (hbox); have n3_ := Aside0.mk ((by rw [hg]; exact (qJ (by repeat (first | (with_reducible first | exact HB.out | apply qF | apply qA | apply qE | refine qG ?_ GE329.out) | exact HB.out))) : w.heap.size ≤ gb330)); have n4_ := Aside0.mk ((by rw [hg]; exact (qJ (by repeat (first | (with_reducible first | exact HB.out | apply qF | apply qA | apply qE | refine qG ?_ GE329.out) | exact HB.out))) : w.heap.size ≤ gb330)); have n5_ := Aside0.mk ((by rw [hg]; exact Nat.ne_of_lt (qd (g := gb329) (o := .cells #[.int .i64 a0_0, .int .i64 a0_1, .int .i64 a0_2] 27 (0, 0)) (by (with_reducible repeat (first | refine qC ?_ _ | refine qD ?_ | refine qB ?_ _)); exact BK329.out)) : gb329 ≠ gb330)); have n6_ := Aside0.mk ((by rw [hg]; exact Nat.ne_of_gt (qd (g := gb329) (o := .cells #[.int .i64 a0_0, .int .i64 a0_1, .int .i64 a0_2] 27 (0, 0)) (by (with_reducible repeat (first | refine qC ?_ _ | refine qD ?_ | refine qB ?_ _)); exact BK329.out)) : gb330 ≠ gb329)); clear BK329; clear HB; have BK329 := n0_; have HB := n1_; have BK330 := n2_; have GW330 := n3_; have GE330 := n4_; have NB329_330 := n5_; have NB330_329 := n6_; clear n0_ n1_ n2_ n3_ n4_ n5_ n6_; clear hb hbox hg))
 (try simp only [Act.put, List.setIfInBounds_toArray, List.set_cons_zero, List.set_cons_succ])
 go_cut [5] (fun v5 wc => ∃ (kq : Nat) (x5_2 : Bool), v5 = .bool x5_2 ∧ Aside0 (qU.j0 kq a1 x5_2 a0_0 a0_1 a0_2 = some (r1, r2, r3)) ∧ Aside0 (kq ≤ k) ∧ Aside0 (wc.heap[gb329]? = some (.cells #[.int .i64 a0_0, .int .i64 a0_1, .int .i64 a0_2] 27 (0, 0))) ∧ Aside0 (wc.heap[gb330]? = some (.cells #[.int .i64 0, .int .i64 0, .int .i64 0] 27 (0, 0))) ∧ Aside0 (Below w.heap.size w wc))
 case first =>
  have H := HC3.out
  clear HC3
  by_cases c6 : a0_2 = 2
  ·rw [if_pos c6] at H
   have c6b0 : (a0_2 == 2) = true := beq_iff_eq.mpr c6
   have c6b1 : (a0_2 != 2) = false := bne_eq_false_iff_eq.mpr c6
   clear c6
   (first | rw [c6b0] | (simp only [i64_w, i32_w]; rw [c6b0]) | skip)
   by_cases c7 : a1 = 110
   ·rw [if_pos c7] at H
    have c7b0 : (a1 == 110) = true := beq_iff_eq.mpr c7
    have c7b1 : (a1 != 110) = false := bne_eq_false_iff_eq.mpr c7
    clear c7
    have H' := Aside0.mk H
    clear H
    have hnb8 := NB329_330.out
    have hnc8 := NB330_329.out
    have hcz9_0 : w5.cell? ⟨gb329, 0, none⟩ = some (.int .i64 a0_0) := (qI BK329.out 0).trans rfl
    have hcz9_1 : w5.cell? ⟨gb329, 1, none⟩ = some (.int .i64 a0_1) := (qI BK329.out 1).trans rfl
    have hcz9_2 : w5.cell? ⟨gb329, 2, none⟩ = some (.int .i64 a0_2) := (qI BK329.out 2).trans rfl
    have hfz9_0 := qH BK329.out 0
    have hfz9_1 := qH BK329.out 1
    have hfz9_2 := qH BK329.out 2
    go_wp2
    go_meet
    case rel => exact ⟨_, (true), (by first | rfl | (simp; done) | (simp [*]; done)), H', ⟨by first | omega | exact Nat.le_refl _⟩, ⟨by (with_reducible repeat (first | refine qC ?_ _ | refine qD ?_ | refine qB ?_ _)); exact BK329.out⟩, ⟨by (with_reducible repeat (first | refine qC ?_ _ | refine qD ?_ | refine qB ?_ _)); exact BK330.out⟩, ⟨by repeat (first | (with_reducible first | exact HB.out | apply qF | apply qA | apply qE | refine qG ?_ GE329.out | refine qG ?_ GE330.out) | exact HB.out)⟩⟩
   ·rw [if_neg c7] at H
    have c7b0 : (a1 == 110) = false := beq_eq_false_iff_ne.mpr c7
    have c7b1 : (a1 != 110) = true := bne_iff_ne.mpr c7
    by_cases c10 : a1 = 115
    ·rw [if_pos c10] at H
     have c10b0 : (a1 == 115) = true := beq_iff_eq.mpr c10
     have c10b1 : (a1 != 115) = false := bne_eq_false_iff_eq.mpr c10
     clear c10
     have H' := Aside0.mk H
     clear H
     have hnb11 := NB329_330.out
     have hnc11 := NB330_329.out
     have hcz12_0 : w5.cell? ⟨gb329, 0, none⟩ = some (.int .i64 a0_0) := (qI BK329.out 0).trans rfl
     have hcz12_1 : w5.cell? ⟨gb329, 1, none⟩ = some (.int .i64 a0_1) := (qI BK329.out 1).trans rfl
     have hcz12_2 : w5.cell? ⟨gb329, 2, none⟩ = some (.int .i64 a0_2) := (qI BK329.out 2).trans rfl
     have hfz12_0 := qH BK329.out 0
     have hfz12_1 := qH BK329.out 1
     have hfz12_2 := qH BK329.out 2
     go_wp2
     go_meet
     case rel => exact ⟨_, (true), (by first | rfl | (simp; done) | (simp [*]; done)), H', ⟨by first | omega | exact Nat.le_refl _⟩, ⟨by (with_reducible repeat (first | refine qC ?_ _ | refine qD ?_ | refine qB ?_ _)); exact BK329.out⟩, ⟨by (with_reducible repeat (first | refine qC ?_ _ | refine qD ?_ | refine qB ?_ _)); exact BK330.out⟩, ⟨by repeat (first | (with_reducible first | exact HB.out | apply qF | apply qA | apply qE | refine qG ?_ GE329.out | refine qG ?_ GE330.out) | exact HB.out)⟩⟩
    ·rw [if_neg c10] at H
     have c10b0 : (a1 == 115) = false := beq_eq_false_iff_ne.mpr c10
     have c10b1 : (a1 != 115) = true := bne_iff_ne.mpr c10
     by_cases c13 : a0_2 = 1
     ·rw [if_pos c13] at H
      have c13b0 : (a0_2 == 1) = true := beq_iff_eq.mpr c13
      have c13b1 : (a0_2 != 1) = false := bne_eq_false_iff_eq.mpr c13
      clear c13
      by_cases c14 : a1 = 101
      ·rw [if_pos c14] at H
       have c14b0 : (a1 == 101) = true := beq_iff_eq.mpr c14
       have c14b1 : (a1 != 101) = false := bne_eq_false_iff_eq.mpr c14
       clear c14
       have H' := Aside0.mk H
       clear H
       have hnb15 := NB329_330.out
       have hnc15 := NB330_329.out
       have hcz16_0 : w5.cell? ⟨gb329, 0, none⟩ = some (.int .i64 a0_0) := (qI BK329.out 0).trans rfl
       have hcz16_1 : w5.cell? ⟨gb329, 1, none⟩ = some (.int .i64 a0_1) := (qI BK329.out 1).trans rfl
       have hcz16_2 : w5.cell? ⟨gb329, 2, none⟩ = some (.int .i64 a0_2) := (qI BK329.out 2).trans rfl
       have hfz16_0 := qH BK329.out 0
       have hfz16_1 := qH BK329.out 1
       have hfz16_2 := qH BK329.out 2
       go_wp2
       go_meet
       case rel => exact ⟨_, (true), (by first | rfl | (simp; done) | (simp [*]; done)), H', ⟨by first | omega | exact Nat.le_refl _⟩, ⟨by (with_reducible repeat (first | refine qC ?_ _ | refine qD ?_ | refine qB ?_ _)); exact BK329.out⟩, ⟨by (with_reducible repeat (first | refine qC ?_ _ | refine qD ?_ | refine qB ?_ _)); exact BK330.out⟩, ⟨by repeat (first | (with_reducible first | exact HB.out | apply qF | apply qA | apply qE | refine qG ?_ GE329.out | refine qG ?_ GE330.out) | exact HB.out)⟩⟩
      ·rw [if_neg c14] at H
       have c14b0 : (a1 == 101) = false := beq_eq_false_iff_ne.mpr c14
       have c14b1 : (a1 != 101) = true := bne_iff_ne.mpr c14
       have H' := Aside0.mk H
       clear H
       have hnb17 := NB329_330.out
       have hnc17 := NB330_329.out
       have hcz18_0 : w5.cell? ⟨gb329, 0, none⟩ = some (.int .i64 a0_0) := (qI BK329.out 0).trans rfl
       have hcz18_1 : w5.cell? ⟨gb329, 1, none⟩ = some (.int .i64 a0_1) := (qI BK329.out 1).trans rfl
       have hcz18_2 : w5.cell? ⟨gb329, 2, none⟩ = some (.int .i64 a0_2) := (qI BK329.out 2).trans rfl
       have hfz18_0 := qH BK329.out 0
       have hfz18_1 := qH BK329.out 1
       have hfz18_2 := qH BK329.out 2
       go_wp2
       go_meet
       case rel => exact ⟨_, ((a1 == 119)), (by first | rfl | (simp; done) | (simp [*]; done)), H', ⟨by first | omega | exact Nat.le_refl _⟩, ⟨by (with_reducible repeat (first | refine qC ?_ _ | refine qD ?_ | refine qB ?_ _)); exact BK329.out⟩, ⟨by (with_reducible repeat (first | refine qC ?_ _ | refine qD ?_ | refine qB ?_ _)); exact BK330.out⟩, ⟨by repeat (first | (with_reducible first | exact HB.out | apply qF | apply qA | apply qE | refine qG ?_ GE329.out | refine qG ?_ GE330.out) | exact HB.out)⟩⟩
     ·rw [if_neg c13] at H
      have c13b0 : (a0_2 == 1) = false := beq_eq_false_iff_ne.mpr c13
      have c13b1 : (a0_2 != 1) = true := bne_iff_ne.mpr c13
      have H' := Aside0.mk H
      clear H
      have hnb19 := NB329_330.out
      have hnc19 := NB330_329.out
      have hcz20_0 : w5.cell? ⟨gb329, 0, none⟩ = some (.int .i64 a0_0) := (qI BK329.out 0).trans rfl
      have hcz20_1 : w5.cell? ⟨gb329, 1, none⟩ = some (.int .i64 a0_1) := (qI BK329.out 1).trans rfl
      have hcz20_2 : w5.cell? ⟨gb329, 2, none⟩ = some (.int .i64 a0_2) := (qI BK329.out 2).trans rfl
      have hfz20_0 := qH BK329.out 0
      have hfz20_1 := qH BK329.out 1
      have hfz20_2 := qH BK329.out 2
      go_wp2
      go_meet
      case rel => exact ⟨_, (false), (by first | rfl | (simp; done) | (simp [*]; done)), H', ⟨by first | omega | exact Nat.le_refl _⟩, ⟨by (with_reducible repeat (first | refine qC ?_ _ | refine qD ?_ | refine qB ?_ _)); exact BK329.out⟩, ⟨by (with_reducible repeat (first | refine qC ?_ _ | refine qD ?_ | refine qB ?_ _)); exact BK330.out⟩, ⟨by repeat (first | (with_reducible first | exact HB.out | apply qF | apply qA | apply qE | refine qG ?_ GE329.out | refine qG ?_ GE330.out) | exact HB.out)⟩⟩
  ·rw [if_neg c6] at H
   have c6b0 : (a0_2 == 2) = false := beq_eq_false_iff_ne.mpr c6
   have c6b1 : (a0_2 != 2) = true := bne_iff_ne.mpr c6
   (first | rw [c6b0] | (simp only [i64_w, i32_w]; rw [c6b0]) | skip)
   by_cases c21 : a0_2 = 1
   ·rw [if_pos c21] at H
    have c21b0 : (a0_2 == 1) = true := beq_iff_eq.mpr c21
    have c21b1 : (a0_2 != 1) = false := bne_eq_false_iff_eq.mpr c21
    clear c21
    by_cases c22 : a1 = 101
    ·rw [if_pos c22] at H
     have c22b0 : (a1 == 101) = true := beq_iff_eq.mpr c22
     have c22b1 : (a1 != 101) = false := bne_eq_false_iff_eq.mpr c22
     clear c22
     have H' := Aside0.mk H
     clear H
     have hnb23 := NB329_330.out
     have hnc23 := NB330_329.out
     have hcz24_0 : w5.cell? ⟨gb329, 0, none⟩ = some (.int .i64 a0_0) := (qI BK329.out 0).trans rfl
     have hcz24_1 : w5.cell? ⟨gb329, 1, none⟩ = some (.int .i64 a0_1) := (qI BK329.out 1).trans rfl
     have hcz24_2 : w5.cell? ⟨gb329, 2, none⟩ = some (.int .i64 a0_2) := (qI BK329.out 2).trans rfl
     have hfz24_0 := qH BK329.out 0
     have hfz24_1 := qH BK329.out 1
     have hfz24_2 := qH BK329.out 2
     go_wp2
     go_meet
     case rel => exact ⟨_, (true), (by first | rfl | (simp; done) | (simp [*]; done)), H', ⟨by first | omega | exact Nat.le_refl _⟩, ⟨by (with_reducible repeat (first | refine qC ?_ _ | refine qD ?_ | refine qB ?_ _)); exact BK329.out⟩, ⟨by (with_reducible repeat (first | refine qC ?_ _ | refine qD ?_ | refine qB ?_ _)); exact BK330.out⟩, ⟨by repeat (first | (with_reducible first | exact HB.out | apply qF | apply qA | apply qE | refine qG ?_ GE329.out | refine qG ?_ GE330.out) | exact HB.out)⟩⟩
    ·rw [if_neg c22] at H
     have c22b0 : (a1 == 101) = false := beq_eq_false_iff_ne.mpr c22
     have c22b1 : (a1 != 101) = true := bne_iff_ne.mpr c22
     have H' := Aside0.mk H
     clear H
     have hnb25 := NB329_330.out
     have hnc25 := NB330_329.out
     have hcz26_0 : w5.cell? ⟨gb329, 0, none⟩ = some (.int .i64 a0_0) := (qI BK329.out 0).trans rfl
     have hcz26_1 : w5.cell? ⟨gb329, 1, none⟩ = some (.int .i64 a0_1) := (qI BK329.out 1).trans rfl
     have hcz26_2 : w5.cell? ⟨gb329, 2, none⟩ = some (.int .i64 a0_2) := (qI BK329.out 2).trans rfl
     have hfz26_0 := qH BK329.out 0
     have hfz26_1 := qH BK329.out 1
     have hfz26_2 := qH BK329.out 2
     go_wp2
     go_meet
     case rel => exact ⟨_, ((a1 == 119)), (by first | rfl | (simp; done) | (simp [*]; done)), H', ⟨by first | omega | exact Nat.le_refl _⟩, ⟨by (with_reducible repeat (first | refine qC ?_ _ | refine qD ?_ | refine qB ?_ _)); exact BK329.out⟩, ⟨by (with_reducible repeat (first | refine qC ?_ _ | refine qD ?_ | refine qB ?_ _)); exact BK330.out⟩, ⟨by repeat (first | (with_reducible first | exact HB.out | apply qF | apply qA | apply qE | refine qG ?_ GE329.out | refine qG ?_ GE330.out) | exact HB.out)⟩⟩
   ·rw [if_neg c21] at H
    have c21b0 : (a0_2 == 1) = false := beq_eq_false_iff_ne.mpr c21
    have c21b1 : (a0_2 != 1) = true := bne_iff_ne.mpr c21
    have H' := Aside0.mk H
    clear H
    have hnb27 := NB329_330.out
    have hnc27 := NB330_329.out
    have hcz28_0 : w5.cell? ⟨gb329, 0, none⟩ = some (.int .i64 a0_0) := (qI BK329.out 0).trans rfl
    have hcz28_1 : w5.cell? ⟨gb329, 1, none⟩ = some (.int .i64 a0_1) := (qI BK329.out 1).trans rfl
    have hcz28_2 : w5.cell? ⟨gb329, 2, none⟩ = some (.int .i64 a0_2) := (qI BK329.out 2).trans rfl
    have hfz28_0 := qH BK329.out 0
    have hfz28_1 := qH BK329.out 1
    have hfz28_2 := qH BK329.out 2
    go_wp2
    go_meet
    case rel => exact ⟨_, (false), (by first | rfl | (simp; done) | (simp [*]; done)), H', ⟨by first | omega | exact Nat.le_refl _⟩, ⟨by (with_reducible repeat (first | refine qC ?_ _ | refine qD ?_ | refine qB ?_ _)); exact BK329.out⟩, ⟨by (with_reducible repeat (first | refine qC ?_ _ | refine qD ?_ | refine qB ?_ _)); exact BK330.out⟩, ⟨by repeat (first | (with_reducible first | exact HB.out | apply qF | apply qA | apply qE | refine qG ?_ GE329.out | refine qG ?_ GE330.out) | exact HB.out)⟩⟩
 case rest =>
  clear HC3
  try clear c1
  try clear c2
  try clear p2
  try clear c6
  try clear c6b0
  try clear c6b1
  try clear c7
  try clear c7b0
  try clear c7b1
  try clear c8
  try clear c10
  try clear c10b0
  try clear c10b1
  try clear c11
  try clear c13
  try clear c13b0
  try clear c13b1
  try clear c14
  try clear c14b0
  try clear c14b1
  try clear c15
  try clear c17
  try clear c19
  try clear c21
  try clear c21b0
  try clear c21b1
  try clear c22
  try clear c22b0
  try clear c22b1
  try clear c23
  try clear c25
  try clear c27
  try clear hcz12_0
  try clear hcz12_1
  try clear hcz12_2
  try clear hcz16_0
  try clear hcz16_1
  try clear hcz16_2
  try clear hcz18_0
  try clear hcz18_1
  try clear hcz18_2
  try clear hcz20_0
  try clear hcz20_1
  try clear hcz20_2
  try clear hcz24_0
  try clear hcz24_1
  try clear hcz24_2
  try clear hcz26_0
  try clear hcz26_1
  try clear hcz26_2
  try clear hcz28_0
  try clear hcz28_1
  try clear hcz28_2
  try clear hcz9_0
  try clear hcz9_1
  try clear hcz9_2
  try clear hfz12_0
  try clear hfz12_1
  try clear hfz12_2
  try clear hfz16_0
  try clear hfz16_1
  try clear hfz16_2
  try clear hfz18_0
  try clear hfz18_1
  try clear hfz18_2
  try clear hfz20_0
  try clear hfz20_1
  try clear hfz20_2
  try clear hfz24_0
  try clear hfz24_1
  try clear hfz24_2
  try clear hfz26_0
  try clear hfz26_1
  try clear hfz26_2
  try clear hfz28_0
  try clear hfz28_1
  try clear hfz28_2
  try clear hfz9_0
  try clear hfz9_1
  try clear hfz9_2
  obtain ⟨kq, x5_2, rfl, HA, HJ2, BK329, BK330, HB⟩ := hcut
  cases kq with
  | zero => exact absurd HA.out (by simp [qU.j0])
  | succ kj2 =>
   have H := HA.out
   clear HA
   simp only [qU.j0] at H
   by_cases c29 : a0_2 = 0
   ·rw [if_pos c29] at H
    have c29b0 : (a0_2 == 0) = true := beq_iff_eq.mpr c29
    have c29b1 : (a0_2 != 0) = false := bne_eq_false_iff_eq.mpr c29
    clear c29
    by_cases c30 : a1 = 110
    ·rw [if_pos c30] at H
     have c30b0 : (a1 == 110) = true := beq_iff_eq.mpr c30
     have c30b1 : (a1 != 110) = false := bne_eq_false_iff_eq.mpr c30
     clear c30
     simp only [Option.some.injEq, Prod.mk.injEq] at H
     obtain ⟨rfl, rfl, rfl⟩ := H
     have hnb31 := NB329_330.out
     have hnc31 := NB330_329.out
     have hcz32_0 : wc.cell? ⟨gb329, 0, none⟩ = some (.int .i64 a0_0) := (qI BK329.out 0).trans rfl
     have hcz32_1 : wc.cell? ⟨gb329, 1, none⟩ = some (.int .i64 a0_1) := (qI BK329.out 1).trans rfl
     have hcz32_2 : wc.cell? ⟨gb329, 2, none⟩ = some (.int .i64 a0_2) := (qI BK329.out 2).trans rfl
     have hfz32_0 := qH BK329.out 0
     have hfz32_1 := qH BK329.out 1
     have hfz32_2 := qH BK329.out 2
     have hcz33_0 : wc.cell? ⟨gb330, 0, none⟩ = some (.int .i64 0) := (qI BK330.out 0).trans rfl
     have hcz33_1 : wc.cell? ⟨gb330, 1, none⟩ = some (.int .i64 0) := (qI BK330.out 1).trans rfl
     have hcz33_2 : wc.cell? ⟨gb330, 2, none⟩ = some (.int .i64 0) := (qI BK330.out 2).trans rfl
     have hfz33_0 := qH BK330.out 0
     have hfz33_1 := qH BK330.out 1
     have hfz33_2 := qH BK330.out 2
     go_wp2
     refine bodyPost_ret (results_cell_row rfl _ _ gb330 27 #[.int .i64 a0_0, .int .i64 (wrap64 (a0_1 - 2)), .int .i64 2] (0, 0) _ rfl (by (with_reducible repeat (first | refine qC ?_ _ | refine qD ?_ | refine qB ?_ _)); refine qO (cs := #[.int .i64 a0_0, .int .i64 (wrap64 (a0_1 - 2)), .int .i64 0]) ?_ 2 _ rfl; (with_reducible repeat (first | refine qC ?_ _ | refine qD ?_ | refine qB ?_ _)); refine qO (cs := #[.int .i64 a0_0, .int .i64 0, .int .i64 0]) ?_ 1 _ rfl; (with_reducible repeat (first | refine qC ?_ _ | refine qD ?_ | refine qB ?_ _)); refine qO (cs := #[.int .i64 0, .int .i64 0, .int .i64 0]) ?_ 0 _ rfl; (with_reducible repeat (first | refine qC ?_ _ | refine qD ?_ | refine qB ?_ _)); exact BK330.out) Tryd.underlying27 rfl (by kernel_rfl)) rfl ?_
     exact ⟨by first | rfl | (simp [qN, qM] <;> rfl) | (simp [*, qN, qM] <;> rfl), by repeat (first | (with_reducible first | exact HB.out | apply qF | apply qA | apply qE | refine qG ?_ GE329.out | refine qG ?_ GE330.out) | exact HB.out)⟩
    ·rw [if_neg c30] at H
     have c30b0 : (a1 == 110) = false := beq_eq_false_iff_ne.mpr c30
     have c30b1 : (a1 != 110) = true := bne_iff_ne.mpr c30
     by_cases c34 : a1 = 101
     ·rw [if_pos c34] at H
      have c34b0 : (a1 == 101) = true := beq_iff_eq.mpr c34
      have c34b1 : (a1 != 101) = false := bne_eq_false_iff_eq.mpr c34
      clear c34
      simp only [Option.some.injEq, Prod.mk.injEq] at H
      obtain ⟨rfl, rfl, rfl⟩ := H
      have hnb35 := NB329_330.out
      have hnc35 := NB330_329.out
      have hcz36_0 : wc.cell? ⟨gb329, 0, none⟩ = some (.int .i64 a0_0) := (qI BK329.out 0).trans rfl
      have hcz36_1 : wc.cell? ⟨gb329, 1, none⟩ = some (.int .i64 a0_1) := (qI BK329.out 1).trans rfl
      have hcz36_2 : wc.cell? ⟨gb329, 2, none⟩ = some (.int .i64 a0_2) := (qI BK329.out 2).trans rfl
      have hfz36_0 := qH BK329.out 0
      have hfz36_1 := qH BK329.out 1
      have hfz36_2 := qH BK329.out 2
      have hcz37_0 : wc.cell? ⟨gb330, 0, none⟩ = some (.int .i64 0) := (qI BK330.out 0).trans rfl
      have hcz37_1 : wc.cell? ⟨gb330, 1, none⟩ = some (.int .i64 0) := (qI BK330.out 1).trans rfl
      have hcz37_2 : wc.cell? ⟨gb330, 2, none⟩ = some (.int .i64 0) := (qI BK330.out 2).trans rfl
      have hfz37_0 := qH BK330.out 0
      have hfz37_1 := qH BK330.out 1
      have hfz37_2 := qH BK330.out 2
      go_wp2
      refine bodyPost_ret (results_cell_row rfl _ _ gb330 27 #[.int .i64 (wrap64 (a0_0 + 1)), .int .i64 a0_1, .int .i64 1] (0, 0) _ rfl (by (with_reducible repeat (first | refine qC ?_ _ | refine qD ?_ | refine qB ?_ _)); refine qO (cs := #[.int .i64 (wrap64 (a0_0 + 1)), .int .i64 a0_1, .int .i64 0]) ?_ 2 _ rfl; (with_reducible repeat (first | refine qC ?_ _ | refine qD ?_ | refine qB ?_ _)); refine qO (cs := #[.int .i64 (wrap64 (a0_0 + 1)), .int .i64 0, .int .i64 0]) ?_ 1 _ rfl; (with_reducible repeat (first | refine qC ?_ _ | refine qD ?_ | refine qB ?_ _)); refine qO (cs := #[.int .i64 0, .int .i64 0, .int .i64 0]) ?_ 0 _ rfl; (with_reducible repeat (first | refine qC ?_ _ | refine qD ?_ | refine qB ?_ _)); exact BK330.out) Tryd.underlying27 rfl (by kernel_rfl)) rfl ?_
      exact ⟨by first | rfl | (simp [qN, qM] <;> rfl) | (simp [*, qN, qM] <;> rfl), by repeat (first | (with_reducible first | exact HB.out | apply qF | apply qA | apply qE | refine qG ?_ GE329.out | refine qG ?_ GE330.out) | exact HB.out)⟩
     ·rw [if_neg c34] at H
      have c34b0 : (a1 == 101) = false := beq_eq_false_iff_ne.mpr c34
      have c34b1 : (a1 != 101) = true := bne_iff_ne.mpr c34
      by_cases c38 : a1 = 115
      ·rw [if_pos c38] at H
       have c38b0 : (a1 == 115) = true := beq_iff_eq.mpr c38
       have c38b1 : (a1 != 115) = false := bne_eq_false_iff_eq.mpr c38
       clear c38
       simp only [Option.some.injEq, Prod.mk.injEq] at H
       obtain ⟨rfl, rfl, rfl⟩ := H
       have hnb39 := NB329_330.out
       have hnc39 := NB330_329.out
       have hcz40_0 : wc.cell? ⟨gb329, 0, none⟩ = some (.int .i64 a0_0) := (qI BK329.out 0).trans rfl
       have hcz40_1 : wc.cell? ⟨gb329, 1, none⟩ = some (.int .i64 a0_1) := (qI BK329.out 1).trans rfl
       have hcz40_2 : wc.cell? ⟨gb329, 2, none⟩ = some (.int .i64 a0_2) := (qI BK329.out 2).trans rfl
       have hfz40_0 := qH BK329.out 0
       have hfz40_1 := qH BK329.out 1
       have hfz40_2 := qH BK329.out 2
       have hcz41_0 : wc.cell? ⟨gb330, 0, none⟩ = some (.int .i64 0) := (qI BK330.out 0).trans rfl
       have hcz41_1 : wc.cell? ⟨gb330, 1, none⟩ = some (.int .i64 0) := (qI BK330.out 1).trans rfl
       have hcz41_2 : wc.cell? ⟨gb330, 2, none⟩ = some (.int .i64 0) := (qI BK330.out 2).trans rfl
       have hfz41_0 := qH BK330.out 0
       have hfz41_1 := qH BK330.out 1
       have hfz41_2 := qH BK330.out 2
       go_wp2
       refine bodyPost_ret (results_cell_row rfl _ _ gb330 27 #[.int .i64 a0_0, .int .i64 (wrap64 (a0_1 + 1)), .int .i64 2] (0, 0) _ rfl (by (with_reducible repeat (first | refine qC ?_ _ | refine qD ?_ | refine qB ?_ _)); refine qO (cs := #[.int .i64 a0_0, .int .i64 (wrap64 (a0_1 + 1)), .int .i64 0]) ?_ 2 _ rfl; (with_reducible repeat (first | refine qC ?_ _ | refine qD ?_ | refine qB ?_ _)); refine qO (cs := #[.int .i64 a0_0, .int .i64 0, .int .i64 0]) ?_ 1 _ rfl; (with_reducible repeat (first | refine qC ?_ _ | refine qD ?_ | refine qB ?_ _)); refine qO (cs := #[.int .i64 0, .int .i64 0, .int .i64 0]) ?_ 0 _ rfl; (with_reducible repeat (first | refine qC ?_ _ | refine qD ?_ | refine qB ?_ _)); exact BK330.out) Tryd.underlying27 rfl (by kernel_rfl)) rfl ?_
       exact ⟨by first | rfl | (simp [qN, qM] <;> rfl) | (simp [*, qN, qM] <;> rfl), by repeat (first | (with_reducible first | exact HB.out | apply qF | apply qA | apply qE | refine qG ?_ GE329.out | refine qG ?_ GE330.out) | exact HB.out)⟩
      ·rw [if_neg c38] at H
       have c38b0 : (a1 == 115) = false := beq_eq_false_iff_ne.mpr c38
       have c38b1 : (a1 != 115) = true := bne_iff_ne.mpr c38
       simp only [Option.some.injEq, Prod.mk.injEq] at H
       obtain ⟨rfl, rfl, rfl⟩ := H
       have hnb42 := NB329_330.out
       have hnc42 := NB330_329.out
       have hcz43_0 : wc.cell? ⟨gb329, 0, none⟩ = some (.int .i64 a0_0) := (qI BK329.out 0).trans rfl
       have hcz43_1 : wc.cell? ⟨gb329, 1, none⟩ = some (.int .i64 a0_1) := (qI BK329.out 1).trans rfl
       have hcz43_2 : wc.cell? ⟨gb329, 2, none⟩ = some (.int .i64 a0_2) := (qI BK329.out 2).trans rfl
       have hfz43_0 := qH BK329.out 0
       have hfz43_1 := qH BK329.out 1
       have hfz43_2 := qH BK329.out 2
       have hcz44_0 : wc.cell? ⟨gb330, 0, none⟩ = some (.int .i64 0) := (qI BK330.out 0).trans rfl
       have hcz44_1 : wc.cell? ⟨gb330, 1, none⟩ = some (.int .i64 0) := (qI BK330.out 1).trans rfl
       have hcz44_2 : wc.cell? ⟨gb330, 2, none⟩ = some (.int .i64 0) := (qI BK330.out 2).trans rfl
       have hfz44_0 := qH BK330.out 0
       have hfz44_1 := qH BK330.out 1
       have hfz44_2 := qH BK330.out 2
       go_wp2
       refine bodyPost_ret (results_cell_row rfl _ _ gb330 27 #[.int .i64 (wrap64 (a0_0 - 2)), .int .i64 a0_1, .int .i64 1] (0, 0) _ rfl (by (with_reducible repeat (first | refine qC ?_ _ | refine qD ?_ | refine qB ?_ _)); refine qO (cs := #[.int .i64 (wrap64 (a0_0 - 2)), .int .i64 a0_1, .int .i64 0]) ?_ 2 _ rfl; (with_reducible repeat (first | refine qC ?_ _ | refine qD ?_ | refine qB ?_ _)); refine qO (cs := #[.int .i64 (wrap64 (a0_0 - 2)), .int .i64 0, .int .i64 0]) ?_ 1 _ rfl; (with_reducible repeat (first | refine qC ?_ _ | refine qD ?_ | refine qB ?_ _)); refine qO (cs := #[.int .i64 0, .int .i64 0, .int .i64 0]) ?_ 0 _ rfl; (with_reducible repeat (first | refine qC ?_ _ | refine qD ?_ | refine qB ?_ _)); exact BK330.out) Tryd.underlying27 rfl (by kernel_rfl)) rfl ?_
       exact ⟨by first | rfl | (simp [qN, qM] <;> rfl) | (simp [*, qN, qM] <;> rfl), by repeat (first | (with_reducible first | exact HB.out | apply qF | apply qA | apply qE | refine qG ?_ GE329.out | refine qG ?_ GE330.out) | exact HB.out)⟩
   ·rw [if_neg c29] at H
    have c29b0 : (a0_2 == 0) = false := beq_eq_false_iff_ne.mpr c29
    have c29b1 : (a0_2 != 0) = true := bne_iff_ne.mpr c29
    have HC45 := Aside0.mk H
    clear H
    have hnb46 := NB329_330.out
    have hnc46 := NB330_329.out
    have hcz47_0 : wc.cell? ⟨gb329, 0, none⟩ = some (.int .i64 a0_0) := (qI BK329.out 0).trans rfl
    have hcz47_1 : wc.cell? ⟨gb329, 1, none⟩ = some (.int .i64 a0_1) := (qI BK329.out 1).trans rfl
    have hcz47_2 : wc.cell? ⟨gb329, 2, none⟩ = some (.int .i64 a0_2) := (qI BK329.out 2).trans rfl
    have hfz47_0 := qH BK329.out 0
    have hfz47_1 := qH BK329.out 1
    have hfz47_2 := qH BK329.out 2
    go_upto_region 11 with (fail)
    go_cut [67] (fun v67 wc => ∃ (kq : Nat) (x67_44 : Bool), v67 = .bool x67_44 ∧ Aside0 (qU.j1 kq a1 x5_2 x67_44 a0_0 a0_1 a0_2 = some (r1, r2, r3)) ∧ Aside0 (kq ≤ kj2) ∧ Aside0 (wc.heap[gb329]? = some (.cells #[.int .i64 a0_0, .int .i64 a0_1, .int .i64 a0_2] 27 (0, 0))) ∧ Aside0 (wc.heap[gb330]? = some (.cells #[.int .i64 0, .int .i64 0, .int .i64 0] 27 (0, 0))) ∧ Aside0 (Below w.heap.size w wc))
    case first =>
     have H := HC45.out
     clear HC45
     by_cases c48 : x5_2 = true
     ·subst c48
      have H1 : (qU.j1 kj2 a1 true (a1 == 101) a0_0 a0_1 a0_2) = some (r1, r2, r3) := by rw [if_pos rfl] at H; exact H
      clear H
      have H := H1
      clear H1
      have H' := Aside0.mk H
      clear H
      go_wp2
      go_meet
      case rel => exact ⟨_, ((a1 == 101)), (by first | rfl | (simp; done) | (simp [*]; done)), H', ⟨by have := HJ2.out; first | omega | exact Nat.le_refl _⟩, ⟨by (with_reducible repeat (first | refine qC ?_ _ | refine qD ?_ | refine qB ?_ _)); exact BK329.out⟩, ⟨by (with_reducible repeat (first | refine qC ?_ _ | refine qD ?_ | refine qB ?_ _)); exact BK330.out⟩, ⟨by repeat (first | (with_reducible first | exact HB.out | apply qF | apply qA | apply qE | refine qG ?_ GE329.out | refine qG ?_ GE330.out) | exact HB.out)⟩⟩
     ·replace c48 := Bool.eq_false_iff.mpr c48
      subst c48
      have H1 : (qU.j1 kj2 a1 false false a0_0 a0_1 a0_2) = some (r1, r2, r3) := by rw [if_neg (show ¬ (false = true) by decide)] at H; exact H
      clear H
      have H := H1
      clear H1
      have H' := Aside0.mk H
      clear H
      go_wp2
      go_meet
      case rel => exact ⟨_, (false), (by first | rfl | (simp; done) | (simp [*]; done)), H', ⟨by have := HJ2.out; first | omega | exact Nat.le_refl _⟩, ⟨by (with_reducible repeat (first | refine qC ?_ _ | refine qD ?_ | refine qB ?_ _)); exact BK329.out⟩, ⟨by (with_reducible repeat (first | refine qC ?_ _ | refine qD ?_ | refine qB ?_ _)); exact BK330.out⟩, ⟨by repeat (first | (with_reducible first | exact HB.out | apply qF | apply qA | apply qE | refine qG ?_ GE329.out | refine qG ?_ GE330.out) | exact HB.out)⟩⟩
    case rest =>
     clear HC45
     try clear c1
     try clear c2
     try clear p2
     try clear c3
     try clear c4
     try clear c6
     try clear c6b0
     try clear c6b1
     try clear p6
     try clear c7
     try clear c7b0
     try clear c7b1
     try clear c8
     try clear c10
     try clear c10b0
     try clear c10b1
     try clear c11
     try clear c13
     try clear c13b0
     try clear c13b1
     try clear c14
     try clear c14b0
     try clear c14b1
     try clear c15
     try clear c17
     try clear c19
     try clear c21
     try clear c21b0
     try clear c21b1
     try clear c22
     try clear c22b0
     try clear c22b1
     try clear c23
     try clear c25
     try clear c27
     try clear c29
     try clear c29b0
     try clear c29b1
     try clear c30
     try clear c30b0
     try clear c30b1
     try clear c31
     try clear c34
     try clear c34b0
     try clear c34b1
     try clear c35
     try clear c38
     try clear c38b0
     try clear c38b1
     try clear c39
     try clear c42
     try clear c46
     try clear c48
     try clear hcz12_0
     try clear hcz12_1
     try clear hcz12_2
     try clear hcz16_0
     try clear hcz16_1
     try clear hcz16_2
     try clear hcz18_0
     try clear hcz18_1
     try clear hcz18_2
     try clear hcz20_0
     try clear hcz20_1
     try clear hcz20_2
     try clear hcz24_0
     try clear hcz24_1
     try clear hcz24_2
     try clear hcz26_0
     try clear hcz26_1
     try clear hcz26_2
     try clear hcz28_0
     try clear hcz28_1
     try clear hcz28_2
     try clear hcz32_0
     try clear hcz32_1
     try clear hcz32_2
     try clear hcz33_0
     try clear hcz33_1
     try clear hcz33_2
     try clear hcz36_0
     try clear hcz36_1
     try clear hcz36_2
     try clear hcz37_0
     try clear hcz37_1
     try clear hcz37_2
     try clear hcz40_0
     try clear hcz40_1
     try clear hcz40_2
     try clear hcz41_0
     try clear hcz41_1
     try clear hcz41_2
     try clear hcz43_0
     try clear hcz43_1
     try clear hcz43_2
     try clear hcz44_0
     try clear hcz44_1
     try clear hcz44_2
     try clear hcz47_0
     try clear hcz47_1
     try clear hcz47_2
     try clear hcz9_0
     try clear hcz9_1
     try clear hcz9_2
     try clear hfz12_0
     try clear hfz12_1
     try clear hfz12_2
     try clear hfz16_0
     try clear hfz16_1
     try clear hfz16_2
     try clear hfz18_0
     try clear hfz18_1
     try clear hfz18_2
     try clear hfz20_0
     try clear hfz20_1
     try clear hfz20_2
     try clear hfz24_0
     try clear hfz24_1
     try clear hfz24_2
     try clear hfz26_0
     try clear hfz26_1
     try clear hfz26_2
     try clear hfz28_0
     try clear hfz28_1
     try clear hfz28_2
     try clear hfz32_0
     try clear hfz32_1
     try clear hfz32_2
     try clear hfz33_0
     try clear hfz33_1
     try clear hfz33_2
     try clear hfz36_0
     try clear hfz36_1
     try clear hfz36_2
     try clear hfz37_0
     try clear hfz37_1
     try clear hfz37_2
     try clear hfz40_0
     try clear hfz40_1
     try clear hfz40_2
     try clear hfz41_0
     try clear hfz41_1
     try clear hfz41_2
     try clear hfz43_0
     try clear hfz43_1
     try clear hfz43_2
     try clear hfz44_0
     try clear hfz44_1
     try clear hfz44_2
     try clear hfz47_0
     try clear hfz47_1
     try clear hfz47_2
     try clear hfz9_0
     try clear hfz9_1
     try clear hfz9_2
     try clear p2
     obtain ⟨kq, x67_44, rfl, HA, HJ44, BK329, BK330, HB⟩ := hcut
     cases kq with
     | zero => exact absurd HA.out (by simp [qU.j1])
     | succ kj44 =>
      have H := HA.out
      clear HA
      simp only [qU.j1] at H
      by_cases c49 : x67_44 = true
      ·subst c49
       have H1 : (some (wrap64 (a0_0 + 2), a0_1, 0)) = some (r1, r2, r3) := by rw [if_pos rfl] at H; exact H
       clear H
       have H := H1
       clear H1
       simp only [Option.some.injEq, Prod.mk.injEq] at H
       obtain ⟨rfl, rfl, rfl⟩ := H
       have hnb50 := NB329_330.out
       have hnc50 := NB330_329.out
       have hcz51_0 : wc.cell? ⟨gb329, 0, none⟩ = some (.int .i64 a0_0) := (qI BK329.out 0).trans rfl
       have hcz51_1 : wc.cell? ⟨gb329, 1, none⟩ = some (.int .i64 a0_1) := (qI BK329.out 1).trans rfl
       have hcz51_2 : wc.cell? ⟨gb329, 2, none⟩ = some (.int .i64 a0_2) := (qI BK329.out 2).trans rfl
       have hfz51_0 := qH BK329.out 0
       have hfz51_1 := qH BK329.out 1
       have hfz51_2 := qH BK329.out 2
       have hcz52_0 : wc.cell? ⟨gb330, 0, none⟩ = some (.int .i64 0) := (qI BK330.out 0).trans rfl
       have hcz52_1 : wc.cell? ⟨gb330, 1, none⟩ = some (.int .i64 0) := (qI BK330.out 1).trans rfl
       have hcz52_2 : wc.cell? ⟨gb330, 2, none⟩ = some (.int .i64 0) := (qI BK330.out 2).trans rfl
       have hfz52_0 := qH BK330.out 0
       have hfz52_1 := qH BK330.out 1
       have hfz52_2 := qH BK330.out 2
       go_wp2
       refine bodyPost_ret (results_cell_row rfl _ _ gb330 27 #[.int .i64 (wrap64 (a0_0 + 2)), .int .i64 a0_1, .int .i64 0] (0, 0) _ rfl (by (with_reducible repeat (first | refine qC ?_ _ | refine qD ?_ | refine qB ?_ _)); refine qO (cs := #[.int .i64 (wrap64 (a0_0 + 2)), .int .i64 a0_1, .int .i64 0]) ?_ 2 _ rfl; (with_reducible repeat (first | refine qC ?_ _ | refine qD ?_ | refine qB ?_ _)); refine qO (cs := #[.int .i64 (wrap64 (a0_0 + 2)), .int .i64 0, .int .i64 0]) ?_ 1 _ rfl; (with_reducible repeat (first | refine qC ?_ _ | refine qD ?_ | refine qB ?_ _)); refine qO (cs := #[.int .i64 0, .int .i64 0, .int .i64 0]) ?_ 0 _ rfl; (with_reducible repeat (first | refine qC ?_ _ | refine qD ?_ | refine qB ?_ _)); exact BK330.out) Tryd.underlying27 rfl (by kernel_rfl)) rfl ?_
       exact ⟨by first | rfl | (simp [qN, qM] <;> rfl) | (simp [*, qN, qM] <;> rfl), by repeat (first | (with_reducible first | exact HB.out | apply qF | apply qA | apply qE | refine qG ?_ GE329.out | refine qG ?_ GE330.out) | exact HB.out)⟩
      ·replace c49 := Bool.eq_false_iff.mpr c49
       subst c49
       have H1 : (if x5_2 = true then (qU.j2 kj44 a1 x5_2 (a1 == 115) a0_0 a0_1 a0_2) else (qU.j2 kj44 a1 x5_2 false a0_0 a0_1 a0_2)) = some (r1, r2, r3) := by rw [if_neg (show ¬ (false = true) by decide)] at H; exact H
       clear H
       have H := H1
       clear H1
       have HC53 := Aside0.mk H
       clear H
       go_upto_region 13 with (fail)
       go_cut [79] (fun v79 wc => ∃ (kq : Nat) (x79_52 : Bool), v79 = .bool x79_52 ∧ Aside0 (qU.j2 kq a1 x5_2 x79_52 a0_0 a0_1 a0_2 = some (r1, r2, r3)) ∧ Aside0 (kq ≤ kj44) ∧ Aside0 (wc.heap[gb329]? = some (.cells #[.int .i64 a0_0, .int .i64 a0_1, .int .i64 a0_2] 27 (0, 0))) ∧ Aside0 (wc.heap[gb330]? = some (.cells #[.int .i64 0, .int .i64 0, .int .i64 0] 27 (0, 0))) ∧ Aside0 (Below w.heap.size w wc))
       case first =>
        have H := HC53.out
        clear HC53
        by_cases c54 : x5_2 = true
        ·subst c54
         have H1 : (qU.j2 kj44 a1 true (a1 == 115) a0_0 a0_1 a0_2) = some (r1, r2, r3) := by rw [if_pos rfl] at H; exact H
         clear H
         have H := H1
         clear H1
         have H' := Aside0.mk H
         clear H
         go_wp2
         go_meet
         case rel => exact ⟨_, ((a1 == 115)), (by first | rfl | (simp; done) | (simp [*]; done)), H', ⟨by have := HJ2.out; have := HJ44.out; first | omega | exact Nat.le_refl _⟩, ⟨by (with_reducible repeat (first | refine qC ?_ _ | refine qD ?_ | refine qB ?_ _)); exact BK329.out⟩, ⟨by (with_reducible repeat (first | refine qC ?_ _ | refine qD ?_ | refine qB ?_ _)); exact BK330.out⟩, ⟨by repeat (first | (with_reducible first | exact HB.out | apply qF | apply qA | apply qE | refine qG ?_ GE329.out | refine qG ?_ GE330.out) | exact HB.out)⟩⟩
        ·replace c54 := Bool.eq_false_iff.mpr c54
         subst c54
         have H1 : (qU.j2 kj44 a1 false false a0_0 a0_1 a0_2) = some (r1, r2, r3) := by rw [if_neg (show ¬ (false = true) by decide)] at H; exact H
         clear H
         have H := H1
         clear H1
         have H' := Aside0.mk H
         clear H
         go_wp2
         go_meet
         case rel => exact ⟨_, (false), (by first | rfl | (simp; done) | (simp [*]; done)), H', ⟨by have := HJ2.out; have := HJ44.out; first | omega | exact Nat.le_refl _⟩, ⟨by (with_reducible repeat (first | refine qC ?_ _ | refine qD ?_ | refine qB ?_ _)); exact BK329.out⟩, ⟨by (with_reducible repeat (first | refine qC ?_ _ | refine qD ?_ | refine qB ?_ _)); exact BK330.out⟩, ⟨by repeat (first | (with_reducible first | exact HB.out | apply qF | apply qA | apply qE | refine qG ?_ GE329.out | refine qG ?_ GE330.out) | exact HB.out)⟩⟩
       case rest =>
        clear HC53
        try clear c1
        try clear c2
        try clear p2
        try clear c3
        try clear c4
        try clear c5
        try clear c6
        try clear c6b0
        try clear c6b1
        try clear p6
        try clear c7
        try clear c7b0
        try clear c7b1
        try clear c8
        try clear c10
        try clear c10b0
        try clear c10b1
        try clear c11
        try clear c13
        try clear c13b0
        try clear c13b1
        try clear c14
        try clear c14b0
        try clear c14b1
        try clear c15
        try clear c17
        try clear c19
        try clear c21
        try clear c21b0
        try clear c21b1
        try clear c22
        try clear c22b0
        try clear c22b1
        try clear c23
        try clear c25
        try clear c27
        try clear c29
        try clear c29b0
        try clear c29b1
        try clear c30
        try clear c30b0
        try clear c30b1
        try clear c31
        try clear c34
        try clear c34b0
        try clear c34b1
        try clear c35
        try clear c38
        try clear c38b0
        try clear c38b1
        try clear c39
        try clear c42
        try clear c46
        try clear c48
        try clear c49
        try clear c50
        try clear c54
        try clear hcz12_0
        try clear hcz12_1
        try clear hcz12_2
        try clear hcz16_0
        try clear hcz16_1
        try clear hcz16_2
        try clear hcz18_0
        try clear hcz18_1
        try clear hcz18_2
        try clear hcz20_0
        try clear hcz20_1
        try clear hcz20_2
        try clear hcz24_0
        try clear hcz24_1
        try clear hcz24_2
        try clear hcz26_0
        try clear hcz26_1
        try clear hcz26_2
        try clear hcz28_0
        try clear hcz28_1
        try clear hcz28_2
        try clear hcz32_0
        try clear hcz32_1
        try clear hcz32_2
        try clear hcz33_0
        try clear hcz33_1
        try clear hcz33_2
        try clear hcz36_0
        try clear hcz36_1
        try clear hcz36_2
        try clear hcz37_0
        try clear hcz37_1
        try clear hcz37_2
        try clear hcz40_0
        try clear hcz40_1
        try clear hcz40_2
        try clear hcz41_0
        try clear hcz41_1
        try clear hcz41_2
        try clear hcz43_0
        try clear hcz43_1
        try clear hcz43_2
        try clear hcz44_0
        try clear hcz44_1
        try clear hcz44_2
        try clear hcz47_0
        try clear hcz47_1
        try clear hcz47_2
        try clear hcz51_0
        try clear hcz51_1
        try clear hcz51_2
        try clear hcz52_0
        try clear hcz52_1
        try clear hcz52_2
        try clear hcz9_0
        try clear hcz9_1
        try clear hcz9_2
        try clear hfz12_0
        try clear hfz12_1
        try clear hfz12_2
        try clear hfz16_0
        try clear hfz16_1
        try clear hfz16_2
        try clear hfz18_0
        try clear hfz18_1
        try clear hfz18_2
        try clear hfz20_0
        try clear hfz20_1
        try clear hfz20_2
        try clear hfz24_0
        try clear hfz24_1
        try clear hfz24_2
        try clear hfz26_0
        try clear hfz26_1
        try clear hfz26_2
        try clear hfz28_0
        try clear hfz28_1
        try clear hfz28_2
        try clear hfz32_0
        try clear hfz32_1
        try clear hfz32_2
        try clear hfz33_0
        try clear hfz33_1
        try clear hfz33_2
        try clear hfz36_0
        try clear hfz36_1
        try clear hfz36_2
        try clear hfz37_0
        try clear hfz37_1
        try clear hfz37_2
        try clear hfz40_0
        try clear hfz40_1
        try clear hfz40_2
        try clear hfz41_0
        try clear hfz41_1
        try clear hfz41_2
        try clear hfz43_0
        try clear hfz43_1
        try clear hfz43_2
        try clear hfz44_0
        try clear hfz44_1
        try clear hfz44_2
        try clear hfz47_0
        try clear hfz47_1
        try clear hfz47_2
        try clear hfz51_0
        try clear hfz51_1
        try clear hfz51_2
        try clear hfz52_0
        try clear hfz52_1
        try clear hfz52_2
        try clear hfz9_0
        try clear hfz9_1
        try clear hfz9_2
        try clear p2
        try clear p6
        obtain ⟨kq, x79_52, rfl, HA, HJ52, BK329, BK330, HB⟩ := hcut
        cases kq with
        | zero => exact absurd HA.out (by simp [qU.j2])
        | succ kj52 =>
         have H := HA.out
         clear HA
         simp only [qU.j2] at H
         by_cases c55 : x79_52 = true
         ·subst c55
          have H1 : (some (a0_0, wrap64 (a0_1 + 2), 0)) = some (r1, r2, r3) := by rw [if_pos rfl] at H; exact H
          clear H
          have H := H1
          clear H1
          simp only [Option.some.injEq, Prod.mk.injEq] at H
          obtain ⟨rfl, rfl, rfl⟩ := H
          have hnb56 := NB329_330.out
          have hnc56 := NB330_329.out
          have hcz57_0 : wc.cell? ⟨gb329, 0, none⟩ = some (.int .i64 a0_0) := (qI BK329.out 0).trans rfl
          have hcz57_1 : wc.cell? ⟨gb329, 1, none⟩ = some (.int .i64 a0_1) := (qI BK329.out 1).trans rfl
          have hcz57_2 : wc.cell? ⟨gb329, 2, none⟩ = some (.int .i64 a0_2) := (qI BK329.out 2).trans rfl
          have hfz57_0 := qH BK329.out 0
          have hfz57_1 := qH BK329.out 1
          have hfz57_2 := qH BK329.out 2
          have hcz58_0 : wc.cell? ⟨gb330, 0, none⟩ = some (.int .i64 0) := (qI BK330.out 0).trans rfl
          have hcz58_1 : wc.cell? ⟨gb330, 1, none⟩ = some (.int .i64 0) := (qI BK330.out 1).trans rfl
          have hcz58_2 : wc.cell? ⟨gb330, 2, none⟩ = some (.int .i64 0) := (qI BK330.out 2).trans rfl
          have hfz58_0 := qH BK330.out 0
          have hfz58_1 := qH BK330.out 1
          have hfz58_2 := qH BK330.out 2
          go_wp2
          refine bodyPost_ret (results_cell_row rfl _ _ gb330 27 #[.int .i64 a0_0, .int .i64 (wrap64 (a0_1 + 2)), .int .i64 0] (0, 0) _ rfl (by (with_reducible repeat (first | refine qC ?_ _ | refine qD ?_ | refine qB ?_ _)); refine qO (cs := #[.int .i64 a0_0, .int .i64 (wrap64 (a0_1 + 2)), .int .i64 0]) ?_ 2 _ rfl; (with_reducible repeat (first | refine qC ?_ _ | refine qD ?_ | refine qB ?_ _)); refine qO (cs := #[.int .i64 a0_0, .int .i64 0, .int .i64 0]) ?_ 1 _ rfl; (with_reducible repeat (first | refine qC ?_ _ | refine qD ?_ | refine qB ?_ _)); refine qO (cs := #[.int .i64 0, .int .i64 0, .int .i64 0]) ?_ 0 _ rfl; (with_reducible repeat (first | refine qC ?_ _ | refine qD ?_ | refine qB ?_ _)); exact BK330.out) Tryd.underlying27 rfl (by kernel_rfl)) rfl ?_
          exact ⟨by first | rfl | (simp [qN, qM] <;> rfl) | (simp [*, qN, qM] <;> rfl), by repeat (first | (with_reducible first | exact HB.out | apply qF | apply qA | apply qE | refine qG ?_ GE329.out | refine qG ?_ GE330.out) | exact HB.out)⟩
         ·replace c55 := Bool.eq_false_iff.mpr c55
          subst c55
          have H1 : ((qoA.f a0_0 a0_1 a1).bind fun bt331 => (if x5_2 = true then (some (bt331.1, bt331.2, 0)) else (some (bt331.1, bt331.2, a0_2)))) = some (r1, r2, r3) := by rw [if_neg (show ¬ (false = true) by decide)] at H; exact H
          clear H
          have H := H1
          clear H1
          replace H := Option.bind_eq_some_iff.mp H
          obtain ⟨⟨t331, t332⟩, A590, H⟩ := H
          replace H : (if x5_2 = true then (some (t331, t332, 0)) else (some (t331, t332, a0_2))) = some (r1, r2, r3) := H
          have A59 := Aside0.mk A590
          clear A590
          by_cases c60 : x5_2 = true
          ·subst c60
           have H1 : (some (t331, t332, 0)) = some (r1, r2, r3) := by rw [if_pos rfl] at H; exact H
           clear H
           have H := H1
           clear H1
           simp only [Option.some.injEq, Prod.mk.injEq] at H
           obtain ⟨rfl, rfl, rfl⟩ := H
           have hnb61 := NB329_330.out
           have hnc61 := NB330_329.out
           have hcz62_0 : wc.cell? ⟨gb329, 0, none⟩ = some (.int .i64 a0_0) := (qI BK329.out 0).trans rfl
           have hcz62_1 : wc.cell? ⟨gb329, 1, none⟩ = some (.int .i64 a0_1) := (qI BK329.out 1).trans rfl
           have hcz62_2 : wc.cell? ⟨gb329, 2, none⟩ = some (.int .i64 a0_2) := (qI BK329.out 2).trans rfl
           have hfz62_0 := qH BK329.out 0
           have hfz62_1 := qH BK329.out 1
           have hfz62_2 := qH BK329.out 2
           go_wp2_with (first | ((with_reducible refine qX (f := 109) rfl ?_); refine qo (some 97) rfl rfl Tryd.func109 (by kernel_rfl) rfl #[.int .i64 a0_0, .int .i64 a0_1, .int .u8 a1] rfl (by (try simp only [List.map_toArray, List.map_cons, List.map_nil]); first | done | rfl | (simp only [List.length_drop, List.length_take]; rfl)) ?_; (with_reducible refine (qoA.calls a0_0 a0_1 a1 t331 t332 _ A59.out).mono ?_); rintro e w' ⟨rfl, ⟨nd, rfl⟩⟩; refine ⟨_, rfl, ?_⟩; (try (rw [qFB wc]; generalize hq_ : World.drewN wc _ = wc; have n0_ : Aside0 (wc.heap[gb329]? = some (.cells #[.int .i64 a0_0, .int .i64 a0_1, .int .i64 a0_2] 27 (0, 0))) := ⟨by rw [← hq_]; exact (by (with_reducible repeat (first | refine qC ?_ _ | refine qD ?_ | refine qB ?_ _)); exact BK329.out)⟩; have n1_ : Aside0 (wc.heap[gb330]? = some (.cells #[.int .i64 0, .int .i64 0, .int .i64 0] 27 (0, 0))) := ⟨by rw [← hq_]; exact (by (with_reducible repeat (first | refine qC ?_ _ | refine qD ?_ | refine qB ?_ _)); exact BK330.out)⟩; have n2_ : Aside0 (Below w.heap.size w wc) := ⟨by rw [← hq_]; exact (by repeat (first | (with_reducible first | exact HB.out | apply qF | apply qA | apply qE | refine qG ?_ GE329.out | refine qG ?_ GE330.out) | exact HB.out))⟩; clear BK329 BK330 HB hq_; have BK329 := n0_; have BK330 := n1_; have HB := n2_; clear n0_ n1_ n2_)); have hcz63_0 : wc.cell? ⟨gb330, 0, none⟩ = some (.int .i64 0) := (qI BK330.out 0).trans rfl; have hcz63_1 : wc.cell? ⟨gb330, 1, none⟩ = some (.int .i64 0) := (qI BK330.out 1).trans rfl; have hcz63_2 : wc.cell? ⟨gb330, 2, none⟩ = some (.int .i64 0) := (qI BK330.out 2).trans rfl; have hfz63_0 := qH BK330.out 0; have hfz63_1 := qH BK330.out 1; have hfz63_2 := qH BK330.out 2))
           refine bodyPost_ret (results_cell_row rfl _ _ gb330 27 #[.int .i64 t331, .int .i64 t332, .int .i64 0] (0, 0) _ rfl (by (with_reducible repeat (first | refine qC ?_ _ | refine qD ?_ | refine qB ?_ _)); refine qO (cs := #[.int .i64 t331, .int .i64 t332, .int .i64 0]) ?_ 2 _ rfl; (with_reducible repeat (first | refine qC ?_ _ | refine qD ?_ | refine qB ?_ _)); refine qO (cs := #[.int .i64 t331, .int .i64 0, .int .i64 0]) ?_ 1 _ rfl; (with_reducible repeat (first | refine qC ?_ _ | refine qD ?_ | refine qB ?_ _)); refine qO (cs := #[.int .i64 0, .int .i64 0, .int .i64 0]) ?_ 0 _ rfl; (with_reducible repeat (first | refine qC ?_ _ | refine qD ?_ | refine qB ?_ _)); exact BK330.out) Tryd.underlying27 rfl (by kernel_rfl)) rfl ?_
           exact ⟨by first | rfl | (simp [qN, qM] <;> rfl) | (simp [*, qN, qM] <;> rfl), by repeat (first | (with_reducible first | exact HB.out | apply qF | apply qA | apply qE | refine qG ?_ GE329.out | refine qG ?_ GE330.out) | exact HB.out)⟩
          ·replace c60 := Bool.eq_false_iff.mpr c60
           subst c60
           have H1 : (some (t331, t332, a0_2)) = some (r1, r2, r3) := by rw [if_neg (show ¬ (false = true) by decide)] at H; exact H
           clear H
           have H := H1
           clear H1
           simp only [Option.some.injEq, Prod.mk.injEq] at H
           obtain ⟨rfl, rfl, rfl⟩ := H
           have hnb64 := NB329_330.out
           have hnc64 := NB330_329.out
           have hcz65_0 : wc.cell? ⟨gb329, 0, none⟩ = some (.int .i64 a0_0) := (qI BK329.out 0).trans rfl
           have hcz65_1 : wc.cell? ⟨gb329, 1, none⟩ = some (.int .i64 a0_1) := (qI BK329.out 1).trans rfl
           have hcz65_2 : wc.cell? ⟨gb329, 2, none⟩ = some (.int .i64 a0_2) := (qI BK329.out 2).trans rfl
           have hfz65_0 := qH BK329.out 0
           have hfz65_1 := qH BK329.out 1
           have hfz65_2 := qH BK329.out 2
           go_wp2_with (first | ((with_reducible refine qX (f := 109) rfl ?_); refine qo (some 97) rfl rfl Tryd.func109 (by kernel_rfl) rfl #[.int .i64 a0_0, .int .i64 a0_1, .int .u8 a1] rfl (by (try simp only [List.map_toArray, List.map_cons, List.map_nil]); first | done | rfl | (simp only [List.length_drop, List.length_take]; rfl)) ?_; (with_reducible refine (qoA.calls a0_0 a0_1 a1 t331 t332 _ A59.out).mono ?_); rintro e w' ⟨rfl, ⟨nd, rfl⟩⟩; refine ⟨_, rfl, ?_⟩; (try (rw [qFB wc]; generalize hq_ : World.drewN wc _ = wc; have n0_ : Aside0 (wc.heap[gb329]? = some (.cells #[.int .i64 a0_0, .int .i64 a0_1, .int .i64 a0_2] 27 (0, 0))) := ⟨by rw [← hq_]; exact (by (with_reducible repeat (first | refine qC ?_ _ | refine qD ?_ | refine qB ?_ _)); exact BK329.out)⟩; have n1_ : Aside0 (wc.heap[gb330]? = some (.cells #[.int .i64 0, .int .i64 0, .int .i64 0] 27 (0, 0))) := ⟨by rw [← hq_]; exact (by (with_reducible repeat (first | refine qC ?_ _ | refine qD ?_ | refine qB ?_ _)); exact BK330.out)⟩; have n2_ : Aside0 (Below w.heap.size w wc) := ⟨by rw [← hq_]; exact (by repeat (first | (with_reducible first | exact HB.out | apply qF | apply qA | apply qE | refine qG ?_ GE329.out | refine qG ?_ GE330.out) | exact HB.out))⟩; clear BK329 BK330 HB hq_; have BK329 := n0_; have BK330 := n1_; have HB := n2_; clear n0_ n1_ n2_)); have hcz66_0 : wc.cell? ⟨gb329, 0, none⟩ = some (.int .i64 a0_0) := (qI BK329.out 0).trans rfl; have hcz66_1 : wc.cell? ⟨gb329, 1, none⟩ = some (.int .i64 a0_1) := (qI BK329.out 1).trans rfl; have hcz66_2 : wc.cell? ⟨gb329, 2, none⟩ = some (.int .i64 a0_2) := (qI BK329.out 2).trans rfl; have hfz66_0 := qH BK329.out 0; have hfz66_1 := qH BK329.out 1; have hfz66_2 := qH BK329.out 2; have hcz67_0 : wc.cell? ⟨gb330, 0, none⟩ = some (.int .i64 0) := (qI BK330.out 0).trans rfl; have hcz67_1 : wc.cell? ⟨gb330, 1, none⟩ = some (.int .i64 0) := (qI BK330.out 1).trans rfl; have hcz67_2 : wc.cell? ⟨gb330, 2, none⟩ = some (.int .i64 0) := (qI BK330.out 2).trans rfl; have hfz67_0 := qH BK330.out 0; have hfz67_1 := qH BK330.out 1; have hfz67_2 := qH BK330.out 2))
           refine bodyPost_ret (results_cell_row rfl _ _ gb330 27 #[.int .i64 t331, .int .i64 t332, .int .i64 a0_2] (0, 0) _ rfl (by (with_reducible repeat (first | refine qC ?_ _ | refine qD ?_ | refine qB ?_ _)); refine qO (cs := #[.int .i64 t331, .int .i64 t332, .int .i64 0]) ?_ 2 _ rfl; (with_reducible repeat (first | refine qC ?_ _ | refine qD ?_ | refine qB ?_ _)); refine qO (cs := #[.int .i64 t331, .int .i64 0, .int .i64 0]) ?_ 1 _ rfl; (with_reducible repeat (first | refine qC ?_ _ | refine qD ?_ | refine qB ?_ _)); refine qO (cs := #[.int .i64 0, .int .i64 0, .int .i64 0]) ?_ 0 _ rfl; (with_reducible repeat (first | refine qC ?_ _ | refine qD ?_ | refine qB ?_ _)); exact BK330.out) Tryd.underlying27 rfl (by kernel_rfl)) rfl ?_
           exact ⟨by first | rfl | (simp [qN, qM] <;> rfl) | (simp [*, qN, qM] <;> rfl), by repeat (first | (with_reducible first | exact HB.out | apply qF | apply qA | apply qE | refine qG ?_ GE329.out | refine qG ?_ GE330.out) | exact HB.out)⟩
end Go.Proofs.YtbpfhpjbeomfcaaDoor.P
namespace Go.Proofs.YtbpfhpjbeomfcaaDoor.P
open Go.RowKit Go.Proofs.YtbpfhpjbeomfcaaDoorW.PrintWords Go.Proofs.YtbpfhpjbeomfcaaDoorW.PrintLast Go.Proofs.YtbpfhpjbeomfcaaDoorW.PrintMore
attribute [local go_sem] qx qv qGA qFA qm ql qw qu   -- for this text's walks alone
set_option linter.unusedVariables false
set_option linter.unusedSimpArgs false
def qEA.f (k : Nat) (l0 : List ByteArray) (a1_0 : Int) (a1_1 : Int) (a1_2 : Int) (a2 : Int) : Option (Int × Int × Int × Bool) := (qU.f k a1_0 a1_1 a1_2 a2).bind fun bt335 => ((qW.f k l0 bt335.1 bt335.2.1 bt335.2.2).bind fun t339 => (some (bt335.1, bt335.2.1, bt335.2.2, t339)))
set_option maxHeartbeats 8000000 in
set_option maxRecDepth 100000 in
theorem qEA.calls (k : Nat) (A0 : Option Addr) (c0 : Nat) (l0 : List ByteArray) (a1_0 : Int) (a1_1 : Int) (a1_2 : Int) (a2 : Int) (r1 : Int) (r2 : Int) (r3 : Int) (r4 : Bool) (w : World) (hr0 : Kd.C Kd.string w A0 l0.length l0) (hc0 : l0.length ≤ c0) (h : qEA.f k l0 a1_0 a1_1 a1_2 a2 = some (r1, r2, r3, r4)) :
  Calls Tryd.prog 62 #[.slice A0 l0.length c0, .agg #[.int .i64 a1_0, .int .i64 a1_1, .int .i64 a1_2], .int .u8 a2] w fun e w' => e = .returned (.tuple #[.agg #[.int .i64 r1, .int .i64 r2, .int .i64 r3], .bool r4]) ∧ Below w.heap.size w w' := by
 have hu27 := Tryd.underlying27
 have HR0 := Aside0.mk hr0
 have HC0 := Aside0.mk hc0
 clear hr0 hc0
 have HB := Aside0.mk (Below.refl w.heap.size w)
 have H : ((qU.f k a1_0 a1_1 a1_2 a2).bind fun bt335 => ((qW.f k l0 bt335.1 bt335.2.1 bt335.2.2).bind fun t339 => (some (bt335.1, bt335.2.1, bt335.2.2, t339)))) = some (r1, r2, r3, r4) := h
 clear h
 replace H := Option.bind_eq_some_iff.mp H
 obtain ⟨⟨t335, t336, t337⟩, A40, H⟩ := H
 replace H : ((qW.f k l0 t335 t336 t337).bind fun t339 => (some (t335, t336, t337, t339))) = some (r1, r2, r3, r4) := H
 have A4 := Aside0.mk A40
 clear A40
 replace H := Option.bind_eq_some_iff.mp H
 obtain ⟨t339, A50, H⟩ := H
 replace H : (some (t335, t336, t337, t339)) = some (r1, r2, r3, r4) := H
 have A5 := Aside0.mk A50
 clear A50
 simp only [Option.some.injEq, Prod.mk.injEq] at H
 obtain ⟨rfl, rfl, rfl, rfl⟩ := H
 go_enter Tryd.func62, Tryd.ntmps62
 try go_wp2_with (first | ((with_reducible refine qc (N := 4) rfl ?_); refine qY ?hg (N := 4) ?hd (cs := #[.int .i64 a1_0, .int .i64 a1_1, .int .i64 a1_2]) (t := 27) ?hr ?_; (case hd => rfl); (case hg => rfl); (case hr => first | (go_simp; done) | (go_simp; rfl)); intro gb333 hg w6 hbox hb; have n0_ := Aside0.mk (qL (by repeat (first | (with_reducible first | exact HB.out | apply qF | apply qA | apply qE) | exact HB.out)) hb); have n1_ := Aside0.mk (hbox); have n2_ := Aside0.mk ((by rw [hg]; exact (qJ (by repeat (first | (with_reducible first | exact HB.out | apply qF | apply qA | apply qE) | exact HB.out))) : w.heap.size ≤ gb333)); have n3_ := Aside0.mk ((by rw [hg]; exact (qJ (by repeat (first | (with_reducible first | exact HB.out | apply qF | apply qA | apply qE) | exact HB.out))) : w.heap.size ≤ gb333)); clear HB; have HB := n0_; have BK333 := n1_; have GW333 := n2_; have GE333 := n3_; clear n0_ n1_ n2_ n3_; clear hb hbox hg) | ((with_reducible refine qc (N := 6) rfl ?_); refine qY ?hg (N := 6) ?hd (cs := #[.int .i64 0, .int .i64 0, .int .i64 0]) (t := 27) ?hr ?_; (case hd => rfl); (case hg => rfl); (case hr => first | (go_simp; done) | (go_simp; rfl)); intro gb334 hg w7 hbox hb; have n0_ := Aside0.mk (qK (g := gb333) (o := .cells #[.int .i64 a1_0, .int .i64 a1_1, .int .i64 a1_2] 27 (0, 0)) (by (with_reducible repeat (first | refine qC ?_ _ | refine qD ?_ | refine qB ?_ _)); exact BK333.out) hb); have n1_ := Aside0.mk (qL (by repeat (first | (with_reducible first | exact HB.out | apply qF | apply qA | apply qE | refine qG ?_ GE333.out) | exact HB.out)) hb); have n2_ := Aside0.mk (hbox); have n3_ := Aside0.mk ((by rw [hg]; exact (qJ (by repeat (first | (with_reducible first | exact HB.out | apply qF | apply qA | apply qE | refine qG ?_ GE333.out) | exact HB.out))) : w.heap.size ≤ gb334)); have n4_ := Aside0.mk ((by rw [hg]; exact (qJ (by repeat (first | (with_reducible first | exact HB.out | apply qF | apply qA | apply qE | refine qG ?_ GE333.out) | exact HB.out))) : w.heap.size ≤ gb334)); have n5_ := Aside0.mk ((by rw [hg]; exact Nat.ne_of_lt (qd (g := gb333) (o := .cells #[.int .i64 a1_0, .int .i64 a1_1, .int .i64 a1_2] 27 (0, 0)) (by (with_reducible repeat (first | refine qC ?_ _ | refine qD ?_ | refine qB ?_ _)); exact BK333.out)) : gb333 ≠ gb334)); have n6_ := Aside0.mk ((by rw [hg]; exact Nat.ne_of_gt (qd (g := gb333) (o := .cells #[.int .i64 a1_0, .int .i64 a1_1, .int .i64 a1_2] 27 (0, 0)) (by (with_reducible repeat (first | refine qC ?_ _ | refine qD ?_ | refine qB ?_ _)); exact BK333.out)) : gb334 ≠ gb333)); clear BK333; clear HB; have BK333 := n0_; have HB := n1_; have BK334 := n2_; have GW334 := n3_; have GE334 := n4_; have NB333_334 := n5_; have NB334_333 := n6_; clear n0_ n1_ n2_ n3_ n4_ n5_ n6_; clear hb hbox hg; have hnb8 := NB333_334.out; have hnc8 := NB334_333.out; have hcz9_0 : w7.cell? ⟨gb333, 0, none⟩ = some (.int .i64 a1_0) := (qI BK333.out 0).trans rfl; have hcz9_1 : w7.cell? ⟨gb333, 1, none⟩ = some (.int .i64 a1_1) := (qI BK333.out 1).trans rfl; have hcz9_2 : w7.cell? ⟨gb333, 2, none⟩ = some (.int .i64 a1_2) := (qI BK333.out 2).trans rfl; have hfz9_0 := qH BK333.out 0; have hfz9_1 := qH BK333.out 1; have hfz9_2 := qH BK333.out 2) | ((with_reducible refine qX (f := 88) rfl ?_); refine qo (some 11) rfl rfl Tryd.func88 (by kernel_rfl) rfl #[.agg #[.int .i64 a1_0, .int .i64 a1_1, .int .i64 a1_2], .int .u8 a2] rfl (by (try simp only [List.map_toArray, List.map_cons, List.map_nil]); first | done | rfl | (simp only [List.length_drop, List.length_take]; rfl)) ?_; (with_reducible refine (qU.calls k a1_0 a1_1 a1_2 a2 t335 t336 t337 _ A4.out).mono ?_); rintro e w10 ⟨rfl, hb⟩; refine ⟨_, rfl, ?_⟩; have n0_ := Aside0.mk (qK (g := gb333) (o := .cells #[.int .i64 a1_0, .int .i64 a1_1, .int .i64 a1_2] 27 (0, 0)) (by (with_reducible repeat (first | refine qC ?_ _ | refine qD ?_ | refine qB ?_ _)); exact BK333.out) hb); have n1_ := Aside0.mk (qK (g := gb334) (o := .cells #[.int .i64 0, .int .i64 0, .int .i64 0] 27 (0, 0)) (by (with_reducible repeat (first | refine qC ?_ _ | refine qD ?_ | refine qB ?_ _)); exact BK334.out) hb); have n2_ := Aside0.mk (qL (by repeat (first | (with_reducible first | exact HB.out | apply qF | apply qA | apply qE | refine qG ?_ GE333.out | refine qG ?_ GE334.out) | exact HB.out)) hb); clear BK333; clear BK334; clear HB; have BK333 := n0_; have BK334 := n1_; have HB := n2_; clear n0_ n1_ n2_; (try clear hb); (try clear hb2); (try clear hk); (try clear hi)) | ((with_reducible refine qc (N := 8) rfl ?_); refine qY ?hg (N := 8) ?hd (cs := #[.int .i64 0, .int .i64 0, .int .i64 0]) (t := 27) ?hr ?_; (case hd => rfl); (case hg => rfl); (case hr => first | (go_simp; done) | (go_simp; rfl)); intro gb338 hg w11 hbox hb; have n0_ := Aside0.mk (qK (g := gb333) (o := .cells #[.int .i64 a1_0, .int .i64 a1_1, .int .i64 a1_2] 27 (0, 0)) (by (with_reducible repeat (first | refine qC ?_ _ | refine qD ?_ | refine qB ?_ _)); exact BK333.out) hb); have n1_ := Aside0.mk (qK (g := gb334) (o := .cells #[.int .i64 0, .int .i64 0, .int .i64 0] 27 (0, 0)) (by (with_reducible repeat (first | refine qC ?_ _ | refine qD ?_ | refine qB ?_ _)); exact BK334.out) hb); have n2_ := Aside0.mk (qL (by repeat (first | (with_reducible first | exact HB.out | apply qF | apply qA | apply qE | refine qG ?_ GE333.out | refine qG ?_ GE334.out) | exact HB.out)) hb); have n3_ := Aside0.mk (hbox); have n4_ := Aside0.mk ((by rw [hg]; exact (qJ (by repeat (first | (with_reducible first | exact HB.out | apply qF | apply qA | apply qE | refine qG ?_ GE333.out | refine qG ?_ GE334.out) | exact HB.out))) : w.heap.size ≤ gb338)); have n5_ := Aside0.mk ((by rw [hg]; exact (qJ (by repeat (first | (with_reducible first | exact HB.out | apply qF | apply qA | apply qE | refine qG ?_ GE333.out | refine qG ?_ GE334.out) | exact HB.out))) : w.heap.size ≤ gb338)); have n6_ := Aside0.mk ((by rw [hg]; exact Nat.ne_of_lt (qd (g := gb333) (o := .cells #[.int .i64 a1_0, .int .i64 a1_1, .int .i64 a1_2] 27 (0, 0)) (by (with_reducible repeat (first | refine qC ?_ _ | refine qD ?_ | refine qB ?_ _)); exact BK333.out)) : gb333 ≠ gb338)); have n7_ := Aside0.mk ((by rw [hg]; exact Nat.ne_of_gt (qd (g := gb333) (o := .cells #[.int .i64 a1_0, .int .i64 a1_1, .int .i64 a1_2] 27 (0, 0)) (by (with_reducible repeat (first | refine qC ?_ _ | refine qD ?_ | refine qB ?_ _)); exact BK333.out)) : gb338 ≠ gb333)); have n8_ := Aside0.mk ((by rw [hg]; exact Nat.ne_of_lt (qd (g := gb334) (o := .cells #[.int .i64 0, .int .i64 0, .int .i64 0] 27 (0, 0)) (by (with_reducible repeat (first | refine qC ?_ _ | refine qD ?_ | refine qB ?_ _)); exact BK334.out)) : gb334 ≠ gb338)); have n9_ := Aside0.mk ((by rw [hg]; exact Nat.ne_of_gt (qd (g := gb334) (o := .cells #[.int .i64 0, .int .i64 0, .int .i64 0] 27 (0, 0)) (by (with_reducible repeat (first | refine qC ?_ _ | refine qD ?_ | refine qB ?_ _)); exact BK334.out)) : gb338 ≠ gb334)); clear BK333; clear BK334; clear HB; have BK333 := n0_; have BK334 := n1_; have HB := n2_; have BK338 := n3_; have GW338 := n4_; have GE338 := n5_; have NB333_338 := n6_; have NB338_333 := n7_; have NB334_338 := n8_; have NB338_334 := n9_; clear n0_ n1_ n2_ n3_ n4_ n5_ n6_ n7_ n8_ n9_; clear hb hbox hg; have hnb12 := NB338_333.out; have hnc12 := NB333_338.out; have hnb13 := NB338_334.out; have hnc13 := NB334_338.out; have hcz14_0 : w11.cell? ⟨gb338, 0, none⟩ = some (.int .i64 0) := (qI BK338.out 0).trans rfl; have hcz14_1 : w11.cell? ⟨gb338, 1, none⟩ = some (.int .i64 0) := (qI BK338.out 1).trans rfl; have hcz14_2 : w11.cell? ⟨gb338, 2, none⟩ = some (.int .i64 0) := (qI BK338.out 2).trans rfl; have hfz14_0 := qH BK338.out 0; have hfz14_1 := qH BK338.out 1; have hfz14_2 := qH BK338.out 2))
 have n0_ : Aside0 ((((w11.setCell ⟨gb338, 0, none⟩ (.int .i64 t335)).setCell ⟨gb338, 1, none⟩ (.int .i64 t336)).setCell ⟨gb338, 2, none⟩ (.int .i64 t337)).heap[gb333]? = some (.cells #[.int .i64 a1_0, .int .i64 a1_1, .int .i64 a1_2] 27 (0, 0))) := ⟨by (with_reducible repeat (first | refine qC ?_ _ | refine qD ?_ | refine qB ?_ _)); refine qR ?_ NB333_338.out _; (with_reducible repeat (first | refine qC ?_ _ | refine qD ?_ | refine qB ?_ _)); refine qR ?_ NB333_338.out _; (with_reducible repeat (first | refine qC ?_ _ | refine qD ?_ | refine qB ?_ _)); refine qR ?_ NB333_338.out _; (with_reducible repeat (first | refine qC ?_ _ | refine qD ?_ | refine qB ?_ _)); exact BK333.out⟩
 have n1_ : Aside0 ((((w11.setCell ⟨gb338, 0, none⟩ (.int .i64 t335)).setCell ⟨gb338, 1, none⟩ (.int .i64 t336)).setCell ⟨gb338, 2, none⟩ (.int .i64 t337)).heap[gb334]? = some (.cells #[.int .i64 0, .int .i64 0, .int .i64 0] 27 (0, 0))) := ⟨by (with_reducible repeat (first | refine qC ?_ _ | refine qD ?_ | refine qB ?_ _)); refine qR ?_ NB334_338.out _; (with_reducible repeat (first | refine qC ?_ _ | refine qD ?_ | refine qB ?_ _)); refine qR ?_ NB334_338.out _; (with_reducible repeat (first | refine qC ?_ _ | refine qD ?_ | refine qB ?_ _)); refine qR ?_ NB334_338.out _; (with_reducible repeat (first | refine qC ?_ _ | refine qD ?_ | refine qB ?_ _)); exact BK334.out⟩
 have n2_ : Aside0 ((((w11.setCell ⟨gb338, 0, none⟩ (.int .i64 t335)).setCell ⟨gb338, 1, none⟩ (.int .i64 t336)).setCell ⟨gb338, 2, none⟩ (.int .i64 t337)).heap[gb338]? = some (.cells #[.int .i64 t335, .int .i64 t336, .int .i64 t337] 27 (0, 0))) := ⟨by (with_reducible repeat (first | refine qC ?_ _ | refine qD ?_ | refine qB ?_ _)); refine qO (cs := #[.int .i64 t335, .int .i64 t336, .int .i64 0]) ?_ 2 _ rfl; (with_reducible repeat (first | refine qC ?_ _ | refine qD ?_ | refine qB ?_ _)); refine qO (cs := #[.int .i64 t335, .int .i64 0, .int .i64 0]) ?_ 1 _ rfl; (with_reducible repeat (first | refine qC ?_ _ | refine qD ?_ | refine qB ?_ _)); refine qO (cs := #[.int .i64 0, .int .i64 0, .int .i64 0]) ?_ 0 _ rfl; (with_reducible repeat (first | refine qC ?_ _ | refine qD ?_ | refine qB ?_ _)); exact BK338.out⟩
 have n3_ : Aside0 (Below w.heap.size w (((w11.setCell ⟨gb338, 0, none⟩ (.int .i64 t335)).setCell ⟨gb338, 1, none⟩ (.int .i64 t336)).setCell ⟨gb338, 2, none⟩ (.int .i64 t337))) := ⟨by repeat (first | (with_reducible first | exact HB.out | apply qF | apply qA | apply qE | refine qG ?_ GE333.out | refine qG ?_ GE334.out | refine qG ?_ GE338.out) | exact HB.out)⟩
 (try clear BK333)
 (try clear BK334)
 (try clear BK338)
 (try clear HB)
 generalize (((w11.setCell ⟨gb338, 0, none⟩ (.int .i64 t335)).setCell ⟨gb338, 1, none⟩ (.int .i64 t336)).setCell ⟨gb338, 2, none⟩ (.int .i64 t337)) = w15 at n0_ n1_ n2_ n3_ ⊢
 have BK333 := n0_
 have BK334 := n1_
 have BK338 := n2_
 have HB := n3_
 clear n0_ n1_ n2_ n3_
 have n0_ := Aside0.mk (qD BK333.out)
 have n1_ := Aside0.mk (qD BK334.out)
 have n2_ := Aside0.mk (qD BK338.out)
 have n3_ := Aside0.mk (qE HB.out)
 clear BK333
 clear BK334
 clear BK338
 clear HB
 have BK333 := n0_
 have BK334 := n1_
 have BK338 := n2_
 have HB := n3_
 clear n0_ n1_ n2_ n3_
 refine qBB (n := 6) (S := fun w' => w'.cell? ⟨gb338, 0, none⟩ = some (.int .i64 t335) ∧ w'.cell? ⟨gb338, 1, none⟩ = some (.int .i64 t336) ∧ w'.cell? ⟨gb338, 2, none⟩ = some (.int .i64 t337)) (ds := []) #[false, false, false, false, false, false] (by kernel_rfl) rfl rfl ⟨(qI BK338.out 0).trans rfl, (qI BK338.out 1).trans rfl, (qI BK338.out 2).trans rfl⟩ (fun hHeld => ?_)
 generalize w15.drew = w16 at BK333 BK334 BK338 HB hHeld ⊢
 refine pure_ (i := 1) (N := some 13) (v := ?_) (a' := ?_) #[false, true, false, false, false, false] rfl rfl (by kernel_rfl) (fun _ _ _ h => h) (Or.inl ⟨by rfl, ?_⟩) ?_ ?_
 rotate_left
 ·intro w'
  go_simp
  first | (with_reducible rfl) | (rw [if_neg (by simp only [ByteArray.size_extract, ByteArray.size_append] at * <;> omega)]; try with_reducible rfl)
 rotate_left
 ·simp only [Act.put, List.setIfInBounds_toArray, List.set_cons_zero, List.set_cons_succ, i64_w, i32_w]
  rfl
 refine take_ (i := 0) (N := some 12) (v := ?_) (a' := ?_) #[true, true, false, false, false, false] rfl rfl (by kernel_rfl) (fun _ _ _ h => h) (Or.inl ⟨by rfl, ?_⟩) hHeld ?_ ?_
 rotate_left
 ·rintro w' ⟨s0, s1, s2⟩
  go_simp
  first | (with_reducible rfl) | (rw [if_neg (by simp only [ByteArray.size_extract, ByteArray.size_append] at * <;> omega)]; try with_reducible rfl)
 rotate_left
 ·simp only [Act.put, List.setIfInBounds_toArray, List.set_cons_zero, List.set_cons_succ, i64_w, i32_w]
  rfl
 refine take_ (i := 2) (N := some 14) (v := ?_) (a' := ?_) #[true, true, true, false, false, false] rfl rfl (by kernel_rfl) (fun _ _ _ h => h) (Or.inl ⟨by rfl, ?_⟩) hHeld ?_ ?_
 rotate_left
 ·rintro w' ⟨s0, s1, s2⟩
  go_simp
  first | (with_reducible rfl) | (rw [if_neg (by simp only [ByteArray.size_extract, ByteArray.size_append] at * <;> omega)]; try with_reducible rfl)
 rotate_left
 ·simp only [Act.put, List.setIfInBounds_toArray, List.set_cons_zero, List.set_cons_succ, i64_w, i32_w]
  rfl
 refine one_ (i := 3) (N := some 15) #[true, true, true, true, false, false] rfl rfl (by kernel_rfl) (by decide) (fun K hK => ?_)
 refine goes_ Tryd.func56 (by kernel_rfl) rfl #[.slice A0 l0.length c0, .agg #[.int .i64 t335, .int .i64 t336, .int .i64 t337]] (by rfl) rfl rfl (by (try simp only [List.map_toArray, List.map_cons, List.map_nil]); first | done | rfl | (simp only [List.length_drop, List.length_take]; rfl)) ?_
 with_reducible refine (qW.calls k _ _ l0 t335 t336 t337 t339 _ ?side1 ?side2 A5.out).mono ?_
 (case side1 => repeat (first | exact (Kd.qaA HR0.out HB.out) | (with_reducible refine Kd.qOA ?_ _) | (with_reducible refine Kd.qNA ?_ _) | (with_reducible refine Kd.qXA ?_)))
 (case side2 => exact HC0.out)
 rintro e w17 ⟨rfl, hb⟩
 refine ⟨_, rfl, ?_⟩
 have n0_ := Aside0.mk (qK (g := gb333) (o := .cells #[.int .i64 a1_0, .int .i64 a1_1, .int .i64 a1_2] 27 (0, 0)) (by (with_reducible repeat (first | refine qC ?_ _ | refine qD ?_ | refine qB ?_ _)); exact BK333.out) hb)
 have n1_ := Aside0.mk (qK (g := gb334) (o := .cells #[.int .i64 0, .int .i64 0, .int .i64 0] 27 (0, 0)) (by (with_reducible repeat (first | refine qC ?_ _ | refine qD ?_ | refine qB ?_ _)); exact BK334.out) hb)
 have n2_ := Aside0.mk (qK (g := gb338) (o := .cells #[.int .i64 t335, .int .i64 t336, .int .i64 t337] 27 (0, 0)) (by (with_reducible repeat (first | refine qC ?_ _ | refine qD ?_ | refine qB ?_ _)); exact BK338.out) hb)
 have n3_ := Aside0.mk (qL (by repeat (first | (with_reducible first | exact HB.out | apply qF | apply qA | apply qE | refine qG ?_ GE333.out | refine qG ?_ GE334.out | refine qG ?_ GE338.out) | exact HB.out)) hb)
 clear BK333
 clear BK334
 clear BK338
 clear HB
 have BK333 := n0_
 have BK334 := n1_
 have BK338 := n2_
 have HB := n3_
 clear n0_ n1_ n2_ n3_
 (try clear hb)
 (try clear hb2)
 (try clear hk)
 (try clear hi)
 refine hK.out _ _ ⟨(qI BK338.out 0).trans rfl, (qI BK338.out 1).trans rfl, (qI BK338.out 2).trans rfl⟩ (fun hHeld => ?_)
 clear hK K
 refine norm_ (a' := ?_) ?_ ?_
 rotate_left
 ·show Act.put _ (some 15) _ = _
  simp only [Act.put, List.setIfInBounds_toArray, List.set_cons_zero, List.set_cons_succ, i64_w, i32_w]
  rfl
 refine one_ (i := 4) (N := none) #[true, true, true, true, true, false] rfl rfl (by kernel_rfl) (by decide) (fun K hK => ?_)
 have hs18 : w17.cell? ⟨gb334, 0, none⟩ = some (.int .i64 0) := (qI BK334.out 0).trans rfl
 have hfs18 := qH BK334.out 0
 have hns18_0 := NB333_334.out
 have hns18_2 := NB338_334.out
 have hms18_0 := NB334_333.out
 have hms18_2 := NB334_338.out
 have hs19 : w17.cell? ⟨gb334, 1, none⟩ = some (.int .i64 0) := (qI BK334.out 1).trans rfl
 have hfs19 := qH BK334.out 1
 have hns19_0 := NB333_334.out
 have hns19_2 := NB338_334.out
 have hms19_0 := NB334_333.out
 have hms19_2 := NB334_338.out
 have hs20 : w17.cell? ⟨gb334, 2, none⟩ = some (.int .i64 0) := (qI BK334.out 2).trans rfl
 have hfs20 := qH BK334.out 2
 have hns20_0 := NB333_334.out
 have hns20_2 := NB338_334.out
 have hms20_0 := NB334_333.out
 have hms20_2 := NB334_338.out
 refine skip_ (w1 := ?_) (by rfl) rfl ?_ ?_
 rotate_left
 ·go_simp
  rfl
 refine hK.out _ _ ⟨((qa (p := ⟨gb334, _, none⟩) NB338_334.out _).trans (((qa (p := ⟨gb334, _, none⟩) NB338_334.out _).trans (((qa (p := ⟨gb334, _, none⟩) NB338_334.out _).trans (hHeld.1)))))), ((qa (p := ⟨gb334, _, none⟩) NB338_334.out _).trans (((qa (p := ⟨gb334, _, none⟩) NB338_334.out _).trans (((qa (p := ⟨gb334, _, none⟩) NB338_334.out _).trans (hHeld.2.1)))))), ((qa (p := ⟨gb334, _, none⟩) NB338_334.out _).trans (((qa (p := ⟨gb334, _, none⟩) NB338_334.out _).trans (((qa (p := ⟨gb334, _, none⟩) NB338_334.out _).trans (hHeld.2.2))))))⟩ (fun hHeld => ?_)
 clear hK K
 refine pure_ (i := 5) (N := some 7) (v := ?_) (a' := ?_) #[true, true, true, true, true, true] rfl rfl (by kernel_rfl) (fun _ _ _ h => h) (Or.inl ⟨by rfl, ?_⟩) ?_ ?_
 rotate_left
 ·intro w'
  go_simp
  first | (with_reducible rfl) | (rw [if_neg (by simp only [ByteArray.size_extract, ByteArray.size_append] at * <;> omega)]; try with_reducible rfl)
 rotate_left
 ·simp only [Act.put, List.setIfInBounds_toArray, List.set_cons_zero, List.set_cons_succ, i64_w, i32_w]
  rfl
 refine done_ (by kernel_rfl) ?_
 try go_wp2
 refine bodyPost_ret (qDA rfl _ _ gb334 27 #[.int .i64 t335, .int .i64 t336, .int .i64 t337] (0, 0) _ rfl (by (with_reducible repeat (first | refine qC ?_ _ | refine qD ?_ | refine qB ?_ _)); refine qO (cs := #[.int .i64 t335, .int .i64 t336, .int .i64 0]) ?_ 2 _ rfl; (with_reducible repeat (first | refine qC ?_ _ | refine qD ?_ | refine qB ?_ _)); refine qO (cs := #[.int .i64 t335, .int .i64 0, .int .i64 0]) ?_ 1 _ rfl; (with_reducible repeat (first | refine qC ?_ _ | refine qD ?_ | refine qB ?_ _)); refine qO (cs := #[.int .i64 0, .int .i64 0, .int .i64 0]) ?_ 0 _ rfl; (with_reducible repeat (first | refine qC ?_ _ | refine qD ?_ | refine qB ?_ _)); exact BK334.out) Tryd.underlying27 rfl (by kernel_rfl)) rfl ?_
 exact ⟨by first | rfl | (simp [qN, qM] <;> rfl) | (simp [*, qN, qM] <;> rfl), by repeat (first | (with_reducible first | exact HB.out | apply qF | apply qA | apply qE | refine qG ?_ GE333.out | refine qG ?_ GE334.out | refine qG ?_ GE338.out) | exact HB.out)⟩
end Go.Proofs.YtbpfhpjbeomfcaaDoor.P
namespace Go.Proofs.YtbpfhpjbeomfcaaDoor.P
open Go.RowKit Go.Proofs.YtbpfhpjbeomfcaaDoorW.PrintWords Go.Proofs.YtbpfhpjbeomfcaaDoorW.PrintLast Go.Proofs.YtbpfhpjbeomfcaaDoorW.PrintMore
attribute [local go_sem] qx qv qGA qFA qm ql qw qu   -- for this text's walks alone
set_option linter.unusedVariables false
set_option linter.unusedSimpArgs false
def qUA.f (a0 : ByteArray) : Option (Bool) := if (a0.size : Int) ≤ 60 then ((qIA.f a0 (⟨#[110, 101, 115, 119]⟩ : ByteArray)).bind fun t550 => (some (t550.toList == ([] : List UInt8)))) else (some false)
set_option maxHeartbeats 8000000 in
set_option maxRecDepth 100000 in
theorem qUA.calls (a0 : ByteArray) (r : Bool) (w : World) (h : qUA.f a0 = some r) :
  Calls Tryd.prog 93 #[.string a0] w fun e w' => e = .returned (.bool r) ∧ Below w.heap.size w w' := by
 have HB := Aside0.mk (Below.refl w.heap.size w)
 have H : (if (a0.size : Int) ≤ 60 then ((qIA.f a0 (⟨#[110, 101, 115, 119]⟩ : ByteArray)).bind fun t550 => (some (t550.toList == ([] : List UInt8)))) else (some false)) = some r := h
 clear h
 by_cases c2 : (a0.size : Int) ≤ 60
 ·rw [if_pos c2] at H
  have c2b0 : decide ((a0.size : Int) ≤ 60) = true := decide_eq_true c2
  have c2b1 : decide (a0.size ≤ 60) = true := decide_eq_true (by omega)
  clear c2
  replace H := Option.bind_eq_some_iff.mp H
  obtain ⟨t550, A30, H⟩ := H
  replace H : (some (t550.toList == ([] : List UInt8))) = some r := H
  have A3 := Aside0.mk A30
  clear A30
  obtain rfl := Option.some.inj H
  go_enter Tryd.func93, Tryd.ntmps93
  go_wp2_with (first | (go_at_call 102; (with_reducible refine (qIA.calls a0 (⟨#[110, 101, 115, 119]⟩ : ByteArray) t550 _ A3.out).mono ?_); rintro e w4 ⟨rfl, hb⟩; have n0_ := Aside0.mk (qL (by repeat (first | (with_reducible first | exact HB.out | apply qF | apply qA | apply qE) | exact HB.out)) hb); clear HB; have HB := n0_; clear n0_; (try clear hb); (try clear hb2); (try clear hk); (try clear hi)))
  go_ret
  exact ⟨by first | rfl | (simp [qN, qM] <;> rfl) | (simp [*, qN, qM] <;> rfl), by repeat (first | (with_reducible first | exact HB.out | apply qF | apply qA | apply qE) | exact HB.out)⟩
 ·rw [if_neg c2] at H
  have c2b0 : decide ((a0.size : Int) ≤ 60) = false := decide_eq_false c2
  have c2b1 : decide (a0.size ≤ 60) = false := decide_eq_false (by omega)
  clear c2
  obtain rfl := Option.some.inj H
  go_enter Tryd.func93, Tryd.ntmps93
  go_wp2
  go_ret
  exact ⟨by first | rfl | (simp [qN, qM] <;> rfl) | (simp [*, qN, qM] <;> rfl), by repeat (first | (with_reducible first | exact HB.out | apply qF | apply qA | apply qE) | exact HB.out)⟩
end Go.Proofs.YtbpfhpjbeomfcaaDoor.P
namespace Go.Proofs.YtbpfhpjbeomfcaaDoor.P
open Go.RowKit Go.Proofs.YtbpfhpjbeomfcaaDoorW.PrintWords Go.Proofs.YtbpfhpjbeomfcaaDoorW.PrintLast Go.Proofs.YtbpfhpjbeomfcaaDoorW.PrintMore
attribute [local go_sem] qx qv qGA qFA qm ql qw qu   -- for this text's walks alone
set_option linter.unusedVariables false
set_option linter.unusedSimpArgs false
mutual
def qP.j0 : Nat → ByteArray → List ByteArray → Bool → Int → Int → Int → Option ((List (S27)) × Bool)
 | 0, _, _, _, _, _, _ => none
 | k + 1, x2, x8, x26, x552000, x552001, x552002 => if x26 = true then (some (([] : List (S27)), false)) else (qP.l0 k x2 x8 (([(⟨x552000, x552001, x552002⟩ : S27)] : List (S27))) (x2.size : Int) 0)
def qP.l0 : Nat → ByteArray → List ByteArray → List (S27) → Int → Int → Option ((List (S27)) × Bool)
 | 0, _, _, _, _, _ => none
 | k + 1, x2, x8, x10, x30, x31 => if x31 < x30 then (if 0 ≤ x31 then (if x31 < (x10.length : Int) then (if x31 < (x2.size : Int) then ((qEA.f k x8 ((qg x10 x31).f0) ((qg x10 x31).f1) ((qg x10 x31).f2) (bt x2 x31)).bind fun bt561 => (if bt561.2.2.2 = true then (if x10.length < 5864062014805 then (qP.l0 k x2 x8 (x10 ++ [(⟨bt561.1, bt561.2.1, bt561.2.2.1⟩ : S27)]) x30 (wrap64 (x31 + 1))) else (none)) else (some (([] : List (S27)), false)))) else (none)) else (none)) else (none)) else (some (x10, true))
end
def qP.f (k : Nat) (a0 : ByteArray) (a1_0 : Int) (a1_1 : Int) (a1_2 : Int) (a2 : ByteArray) : Option ((List (S27)) × Bool) := (qZA.f k a0 a1_0 a1_1 a1_2).bind fun bt552 => (if bt552.2 = true then ((qUA.f a2).bind fun t556 => (qP.j0 k a2 bt552.1 (!t556) a1_0 a1_1 a1_2)) else (qP.j0 k a2 bt552.1 true a1_0 a1_1 a1_2))
def qP.T8 : Bool × List (List Nat × List Nat) := (true, [([], []), ([], []), ([], []), ([1, 2], [1, 2]), ([3], [3]), ([], []), ([], []), ([5, 6], [5, 6]), ([0, 4, 7], [0, 4, 7]), ([8], [8]), ([9], [9]), ([9], [9]), ([], []), ([12, 10, 8, 0, 1, 2, 3, 4, 5, 6, 7, 8, 9, 10, 12], [10, 12]), ([11, 13, 0, 1, 2, 3, 4, 5, 6, 7, 8, 9, 10, 11, 12, 13], [11])])
def qP.B8 : List Nat := [0, 0, 0, 6, 14, 0, 0, 96, 255, 511, 1023, 1023, 0, 6143, 16383]
theorem qP.tab8 : rtab .any (opsOf Tryd.f68 8) = qP.T8 := by kernel_rfl
theorem qP.bits8 : waitsOk qP.T8.2 qP.B8 = true := by kernel_rfl
set_option maxHeartbeats 8000000 in
set_option maxRecDepth 100000 in
theorem qP.calls (k : Nat) (a0 : ByteArray) (a1_0 : Int) (a1_1 : Int) (a1_2 : Int) (a2 : ByteArray) (r1 : List (S27)) (r2 : Bool) (w : World) (hL : Laid w) (h : qP.f k a0 a1_0 a1_1 a1_2 a2 = some (r1, r2)) :
  Calls Tryd.prog 68 #[.string a0, .agg #[.int .i64 a1_0, .int .i64 a1_1, .int .i64 a1_2], .string a2] w fun e w' => ∃ v0_ : Value, e = .returned (.tuple #[v0_, .bool r2]) ∧ Kd.R k27 27 w' w.heap.size (fun _ => True) v0_ r1 ∧ Below w.heap.size w w' := by
 have hu27 := Tryd.underlying27
 have HLD := Aside0.mk hL
 clear hL
 have HB := Aside0.mk (Below.refl w.heap.size w)
 have H : ((qZA.f k a0 a1_0 a1_1 a1_2).bind fun bt552 => (if bt552.2 = true then ((qUA.f a2).bind fun t556 => (qP.j0 k a2 bt552.1 (!t556) a1_0 a1_1 a1_2)) else (qP.j0 k a2 bt552.1 true a1_0 a1_1 a1_2))) = some (r1, r2) := h
 clear h
 replace H := Option.bind_eq_some_iff.mp H
 obtain ⟨⟨t552, t555⟩, A40, H⟩ := H
 replace H : (if t555 = true then ((qUA.f a2).bind fun t556 => (qP.j0 k a2 t552 (!t556) a1_0 a1_1 a1_2)) else (qP.j0 k a2 t552 true a1_0 a1_1 a1_2)) = some (r1, r2) := H
 have A4 := Aside0.mk A40
 clear A40
 have HC5 := Aside0.mk H
 clear H
 go_enter Tryd.func68, Tryd.ntmps68
 go_upto_region 2 with (first | ((with_reducible refine qc (N := 4) rfl ?_); refine qY ?hg (N := 4) ?hd (cs := #[.int .i64 a1_0, .int .i64 a1_1, .int .i64 a1_2]) (t := 27) ?hr ?_; (case hd => rfl); (case hg => rfl); (case hr => first | (go_simp; done) | (go_simp; rfl)); intro gb551 hg w6 hbox hb; have n0_ := Aside0.mk (qL (by repeat (first | (with_reducible first | exact HB.out | apply qF | apply qA | apply qE) | exact HB.out)) hb); have n1_ := Aside0.mk (hbox); have n2_ := Aside0.mk ((by rw [hg]; exact (qJ (by repeat (first | (with_reducible first | exact HB.out | apply qF | apply qA | apply qE) | exact HB.out))) : w.heap.size ≤ gb551)); have n3_ := Aside0.mk ((by rw [hg]; exact (qJ (by repeat (first | (with_reducible first | exact HB.out | apply qF | apply qA | apply qE) | exact HB.out))) : w.heap.size ≤ gb551)); clear HB; have HB := n0_; have BK551 := n1_; have GW551 := n2_; have GE551 := n3_; clear n0_ n1_ n2_ n3_; clear hb hbox hg; have hcz7_0 : w6.cell? ⟨gb551, 0, none⟩ = some (.int .i64 a1_0) := (qI BK551.out 0).trans rfl; have hcz7_1 : w6.cell? ⟨gb551, 1, none⟩ = some (.int .i64 a1_1) := (qI BK551.out 1).trans rfl; have hcz7_2 : w6.cell? ⟨gb551, 2, none⟩ = some (.int .i64 a1_2) := (qI BK551.out 2).trans rfl; have hfz7_0 := qH BK551.out 0; have hfz7_1 := qH BK551.out 1; have hfz7_2 := qH BK551.out 2) | ((with_reducible refine qX (f := 58) rfl ?_); refine qo (some 17) rfl rfl Tryd.func58 (by kernel_rfl) rfl #[.string a0, .agg #[.int .i64 a1_0, .int .i64 a1_1, .int .i64 a1_2]] rfl (by (try simp only [List.map_toArray, List.map_cons, List.map_nil]); first | done | rfl | (simp only [List.length_drop, List.length_take]; rfl)) ?_; (with_reducible refine (qZA.calls k a0 a1_0 a1_1 a1_2 t552 t555 _ ?side1 A4.out).mono ?_); (case side1 => first | exact HLD.out | exact Laid.below HLD.out (by repeat (first | (with_reducible first | exact HB.out | apply qF | apply qA | apply qE) | exact HB.out))); rintro e w8 ⟨v553, rfl, ho0, hb⟩; refine ⟨_, rfl, ?_⟩; have n0_ := Aside0.mk (Kd.qMA ho0 (qJ (by repeat (first | (with_reducible first | exact HB.out | apply qF | apply qA | apply qE | refine qG ?_ GE551.out) | exact HB.out)))); have n1_ := Aside0.mk (qK (g := gb551) (o := .cells #[.int .i64 a1_0, .int .i64 a1_1, .int .i64 a1_2] 27 (0, 0)) (by (with_reducible repeat (first | refine qC ?_ _ | refine qD ?_ | refine qB ?_ _)); exact BK551.out) hb); have n2_ := Aside0.mk (qL (by repeat (first | (with_reducible first | exact HB.out | apply qF | apply qA | apply qE | refine qG ?_ GE551.out) | exact HB.out)) hb); clear BK551; clear HB; have HO554 := n0_; have BK551 := n1_; have HB := n2_; clear n0_ n1_ n2_; (try clear hb); (try clear hb2); (try clear hk); (try clear hi); (try clear ho0)))
 (try simp only [Act.put, List.setIfInBounds_toArray, List.set_cons_zero, List.set_cons_succ])
 go_cut [26] (fun v26 wc => ∃ (kq : Nat) (x26_4 : Bool), v26 = .bool x26_4 ∧ Aside0 (qP.j0 kq a2 t552 x26_4 a1_0 a1_1 a1_2 = some (r1, r2)) ∧ Aside0 (kq ≤ k) ∧ Aside0 (Kd.R Kd.string 9 wc w.heap.size (fun _ => True) v553 t552) ∧ Aside0 (wc.heap[gb551]? = some (.cells #[.int .i64 a1_0, .int .i64 a1_1, .int .i64 a1_2] 27 (0, 0))) ∧ Aside0 (Below w.heap.size w wc))
 case first =>
  have H := HC5.out
  clear HC5
  by_cases c9 : t555 = true
  ·subst c9
   have H1 : ((qUA.f a2).bind fun t556 => (qP.j0 k a2 t552 (!t556) a1_0 a1_1 a1_2)) = some (r1, r2) := by rw [if_pos rfl] at H; exact H
   clear H
   have H := H1
   clear H1
   replace H := Option.bind_eq_some_iff.mp H
   obtain ⟨t556, A100, H⟩ := H
   replace H : (qP.j0 k a2 t552 (!t556) a1_0 a1_1 a1_2) = some (r1, r2) := H
   have A10 := Aside0.mk A100
   clear A100
   have H' := Aside0.mk H
   clear H
   go_wp2_with (first | (go_at_call 93; (with_reducible refine (qUA.calls a2 t556 _ A10.out).mono ?_); rintro e w11 ⟨rfl, hb⟩; have n0_ := Aside0.mk (Kd.qi (by (with_reducible repeat (first | apply Kd.qT | apply Kd.qS | apply Kd.qZ)); exact HO554.out) hb); have n1_ := Aside0.mk (qK (g := gb551) (o := .cells #[.int .i64 a1_0, .int .i64 a1_1, .int .i64 a1_2] 27 (0, 0)) (by (with_reducible repeat (first | refine qC ?_ _ | refine qD ?_ | refine qB ?_ _)); exact BK551.out) hb); have n2_ := Aside0.mk (qL (by repeat (first | (with_reducible first | exact HB.out | apply qF | apply qA | apply qE | refine qG ?_ GE551.out) | exact HB.out)) hb); clear HO554; clear BK551; clear HB; have HO554 := n0_; have BK551 := n1_; have HB := n2_; clear n0_ n1_ n2_; (try clear hb); (try clear hb2); (try clear hk); (try clear hi)))
   go_meet
   case rel => exact ⟨_, (!t556), (by first | rfl | (simp; done) | (simp [*]; done)), H', ⟨by first | omega | exact Nat.le_refl _⟩, ⟨by (with_reducible repeat (first | apply Kd.qT | apply Kd.qS | apply Kd.qZ)); exact HO554.out⟩, ⟨by (with_reducible repeat (first | refine qC ?_ _ | refine qD ?_ | refine qB ?_ _)); exact BK551.out⟩, ⟨by repeat (first | (with_reducible first | exact HB.out | apply qF | apply qA | apply qE | refine qG ?_ GE551.out) | exact HB.out)⟩⟩
  ·replace c9 := Bool.eq_false_iff.mpr c9
   subst c9
   have H1 : (qP.j0 k a2 t552 true a1_0 a1_1 a1_2) = some (r1, r2) := by rw [if_neg (show ¬ (false = true) by decide)] at H; exact H
   clear H
   have H := H1
   clear H1
   have H' := Aside0.mk H
   clear H
   go_wp2
   go_meet
   case rel => exact ⟨_, (true), (by first | rfl | (simp; done) | (simp [*]; done)), H', ⟨by first | omega | exact Nat.le_refl _⟩, ⟨by (with_reducible repeat (first | apply Kd.qT | apply Kd.qS | apply Kd.qZ)); exact HO554.out⟩, ⟨by (with_reducible repeat (first | refine qC ?_ _ | refine qD ?_ | refine qB ?_ _)); exact BK551.out⟩, ⟨by repeat (first | (with_reducible first | exact HB.out | apply qF | apply qA | apply qE | refine qG ?_ GE551.out) | exact HB.out)⟩⟩
 case rest =>
  clear HC5
  try clear p2
  try clear c5
  try clear c6
  try clear c9
  try clear hcz7_0
  try clear hcz7_1
  try clear hcz7_2
  try clear hfz7_0
  try clear hfz7_1
  try clear hfz7_2
  obtain ⟨kq, x26_4, rfl, HA, HJ4, HO_8, BK551, HB⟩ := hcut
  cases kq with
  | zero => exact absurd HA.out (by simp [qP.j0])
  | succ kj4 =>
   have H := HA.out
   clear HA
   simp only [qP.j0] at H
   by_cases c12 : x26_4 = true
   ·subst c12
    have H1 : (some (([] : List (S27)), false)) = some (r1, r2) := by rw [if_pos rfl] at H; exact H
    clear H
    have H := H1
    clear H1
    simp only [Option.some.injEq, Prod.mk.injEq] at H
    obtain ⟨rfl, rfl⟩ := H
    go_wp2
    go_ret2
    exact ⟨_, by first | rfl | (simp [qN, qM] <;> rfl) | (simp [*, qN, qM] <;> rfl), by first | exact Kd.R_nil _ _ _ _ _ | exact Kd.N_nil _ _ _ _ _ | exact Kd.V_nil _ _ _ _ _ | exact Kd.Q_nil _ _ _ _ _ | exact Kd.S_nil _ _ _ _ _, by repeat (first | (with_reducible first | exact HB.out | apply qF | apply qA | apply qE | refine qG ?_ GE551.out) | exact HB.out)⟩
   ·replace c12 := Bool.eq_false_iff.mpr c12
    subst c12
    have H1 : (qP.l0 kj4 a2 t552 (([(⟨a1_0, a1_1, a1_2⟩ : S27)] : List (S27))) (a2.size : Int) 0) = some (r1, r2) := by rw [if_neg (show ¬ (false = true) by decide)] at H; exact H
    clear H
    have H := H1
    clear H1
    obtain ⟨y557, hy557⟩ : ∃ y_ : List (S27), y_ = (([(⟨a1_0, a1_1, a1_2⟩ : S27)] : List (S27))) := ⟨_, rfl⟩
    replace H : (qP.l0 kj4 a2 t552 y557 (a2.size : Int) 0) = some (r1, r2) := by first | (rw [hy557]; with_reducible exact H) | (have H2_ := (Option.bind_some _ _).symm.trans H; rw [hy557]; with_reducible exact H2_) | (have H2_ := (Option.bind_some _ _).symm.trans H; with_reducible exact H2_) | with_reducible exact H | (rw [hy557]; exact H) | exact H
    have Ny557 := Aside0.mk hy557
    clear hy557
    have H' := Aside0.mk H
    clear H
    have hcz13_0 : wc.cell? ⟨gb551, 0, none⟩ = some (.int .i64 a1_0) := (qI BK551.out 0).trans rfl
    have hcz13_1 : wc.cell? ⟨gb551, 1, none⟩ = some (.int .i64 a1_1) := (qI BK551.out 1).trans rfl
    have hcz13_2 : wc.cell? ⟨gb551, 2, none⟩ = some (.int .i64 a1_2) := (qI BK551.out 2).trans rfl
    have hfz13_0 := qH BK551.out 0
    have hfz13_1 := qH BK551.out 1
    have hfz13_2 := qH BK551.out 2
    go_wp2_with (first | ((with_reducible refine qc (N := 28) rfl ?_); refine Kd.R_lit k27 _ 27 ?hg (N := 28) ?hd (xs := ([(⟨a1_0, a1_1, a1_2⟩ : S27)] : List (S27))) (inner := [.int .i64 a1_0, .int .i64 a1_1, .int .i64 a1_2]) (ok := fun _ => True) (okp := fun _ => True) ?hr ?hp (fun _ hk => hk) trivial (Below.refl _ _) (Nat.le_refl _) (by simp) ?_; (case hd => rfl); (case hg => rfl); (case hr => first | (go_simp; done) | (go_simp; rfl)); (case hp => exact (Reps.c3 (show Kd.M k27 _ _ _ (⟨a1_0, a1_1, a1_2⟩ : S27) [.int .i64 a1_0, .int .i64 a1_1, .int .i64 a1_2] from (qXB _ _ _ (⟨a1_0, a1_1, a1_2⟩ : S27) )) (Reps.none _ _))); intro v558 w14 ho15 hb hg_ hnew_; clear hg_ hnew_; (first | rw [← Ny557.out] at ho15 | (simp only [Int.reduceToNat] at ho15; rw [← Ny557.out] at ho15)); have n0_ := Aside0.mk (Kd.qi (by (with_reducible repeat (first | apply Kd.qT | apply Kd.qS | apply Kd.qZ)); exact HO_8.out) hb); have n1_ := Aside0.mk (Kd.qMA (Kd.qHB ho15 (g := gb551) (o := .cells #[.int .i64 a1_0, .int .i64 a1_1, .int .i64 a1_2] 27 (0, 0)) (by (with_reducible repeat (first | refine qC ?_ _ | refine qD ?_ | refine qB ?_ _)); exact BK551.out)) (qJ (by repeat (first | (with_reducible first | exact HB.out | apply qF | apply qA | apply qE | refine qG ?_ GE551.out) | exact HB.out)))); have n2_ := Aside0.mk (qK (g := gb551) (o := .cells #[.int .i64 a1_0, .int .i64 a1_1, .int .i64 a1_2] 27 (0, 0)) (by (with_reducible repeat (first | refine qC ?_ _ | refine qD ?_ | refine qB ?_ _)); exact BK551.out) hb); have n3_ := Aside0.mk (qL (by repeat (first | (with_reducible first | exact HB.out | apply qF | apply qA | apply qE | refine qG ?_ GE551.out) | exact HB.out)) hb); clear HO_8; clear BK551; clear HB; have HO_8 := n0_; have HO559 := n1_; have BK551 := n2_; have HB := n3_; clear n0_ n1_ n2_ n3_; clear hb ho15))
    go_loopg [10, 31] kj4 (fun kq v10 v31 w' => ∃ (x10_2 : List (S27)) (x31_2 : Int), v31 = .int .i64 x31_2 ∧ Aside0 (qP.l0 kq a2 t552 x10_2 (a2.size : Int) x31_2 = some (r1, r2)) ∧ Aside0 (kq ≤ kj4) ∧ Aside0 (Kd.R Kd.string 9 w' w.heap.size (fun _ => True) v553 t552) ∧ Aside0 (Kd.R k27 27 w' w.heap.size (fun k_ => k_ ≠ gb551) v10 x10_2) ∧ Aside0 (w'.heap[gb551]? = some (.cells #[.int .i64 a1_0, .int .i64 a1_1, .int .i64 a1_2] 27 (0, 0))) ∧ Aside0 (Below w.heap.size w w'))
    case atStart => exact ⟨(y557), (0), (by first | rfl | (simp; done) | (simp [*]; done)), H', ⟨Nat.le_refl _⟩, ⟨by (with_reducible repeat (first | apply Kd.qT | apply Kd.qS | apply Kd.qZ)); exact HO_8.out⟩, ⟨by (with_reducible repeat (first | apply Kd.qT | apply Kd.qS | apply Kd.qZ)); exact Kd.qHA HO559.out (fun _ hk => hk.2)⟩, ⟨by (with_reducible repeat (first | refine qC ?_ _ | refine qD ?_ | refine qB ?_ _)); exact BK551.out⟩, ⟨by repeat (first | (with_reducible first | exact HB.out | apply qF | apply qA | apply qE | refine qG ?_ GE551.out) | exact HB.out)⟩⟩
    case round =>
     clear H'
     try clear c1
     try clear p2
     try clear c3
     try clear c5
     try clear c6
     try clear c9
     try clear c12
     try clear hcz13_0
     try clear hcz13_1
     try clear hcz13_2
     try clear hcz7_0
     try clear hcz7_1
     try clear hcz7_2
     try clear hfz13_0
     try clear hfz13_1
     try clear hfz13_2
     try clear hfz7_0
     try clear hfz7_1
     try clear hfz7_2
     try clear p2
     obtain ⟨x10_2, x31_2, rfl, HA, HK2, HO_8, HO_10, BK551, HB⟩ := hrel
     cases gk with
     | zero => exact absurd HA.out (by simp [qP.l0])
     | succ k2 =>
      have H := HA.out
      clear HA
      simp only [qP.l0] at H
      by_cases c16 : x31_2 < (a2.size : Int)
      ·rw [if_pos c16] at H
       have c16b0 : decide (x31_2 < (a2.size : Int)) = true := decide_eq_true c16
       clear c16
       by_cases c17 : 0 ≤ x31_2
       ·rw [if_pos c17] at H
        have c17b0 : decide (0 ≤ x31_2) = true := decide_eq_true c17
        clear c17
        by_cases c18 : x31_2 < (x10_2.length : Int)
        ·rw [if_pos c18] at H
         have c18b0 : decide (x31_2 < (x10_2.length : Int)) = true := decide_eq_true c18
         clear c18
         by_cases c19 : x31_2 < (a2.size : Int)
         ·rw [if_pos c19] at H
          have c19b0 : decide (x31_2 < (a2.size : Int)) = true := decide_eq_true c19
          clear c19
          replace H := Option.bind_eq_some_iff.mp H
          obtain ⟨⟨t561, t562, t563, t564⟩, A210, H⟩ := H
          replace H : (if t564 = true then (if x10_2.length < 5864062014805 then (qP.l0 k2 a2 t552 (x10_2 ++ [(⟨t561, t562, t563⟩ : S27)]) (a2.size : Int) (wrap64 (x31_2 + 1))) else (none)) else (some (([] : List (S27)), false))) = some (r1, r2) := H
          have A21 := Aside0.mk A210
          clear A210
          by_cases c22 : t564 = true
          ·subst c22
           have H1 : (if x10_2.length < 5864062014805 then (qP.l0 k2 a2 t552 (x10_2 ++ [(⟨t561, t562, t563⟩ : S27)]) (a2.size : Int) (wrap64 (x31_2 + 1))) else (none)) = some (r1, r2) := by rw [if_pos rfl] at H; exact H
           clear H
           have H := H1
           clear H1
           by_cases c23 : x10_2.length < 5864062014805
           ·rw [if_pos c23] at H
            have LMc23 := Aside0.mk c23
            clear c23
            obtain ⟨y566, hy566⟩ : ∃ y_ : List (S27), y_ = (x10_2 ++ [(⟨t561, t562, t563⟩ : S27)]) := ⟨_, rfl⟩
            replace H : (qP.l0 k2 a2 t552 y566 (a2.size : Int) (wrap64 (x31_2 + 1))) = some (r1, r2) := by first | (rw [hy566]; with_reducible exact H) | (have H2_ := (Option.bind_some _ _).symm.trans H; rw [hy566]; with_reducible exact H2_) | (have H2_ := (Option.bind_some _ _).symm.trans H; with_reducible exact H2_) | with_reducible exact H | (rw [hy566]; exact H) | exact H
            have Ny566 := Aside0.mk hy566
            clear hy566
            have H' := Aside0.mk H
            clear H
            obtain ⟨Ao24, co24, eo24⟩ := Kd.qRA HO_8.out
            subst eo24
            try go_wp2
            have n0_ := Aside0.mk (Kd.qZ HO_8.out)
            have n1_ := Aside0.mk (Kd.qZ HO_10.out)
            have n2_ := Aside0.mk (qD BK551.out)
            have n3_ := Aside0.mk (qE HB.out)
            clear HO_8
            clear HO_10
            clear BK551
            clear HB
            have HO_8 := n0_
            have HO_10 := n1_
            have BK551 := n2_
            have HB := n3_
            clear n0_ n1_ n2_ n3_
            obtain ⟨Ao26, co26, eo26⟩ := Kd.qRA HO_10.out
            (first | subst eo26 | (injection eo26 with f1_ f2_ f3_; have f4_ := f1_.symm; have f5_ := f3_.symm; clear f1_ f2_ f3_; subst f4_; subst f5_))
            have p560 : 0 ≤ (x31_2 : Int) := of_decide_eq_true (by first | (with_reducible assumption) | assumption)
            have q560 : x31_2 < (x10_2.length : Int) := of_decide_eq_true (by first | (with_reducible assumption) | assumption)
            obtain ⟨ad560, e560, hx560_0, hx560_1, hx560_2⟩ := qkB (Kd.qh HO_10.out).2.2 x31_2 p560 q560
            cases e560
            replace p560 := eq_true p560
            replace q560 := eq_true q560
            have p20 : 0 ≤ (x31_2 : Int) := of_decide_eq_true (by first | (with_reducible assumption) | assumption)
            have q20 : x31_2 < (a2.size : Int) := of_decide_eq_true (by first | (with_reducible assumption) | assumption)
            have hx20 := bt_at a2 x31_2
            replace p20 := eq_true p20
            replace q20 := eq_true q20
            refine qBB (n := 15) (S := fun w' => w'.cell? (ad560.add ((x31_2).toNat * 3)) = some (.int .i64 ((qg x10_2 x31_2).f0)) ∧ w'.cell? ⟨(ad560.add ((x31_2).toNat * 3)).block, (ad560.add ((x31_2).toNat * 3)).off + 1, none⟩ = some (.int .i64 ((qg x10_2 x31_2).f1)) ∧ w'.cell? ⟨(ad560.add ((x31_2).toNat * 3)).block, (ad560.add ((x31_2).toNat * 3)).off + 2, none⟩ = some (.int .i64 ((qg x10_2 x31_2).f2))) (ds := []) #[false, false, false, false, false, false, false, false, false, false, false, false, false, false, false] (by kernel_rfl) rfl rfl ⟨hx560_0, hx560_1, hx560_2⟩ (fun hHeld => ?_); refine qcA qP.tab8 qP.bits8 (fun HT_ HW_ => ?_)
            generalize wr.drew = w25 at HO_8 HO_10 BK551 HB hx560_0 hx560_1 hx560_2 hHeld ⊢
            refine pS (i := 0) (N := some 35) #[true, false, false, false, false, false, false, false, false, false, false, false, false, false, false] HT_ ?_
            refine pS (i := 1) (N := some 36) #[true, true, false, false, false, false, false, false, false, false, false, false, false, false, false] HT_ ?_
            refine pS (i := 2) (N := some 37) #[true, true, true, false, false, false, false, false, false, false, false, false, false, false, false] HT_ ?_
            refine pS (i := 3) (N := some 38) #[true, true, true, true, false, false, false, false, false, false, false, false, false, false, false] HT_ ?_
            refine pS (i := 5) (N := some 40) #[true, true, true, true, false, true, false, false, false, false, false, false, false, false, false] HT_ ?_
            refine pS (i := 6) (N := some 41) #[true, true, true, true, false, true, true, false, false, false, false, false, false, false, false] HT_ ?_
            refine take_ (i := 4) (N := some 39) (v := ?_) (a' := ?_) #[true, true, true, true, true, true, true, false, false, false, false, false, false, false, false] rfl rfl (qq HT_.out HW_.out (by kernel_rfl)) (fun _ _ _ h => h) (Or.inl ⟨by rfl, ?_⟩) hHeld ?_ ?_
            rotate_left
            ·rintro w' ⟨s0, s1, s2⟩
             go_simp
             first | (with_reducible rfl) | (rw [if_neg (by simp only [ByteArray.size_extract, ByteArray.size_append] at * <;> omega)]; try with_reducible rfl)
            rotate_left
            ·simp only [Act.put, List.setIfInBounds_toArray, List.set_cons_zero, List.set_cons_succ, i64_w, i32_w]
             rfl
            refine take_ (i := 7) (N := some 42) (v := ?_) (a' := ?_) #[true, true, true, true, true, true, true, true, false, false, false, false, false, false, false] rfl rfl (qq HT_.out HW_.out (by kernel_rfl)) (fun _ _ _ h => h) (Or.inl ⟨by rfl, ?_⟩) hHeld ?_ ?_
            rotate_left
            ·rintro w' ⟨s0, s1, s2⟩
             go_simp
             first | (with_reducible rfl) | (rw [if_neg (by simp only [ByteArray.size_extract, ByteArray.size_append] at * <;> omega)]; try with_reducible rfl)
            rotate_left
            ·simp only [Act.put, List.setIfInBounds_toArray, List.set_cons_zero, List.set_cons_succ, i64_w, i32_w]
             rfl
            refine join_ (σ := Nat) 2 #[true, true, true, true, true, true, true, true, true, true, true, true, true, false, false] (fun s_ => [(43, .tuple #[.agg #[.int .i64 t561, .int .i64 t562, .int .i64 t563], .bool true]), (12, .pointer (some ⟨s_, 0, none⟩)), (34, .tuple #[.agg #[.int .i64 t561, .int .i64 t562, .int .i64 t563], .bool true]), (44, .agg #[.int .i64 t561, .int .i64 t562, .int .i64 t563]), (45, .bool true)]) (fun s_ w' => (w'.cell? (ad560.add ((x31_2).toNat * 3)) = some (.int .i64 ((qg x10_2 x31_2).f0)) ∧ w'.cell? ⟨(ad560.add ((x31_2).toNat * 3)).block, (ad560.add ((x31_2).toNat * 3)).off + 1, none⟩ = some (.int .i64 ((qg x10_2 x31_2).f1)) ∧ w'.cell? ⟨(ad560.add ((x31_2).toNat * 3)).block, (ad560.add ((x31_2).toNat * 3)).off + 2, none⟩ = some (.int .i64 ((qg x10_2 x31_2).f2))) ∧ (Kd.R k27 27 w' w.heap.size (fun k_ => k_ ≠ gb551 ∧ k_ ≠ s_) (.slice (some ad560) x10_2.length co26) x10_2) ∧ (Kd.R Kd.string 9 w' w.heap.size (fun _ => True) (.slice Ao24 t552.length co24) t552) ∧ (w'.heap[gb551]? = some (.cells #[.int .i64 a1_0, .int .i64 a1_1, .int .i64 a1_2] 27 (0, 0))) ∧ (w'.heap[s_]? = some (.cells #[.int .i64 0, .int .i64 0, .int .i64 0] 27 (0, 0))) ∧ (w.heap.size ≤ s_) ∧ (w.heap.size ≤ s_) ∧ (gb551 ≠ s_) ∧ (s_ ≠ gb551) ∧ (Below w.heap.size w w')) ?_ ?_
            rotate_left
            ·intro hCont
             refine two_ (i := 8) (j := 12) (Ni := some 43) (Nj := some 12) #[true, true, true, true, true, true, true, true, true, false, false, false, false, false, false] #[true, true, true, true, true, true, true, true, false, false, false, false, true, false, false] rfl rfl rfl rfl (qWB HT_.out (by kernel_rfl)) (by decide) (by decide) (fun K hK => ?_) (fun K hK => ?_)
             ·skip
              refine goes_ Tryd.func62 (by kernel_rfl) rfl #[.slice Ao24 t552.length co24, .agg #[.int .i64 ((qg x10_2 x31_2).f0), .int .i64 ((qg x10_2 x31_2).f1), .int .i64 ((qg x10_2 x31_2).f2)], .int .u8 (bt a2 x31_2)] (by rfl) rfl rfl (by (try simp only [List.map_toArray, List.map_cons, List.map_nil]); first | done | rfl | (simp only [List.length_drop, List.length_take]; rfl)) ?_
              with_reducible refine (qEA.calls k2 _ _ t552 ((qg x10_2 x31_2).f0) ((qg x10_2 x31_2).f1) ((qg x10_2 x31_2).f2) (bt a2 x31_2) t561 t562 t563 true _ ?side1 ?side2 A21.out).mono ?_
              (case side1 => repeat (first | exact (Kd.qh HO_8.out).2.2 | (with_reducible refine Kd.qOA ?_ _) | (with_reducible refine Kd.qNA ?_ _) | (with_reducible refine Kd.qXA ?_)))
              (case side2 => exact (Kd.qh HO_8.out).2.1)
              rintro e w27 ⟨rfl, hb⟩
              have HS0_ := (hb.cell (World.block_lt_of_cell? _ _ (hHeld.1))).trans (hHeld.1)
              have HS1_ := (hb.cell (World.block_lt_of_cell? _ _ (hHeld.2.1))).trans (hHeld.2.1)
              have HS2_ := (hb.cell (World.block_lt_of_cell? _ _ (hHeld.2.2))).trans (hHeld.2.2)
              refine ⟨_, rfl, ?_⟩
              have n0_ := Aside0.mk (Kd.qi (by (with_reducible repeat (first | apply Kd.qT | apply Kd.qS | apply Kd.qZ)); exact HO_8.out) hb)
              have n1_ := Aside0.mk (Kd.qi (by (with_reducible repeat (first | apply Kd.qT | apply Kd.qS | apply Kd.qZ)); exact HO_10.out) hb)
              have n2_ := Aside0.mk (qK (g := gb551) (o := .cells #[.int .i64 a1_0, .int .i64 a1_1, .int .i64 a1_2] 27 (0, 0)) (by (with_reducible repeat (first | refine qC ?_ _ | refine qD ?_ | refine qB ?_ _)); exact BK551.out) hb)
              have n3_ := Aside0.mk (qL (by repeat (first | (with_reducible first | exact HB.out | apply qF | apply qA | apply qE | refine qG ?_ GE551.out) | exact HB.out)) hb)
              clear HO_8
              clear HO_10
              clear BK551
              clear HB
              have HO_8 := n0_
              have HO_10 := n1_
              have BK551 := n2_
              have HB := n3_
              clear n0_ n1_ n2_ n3_
              (try clear hb)
              (try clear hb2)
              (try clear hk)
              (try clear hi)
              refine hK.out _ _ ⟨HS0_, HS1_, HS2_⟩ (fun hHeld => ?_)
              clear hK K
              refine norm_ (a' := ?_) ?_ ?_
              rotate_left
              ·show Act.put _ (some 43) _ = _
               simp only [Act.put, List.setIfInBounds_toArray, List.set_cons_zero, List.set_cons_succ, i64_w, i32_w]
               rfl
              refine pS (i := 9) (N := some 34) #[true, true, true, true, true, true, true, true, true, true, false, false, false, false, false] HT_ ?_
              refine pS (i := 10) (N := some 44) #[true, true, true, true, true, true, true, true, true, true, true, false, false, false, false] HT_ ?_
              refine pS (i := 11) (N := some 45) #[true, true, true, true, true, true, true, true, true, true, true, true, false, false, false] HT_ ?_
              refine one_ (i := 12) (N := some 12) #[true, true, true, true, true, true, true, true, true, true, true, true, true, false, false] rfl rfl (qWA HT_.out (by kernel_rfl)) (by decide) (fun K hK => ?_)
              refine qmA ?hg (N := 12) ?hd (cs := #[.int .i64 0, .int .i64 0, .int .i64 0]) (t := 27) ?hr ?_; (case hd => rfl); (case hg => rfl); (case hr => first | (go_simp; done) | (go_simp; rfl))
              intro gb565 hg w28 hbox hb
              have HS0_ := (hb.cell (World.block_lt_of_cell? _ _ (hHeld.1))).trans (hHeld.1)
              have HS1_ := (hb.cell (World.block_lt_of_cell? _ _ (hHeld.2.1))).trans (hHeld.2.1)
              have HS2_ := (hb.cell (World.block_lt_of_cell? _ _ (hHeld.2.2))).trans (hHeld.2.2)
              have n0_ := Aside0.mk (Kd.qi (by (with_reducible repeat (first | apply Kd.qT | apply Kd.qS | apply Kd.qZ)); exact HO_8.out) hb)
              have n1_ := Aside0.mk (Kd.qi (Kd.qnA (by (with_reducible repeat (first | apply Kd.qT | apply Kd.qS | apply Kd.qZ)); exact HO_10.out) gb565 (Nat.le_of_eq hg.symm)) hb)
              have n2_ := Aside0.mk (qK (g := gb551) (o := .cells #[.int .i64 a1_0, .int .i64 a1_1, .int .i64 a1_2] 27 (0, 0)) (by (with_reducible repeat (first | refine qC ?_ _ | refine qD ?_ | refine qB ?_ _)); exact BK551.out) hb)
              have n3_ := Aside0.mk (qL (by repeat (first | (with_reducible first | exact HB.out | apply qF | apply qA | apply qE | refine qG ?_ GE551.out) | exact HB.out)) hb)
              have n4_ := Aside0.mk (hbox)
              have n5_ := Aside0.mk ((by rw [hg]; exact (qJ (by repeat (first | (with_reducible first | exact HB.out | apply qF | apply qA | apply qE | refine qG ?_ GE551.out) | exact HB.out))) : w.heap.size ≤ gb565))
              have n6_ := Aside0.mk ((by rw [hg]; exact (qJ (by repeat (first | (with_reducible first | exact HB.out | apply qF | apply qA | apply qE | refine qG ?_ GE551.out) | exact HB.out))) : w.heap.size ≤ gb565))
              have n7_ := Aside0.mk ((by rw [hg]; exact Nat.ne_of_lt (qd (g := gb551) (o := .cells #[.int .i64 a1_0, .int .i64 a1_1, .int .i64 a1_2] 27 (0, 0)) (by (with_reducible repeat (first | refine qC ?_ _ | refine qD ?_ | refine qB ?_ _)); exact BK551.out)) : gb551 ≠ gb565))
              have n8_ := Aside0.mk ((by rw [hg]; exact Nat.ne_of_gt (qd (g := gb551) (o := .cells #[.int .i64 a1_0, .int .i64 a1_1, .int .i64 a1_2] 27 (0, 0)) (by (with_reducible repeat (first | refine qC ?_ _ | refine qD ?_ | refine qB ?_ _)); exact BK551.out)) : gb565 ≠ gb551))
              clear HO_8
              clear HO_10
              clear BK551
              clear HB
              have HO_8 := n0_
              have HO_10 := n1_
              have BK551 := n2_
              have HB := n3_
              have BK565 := n4_
              have GW565 := n5_
              have GE565 := n6_
              have NB551_565 := n7_
              have NB565_551 := n8_
              clear n0_ n1_ n2_ n3_ n4_ n5_ n6_ n7_ n8_
              clear hb hbox hg
              refine hK.out _ _ ⟨HS0_, HS1_, HS2_⟩ (fun hHeld => ?_)
              clear hK K
              refine norm_ (a' := ?_) ?_ ?_
              rotate_left
              ·show Act.put _ (some 12) _ = _
               simp only [Act.put, List.setIfInBounds_toArray, List.set_cons_zero, List.set_cons_succ, i64_w, i32_w]
               rfl
              exact norm_ (by simp only [putAll, Act.put, List.setIfInBounds_toArray, List.set_cons_zero, List.set_cons_succ]) (hCont (gb565) _ ⟨hHeld, (by (with_reducible repeat (first | apply Kd.qT | apply Kd.qS | apply Kd.qZ)); exact HO_10.out), (by (with_reducible repeat (first | apply Kd.qT | apply Kd.qS | apply Kd.qZ)); exact HO_8.out), (by (with_reducible repeat (first | refine qC ?_ _ | refine qD ?_ | refine qB ?_ _)); exact BK551.out), (by (with_reducible repeat (first | refine qC ?_ _ | refine qD ?_ | refine qB ?_ _)); exact BK565.out), GW565.out, GE565.out, NB551_565.out, NB565_551.out, (by repeat (first | (with_reducible first | exact HB.out | apply qF | apply qA | apply qE | refine qG ?_ GE551.out | refine qG ?_ GE565.out) | exact HB.out))⟩)
             ·skip
              refine qmA ?hg (N := 12) ?hd (cs := #[.int .i64 0, .int .i64 0, .int .i64 0]) (t := 27) ?hr ?_; (case hd => rfl); (case hg => rfl); (case hr => first | (go_simp; done) | (go_simp; rfl))
              intro gb565 hg w27 hbox hb
              have HS0_ := (hb.cell (World.block_lt_of_cell? _ _ (hHeld.1))).trans (hHeld.1)
              have HS1_ := (hb.cell (World.block_lt_of_cell? _ _ (hHeld.2.1))).trans (hHeld.2.1)
              have HS2_ := (hb.cell (World.block_lt_of_cell? _ _ (hHeld.2.2))).trans (hHeld.2.2)
              have n0_ := Aside0.mk (Kd.qi (by (with_reducible repeat (first | apply Kd.qT | apply Kd.qS | apply Kd.qZ)); exact HO_8.out) hb)
              have n1_ := Aside0.mk (Kd.qi (Kd.qnA (by (with_reducible repeat (first | apply Kd.qT | apply Kd.qS | apply Kd.qZ)); exact HO_10.out) gb565 (Nat.le_of_eq hg.symm)) hb)
              have n2_ := Aside0.mk (qK (g := gb551) (o := .cells #[.int .i64 a1_0, .int .i64 a1_1, .int .i64 a1_2] 27 (0, 0)) (by (with_reducible repeat (first | refine qC ?_ _ | refine qD ?_ | refine qB ?_ _)); exact BK551.out) hb)
              have n3_ := Aside0.mk (qL (by repeat (first | (with_reducible first | exact HB.out | apply qF | apply qA | apply qE | refine qG ?_ GE551.out) | exact HB.out)) hb)
              have n4_ := Aside0.mk (hbox)
              have n5_ := Aside0.mk ((by rw [hg]; exact (qJ (by repeat (first | (with_reducible first | exact HB.out | apply qF | apply qA | apply qE | refine qG ?_ GE551.out) | exact HB.out))) : w.heap.size ≤ gb565))
              have n6_ := Aside0.mk ((by rw [hg]; exact (qJ (by repeat (first | (with_reducible first | exact HB.out | apply qF | apply qA | apply qE | refine qG ?_ GE551.out) | exact HB.out))) : w.heap.size ≤ gb565))
              have n7_ := Aside0.mk ((by rw [hg]; exact Nat.ne_of_lt (qd (g := gb551) (o := .cells #[.int .i64 a1_0, .int .i64 a1_1, .int .i64 a1_2] 27 (0, 0)) (by (with_reducible repeat (first | refine qC ?_ _ | refine qD ?_ | refine qB ?_ _)); exact BK551.out)) : gb551 ≠ gb565))
              have n8_ := Aside0.mk ((by rw [hg]; exact Nat.ne_of_gt (qd (g := gb551) (o := .cells #[.int .i64 a1_0, .int .i64 a1_1, .int .i64 a1_2] 27 (0, 0)) (by (with_reducible repeat (first | refine qC ?_ _ | refine qD ?_ | refine qB ?_ _)); exact BK551.out)) : gb565 ≠ gb551))
              clear HO_8
              clear HO_10
              clear BK551
              clear HB
              have HO_8 := n0_
              have HO_10 := n1_
              have BK551 := n2_
              have HB := n3_
              have BK565 := n4_
              have GW565 := n5_
              have GE565 := n6_
              have NB551_565 := n7_
              have NB565_551 := n8_
              clear n0_ n1_ n2_ n3_ n4_ n5_ n6_ n7_ n8_
              clear hb hbox hg
              refine hK.out _ _ ⟨HS0_, HS1_, HS2_⟩ (fun hHeld => ?_)
              clear hK K
              refine norm_ (a' := ?_) ?_ ?_
              rotate_left
              ·show Act.put _ (some 12) _ = _
               simp only [Act.put, List.setIfInBounds_toArray, List.set_cons_zero, List.set_cons_succ, i64_w, i32_w]
               rfl
              refine one_ (i := 8) (N := some 43) #[true, true, true, true, true, true, true, true, true, false, false, false, true, false, false] rfl rfl (qWA HT_.out (by kernel_rfl)) (by decide) (fun K hK => ?_)
              refine goes_ Tryd.func62 (by kernel_rfl) rfl #[.slice Ao24 t552.length co24, .agg #[.int .i64 ((qg x10_2 x31_2).f0), .int .i64 ((qg x10_2 x31_2).f1), .int .i64 ((qg x10_2 x31_2).f2)], .int .u8 (bt a2 x31_2)] (by rfl) rfl rfl (by (try simp only [List.map_toArray, List.map_cons, List.map_nil]); first | done | rfl | (simp only [List.length_drop, List.length_take]; rfl)) ?_
              with_reducible refine (qEA.calls k2 _ _ t552 ((qg x10_2 x31_2).f0) ((qg x10_2 x31_2).f1) ((qg x10_2 x31_2).f2) (bt a2 x31_2) t561 t562 t563 true _ ?side1 ?side2 A21.out).mono ?_
              (case side1 => repeat (first | exact (Kd.qh HO_8.out).2.2 | (with_reducible refine Kd.qOA ?_ _) | (with_reducible refine Kd.qNA ?_ _) | (with_reducible refine Kd.qXA ?_)))
              (case side2 => exact (Kd.qh HO_8.out).2.1)
              rintro e w28 ⟨rfl, hb⟩
              have HS0_ := (hb.cell (World.block_lt_of_cell? _ _ (hHeld.1))).trans (hHeld.1)
              have HS1_ := (hb.cell (World.block_lt_of_cell? _ _ (hHeld.2.1))).trans (hHeld.2.1)
              have HS2_ := (hb.cell (World.block_lt_of_cell? _ _ (hHeld.2.2))).trans (hHeld.2.2)
              refine ⟨_, rfl, ?_⟩
              have n0_ := Aside0.mk (Kd.qi (by (with_reducible repeat (first | apply Kd.qT | apply Kd.qS | apply Kd.qZ)); exact HO_8.out) hb)
              have n1_ := Aside0.mk (Kd.qi (by (with_reducible repeat (first | apply Kd.qT | apply Kd.qS | apply Kd.qZ)); exact HO_10.out) hb)
              have n2_ := Aside0.mk (qK (g := gb551) (o := .cells #[.int .i64 a1_0, .int .i64 a1_1, .int .i64 a1_2] 27 (0, 0)) (by (with_reducible repeat (first | refine qC ?_ _ | refine qD ?_ | refine qB ?_ _)); exact BK551.out) hb)
              have n3_ := Aside0.mk (qK (g := gb565) (o := .cells #[.int .i64 0, .int .i64 0, .int .i64 0] 27 (0, 0)) (by (with_reducible repeat (first | refine qC ?_ _ | refine qD ?_ | refine qB ?_ _)); exact BK565.out) hb)
              have n4_ := Aside0.mk (qL (by repeat (first | (with_reducible first | exact HB.out | apply qF | apply qA | apply qE | refine qG ?_ GE551.out | refine qG ?_ GE565.out) | exact HB.out)) hb)
              clear HO_8
              clear HO_10
              clear BK551
              clear BK565
              clear HB
              have HO_8 := n0_
              have HO_10 := n1_
              have BK551 := n2_
              have BK565 := n3_
              have HB := n4_
              clear n0_ n1_ n2_ n3_ n4_
              (try clear hb)
              (try clear hb2)
              (try clear hk)
              (try clear hi)
              refine hK.out _ _ ⟨HS0_, HS1_, HS2_⟩ (fun hHeld => ?_)
              clear hK K
              refine norm_ (a' := ?_) ?_ ?_
              rotate_left
              ·show Act.put _ (some 43) _ = _
               simp only [Act.put, List.setIfInBounds_toArray, List.set_cons_zero, List.set_cons_succ, i64_w, i32_w]
               rfl
              refine pS (i := 9) (N := some 34) #[true, true, true, true, true, true, true, true, true, true, false, false, true, false, false] HT_ ?_
              refine pS (i := 10) (N := some 44) #[true, true, true, true, true, true, true, true, true, true, true, false, true, false, false] HT_ ?_
              refine pS (i := 11) (N := some 45) #[true, true, true, true, true, true, true, true, true, true, true, true, true, false, false] HT_ ?_
              exact norm_ (by simp only [putAll, Act.put, List.setIfInBounds_toArray, List.set_cons_zero, List.set_cons_succ]) (hCont (gb565) _ ⟨hHeld, (by (with_reducible repeat (first | apply Kd.qT | apply Kd.qS | apply Kd.qZ)); exact HO_10.out), (by (with_reducible repeat (first | apply Kd.qT | apply Kd.qS | apply Kd.qZ)); exact HO_8.out), (by (with_reducible repeat (first | refine qC ?_ _ | refine qD ?_ | refine qB ?_ _)); exact BK551.out), (by (with_reducible repeat (first | refine qC ?_ _ | refine qD ?_ | refine qB ?_ _)); exact BK565.out), GW565.out, GE565.out, NB551_565.out, NB565_551.out, (by repeat (first | (with_reducible first | exact HB.out | apply qF | apply qA | apply qE | refine qG ?_ GE551.out | refine qG ?_ GE565.out) | exact HB.out))⟩)
            rintro gb565 w29 ⟨hS_, h0_, h1_, h2_, h3_, h4_, h5_, h6_, h7_, h8_⟩
            have n0_ : Aside0 (Kd.R k27 27 w29 w.heap.size (fun k_ => k_ ≠ gb551 ∧ k_ ≠ gb565) (.slice (some ad560) x10_2.length co26) x10_2) := ⟨h0_⟩
            have n1_ : Aside0 (Kd.R Kd.string 9 w29 w.heap.size (fun _ => True) (.slice Ao24 t552.length co24) t552) := ⟨h1_⟩
            have n2_ : Aside0 (w29.heap[gb551]? = some (.cells #[.int .i64 a1_0, .int .i64 a1_1, .int .i64 a1_2] 27 (0, 0))) := ⟨h2_⟩
            have n3_ : Aside0 (w29.heap[gb565]? = some (.cells #[.int .i64 0, .int .i64 0, .int .i64 0] 27 (0, 0))) := ⟨h3_⟩
            have n4_ : Aside0 (w.heap.size ≤ gb565) := ⟨h4_⟩
            have n5_ : Aside0 (w.heap.size ≤ gb565) := ⟨h5_⟩
            have n6_ : Aside0 (gb551 ≠ gb565) := ⟨h6_⟩
            have n7_ : Aside0 (gb565 ≠ gb551) := ⟨h7_⟩
            have n8_ : Aside0 (Below w.heap.size w w29) := ⟨h8_⟩
            clear HO_8
            clear HO_10
            clear BK551
            clear HB
            clear h0_ h1_ h2_ h3_ h4_ h5_ h6_ h7_ h8_
            have HO_10 := n0_
            have HO_8 := n1_
            have BK551 := n2_
            have BK565 := n3_
            have GW565 := n4_
            have GE565 := n5_
            have NB551_565 := n6_
            have NB565_551 := n7_
            have HB := n8_
            clear n0_ n1_ n2_ n3_ n4_ n5_ n6_ n7_ n8_
            have hHeld : w29.cell? (ad560.add ((x31_2).toNat * 3)) = some (.int .i64 ((qg x10_2 x31_2).f0)) ∧ w29.cell? ⟨(ad560.add ((x31_2).toNat * 3)).block, (ad560.add ((x31_2).toNat * 3)).off + 1, none⟩ = some (.int .i64 ((qg x10_2 x31_2).f1)) ∧ w29.cell? ⟨(ad560.add ((x31_2).toNat * 3)).block, (ad560.add ((x31_2).toNat * 3)).off + 2, none⟩ = some (.int .i64 ((qg x10_2 x31_2).f2)) := hS_
            refine norm_ (a' := ?_) ?_ ?_
            rotate_left
            ·simp only [putAll, Act.put, List.setIfInBounds_toArray, List.set_cons_zero, List.set_cons_succ]
             rfl
            refine one_ (i := 13) (N := none) #[true, true, true, true, true, true, true, true, true, true, true, true, true, true, false] rfl rfl (qWA HT_.out (by kernel_rfl)) (by decide) (fun K hK => ?_)
            have hs30 : w29.cell? ⟨gb565, 0, none⟩ = some (.int .i64 0) := (qI BK565.out 0).trans rfl
            have hfs30 := qH BK565.out 0
            have hns30_0 := NB551_565.out
            have hms30_0 := NB565_551.out
            have hs31 : w29.cell? ⟨gb565, 1, none⟩ = some (.int .i64 0) := (qI BK565.out 1).trans rfl
            have hfs31 := qH BK565.out 1
            have hns31_0 := NB551_565.out
            have hms31_0 := NB565_551.out
            have hs32 : w29.cell? ⟨gb565, 2, none⟩ = some (.int .i64 0) := (qI BK565.out 2).trans rfl
            have hfs32 := qH BK565.out 2
            have hns32_0 := NB551_565.out
            have hms32_0 := NB565_551.out
            refine skip_ (w1 := ?_) (by rfl) rfl ?_ ?_
            rotate_left
            ·go_simp
             rfl
            refine hK.out _ _ ⟨((qa (p := ⟨gb565, _, none⟩) (by first | exact Kd.qf (Kd.qj HO_10.out (fun _ hk => hk.2)) | (rw [qk]; exact Kd.qf (Kd.qj HO_10.out (fun _ hk => hk.2))) | (show (Addr.add _ _).block ≠ _; rw [qk]; exact Kd.qf (Kd.qj HO_10.out (fun _ hk => hk.2))) | (dsimp only; exact Kd.qf (Kd.qj HO_10.out (fun _ hk => hk.2)))) _).trans (((qa (p := ⟨gb565, _, none⟩) (by first | exact Kd.qf (Kd.qj HO_10.out (fun _ hk => hk.2)) | (rw [qk]; exact Kd.qf (Kd.qj HO_10.out (fun _ hk => hk.2))) | (show (Addr.add _ _).block ≠ _; rw [qk]; exact Kd.qf (Kd.qj HO_10.out (fun _ hk => hk.2))) | (dsimp only; exact Kd.qf (Kd.qj HO_10.out (fun _ hk => hk.2)))) _).trans (((qa (p := ⟨gb565, _, none⟩) (by first | exact Kd.qf (Kd.qj HO_10.out (fun _ hk => hk.2)) | (rw [qk]; exact Kd.qf (Kd.qj HO_10.out (fun _ hk => hk.2))) | (show (Addr.add _ _).block ≠ _; rw [qk]; exact Kd.qf (Kd.qj HO_10.out (fun _ hk => hk.2))) | (dsimp only; exact Kd.qf (Kd.qj HO_10.out (fun _ hk => hk.2)))) _).trans (hHeld.1)))))), ((qa (p := ⟨gb565, _, none⟩) (by first | exact Kd.qf (Kd.qj HO_10.out (fun _ hk => hk.2)) | (rw [qk]; exact Kd.qf (Kd.qj HO_10.out (fun _ hk => hk.2))) | (show (Addr.add _ _).block ≠ _; rw [qk]; exact Kd.qf (Kd.qj HO_10.out (fun _ hk => hk.2))) | (dsimp only; exact Kd.qf (Kd.qj HO_10.out (fun _ hk => hk.2)))) _).trans (((qa (p := ⟨gb565, _, none⟩) (by first | exact Kd.qf (Kd.qj HO_10.out (fun _ hk => hk.2)) | (rw [qk]; exact Kd.qf (Kd.qj HO_10.out (fun _ hk => hk.2))) | (show (Addr.add _ _).block ≠ _; rw [qk]; exact Kd.qf (Kd.qj HO_10.out (fun _ hk => hk.2))) | (dsimp only; exact Kd.qf (Kd.qj HO_10.out (fun _ hk => hk.2)))) _).trans (((qa (p := ⟨gb565, _, none⟩) (by first | exact Kd.qf (Kd.qj HO_10.out (fun _ hk => hk.2)) | (rw [qk]; exact Kd.qf (Kd.qj HO_10.out (fun _ hk => hk.2))) | (show (Addr.add _ _).block ≠ _; rw [qk]; exact Kd.qf (Kd.qj HO_10.out (fun _ hk => hk.2))) | (dsimp only; exact Kd.qf (Kd.qj HO_10.out (fun _ hk => hk.2)))) _).trans (hHeld.2.1)))))), ((qa (p := ⟨gb565, _, none⟩) (by first | exact Kd.qf (Kd.qj HO_10.out (fun _ hk => hk.2)) | (rw [qk]; exact Kd.qf (Kd.qj HO_10.out (fun _ hk => hk.2))) | (show (Addr.add _ _).block ≠ _; rw [qk]; exact Kd.qf (Kd.qj HO_10.out (fun _ hk => hk.2))) | (dsimp only; exact Kd.qf (Kd.qj HO_10.out (fun _ hk => hk.2)))) _).trans (((qa (p := ⟨gb565, _, none⟩) (by first | exact Kd.qf (Kd.qj HO_10.out (fun _ hk => hk.2)) | (rw [qk]; exact Kd.qf (Kd.qj HO_10.out (fun _ hk => hk.2))) | (show (Addr.add _ _).block ≠ _; rw [qk]; exact Kd.qf (Kd.qj HO_10.out (fun _ hk => hk.2))) | (dsimp only; exact Kd.qf (Kd.qj HO_10.out (fun _ hk => hk.2)))) _).trans (((qa (p := ⟨gb565, _, none⟩) (by first | exact Kd.qf (Kd.qj HO_10.out (fun _ hk => hk.2)) | (rw [qk]; exact Kd.qf (Kd.qj HO_10.out (fun _ hk => hk.2))) | (show (Addr.add _ _).block ≠ _; rw [qk]; exact Kd.qf (Kd.qj HO_10.out (fun _ hk => hk.2))) | (dsimp only; exact Kd.qf (Kd.qj HO_10.out (fun _ hk => hk.2)))) _).trans (hHeld.2.2))))))⟩ (fun hHeld => ?_)
            clear hK K
            refine pS (i := 14) (N := some 13) #[true, true, true, true, true, true, true, true, true, true, true, true, true, true, true] HT_ ?_
            refine done_ (qsA HT_.out (by kernel_rfl)) ?_
            have hnb33 := NB565_551.out
            have hnc33 := NB551_565.out
            have hcz34_0 : w29.cell? ⟨gb565, 0, none⟩ = some (.int .i64 0) := (qI BK565.out 0).trans rfl
            have hcz34_1 : w29.cell? ⟨gb565, 1, none⟩ = some (.int .i64 0) := (qI BK565.out 1).trans rfl
            have hcz34_2 : w29.cell? ⟨gb565, 2, none⟩ = some (.int .i64 0) := (qI BK565.out 2).trans rfl
            have hfz34_0 := qH BK565.out 0
            have hfz34_1 := qH BK565.out 1
            have hfz34_2 := qH BK565.out 2
            try go_wp2_with (first | ((with_reducible refine quA (b := .append) (xs := #[.tmp 48, .tmp 50]) rfl ?_); at_builtin; refine Kd.R_append k27 (w0 := w) w.heap.size rfl (.tmp 48) (.tmp 50) 50 27 (.agg #[(.int .i64 0), (.int .i64 0), (.int .i64 0)]) 24 rfl Tryd.underlying50 info27 rfl (by decide) (by omega) (.slice (some ad560) x10_2.length co26) x10_2 (⟨t561, t562, t563⟩ : S27) [.int .i64 t561, .int .i64 t562, .int .i64 t563] (fun k_ => k_ ≠ gb551 ∧ k_ ≠ gb565) (fun _ => False) rfl (by first | (go_simp; done) | (go_simp; rfl)) ?aP (fun _ hk => hk.elim) ?aF ?aO ?aB ?aS ?aL ?_; (case aP => exact qXB _ _ _ (⟨t561, t562, t563⟩ : S27)); (case aB => exact (by repeat (first | (with_reducible first | exact HB.out | apply qF | apply qA | apply qE | refine qG ?_ GE551.out | refine qG ?_ GE565.out) | exact HB.out))); (case aF => exact (fun k_ hk => ⟨Kd.freshB (g := gb551) (o := .cells #[.int .i64 a1_0, .int .i64 a1_1, .int .i64 a1_2] 27 (0, 0)) (by (with_reducible repeat (first | refine qC ?_ _ | refine qD ?_ | refine qB ?_ _)); refine qR ?_ NB551_565.out _; (with_reducible repeat (first | refine qC ?_ _ | refine qD ?_ | refine qB ?_ _)); refine qR ?_ NB551_565.out _; (with_reducible repeat (first | refine qC ?_ _ | refine qD ?_ | refine qB ?_ _)); refine qR ?_ NB551_565.out _; (with_reducible repeat (first | refine qC ?_ _ | refine qD ?_ | refine qB ?_ _)); exact BK551.out) k_ hk, Kd.freshB (g := gb565) (o := .cells #[.int .i64 t561, .int .i64 t562, .int .i64 t563] 27 (0, 0)) (by (with_reducible repeat (first | refine qC ?_ _ | refine qD ?_ | refine qB ?_ _)); refine qO (cs := #[.int .i64 t561, .int .i64 t562, .int .i64 0]) ?_ 2 _ rfl; (with_reducible repeat (first | refine qC ?_ _ | refine qD ?_ | refine qB ?_ _)); refine qO (cs := #[.int .i64 t561, .int .i64 0, .int .i64 0]) ?_ 1 _ rfl; (with_reducible repeat (first | refine qC ?_ _ | refine qD ?_ | refine qB ?_ _)); refine qO (cs := #[.int .i64 0, .int .i64 0, .int .i64 0]) ?_ 0 _ rfl; (with_reducible repeat (first | refine qC ?_ _ | refine qD ?_ | refine qB ?_ _)); exact BK565.out) k_ hk⟩)); (case aO => exact (by (with_reducible repeat (first | apply Kd.qT | apply Kd.qS | apply Kd.qZ)); exact Kd.qHA (Kd.R_far (p := ⟨gb565, 2, none⟩) (Kd.R_far (p := ⟨gb565, 1, none⟩) (Kd.R_far (p := ⟨gb565, 0, none⟩) (Kd.qHA HO_10.out (fun k_ hk => (⟨hk, hk.2⟩ : _ ∧ k_ ≠ gb565))) (fun _ hk => hk.2) (.int .i64 t561)) (fun _ hk => hk.2) (.int .i64 t562)) (fun _ hk => hk.2) (.int .i64 t563)) (fun _ hk => ⟨hk.1.1, hk.1.2⟩))); (case aS => exact (qJ (by repeat (first | (with_reducible first | exact HB.out | apply qF | apply qA | apply qE | refine qG ?_ GE551.out | refine qG ?_ GE565.out) | exact HB.out)))); (case aL => have := LMc23.out; omega); intro v567 w35 ho hb hg hat; rw [← Ny566.out] at ho; have n0_ := Aside0.mk (Kd.R_over' (by (with_reducible repeat (first | apply Kd.qT | apply Kd.qS | apply Kd.qZ)); exact (Kd.qHA (Kd.R_far (p := ⟨gb565, 2, none⟩) (Kd.R_far (p := ⟨gb565, 1, none⟩) (Kd.R_far (p := ⟨gb565, 0, none⟩) (Kd.qjA HO_8.out BK565.out (by decide)) (fun _ hk => hk.2) (.int .i64 t561)) (fun _ hk => hk.2) (.int .i64 t562)) (fun _ hk => hk.2) (.int .i64 t563)) (fun _ h_ => h_.1))) (Kd.R_typed (by (with_reducible repeat (first | apply Kd.qT | apply Kd.qS | apply Kd.qZ)); exact (Kd.qHA (Kd.R_far (p := ⟨gb565, 2, none⟩) (Kd.R_far (p := ⟨gb565, 1, none⟩) (Kd.R_far (p := ⟨gb565, 0, none⟩) (Kd.qHA HO_10.out (fun k_ hk => (⟨hk, hk.2⟩ : _ ∧ k_ ≠ gb565))) (fun _ hk => hk.2) (.int .i64 t561)) (fun _ hk => hk.2) (.int .i64 t562)) (fun _ hk => hk.2) (.int .i64 t563)) (fun _ h_ => h_.1)))) (by decide) hg); have n1_ := Aside0.mk (qfA (g := gb551) (o := .cells #[.int .i64 a1_0, .int .i64 a1_1, .int .i64 a1_2] 27 (0, 0)) (by (with_reducible repeat (first | refine qC ?_ _ | refine qD ?_ | refine qB ?_ _)); refine qR ?_ NB551_565.out _; (with_reducible repeat (first | refine qC ?_ _ | refine qD ?_ | refine qB ?_ _)); refine qR ?_ NB551_565.out _; (with_reducible repeat (first | refine qC ?_ _ | refine qD ?_ | refine qB ?_ _)); refine qR ?_ NB551_565.out _; (with_reducible repeat (first | refine qC ?_ _ | refine qD ?_ | refine qB ?_ _)); exact BK551.out) hg (Kd.qj HO_10.out (fun _ hk => hk.1))); have n2_ := Aside0.mk (qfA (g := gb565) (o := .cells #[.int .i64 t561, .int .i64 t562, .int .i64 t563] 27 (0, 0)) (by (with_reducible repeat (first | refine qC ?_ _ | refine qD ?_ | refine qB ?_ _)); refine qO (cs := #[.int .i64 t561, .int .i64 t562, .int .i64 0]) ?_ 2 _ rfl; (with_reducible repeat (first | refine qC ?_ _ | refine qD ?_ | refine qB ?_ _)); refine qO (cs := #[.int .i64 t561, .int .i64 0, .int .i64 0]) ?_ 1 _ rfl; (with_reducible repeat (first | refine qC ?_ _ | refine qD ?_ | refine qB ?_ _)); refine qO (cs := #[.int .i64 0, .int .i64 0, .int .i64 0]) ?_ 0 _ rfl; (with_reducible repeat (first | refine qC ?_ _ | refine qD ?_ | refine qB ?_ _)); exact BK565.out) hg (Kd.qj HO_10.out (fun _ hk => hk.2))); have n3_ := Aside0.mk (hb); have n4_ := Aside0.mk (ho); clear HO_8; clear BK551; clear BK565; clear HB; clear HO_10; have HO_8 := n0_; have BK551 := n1_; have BK565 := n2_; have HB := n3_; have HO568 := n4_; clear n0_ n1_ n2_ n3_ n4_; clear ho hb hg hat))
            go_roundg k2
            case measure => have := HJ4.out; have := HK2.out; omega
            case rel => exact ⟨(y566), (wrap64 (x31_2 + 1)), (by first | rfl | (simp; done) | (simp [*]; done)), H', ⟨by have := HJ4.out; have := HK2.out; omega⟩, ⟨by (with_reducible repeat (first | apply Kd.qT | apply Kd.qS | apply Kd.qZ)); exact HO_8.out⟩, ⟨by (with_reducible repeat (first | apply Kd.qT | apply Kd.qS | apply Kd.qZ)); exact Kd.qHA HO568.out (fun _ hk => hk.1)⟩, ⟨by (with_reducible repeat (first | refine qC ?_ _ | refine qD ?_ | refine qB ?_ _)); exact BK551.out⟩, ⟨by repeat (first | (with_reducible first | exact HB.out | apply qF | apply qA | apply qE | refine qG ?_ GE551.out | refine qG ?_ GE565.out) | exact HB.out)⟩⟩
           ·rw [if_neg c23] at H
            exact absurd H (by simp)
          ·replace c22 := Bool.eq_false_iff.mpr c22
           subst c22
           have H1 : (some (([] : List (S27)), false)) = some (r1, r2) := by rw [if_neg (show ¬ (false = true) by decide)] at H; exact H
           clear H
           have H := H1
           clear H1
           simp only [Option.some.injEq, Prod.mk.injEq] at H
           obtain ⟨rfl, rfl⟩ := H
           obtain ⟨Ao36, co36, eo36⟩ := Kd.qRA HO_8.out
           subst eo36
           try go_wp2
           have n0_ := Aside0.mk (Kd.qZ HO_8.out)
           have n1_ := Aside0.mk (Kd.qZ HO_10.out)
           have n2_ := Aside0.mk (qD BK551.out)
           have n3_ := Aside0.mk (qE HB.out)
           clear HO_8
           clear HO_10
           clear BK551
           clear HB
           have HO_8 := n0_
           have HO_10 := n1_
           have BK551 := n2_
           have HB := n3_
           clear n0_ n1_ n2_ n3_
           obtain ⟨Ao38, co38, eo38⟩ := Kd.qRA HO_10.out
           (first | subst eo38 | (injection eo38 with f1_ f2_ f3_; have f4_ := f1_.symm; have f5_ := f3_.symm; clear f1_ f2_ f3_; subst f4_; subst f5_))
           have p560 : 0 ≤ (x31_2 : Int) := of_decide_eq_true (by first | (with_reducible assumption) | assumption)
           have q560 : x31_2 < (x10_2.length : Int) := of_decide_eq_true (by first | (with_reducible assumption) | assumption)
           obtain ⟨ad560, e560, hx560_0, hx560_1, hx560_2⟩ := qkB (Kd.qh HO_10.out).2.2 x31_2 p560 q560
           cases e560
           replace p560 := eq_true p560
           replace q560 := eq_true q560
           have p20 : 0 ≤ (x31_2 : Int) := of_decide_eq_true (by first | (with_reducible assumption) | assumption)
           have q20 : x31_2 < (a2.size : Int) := of_decide_eq_true (by first | (with_reducible assumption) | assumption)
           have hx20 := bt_at a2 x31_2
           replace p20 := eq_true p20
           replace q20 := eq_true q20
           refine qBB (n := 15) (S := fun w' => w'.cell? (ad560.add ((x31_2).toNat * 3)) = some (.int .i64 ((qg x10_2 x31_2).f0)) ∧ w'.cell? ⟨(ad560.add ((x31_2).toNat * 3)).block, (ad560.add ((x31_2).toNat * 3)).off + 1, none⟩ = some (.int .i64 ((qg x10_2 x31_2).f1)) ∧ w'.cell? ⟨(ad560.add ((x31_2).toNat * 3)).block, (ad560.add ((x31_2).toNat * 3)).off + 2, none⟩ = some (.int .i64 ((qg x10_2 x31_2).f2))) (ds := []) #[false, false, false, false, false, false, false, false, false, false, false, false, false, false, false] (by kernel_rfl) rfl rfl ⟨hx560_0, hx560_1, hx560_2⟩ (fun hHeld => ?_); refine qcA qP.tab8 qP.bits8 (fun HT_ HW_ => ?_)
           generalize wr.drew = w37 at HO_8 HO_10 BK551 HB hx560_0 hx560_1 hx560_2 hHeld ⊢
           refine pS (i := 0) (N := some 35) #[true, false, false, false, false, false, false, false, false, false, false, false, false, false, false] HT_ ?_
           refine pS (i := 1) (N := some 36) #[true, true, false, false, false, false, false, false, false, false, false, false, false, false, false] HT_ ?_
           refine pS (i := 2) (N := some 37) #[true, true, true, false, false, false, false, false, false, false, false, false, false, false, false] HT_ ?_
           refine pS (i := 3) (N := some 38) #[true, true, true, true, false, false, false, false, false, false, false, false, false, false, false] HT_ ?_
           refine pS (i := 5) (N := some 40) #[true, true, true, true, false, true, false, false, false, false, false, false, false, false, false] HT_ ?_
           refine pS (i := 6) (N := some 41) #[true, true, true, true, false, true, true, false, false, false, false, false, false, false, false] HT_ ?_
           refine take_ (i := 4) (N := some 39) (v := ?_) (a' := ?_) #[true, true, true, true, true, true, true, false, false, false, false, false, false, false, false] rfl rfl (qq HT_.out HW_.out (by kernel_rfl)) (fun _ _ _ h => h) (Or.inl ⟨by rfl, ?_⟩) hHeld ?_ ?_
           rotate_left
           ·rintro w' ⟨s0, s1, s2⟩
            go_simp
            first | (with_reducible rfl) | (rw [if_neg (by simp only [ByteArray.size_extract, ByteArray.size_append] at * <;> omega)]; try with_reducible rfl)
           rotate_left
           ·simp only [Act.put, List.setIfInBounds_toArray, List.set_cons_zero, List.set_cons_succ, i64_w, i32_w]
            rfl
           refine take_ (i := 7) (N := some 42) (v := ?_) (a' := ?_) #[true, true, true, true, true, true, true, true, false, false, false, false, false, false, false] rfl rfl (qq HT_.out HW_.out (by kernel_rfl)) (fun _ _ _ h => h) (Or.inl ⟨by rfl, ?_⟩) hHeld ?_ ?_
           rotate_left
           ·rintro w' ⟨s0, s1, s2⟩
            go_simp
            first | (with_reducible rfl) | (rw [if_neg (by simp only [ByteArray.size_extract, ByteArray.size_append] at * <;> omega)]; try with_reducible rfl)
           rotate_left
           ·simp only [Act.put, List.setIfInBounds_toArray, List.set_cons_zero, List.set_cons_succ, i64_w, i32_w]
            rfl
           refine join_ (σ := Nat) 2 #[true, true, true, true, true, true, true, true, true, true, true, true, true, false, false] (fun s_ => [(43, .tuple #[.agg #[.int .i64 t561, .int .i64 t562, .int .i64 t563], .bool false]), (12, .pointer (some ⟨s_, 0, none⟩)), (34, .tuple #[.agg #[.int .i64 t561, .int .i64 t562, .int .i64 t563], .bool false]), (44, .agg #[.int .i64 t561, .int .i64 t562, .int .i64 t563]), (45, .bool false)]) (fun s_ w' => (w'.cell? (ad560.add ((x31_2).toNat * 3)) = some (.int .i64 ((qg x10_2 x31_2).f0)) ∧ w'.cell? ⟨(ad560.add ((x31_2).toNat * 3)).block, (ad560.add ((x31_2).toNat * 3)).off + 1, none⟩ = some (.int .i64 ((qg x10_2 x31_2).f1)) ∧ w'.cell? ⟨(ad560.add ((x31_2).toNat * 3)).block, (ad560.add ((x31_2).toNat * 3)).off + 2, none⟩ = some (.int .i64 ((qg x10_2 x31_2).f2))) ∧ (Kd.R k27 27 w' w.heap.size (fun k_ => k_ ≠ gb551 ∧ k_ ≠ s_) (.slice (some ad560) x10_2.length co38) x10_2) ∧ (Kd.R Kd.string 9 w' w.heap.size (fun _ => True) (.slice Ao36 t552.length co36) t552) ∧ (w'.heap[gb551]? = some (.cells #[.int .i64 a1_0, .int .i64 a1_1, .int .i64 a1_2] 27 (0, 0))) ∧ (w'.heap[s_]? = some (.cells #[.int .i64 0, .int .i64 0, .int .i64 0] 27 (0, 0))) ∧ (w.heap.size ≤ s_) ∧ (w.heap.size ≤ s_) ∧ (gb551 ≠ s_) ∧ (s_ ≠ gb551) ∧ (Below w.heap.size w w')) ?_ ?_
           rotate_left
           ·intro hCont
            refine two_ (i := 8) (j := 12) (Ni := some 43) (Nj := some 12) #[true, true, true, true, true, true, true, true, true, false, false, false, false, false, false] #[true, true, true, true, true, true, true, true, false, false, false, false, true, false, false] rfl rfl rfl rfl (qWB HT_.out (by kernel_rfl)) (by decide) (by decide) (fun K hK => ?_) (fun K hK => ?_)
            ·skip
             refine goes_ Tryd.func62 (by kernel_rfl) rfl #[.slice Ao36 t552.length co36, .agg #[.int .i64 ((qg x10_2 x31_2).f0), .int .i64 ((qg x10_2 x31_2).f1), .int .i64 ((qg x10_2 x31_2).f2)], .int .u8 (bt a2 x31_2)] (by rfl) rfl rfl (by (try simp only [List.map_toArray, List.map_cons, List.map_nil]); first | done | rfl | (simp only [List.length_drop, List.length_take]; rfl)) ?_
             with_reducible refine (qEA.calls k2 _ _ t552 ((qg x10_2 x31_2).f0) ((qg x10_2 x31_2).f1) ((qg x10_2 x31_2).f2) (bt a2 x31_2) t561 t562 t563 false _ ?side1 ?side2 A21.out).mono ?_
             (case side1 => repeat (first | exact (Kd.qh HO_8.out).2.2 | (with_reducible refine Kd.qOA ?_ _) | (with_reducible refine Kd.qNA ?_ _) | (with_reducible refine Kd.qXA ?_)))
             (case side2 => exact (Kd.qh HO_8.out).2.1)
             rintro e w39 ⟨rfl, hb⟩
             have HS0_ := (hb.cell (World.block_lt_of_cell? _ _ (hHeld.1))).trans (hHeld.1)
             have HS1_ := (hb.cell (World.block_lt_of_cell? _ _ (hHeld.2.1))).trans (hHeld.2.1)
             have HS2_ := (hb.cell (World.block_lt_of_cell? _ _ (hHeld.2.2))).trans (hHeld.2.2)
             refine ⟨_, rfl, ?_⟩
             have n0_ := Aside0.mk (Kd.qi (by (with_reducible repeat (first | apply Kd.qT | apply Kd.qS | apply Kd.qZ)); exact HO_8.out) hb)
             have n1_ := Aside0.mk (Kd.qi (by (with_reducible repeat (first | apply Kd.qT | apply Kd.qS | apply Kd.qZ)); exact HO_10.out) hb)
             have n2_ := Aside0.mk (qK (g := gb551) (o := .cells #[.int .i64 a1_0, .int .i64 a1_1, .int .i64 a1_2] 27 (0, 0)) (by (with_reducible repeat (first | refine qC ?_ _ | refine qD ?_ | refine qB ?_ _)); exact BK551.out) hb)
             have n3_ := Aside0.mk (qL (by repeat (first | (with_reducible first | exact HB.out | apply qF | apply qA | apply qE | refine qG ?_ GE551.out) | exact HB.out)) hb)
             clear HO_8
             clear HO_10
             clear BK551
             clear HB
             have HO_8 := n0_
             have HO_10 := n1_
             have BK551 := n2_
             have HB := n3_
             clear n0_ n1_ n2_ n3_
             (try clear hb)
             (try clear hb2)
             (try clear hk)
             (try clear hi)
             refine hK.out _ _ ⟨HS0_, HS1_, HS2_⟩ (fun hHeld => ?_)
             clear hK K
             refine norm_ (a' := ?_) ?_ ?_
             rotate_left
             ·show Act.put _ (some 43) _ = _
              simp only [Act.put, List.setIfInBounds_toArray, List.set_cons_zero, List.set_cons_succ, i64_w, i32_w]
              rfl
             refine pS (i := 9) (N := some 34) #[true, true, true, true, true, true, true, true, true, true, false, false, false, false, false] HT_ ?_
             refine pS (i := 10) (N := some 44) #[true, true, true, true, true, true, true, true, true, true, true, false, false, false, false] HT_ ?_
             refine pS (i := 11) (N := some 45) #[true, true, true, true, true, true, true, true, true, true, true, true, false, false, false] HT_ ?_
             refine one_ (i := 12) (N := some 12) #[true, true, true, true, true, true, true, true, true, true, true, true, true, false, false] rfl rfl (qWA HT_.out (by kernel_rfl)) (by decide) (fun K hK => ?_)
             refine qmA ?hg (N := 12) ?hd (cs := #[.int .i64 0, .int .i64 0, .int .i64 0]) (t := 27) ?hr ?_; (case hd => rfl); (case hg => rfl); (case hr => first | (go_simp; done) | (go_simp; rfl))
             intro gb565 hg w40 hbox hb
             have HS0_ := (hb.cell (World.block_lt_of_cell? _ _ (hHeld.1))).trans (hHeld.1)
             have HS1_ := (hb.cell (World.block_lt_of_cell? _ _ (hHeld.2.1))).trans (hHeld.2.1)
             have HS2_ := (hb.cell (World.block_lt_of_cell? _ _ (hHeld.2.2))).trans (hHeld.2.2)
             have n0_ := Aside0.mk (Kd.qi (by (with_reducible repeat (first | apply Kd.qT | apply Kd.qS | apply Kd.qZ)); exact HO_8.out) hb)
             have n1_ := Aside0.mk (Kd.qi (Kd.qnA (by (with_reducible repeat (first | apply Kd.qT | apply Kd.qS | apply Kd.qZ)); exact HO_10.out) gb565 (Nat.le_of_eq hg.symm)) hb)
             have n2_ := Aside0.mk (qK (g := gb551) (o := .cells #[.int .i64 a1_0, .int .i64 a1_1, .int .i64 a1_2] 27 (0, 0)) (by (with_reducible repeat (first | refine qC ?_ _ | refine qD ?_ | refine qB ?_ _)); exact BK551.out) hb)
             have n3_ := Aside0.mk (qL (by repeat (first | (with_reducible first | exact HB.out | apply qF | apply qA | apply qE | refine qG ?_ GE551.out) | exact HB.out)) hb)
             have n4_ := Aside0.mk (hbox)
             have n5_ := Aside0.mk ((by rw [hg]; exact (qJ (by repeat (first | (with_reducible first | exact HB.out | apply qF | apply qA | apply qE | refine qG ?_ GE551.out) | exact HB.out))) : w.heap.size ≤ gb565))
             have n6_ := Aside0.mk ((by rw [hg]; exact (qJ (by repeat (first | (with_reducible first | exact HB.out | apply qF | apply qA | apply qE | refine qG ?_ GE551.out) | exact HB.out))) : w.heap.size ≤ gb565))
             have n7_ := Aside0.mk ((by rw [hg]; exact Nat.ne_of_lt (qd (g := gb551) (o := .cells #[.int .i64 a1_0, .int .i64 a1_1, .int .i64 a1_2] 27 (0, 0)) (by (with_reducible repeat (first | refine qC ?_ _ | refine qD ?_ | refine qB ?_ _)); exact BK551.out)) : gb551 ≠ gb565))
             have n8_ := Aside0.mk ((by rw [hg]; exact Nat.ne_of_gt (qd (g := gb551) (o := .cells #[.int .i64 a1_0, .int .i64 a1_1, .int .i64 a1_2] 27 (0, 0)) (by (with_reducible repeat (first | refine qC ?_ _ | refine qD ?_ | refine qB ?_ _)); exact BK551.out)) : gb565 ≠ gb551))
             clear HO_8
             clear HO_10
             clear BK551
             clear HB
             have HO_8 := n0_
             have HO_10 := n1_
             have BK551 := n2_
             have HB := n3_
             have BK565 := n4_
             have GW565 := n5_
             have GE565 := n6_
             have NB551_565 := n7_
             have NB565_551 := n8_
             clear n0_ n1_ n2_ n3_ n4_ n5_ n6_ n7_ n8_
             clear hb hbox hg
             refine hK.out _ _ ⟨HS0_, HS1_, HS2_⟩ (fun hHeld => ?_)
             clear hK K
             refine norm_ (a' := ?_) ?_ ?_
             rotate_left
             ·show Act.put _ (some 12) _ = _
              simp only [Act.put, List.setIfInBounds_toArray, List.set_cons_zero, List.set_cons_succ, i64_w, i32_w]
              rfl
             exact norm_ (by simp only [putAll, Act.put, List.setIfInBounds_toArray, List.set_cons_zero, List.set_cons_succ]) (hCont (gb565) _ ⟨hHeld, (by (with_reducible repeat (first | apply Kd.qT | apply Kd.qS | apply Kd.qZ)); exact HO_10.out), (by (with_reducible repeat (first | apply Kd.qT | apply Kd.qS | apply Kd.qZ)); exact HO_8.out), (by (with_reducible repeat (first | refine qC ?_ _ | refine qD ?_ | refine qB ?_ _)); exact BK551.out), (by (with_reducible repeat (first | refine qC ?_ _ | refine qD ?_ | refine qB ?_ _)); exact BK565.out), GW565.out, GE565.out, NB551_565.out, NB565_551.out, (by repeat (first | (with_reducible first | exact HB.out | apply qF | apply qA | apply qE | refine qG ?_ GE551.out | refine qG ?_ GE565.out) | exact HB.out))⟩)
            ·skip
             refine qmA ?hg (N := 12) ?hd (cs := #[.int .i64 0, .int .i64 0, .int .i64 0]) (t := 27) ?hr ?_; (case hd => rfl); (case hg => rfl); (case hr => first | (go_simp; done) | (go_simp; rfl))
             intro gb565 hg w39 hbox hb
             have HS0_ := (hb.cell (World.block_lt_of_cell? _ _ (hHeld.1))).trans (hHeld.1)
             have HS1_ := (hb.cell (World.block_lt_of_cell? _ _ (hHeld.2.1))).trans (hHeld.2.1)
             have HS2_ := (hb.cell (World.block_lt_of_cell? _ _ (hHeld.2.2))).trans (hHeld.2.2)
             have n0_ := Aside0.mk (Kd.qi (by (with_reducible repeat (first | apply Kd.qT | apply Kd.qS | apply Kd.qZ)); exact HO_8.out) hb)
             have n1_ := Aside0.mk (Kd.qi (Kd.qnA (by (with_reducible repeat (first | apply Kd.qT | apply Kd.qS | apply Kd.qZ)); exact HO_10.out) gb565 (Nat.le_of_eq hg.symm)) hb)
             have n2_ := Aside0.mk (qK (g := gb551) (o := .cells #[.int .i64 a1_0, .int .i64 a1_1, .int .i64 a1_2] 27 (0, 0)) (by (with_reducible repeat (first | refine qC ?_ _ | refine qD ?_ | refine qB ?_ _)); exact BK551.out) hb)
             have n3_ := Aside0.mk (qL (by repeat (first | (with_reducible first | exact HB.out | apply qF | apply qA | apply qE | refine qG ?_ GE551.out) | exact HB.out)) hb)
             have n4_ := Aside0.mk (hbox)
             have n5_ := Aside0.mk ((by rw [hg]; exact (qJ (by repeat (first | (with_reducible first | exact HB.out | apply qF | apply qA | apply qE | refine qG ?_ GE551.out) | exact HB.out))) : w.heap.size ≤ gb565))
             have n6_ := Aside0.mk ((by rw [hg]; exact (qJ (by repeat (first | (with_reducible first | exact HB.out | apply qF | apply qA | apply qE | refine qG ?_ GE551.out) | exact HB.out))) : w.heap.size ≤ gb565))
             have n7_ := Aside0.mk ((by rw [hg]; exact Nat.ne_of_lt (qd (g := gb551) (o := .cells #[.int .i64 a1_0, .int .i64 a1_1, .int .i64 a1_2] 27 (0, 0)) (by (with_reducible repeat (first | refine qC ?_ _ | refine qD ?_ | refine qB ?_ _)); exact BK551.out)) : gb551 ≠ gb565))
             have n8_ := Aside0.mk ((by rw [hg]; exact Nat.ne_of_gt (qd (g := gb551) (o := .cells #[.int .i64 a1_0, .int .i64 a1_1, .int .i64 a1_2] 27 (0, 0)) (by (with_reducible repeat (first | refine qC ?_ _ | refine qD ?_ | refine qB ?_ _)); exact BK551.out)) : gb565 ≠ gb551))
             clear HO_8
             clear HO_10
             clear BK551
             clear HB
             have HO_8 := n0_
             have HO_10 := n1_
             have BK551 := n2_
             have HB := n3_
             have BK565 := n4_
             have GW565 := n5_
             have GE565 := n6_
             have NB551_565 := n7_
             have NB565_551 := n8_
             clear n0_ n1_ n2_ n3_ n4_ n5_ n6_ n7_ n8_
             clear hb hbox hg
             refine hK.out _ _ ⟨HS0_, HS1_, HS2_⟩ (fun hHeld => ?_)
             clear hK K
             refine norm_ (a' := ?_) ?_ ?_
             rotate_left
             ·show Act.put _ (some 12) _ = _
              simp only [Act.put, List.setIfInBounds_toArray, List.set_cons_zero, List.set_cons_succ, i64_w, i32_w]
              rfl
             refine one_ (i := 8) (N := some 43) #[true, true, true, true, true, true, true, true, true, false, false, false, true, false, false] rfl rfl (qWA HT_.out (by kernel_rfl)) (by decide) (fun K hK => ?_)
             refine goes_ Tryd.func62 (by kernel_rfl) rfl #[.slice Ao36 t552.length co36, .agg #[.int .i64 ((qg x10_2 x31_2).f0), .int .i64 ((qg x10_2 x31_2).f1), .int .i64 ((qg x10_2 x31_2).f2)], .int .u8 (bt a2 x31_2)] (by rfl) rfl rfl (by (try simp only [List.map_toArray, List.map_cons, List.map_nil]); first | done | rfl | (simp only [List.length_drop, List.length_take]; rfl)) ?_
             with_reducible refine (qEA.calls k2 _ _ t552 ((qg x10_2 x31_2).f0) ((qg x10_2 x31_2).f1) ((qg x10_2 x31_2).f2) (bt a2 x31_2) t561 t562 t563 false _ ?side1 ?side2 A21.out).mono ?_
             (case side1 => repeat (first | exact (Kd.qh HO_8.out).2.2 | (with_reducible refine Kd.qOA ?_ _) | (with_reducible refine Kd.qNA ?_ _) | (with_reducible refine Kd.qXA ?_)))
             (case side2 => exact (Kd.qh HO_8.out).2.1)
             rintro e w40 ⟨rfl, hb⟩
             have HS0_ := (hb.cell (World.block_lt_of_cell? _ _ (hHeld.1))).trans (hHeld.1)
             have HS1_ := (hb.cell (World.block_lt_of_cell? _ _ (hHeld.2.1))).trans (hHeld.2.1)
             have HS2_ := (hb.cell (World.block_lt_of_cell? _ _ (hHeld.2.2))).trans (hHeld.2.2)
             refine ⟨_, rfl, ?_⟩
             have n0_ := Aside0.mk (Kd.qi (by (with_reducible repeat (first | apply Kd.qT | apply Kd.qS | apply Kd.qZ)); exact HO_8.out) hb)
             have n1_ := Aside0.mk (Kd.qi (by (with_reducible repeat (first | apply Kd.qT | apply Kd.qS | apply Kd.qZ)); exact HO_10.out) hb)
             have n2_ := Aside0.mk (qK (g := gb551) (o := .cells #[.int .i64 a1_0, .int .i64 a1_1, .int .i64 a1_2] 27 (0, 0)) (by (with_reducible repeat (first | refine qC ?_ _ | refine qD ?_ | refine qB ?_ _)); exact BK551.out) hb)
             have n3_ := Aside0.mk (qK (g := gb565) (o := .cells #[.int .i64 0, .int .i64 0, .int .i64 0] 27 (0, 0)) (by (with_reducible repeat (first | refine qC ?_ _ | refine qD ?_ | refine qB ?_ _)); exact BK565.out) hb)
             have n4_ := Aside0.mk (qL (by repeat (first | (with_reducible first | exact HB.out | apply qF | apply qA | apply qE | refine qG ?_ GE551.out | refine qG ?_ GE565.out) | exact HB.out)) hb)
             clear HO_8
             clear HO_10
             clear BK551
             clear BK565
             clear HB
             have HO_8 := n0_
             have HO_10 := n1_
             have BK551 := n2_
             have BK565 := n3_
             have HB := n4_
             clear n0_ n1_ n2_ n3_ n4_
             (try clear hb)
             (try clear hb2)
             (try clear hk)
             (try clear hi)
             refine hK.out _ _ ⟨HS0_, HS1_, HS2_⟩ (fun hHeld => ?_)
             clear hK K
             refine norm_ (a' := ?_) ?_ ?_
             rotate_left
             ·show Act.put _ (some 43) _ = _
              simp only [Act.put, List.setIfInBounds_toArray, List.set_cons_zero, List.set_cons_succ, i64_w, i32_w]
              rfl
             refine pS (i := 9) (N := some 34) #[true, true, true, true, true, true, true, true, true, true, false, false, true, false, false] HT_ ?_
             refine pS (i := 10) (N := some 44) #[true, true, true, true, true, true, true, true, true, true, true, false, true, false, false] HT_ ?_
             refine pS (i := 11) (N := some 45) #[true, true, true, true, true, true, true, true, true, true, true, true, true, false, false] HT_ ?_
             exact norm_ (by simp only [putAll, Act.put, List.setIfInBounds_toArray, List.set_cons_zero, List.set_cons_succ]) (hCont (gb565) _ ⟨hHeld, (by (with_reducible repeat (first | apply Kd.qT | apply Kd.qS | apply Kd.qZ)); exact HO_10.out), (by (with_reducible repeat (first | apply Kd.qT | apply Kd.qS | apply Kd.qZ)); exact HO_8.out), (by (with_reducible repeat (first | refine qC ?_ _ | refine qD ?_ | refine qB ?_ _)); exact BK551.out), (by (with_reducible repeat (first | refine qC ?_ _ | refine qD ?_ | refine qB ?_ _)); exact BK565.out), GW565.out, GE565.out, NB551_565.out, NB565_551.out, (by repeat (first | (with_reducible first | exact HB.out | apply qF | apply qA | apply qE | refine qG ?_ GE551.out | refine qG ?_ GE565.out) | exact HB.out))⟩)
           rintro gb565 w41 ⟨hS_, h0_, h1_, h2_, h3_, h4_, h5_, h6_, h7_, h8_⟩
           have n0_ : Aside0 (Kd.R k27 27 w41 w.heap.size (fun k_ => k_ ≠ gb551 ∧ k_ ≠ gb565) (.slice (some ad560) x10_2.length co38) x10_2) := ⟨h0_⟩
           have n1_ : Aside0 (Kd.R Kd.string 9 w41 w.heap.size (fun _ => True) (.slice Ao36 t552.length co36) t552) := ⟨h1_⟩
           have n2_ : Aside0 (w41.heap[gb551]? = some (.cells #[.int .i64 a1_0, .int .i64 a1_1, .int .i64 a1_2] 27 (0, 0))) := ⟨h2_⟩
           have n3_ : Aside0 (w41.heap[gb565]? = some (.cells #[.int .i64 0, .int .i64 0, .int .i64 0] 27 (0, 0))) := ⟨h3_⟩
           have n4_ : Aside0 (w.heap.size ≤ gb565) := ⟨h4_⟩
           have n5_ : Aside0 (w.heap.size ≤ gb565) := ⟨h5_⟩
           have n6_ : Aside0 (gb551 ≠ gb565) := ⟨h6_⟩
           have n7_ : Aside0 (gb565 ≠ gb551) := ⟨h7_⟩
           have n8_ : Aside0 (Below w.heap.size w w41) := ⟨h8_⟩
           clear HO_8
           clear HO_10
           clear BK551
           clear HB
           clear h0_ h1_ h2_ h3_ h4_ h5_ h6_ h7_ h8_
           have HO_10 := n0_
           have HO_8 := n1_
           have BK551 := n2_
           have BK565 := n3_
           have GW565 := n4_
           have GE565 := n5_
           have NB551_565 := n6_
           have NB565_551 := n7_
           have HB := n8_
           clear n0_ n1_ n2_ n3_ n4_ n5_ n6_ n7_ n8_
           have hHeld : w41.cell? (ad560.add ((x31_2).toNat * 3)) = some (.int .i64 ((qg x10_2 x31_2).f0)) ∧ w41.cell? ⟨(ad560.add ((x31_2).toNat * 3)).block, (ad560.add ((x31_2).toNat * 3)).off + 1, none⟩ = some (.int .i64 ((qg x10_2 x31_2).f1)) ∧ w41.cell? ⟨(ad560.add ((x31_2).toNat * 3)).block, (ad560.add ((x31_2).toNat * 3)).off + 2, none⟩ = some (.int .i64 ((qg x10_2 x31_2).f2)) := hS_
           refine norm_ (a' := ?_) ?_ ?_
           rotate_left
           ·simp only [putAll, Act.put, List.setIfInBounds_toArray, List.set_cons_zero, List.set_cons_succ]
            rfl
           refine one_ (i := 13) (N := none) #[true, true, true, true, true, true, true, true, true, true, true, true, true, true, false] rfl rfl (qWA HT_.out (by kernel_rfl)) (by decide) (fun K hK => ?_)
           have hs42 : w41.cell? ⟨gb565, 0, none⟩ = some (.int .i64 0) := (qI BK565.out 0).trans rfl
           have hfs42 := qH BK565.out 0
           have hns42_0 := NB551_565.out
           have hms42_0 := NB565_551.out
           have hs43 : w41.cell? ⟨gb565, 1, none⟩ = some (.int .i64 0) := (qI BK565.out 1).trans rfl
           have hfs43 := qH BK565.out 1
           have hns43_0 := NB551_565.out
           have hms43_0 := NB565_551.out
           have hs44 : w41.cell? ⟨gb565, 2, none⟩ = some (.int .i64 0) := (qI BK565.out 2).trans rfl
           have hfs44 := qH BK565.out 2
           have hns44_0 := NB551_565.out
           have hms44_0 := NB565_551.out
           refine skip_ (w1 := ?_) (by rfl) rfl ?_ ?_
           rotate_left
           ·go_simp
            rfl
           refine hK.out _ _ ⟨((qa (p := ⟨gb565, _, none⟩) (by first | exact Kd.qf (Kd.qj HO_10.out (fun _ hk => hk.2)) | (rw [qk]; exact Kd.qf (Kd.qj HO_10.out (fun _ hk => hk.2))) | (show (Addr.add _ _).block ≠ _; rw [qk]; exact Kd.qf (Kd.qj HO_10.out (fun _ hk => hk.2))) | (dsimp only; exact Kd.qf (Kd.qj HO_10.out (fun _ hk => hk.2)))) _).trans (((qa (p := ⟨gb565, _, none⟩) (by first | exact Kd.qf (Kd.qj HO_10.out (fun _ hk => hk.2)) | (rw [qk]; exact Kd.qf (Kd.qj HO_10.out (fun _ hk => hk.2))) | (show (Addr.add _ _).block ≠ _; rw [qk]; exact Kd.qf (Kd.qj HO_10.out (fun _ hk => hk.2))) | (dsimp only; exact Kd.qf (Kd.qj HO_10.out (fun _ hk => hk.2)))) _).trans (((qa (p := ⟨gb565, _, none⟩) (by first | exact Kd.qf (Kd.qj HO_10.out (fun _ hk => hk.2)) | (rw [qk]; exact Kd.qf (Kd.qj HO_10.out (fun _ hk => hk.2))) | (show (Addr.add _ _).block ≠ _; rw [qk]; exact Kd.qf (Kd.qj HO_10.out (fun _ hk => hk.2))) | (dsimp only; exact Kd.qf (Kd.qj HO_10.out (fun _ hk => hk.2)))) _).trans (hHeld.1)))))), ((qa (p := ⟨gb565, _, none⟩) (by first | exact Kd.qf (Kd.qj HO_10.out (fun _ hk => hk.2)) | (rw [qk]; exact Kd.qf (Kd.qj HO_10.out (fun _ hk => hk.2))) | (show (Addr.add _ _).block ≠ _; rw [qk]; exact Kd.qf (Kd.qj HO_10.out (fun _ hk => hk.2))) | (dsimp only; exact Kd.qf (Kd.qj HO_10.out (fun _ hk => hk.2)))) _).trans (((qa (p := ⟨gb565, _, none⟩) (by first | exact Kd.qf (Kd.qj HO_10.out (fun _ hk => hk.2)) | (rw [qk]; exact Kd.qf (Kd.qj HO_10.out (fun _ hk => hk.2))) | (show (Addr.add _ _).block ≠ _; rw [qk]; exact Kd.qf (Kd.qj HO_10.out (fun _ hk => hk.2))) | (dsimp only; exact Kd.qf (Kd.qj HO_10.out (fun _ hk => hk.2)))) _).trans (((qa (p := ⟨gb565, _, none⟩) (by first | exact Kd.qf (Kd.qj HO_10.out (fun _ hk => hk.2)) | (rw [qk]; exact Kd.qf (Kd.qj HO_10.out (fun _ hk => hk.2))) | (show (Addr.add _ _).block ≠ _; rw [qk]; exact Kd.qf (Kd.qj HO_10.out (fun _ hk => hk.2))) | (dsimp only; exact Kd.qf (Kd.qj HO_10.out (fun _ hk => hk.2)))) _).trans (hHeld.2.1)))))), ((qa (p := ⟨gb565, _, none⟩) (by first | exact Kd.qf (Kd.qj HO_10.out (fun _ hk => hk.2)) | (rw [qk]; exact Kd.qf (Kd.qj HO_10.out (fun _ hk => hk.2))) | (show (Addr.add _ _).block ≠ _; rw [qk]; exact Kd.qf (Kd.qj HO_10.out (fun _ hk => hk.2))) | (dsimp only; exact Kd.qf (Kd.qj HO_10.out (fun _ hk => hk.2)))) _).trans (((qa (p := ⟨gb565, _, none⟩) (by first | exact Kd.qf (Kd.qj HO_10.out (fun _ hk => hk.2)) | (rw [qk]; exact Kd.qf (Kd.qj HO_10.out (fun _ hk => hk.2))) | (show (Addr.add _ _).block ≠ _; rw [qk]; exact Kd.qf (Kd.qj HO_10.out (fun _ hk => hk.2))) | (dsimp only; exact Kd.qf (Kd.qj HO_10.out (fun _ hk => hk.2)))) _).trans (((qa (p := ⟨gb565, _, none⟩) (by first | exact Kd.qf (Kd.qj HO_10.out (fun _ hk => hk.2)) | (rw [qk]; exact Kd.qf (Kd.qj HO_10.out (fun _ hk => hk.2))) | (show (Addr.add _ _).block ≠ _; rw [qk]; exact Kd.qf (Kd.qj HO_10.out (fun _ hk => hk.2))) | (dsimp only; exact Kd.qf (Kd.qj HO_10.out (fun _ hk => hk.2)))) _).trans (hHeld.2.2))))))⟩ (fun hHeld => ?_)
           clear hK K
           refine pS (i := 14) (N := some 13) #[true, true, true, true, true, true, true, true, true, true, true, true, true, true, true] HT_ ?_
           refine done_ (qsA HT_.out (by kernel_rfl)) ?_
           try go_wp2
           go_ret2
           exact ⟨_, by first | rfl | (simp [qN, qM] <;> rfl) | (simp [*, qN, qM] <;> rfl), by first | exact Kd.R_nil _ _ _ _ _ | exact Kd.N_nil _ _ _ _ _ | exact Kd.V_nil _ _ _ _ _ | exact Kd.Q_nil _ _ _ _ _ | exact Kd.S_nil _ _ _ _ _, by repeat (first | (with_reducible first | exact HB.out | apply qF | apply qA | apply qE | refine qG ?_ GE551.out | refine qG ?_ GE565.out) | exact HB.out)⟩
         ·rw [if_neg c19] at H
          exact absurd H (by simp)
        ·rw [if_neg c18] at H
         exact absurd H (by simp)
       ·rw [if_neg c17] at H
        exact absurd H (by simp)
      ·rw [if_neg c16] at H
       have c16b0 : decide (x31_2 < (a2.size : Int)) = false := decide_eq_false c16
       clear c16
       simp only [Option.some.injEq, Prod.mk.injEq] at H
       obtain ⟨rfl, rfl⟩ := H
       go_wp2
       go_ret2
       exact ⟨_, by first | rfl | (simp [qN, qM] <;> rfl) | (simp [*, qN, qM] <;> rfl), by (with_reducible repeat (first | apply Kd.qT | apply Kd.qS | apply Kd.qZ)); exact Kd.qHA HO_10.out (fun _ hk => trivial), by repeat (first | (with_reducible first | exact HB.out | apply qF | apply qA | apply qE | refine qG ?_ GE551.out) | exact HB.out)⟩
end Go.Proofs.YtbpfhpjbeomfcaaDoor.P
namespace Go.Proofs.YtbpfhpjbeomfcaaDoor.P
open Go.RowKit Go.Proofs.YtbpfhpjbeomfcaaDoorW.PrintWords Go.Proofs.YtbpfhpjbeomfcaaDoorW.PrintLast Go.Proofs.YtbpfhpjbeomfcaaDoorW.PrintMore
attribute [local go_sem] qx qv qGA qFA qm ql qw qu   -- for this text's walks alone
set_option linter.unusedVariables false
set_option linter.unusedSimpArgs false
def qp.f (k : Nat) (a0 : ByteArray) (a1_0 : Int) (a1_1 : Int) (a1_2 : Int) (a2 : ByteArray) : Option (Int × Int × Int × Bool) := (qP.f k a0 a1_0 a1_1 a1_2 a2).bind fun bt602 => (if bt602.2 = true then (if 0 ≤ (a2.size : Int) then (if (a2.size : Int) < (bt602.1.length : Int) then (some ((qg bt602.1 (a2.size : Int)).f0, (qg bt602.1 (a2.size : Int)).f1, (qg bt602.1 (a2.size : Int)).f2, true)) else (none)) else (none)) else (some (0, 0, 0, false)))
set_option maxHeartbeats 8000000 in
set_option maxRecDepth 100000 in
theorem qp.calls (k : Nat) (a0 : ByteArray) (a1_0 : Int) (a1_1 : Int) (a1_2 : Int) (a2 : ByteArray) (r1 : Int) (r2 : Int) (r3 : Int) (r4 : Bool) (w : World) (hL : Laid w) (h : qp.f k a0 a1_0 a1_1 a1_2 a2 = some (r1, r2, r3, r4)) :
  Calls Tryd.prog 36 #[.string a0, .agg #[.int .i64 a1_0, .int .i64 a1_1, .int .i64 a1_2], .string a2] w fun e w' => e = .returned (.tuple #[.agg #[.int .i64 r1, .int .i64 r2, .int .i64 r3], .bool r4]) ∧ Below w.heap.size w w' := by
 have hu27 := Tryd.underlying27
 have HLD := Aside0.mk hL
 clear hL
 have HB := Aside0.mk (Below.refl w.heap.size w)
 have H : ((qP.f k a0 a1_0 a1_1 a1_2 a2).bind fun bt602 => (if bt602.2 = true then (if 0 ≤ (a2.size : Int) then (if (a2.size : Int) < (bt602.1.length : Int) then (some ((qg bt602.1 (a2.size : Int)).f0, (qg bt602.1 (a2.size : Int)).f1, (qg bt602.1 (a2.size : Int)).f2, true)) else (none)) else (none)) else (some (0, 0, 0, false)))) = some (r1, r2, r3, r4) := h
 clear h
 replace H := Option.bind_eq_some_iff.mp H
 obtain ⟨⟨t602, t605⟩, A40, H⟩ := H
 replace H : (if t605 = true then (if 0 ≤ (a2.size : Int) then (if (a2.size : Int) < (t602.length : Int) then (some ((qg t602 (a2.size : Int)).f0, (qg t602 (a2.size : Int)).f1, (qg t602 (a2.size : Int)).f2, true)) else (none)) else (none)) else (some (0, 0, 0, false))) = some (r1, r2, r3, r4) := H
 have A4 := Aside0.mk A40
 clear A40
 by_cases c5 : t605 = true
 ·subst c5
  have H1 : (if 0 ≤ (a2.size : Int) then (if (a2.size : Int) < (t602.length : Int) then (some ((qg t602 (a2.size : Int)).f0, (qg t602 (a2.size : Int)).f1, (qg t602 (a2.size : Int)).f2, true)) else (none)) else (none)) = some (r1, r2, r3, r4) := by rw [if_pos rfl] at H; exact H
  clear H
  have H := H1
  clear H1
  by_cases c6 : 0 ≤ (a2.size : Int)
  ·rw [if_pos c6] at H
   have c6b0 : decide (0 ≤ (a2.size : Int)) = true := decide_eq_true c6
   have c6b1 : decide (0 ≤ a2.size) = true := decide_eq_true (by omega)
   clear c6
   by_cases c7 : (a2.size : Int) < (t602.length : Int)
   ·rw [if_pos c7] at H
    have c7b0 : decide ((a2.size : Int) < (t602.length : Int)) = true := decide_eq_true c7
    have c7b1 : decide (a2.size < t602.length) = true := decide_eq_true (Int.ofNat_lt.mp c7)
    clear c7
    simp only [Option.some.injEq, Prod.mk.injEq] at H
    obtain ⟨rfl, rfl, rfl, rfl⟩ := H
    go_enter Tryd.func36, Tryd.ntmps36
    go_wp2_with (first | ((with_reducible refine qc (N := 4) rfl ?_); refine qY ?hg (N := 4) ?hd (cs := #[.int .i64 a1_0, .int .i64 a1_1, .int .i64 a1_2]) (t := 27) ?hr ?_; (case hd => rfl); (case hg => rfl); (case hr => first | (go_simp; done) | (go_simp; rfl)); intro gb600 hg w8 hbox hb; have n0_ := Aside0.mk (qL (by repeat (first | (with_reducible first | exact HB.out | apply qF | apply qA | apply qE) | exact HB.out)) hb); have n1_ := Aside0.mk (hbox); have n2_ := Aside0.mk ((by rw [hg]; exact (qJ (by repeat (first | (with_reducible first | exact HB.out | apply qF | apply qA | apply qE) | exact HB.out))) : w.heap.size ≤ gb600)); have n3_ := Aside0.mk ((by rw [hg]; exact (qJ (by repeat (first | (with_reducible first | exact HB.out | apply qF | apply qA | apply qE) | exact HB.out))) : w.heap.size ≤ gb600)); clear HB; have HB := n0_; have BK600 := n1_; have GW600 := n2_; have GE600 := n3_; clear n0_ n1_ n2_ n3_; clear hb hbox hg) | ((with_reducible refine qc (N := 6) rfl ?_); refine qY ?hg (N := 6) ?hd (cs := #[.int .i64 0, .int .i64 0, .int .i64 0]) (t := 27) ?hr ?_; (case hd => rfl); (case hg => rfl); (case hr => first | (go_simp; done) | (go_simp; rfl)); intro gb601 hg w9 hbox hb; have n0_ := Aside0.mk (qK (g := gb600) (o := .cells #[.int .i64 a1_0, .int .i64 a1_1, .int .i64 a1_2] 27 (0, 0)) (by (with_reducible repeat (first | refine qC ?_ _ | refine qD ?_ | refine qB ?_ _)); exact BK600.out) hb); have n1_ := Aside0.mk (qL (by repeat (first | (with_reducible first | exact HB.out | apply qF | apply qA | apply qE | refine qG ?_ GE600.out) | exact HB.out)) hb); have n2_ := Aside0.mk (hbox); have n3_ := Aside0.mk ((by rw [hg]; exact (qJ (by repeat (first | (with_reducible first | exact HB.out | apply qF | apply qA | apply qE | refine qG ?_ GE600.out) | exact HB.out))) : w.heap.size ≤ gb601)); have n4_ := Aside0.mk ((by rw [hg]; exact (qJ (by repeat (first | (with_reducible first | exact HB.out | apply qF | apply qA | apply qE | refine qG ?_ GE600.out) | exact HB.out))) : w.heap.size ≤ gb601)); have n5_ := Aside0.mk ((by rw [hg]; exact Nat.ne_of_lt (qd (g := gb600) (o := .cells #[.int .i64 a1_0, .int .i64 a1_1, .int .i64 a1_2] 27 (0, 0)) (by (with_reducible repeat (first | refine qC ?_ _ | refine qD ?_ | refine qB ?_ _)); exact BK600.out)) : gb600 ≠ gb601)); have n6_ := Aside0.mk ((by rw [hg]; exact Nat.ne_of_gt (qd (g := gb600) (o := .cells #[.int .i64 a1_0, .int .i64 a1_1, .int .i64 a1_2] 27 (0, 0)) (by (with_reducible repeat (first | refine qC ?_ _ | refine qD ?_ | refine qB ?_ _)); exact BK600.out)) : gb601 ≠ gb600)); clear BK600; clear HB; have BK600 := n0_; have HB := n1_; have BK601 := n2_; have GW601 := n3_; have GE601 := n4_; have NB600_601 := n5_; have NB601_600 := n6_; clear n0_ n1_ n2_ n3_ n4_ n5_ n6_; clear hb hbox hg; have hnb10 := NB600_601.out; have hnc10 := NB601_600.out; have hcz11_0 : w9.cell? ⟨gb600, 0, none⟩ = some (.int .i64 a1_0) := (qI BK600.out 0).trans rfl; have hcz11_1 : w9.cell? ⟨gb600, 1, none⟩ = some (.int .i64 a1_1) := (qI BK600.out 1).trans rfl; have hcz11_2 : w9.cell? ⟨gb600, 2, none⟩ = some (.int .i64 a1_2) := (qI BK600.out 2).trans rfl; have hfz11_0 := qH BK600.out 0; have hfz11_1 := qH BK600.out 1; have hfz11_2 := qH BK600.out 2) | ((with_reducible refine qX (f := 68) rfl ?_); refine qo (some 14) rfl rfl Tryd.func68 (by kernel_rfl) rfl #[.string a0, .agg #[.int .i64 a1_0, .int .i64 a1_1, .int .i64 a1_2], .string a2] rfl (by (try simp only [List.map_toArray, List.map_cons, List.map_nil]); first | done | rfl | (simp only [List.length_drop, List.length_take]; rfl)) ?_; (with_reducible refine (qP.calls k a0 a1_0 a1_1 a1_2 a2 t602 true _ ?side1 A4.out).mono ?_); (case side1 => first | exact HLD.out | exact Laid.below HLD.out (by repeat (first | (with_reducible first | exact HB.out | apply qF | apply qA | apply qE) | exact HB.out))); rintro e w12 ⟨v603, rfl, ho0, hb⟩; refine ⟨_, rfl, ?_⟩; have n0_ := Aside0.mk (Kd.qMA (Kd.qHB (Kd.qHB ho0 (g := gb600) (o := .cells #[.int .i64 a1_0, .int .i64 a1_1, .int .i64 a1_2] 27 (0, 0)) (by (with_reducible repeat (first | refine qC ?_ _ | refine qD ?_ | refine qB ?_ _)); exact BK600.out)) (g := gb601) (o := .cells #[.int .i64 0, .int .i64 0, .int .i64 0] 27 (0, 0)) (by (with_reducible repeat (first | refine qC ?_ _ | refine qD ?_ | refine qB ?_ _)); exact BK601.out)) (qJ (by repeat (first | (with_reducible first | exact HB.out | apply qF | apply qA | apply qE | refine qG ?_ GE600.out | refine qG ?_ GE601.out) | exact HB.out)))); have n1_ := Aside0.mk (qK (g := gb600) (o := .cells #[.int .i64 a1_0, .int .i64 a1_1, .int .i64 a1_2] 27 (0, 0)) (by (with_reducible repeat (first | refine qC ?_ _ | refine qD ?_ | refine qB ?_ _)); exact BK600.out) hb); have n2_ := Aside0.mk (qK (g := gb601) (o := .cells #[.int .i64 0, .int .i64 0, .int .i64 0] 27 (0, 0)) (by (with_reducible repeat (first | refine qC ?_ _ | refine qD ?_ | refine qB ?_ _)); exact BK601.out) hb); have n3_ := Aside0.mk (qL (by repeat (first | (with_reducible first | exact HB.out | apply qF | apply qA | apply qE | refine qG ?_ GE600.out | refine qG ?_ GE601.out) | exact HB.out)) hb); clear BK600; clear BK601; clear HB; have HO604 := n0_; have BK600 := n1_; have BK601 := n2_; have HB := n3_; clear n0_ n1_ n2_ n3_; (try clear hb); (try clear hb2); (try clear hk); (try clear hi); (try clear ho0); obtain ⟨Ao13, co13, eo13⟩ := Kd.qRA HO604.out; subst eo13; have p606 : 0 ≤ ((a2.size : Int) : Int) := of_decide_eq_true (by first | (with_reducible assumption) | assumption); have q606 : (a2.size : Int) < (t602.length : Int) := of_decide_eq_true (by first | (with_reducible assumption) | assumption); obtain ⟨ad606, e606, hx606_0, hx606_1, hx606_2⟩ := qkB (Kd.qh HO604.out).2.2 (a2.size : Int) p606 q606; cases e606; (try simp only [Int.toNat_natCast] at hx606_0); (try simp only [Int.toNat_natCast] at hx606_1); (try simp only [Int.toNat_natCast] at hx606_2); replace p606 := eq_true p606; replace q606 := eq_true q606; have hcz14_0 : w12.cell? ⟨gb601, 0, none⟩ = some (.int .i64 0) := (qI BK601.out 0).trans rfl; have hcz14_1 : w12.cell? ⟨gb601, 1, none⟩ = some (.int .i64 0) := (qI BK601.out 1).trans rfl; have hcz14_2 : w12.cell? ⟨gb601, 2, none⟩ = some (.int .i64 0) := (qI BK601.out 2).trans rfl; have hfz14_0 := qH BK601.out 0; have hfz14_1 := qH BK601.out 1; have hfz14_2 := qH BK601.out 2))
    refine bodyPost_ret (qDA rfl _ _ gb601 27 #[.int .i64 ((qg t602 (a2.size : Int)).f0), .int .i64 ((qg t602 (a2.size : Int)).f1), .int .i64 ((qg t602 (a2.size : Int)).f2)] (0, 0) _ rfl (by (with_reducible repeat (first | refine qC ?_ _ | refine qD ?_ | refine qB ?_ _)); refine qO (cs := #[.int .i64 ((qg t602 (a2.size : Int)).f0), .int .i64 ((qg t602 (a2.size : Int)).f1), .int .i64 0]) ?_ 2 _ rfl; (with_reducible repeat (first | refine qC ?_ _ | refine qD ?_ | refine qB ?_ _)); refine qO (cs := #[.int .i64 ((qg t602 (a2.size : Int)).f0), .int .i64 0, .int .i64 0]) ?_ 1 _ rfl; (with_reducible repeat (first | refine qC ?_ _ | refine qD ?_ | refine qB ?_ _)); refine qO (cs := #[.int .i64 0, .int .i64 0, .int .i64 0]) ?_ 0 _ rfl; (with_reducible repeat (first | refine qC ?_ _ | refine qD ?_ | refine qB ?_ _)); exact BK601.out) Tryd.underlying27 rfl (by kernel_rfl)) rfl ?_
    exact ⟨by first | rfl | (simp [qN, qM] <;> rfl) | (simp [*, qN, qM] <;> rfl), by repeat (first | (with_reducible first | exact HB.out | apply qF | apply qA | apply qE | refine qG ?_ GE600.out | refine qG ?_ GE601.out) | exact HB.out)⟩
   ·rw [if_neg c7] at H
    exact absurd H (by simp)
  ·rw [if_neg c6] at H
   exact absurd H (by simp)
 ·replace c5 := Bool.eq_false_iff.mpr c5
  subst c5
  have H1 : (some (0, 0, 0, false)) = some (r1, r2, r3, r4) := by rw [if_neg (show ¬ (false = true) by decide)] at H; exact H
  clear H
  have H := H1
  clear H1
  simp only [Option.some.injEq, Prod.mk.injEq] at H
  obtain ⟨rfl, rfl, rfl, rfl⟩ := H
  go_enter Tryd.func36, Tryd.ntmps36
  go_wp2_with (first | ((with_reducible refine qc (N := 4) rfl ?_); refine qY ?hg (N := 4) ?hd (cs := #[.int .i64 a1_0, .int .i64 a1_1, .int .i64 a1_2]) (t := 27) ?hr ?_; (case hd => rfl); (case hg => rfl); (case hr => first | (go_simp; done) | (go_simp; rfl)); intro gb600 hg w15 hbox hb; have n0_ := Aside0.mk (qL (by repeat (first | (with_reducible first | exact HB.out | apply qF | apply qA | apply qE) | exact HB.out)) hb); have n1_ := Aside0.mk (hbox); have n2_ := Aside0.mk ((by rw [hg]; exact (qJ (by repeat (first | (with_reducible first | exact HB.out | apply qF | apply qA | apply qE) | exact HB.out))) : w.heap.size ≤ gb600)); have n3_ := Aside0.mk ((by rw [hg]; exact (qJ (by repeat (first | (with_reducible first | exact HB.out | apply qF | apply qA | apply qE) | exact HB.out))) : w.heap.size ≤ gb600)); clear HB; have HB := n0_; have BK600 := n1_; have GW600 := n2_; have GE600 := n3_; clear n0_ n1_ n2_ n3_; clear hb hbox hg) | ((with_reducible refine qc (N := 6) rfl ?_); refine qY ?hg (N := 6) ?hd (cs := #[.int .i64 0, .int .i64 0, .int .i64 0]) (t := 27) ?hr ?_; (case hd => rfl); (case hg => rfl); (case hr => first | (go_simp; done) | (go_simp; rfl)); intro gb601 hg w16 hbox hb; have n0_ := Aside0.mk (qK (g := gb600) (o := .cells #[.int .i64 a1_0, .int .i64 a1_1, .int .i64 a1_2] 27 (0, 0)) (by (with_reducible repeat (first | refine qC ?_ _ | refine qD ?_ | refine qB ?_ _)); exact BK600.out) hb); have n1_ := Aside0.mk (qL (by repeat (first | (with_reducible first | exact HB.out | apply qF | apply qA | apply qE | refine qG ?_ GE600.out) | exact HB.out)) hb); have n2_ := Aside0.mk (hbox); have n3_ := Aside0.mk ((by rw [hg]; exact (qJ (by repeat (first | (with_reducible first | exact HB.out | apply qF | apply qA | apply qE | refine qG ?_ GE600.out) | exact HB.out))) : w.heap.size ≤ gb601)); have n4_ := Aside0.mk ((by rw [hg]; exact (qJ (by repeat (first | (with_reducible first | exact HB.out | apply qF | apply qA | apply qE | refine qG ?_ GE600.out) | exact HB.out))) : w.heap.size ≤ gb601)); have n5_ := Aside0.mk ((by rw [hg]; exact Nat.ne_of_lt (qd (g := gb600) (o := .cells #[.int .i64 a1_0, .int .i64 a1_1, .int .i64 a1_2] 27 (0, 0)) (by (with_reducible repeat (first | refine qC ?_ _ | refine qD ?_ | refine qB ?_ _)); exact BK600.out)) : gb600 ≠ gb601)); have n6_ := Aside0.mk ((by rw [hg]; exact Nat.ne_of_gt (qd (g := gb600) (o := .cells #[.int .i64 a1_0, .int .i64 a1_1, .int .i64 a1_2] 27 (0, 0)) (by (with_reducible repeat (first | refine qC ?_ _ | refine qD ?_ | refine qB ?_ _)); exact BK600.out)) : gb601 ≠ gb600)); clear BK600; clear HB; have BK600 := n0_; have HB := n1_; have BK601 := n2_; have GW601 := n3_; have GE601 := n4_; have NB600_601 := n5_; have NB601_600 := n6_; clear n0_ n1_ n2_ n3_ n4_ n5_ n6_; clear hb hbox hg; have hnb17 := NB600_601.out; have hnc17 := NB601_600.out; have hcz18_0 : w16.cell? ⟨gb600, 0, none⟩ = some (.int .i64 a1_0) := (qI BK600.out 0).trans rfl; have hcz18_1 : w16.cell? ⟨gb600, 1, none⟩ = some (.int .i64 a1_1) := (qI BK600.out 1).trans rfl; have hcz18_2 : w16.cell? ⟨gb600, 2, none⟩ = some (.int .i64 a1_2) := (qI BK600.out 2).trans rfl; have hfz18_0 := qH BK600.out 0; have hfz18_1 := qH BK600.out 1; have hfz18_2 := qH BK600.out 2) | ((with_reducible refine qX (f := 68) rfl ?_); refine qo (some 14) rfl rfl Tryd.func68 (by kernel_rfl) rfl #[.string a0, .agg #[.int .i64 a1_0, .int .i64 a1_1, .int .i64 a1_2], .string a2] rfl (by (try simp only [List.map_toArray, List.map_cons, List.map_nil]); first | done | rfl | (simp only [List.length_drop, List.length_take]; rfl)) ?_; (with_reducible refine (qP.calls k a0 a1_0 a1_1 a1_2 a2 t602 false _ ?side1 A4.out).mono ?_); (case side1 => first | exact HLD.out | exact Laid.below HLD.out (by repeat (first | (with_reducible first | exact HB.out | apply qF | apply qA | apply qE) | exact HB.out))); rintro e w19 ⟨v603, rfl, ho0, hb⟩; refine ⟨_, rfl, ?_⟩; have n0_ := Aside0.mk (Kd.qMA (Kd.qHB (Kd.qHB ho0 (g := gb600) (o := .cells #[.int .i64 a1_0, .int .i64 a1_1, .int .i64 a1_2] 27 (0, 0)) (by (with_reducible repeat (first | refine qC ?_ _ | refine qD ?_ | refine qB ?_ _)); exact BK600.out)) (g := gb601) (o := .cells #[.int .i64 0, .int .i64 0, .int .i64 0] 27 (0, 0)) (by (with_reducible repeat (first | refine qC ?_ _ | refine qD ?_ | refine qB ?_ _)); exact BK601.out)) (qJ (by repeat (first | (with_reducible first | exact HB.out | apply qF | apply qA | apply qE | refine qG ?_ GE600.out | refine qG ?_ GE601.out) | exact HB.out)))); have n1_ := Aside0.mk (qK (g := gb600) (o := .cells #[.int .i64 a1_0, .int .i64 a1_1, .int .i64 a1_2] 27 (0, 0)) (by (with_reducible repeat (first | refine qC ?_ _ | refine qD ?_ | refine qB ?_ _)); exact BK600.out) hb); have n2_ := Aside0.mk (qK (g := gb601) (o := .cells #[.int .i64 0, .int .i64 0, .int .i64 0] 27 (0, 0)) (by (with_reducible repeat (first | refine qC ?_ _ | refine qD ?_ | refine qB ?_ _)); exact BK601.out) hb); have n3_ := Aside0.mk (qL (by repeat (first | (with_reducible first | exact HB.out | apply qF | apply qA | apply qE | refine qG ?_ GE600.out | refine qG ?_ GE601.out) | exact HB.out)) hb); clear BK600; clear BK601; clear HB; have HO604 := n0_; have BK600 := n1_; have BK601 := n2_; have HB := n3_; clear n0_ n1_ n2_ n3_; (try clear hb); (try clear hb2); (try clear hk); (try clear hi); (try clear ho0); have hcz20_0 : w19.cell? ⟨gb601, 0, none⟩ = some (.int .i64 0) := (qI BK601.out 0).trans rfl; have hcz20_1 : w19.cell? ⟨gb601, 1, none⟩ = some (.int .i64 0) := (qI BK601.out 1).trans rfl; have hcz20_2 : w19.cell? ⟨gb601, 2, none⟩ = some (.int .i64 0) := (qI BK601.out 2).trans rfl; have hfz20_0 := qH BK601.out 0; have hfz20_1 := qH BK601.out 1; have hfz20_2 := qH BK601.out 2))
  refine bodyPost_ret (qDA rfl _ _ gb601 27 #[.int .i64 0, .int .i64 0, .int .i64 0] (0, 0) _ rfl (by (with_reducible repeat (first | refine qC ?_ _ | refine qD ?_ | refine qB ?_ _)); refine qO (cs := #[.int .i64 0, .int .i64 0, .int .i64 0]) ?_ 2 _ rfl; (with_reducible repeat (first | refine qC ?_ _ | refine qD ?_ | refine qB ?_ _)); refine qO (cs := #[.int .i64 0, .int .i64 0, .int .i64 0]) ?_ 1 _ rfl; (with_reducible repeat (first | refine qC ?_ _ | refine qD ?_ | refine qB ?_ _)); refine qO (cs := #[.int .i64 0, .int .i64 0, .int .i64 0]) ?_ 0 _ rfl; (with_reducible repeat (first | refine qC ?_ _ | refine qD ?_ | refine qB ?_ _)); exact BK601.out) Tryd.underlying27 rfl (by kernel_rfl)) rfl ?_
  exact ⟨by first | rfl | (simp [qN, qM] <;> rfl) | (simp [*, qN, qM] <;> rfl), by repeat (first | (with_reducible first | exact HB.out | apply qF | apply qA | apply qE | refine qG ?_ GE600.out | refine qG ?_ GE601.out) | exact HB.out)⟩
end Go.Proofs.YtbpfhpjbeomfcaaDoor.P
namespace Go.Proofs.YtbpfhpjbeomfcaaDoor.P
open Go.RowKit Go.Proofs.YtbpfhpjbeomfcaaDoorW.PrintWords Go.Proofs.YtbpfhpjbeomfcaaDoorW.PrintLast Go.Proofs.YtbpfhpjbeomfcaaDoorW.PrintMore
attribute [local go_sem] qx qv qGA qFA qm ql qw qu   -- for this text's walks alone
set_option linter.unusedVariables false
set_option linter.unusedSimpArgs false
def qAA.f (k : Nat) (a0 : ByteArray) (a1_0 : Int) (a1_1 : Int) (a1_2 : Int) (a2 : ByteArray) : Option (Bool) := if (a0.size : Int) > 1048576 then (some true) else (if (a2.size : Int) > 1048576 then (some true) else ((qKA.f a1_0 a1_1 a1_2).bind fun bt608 => ((qCA.f k a0 bt608.1 bt608.2.1 bt608.2.2 a2).bind fun bt611 => ((qKA.f a1_0 a1_1 a1_2).bind fun bt616 => ((qp.f k a0 bt616.1 bt616.2.1 bt616.2.2 a2).bind fun bt619 => ((qSA.f bt619.1 bt619.2.1 bt619.2.2.1 bt611.1 bt611.2.1 bt611.2.2.1).bind fun t624 => (if t624 = true then (if (bt619.2.2.2 != bt611.2.2.2) = true then (some false) else (some true)) else (some false))))))))
set_option maxHeartbeats 8000000 in
set_option maxRecDepth 100000 in
theorem qAA.calls (k : Nat) (a0 : ByteArray) (a1_0 : Int) (a1_1 : Int) (a1_2 : Int) (a2 : ByteArray) (r : Bool) (w : World) (hL : Laid w) (h : qAA.f k a0 a1_0 a1_1 a1_2 a2 = some r) :
  Calls Tryd.prog 11 #[.string a0, .agg #[.int .i64 a1_0, .int .i64 a1_1, .int .i64 a1_2], .string a2] w fun e w' => e = .returned (.bool r) ∧ Below w.heap.size w w' := by
 have hu24 := Tryd.underlying24
 have hu27 := Tryd.underlying27
 have HLD := Aside0.mk hL
 clear hL
 have HB := Aside0.mk (Below.refl w.heap.size w)
 have H : (if (a0.size : Int) > 1048576 then (some true) else (if (a2.size : Int) > 1048576 then (some true) else ((qKA.f a1_0 a1_1 a1_2).bind fun bt608 => ((qCA.f k a0 bt608.1 bt608.2.1 bt608.2.2 a2).bind fun bt611 => ((qKA.f a1_0 a1_1 a1_2).bind fun bt616 => ((qp.f k a0 bt616.1 bt616.2.1 bt616.2.2 a2).bind fun bt619 => ((qSA.f bt619.1 bt619.2.1 bt619.2.2.1 bt611.1 bt611.2.1 bt611.2.2.1).bind fun t624 => (if t624 = true then (if (bt619.2.2.2 != bt611.2.2.2) = true then (some false) else (some true)) else (some false))))))))) = some r := h
 clear h
 by_cases c4 : (a0.size : Int) > 1048576
 ·rw [if_pos c4] at H
  have c4b0 : decide (1048576 < (a0.size : Int)) = true := decide_eq_true c4
  have c4b1 : decide (1048576 < a0.size) = true := decide_eq_true (by omega)
  clear c4
  obtain rfl := Option.some.inj H
  go_enter Tryd.func11, Tryd.ntmps11
  go_wp2_with (first | ((with_reducible refine qc (N := 4) rfl ?_); refine qY ?hg (N := 4) ?hd (cs := #[.int .i64 a1_0, .int .i64 a1_1, .int .i64 a1_2]) (t := 24) ?hr ?_; (case hd => rfl); (case hg => rfl); (case hr => first | (go_simp; done) | (go_simp; rfl)); intro gb607 hg w5 hbox hb; have n0_ := Aside0.mk (qL (by repeat (first | (with_reducible first | exact HB.out | apply qF | apply qA | apply qE) | exact HB.out)) hb); have n1_ := Aside0.mk (hbox); have n2_ := Aside0.mk ((by rw [hg]; exact (qJ (by repeat (first | (with_reducible first | exact HB.out | apply qF | apply qA | apply qE) | exact HB.out))) : w.heap.size ≤ gb607)); have n3_ := Aside0.mk ((by rw [hg]; exact (qJ (by repeat (first | (with_reducible first | exact HB.out | apply qF | apply qA | apply qE) | exact HB.out))) : w.heap.size ≤ gb607)); clear HB; have HB := n0_; have BK607 := n1_; have GW607 := n2_; have GE607 := n3_; clear n0_ n1_ n2_ n3_; clear hb hbox hg))
  go_ret
  exact ⟨by first | rfl | (simp [qN, qM] <;> rfl) | (simp [*, qN, qM] <;> rfl), by repeat (first | (with_reducible first | exact HB.out | apply qF | apply qA | apply qE | refine qG ?_ GE607.out) | exact HB.out)⟩
 ·rw [if_neg c4] at H
  have c4b0 : decide (1048576 < (a0.size : Int)) = false := decide_eq_false c4
  have c4b1 : decide (1048576 < a0.size) = false := decide_eq_false (by omega)
  clear c4
  by_cases c6 : (a2.size : Int) > 1048576
  ·rw [if_pos c6] at H
   have c6b0 : decide (1048576 < (a2.size : Int)) = true := decide_eq_true c6
   have c6b1 : decide (1048576 < a2.size) = true := decide_eq_true (by omega)
   clear c6
   obtain rfl := Option.some.inj H
   go_enter Tryd.func11, Tryd.ntmps11
   go_wp2_with (first | ((with_reducible refine qc (N := 4) rfl ?_); refine qY ?hg (N := 4) ?hd (cs := #[.int .i64 a1_0, .int .i64 a1_1, .int .i64 a1_2]) (t := 24) ?hr ?_; (case hd => rfl); (case hg => rfl); (case hr => first | (go_simp; done) | (go_simp; rfl)); intro gb607 hg w7 hbox hb; have n0_ := Aside0.mk (qL (by repeat (first | (with_reducible first | exact HB.out | apply qF | apply qA | apply qE) | exact HB.out)) hb); have n1_ := Aside0.mk (hbox); have n2_ := Aside0.mk ((by rw [hg]; exact (qJ (by repeat (first | (with_reducible first | exact HB.out | apply qF | apply qA | apply qE) | exact HB.out))) : w.heap.size ≤ gb607)); have n3_ := Aside0.mk ((by rw [hg]; exact (qJ (by repeat (first | (with_reducible first | exact HB.out | apply qF | apply qA | apply qE) | exact HB.out))) : w.heap.size ≤ gb607)); clear HB; have HB := n0_; have BK607 := n1_; have GW607 := n2_; have GE607 := n3_; clear n0_ n1_ n2_ n3_; clear hb hbox hg))
   go_ret
   exact ⟨by first | rfl | (simp [qN, qM] <;> rfl) | (simp [*, qN, qM] <;> rfl), by repeat (first | (with_reducible first | exact HB.out | apply qF | apply qA | apply qE | refine qG ?_ GE607.out) | exact HB.out)⟩
  ·rw [if_neg c6] at H
   have c6b0 : decide (1048576 < (a2.size : Int)) = false := decide_eq_false c6
   have c6b1 : decide (1048576 < a2.size) = false := decide_eq_false (by omega)
   clear c6
   replace H := Option.bind_eq_some_iff.mp H
   obtain ⟨⟨t608, t609, t610⟩, A80, H⟩ := H
   replace H : ((qCA.f k a0 t608 t609 t610 a2).bind fun bt611 => ((qKA.f a1_0 a1_1 a1_2).bind fun bt616 => ((qp.f k a0 bt616.1 bt616.2.1 bt616.2.2 a2).bind fun bt619 => ((qSA.f bt619.1 bt619.2.1 bt619.2.2.1 bt611.1 bt611.2.1 bt611.2.2.1).bind fun t624 => (if t624 = true then (if (bt619.2.2.2 != bt611.2.2.2) = true then (some false) else (some true)) else (some false)))))) = some r := H
   have A8 := Aside0.mk A80
   clear A80
   replace H := Option.bind_eq_some_iff.mp H
   obtain ⟨⟨t611, t612, t613, t614⟩, A90, H⟩ := H
   replace H : ((qKA.f a1_0 a1_1 a1_2).bind fun bt616 => ((qp.f k a0 bt616.1 bt616.2.1 bt616.2.2 a2).bind fun bt619 => ((qSA.f bt619.1 bt619.2.1 bt619.2.2.1 t611 t612 t613).bind fun t624 => (if t624 = true then (if (bt619.2.2.2 != t614) = true then (some false) else (some true)) else (some false))))) = some r := H
   have A9 := Aside0.mk A90
   clear A90
   replace H := Option.bind_eq_some_iff.mp H
   obtain ⟨⟨t616, t617, t618⟩, A100, H⟩ := H
   replace H : ((qp.f k a0 t616 t617 t618 a2).bind fun bt619 => ((qSA.f bt619.1 bt619.2.1 bt619.2.2.1 t611 t612 t613).bind fun t624 => (if t624 = true then (if (bt619.2.2.2 != t614) = true then (some false) else (some true)) else (some false)))) = some r := H
   have A10 := Aside0.mk A100
   clear A100
   replace H := Option.bind_eq_some_iff.mp H
   obtain ⟨⟨t619, t620, t621, t622⟩, A110, H⟩ := H
   replace H : ((qSA.f t619 t620 t621 t611 t612 t613).bind fun t624 => (if t624 = true then (if (t622 != t614) = true then (some false) else (some true)) else (some false))) = some r := H
   have A11 := Aside0.mk A110
   clear A110
   replace H := Option.bind_eq_some_iff.mp H
   obtain ⟨t624, A120, H⟩ := H
   replace H : (if t624 = true then (if (t622 != t614) = true then (some false) else (some true)) else (some false)) = some r := H
   have A12 := Aside0.mk A120
   clear A120
   by_cases c13 : t624 = true
   ·subst c13
    have H1 : (if (t622 != t614) = true then (some false) else (some true)) = some r := by rw [if_pos rfl] at H; exact H
    clear H
    have H := H1
    clear H1
    by_cases c14 : (t622 != t614) = true
    ·rw [if_pos c14] at H
     have c14b0 : (t622 != t614) = true := c14
     (try (have c14b1 : decide (t622 = t614) = false := by simpa using c14))
     (try (have c14b2 : (t622 == t614) = false := by simpa using c14))
     (try (have c14b3 : ¬ (t622 = t614) := by simpa using c14))
     clear c14
     obtain rfl := Option.some.inj H
     go_enter Tryd.func11, Tryd.ntmps11
     go_wp2_with (first | ((with_reducible refine qc (N := 4) rfl ?_); refine qY ?hg (N := 4) ?hd (cs := #[.int .i64 a1_0, .int .i64 a1_1, .int .i64 a1_2]) (t := 24) ?hr ?_; (case hd => rfl); (case hg => rfl); (case hr => first | (go_simp; done) | (go_simp; rfl)); intro gb607 hg w15 hbox hb; have n0_ := Aside0.mk (qL (by repeat (first | (with_reducible first | exact HB.out | apply qF | apply qA | apply qE) | exact HB.out)) hb); have n1_ := Aside0.mk (hbox); have n2_ := Aside0.mk ((by rw [hg]; exact (qJ (by repeat (first | (with_reducible first | exact HB.out | apply qF | apply qA | apply qE) | exact HB.out))) : w.heap.size ≤ gb607)); have n3_ := Aside0.mk ((by rw [hg]; exact (qJ (by repeat (first | (with_reducible first | exact HB.out | apply qF | apply qA | apply qE) | exact HB.out))) : w.heap.size ≤ gb607)); clear HB; have HB := n0_; have BK607 := n1_; have GW607 := n2_; have GE607 := n3_; clear n0_ n1_ n2_ n3_; clear hb hbox hg; have hcz16_0 : w15.cell? ⟨gb607, 0, none⟩ = some (.int .i64 a1_0) := (qI BK607.out 0).trans rfl; have hcz16_1 : w15.cell? ⟨gb607, 1, none⟩ = some (.int .i64 a1_1) := (qI BK607.out 1).trans rfl; have hcz16_2 : w15.cell? ⟨gb607, 2, none⟩ = some (.int .i64 a1_2) := (qI BK607.out 2).trans rfl; have hfz16_0 := qH BK607.out 0; have hfz16_1 := qH BK607.out 1; have hfz16_2 := qH BK607.out 2) | ((with_reducible refine qX (f := 20) rfl ?_); refine qo (some 20) rfl rfl Tryd.func20 (by kernel_rfl) rfl #[.agg #[.int .i64 a1_0, .int .i64 a1_1, .int .i64 a1_2]] rfl (by (try simp only [List.map_toArray, List.map_cons, List.map_nil]); first | done | rfl | (simp only [List.length_drop, List.length_take]; rfl)) ?_; (with_reducible refine (qKA.calls a1_0 a1_1 a1_2 t608 t609 t610 _ A8.out).mono ?_); rintro e w17 ⟨rfl, hb⟩; refine ⟨_, rfl, ?_⟩; have n0_ := Aside0.mk (qK (g := gb607) (o := .cells #[.int .i64 a1_0, .int .i64 a1_1, .int .i64 a1_2] 24 (0, 0)) (by (with_reducible repeat (first | refine qC ?_ _ | refine qD ?_ | refine qB ?_ _)); exact BK607.out) hb); have n1_ := Aside0.mk (qL (by repeat (first | (with_reducible first | exact HB.out | apply qF | apply qA | apply qE | refine qG ?_ GE607.out) | exact HB.out)) hb); clear BK607; clear HB; have BK607 := n0_; have HB := n1_; clear n0_ n1_; (try clear hb); (try clear hb2); (try clear hk); (try clear hi)) | ((with_reducible refine qX (f := 35) rfl ?_); refine qo (some 22) rfl rfl Tryd.func35 (by kernel_rfl) rfl #[.string a0, .agg #[.int .i64 t608, .int .i64 t609, .int .i64 t610], .string a2] rfl (by (try simp only [List.map_toArray, List.map_cons, List.map_nil]); first | done | rfl | (simp only [List.length_drop, List.length_take]; rfl)) ?_; (with_reducible refine (qCA.calls k a0 t608 t609 t610 a2 t611 t612 t613 t614 _ A9.out).mono ?_); rintro e w18 ⟨rfl, hb⟩; refine ⟨_, rfl, ?_⟩; have n0_ := Aside0.mk (qK (g := gb607) (o := .cells #[.int .i64 a1_0, .int .i64 a1_1, .int .i64 a1_2] 24 (0, 0)) (by (with_reducible repeat (first | refine qC ?_ _ | refine qD ?_ | refine qB ?_ _)); exact BK607.out) hb); have n1_ := Aside0.mk (qL (by repeat (first | (with_reducible first | exact HB.out | apply qF | apply qA | apply qE | refine qG ?_ GE607.out) | exact HB.out)) hb); clear BK607; clear HB; have BK607 := n0_; have HB := n1_; clear n0_ n1_; (try clear hb); (try clear hb2); (try clear hk); (try clear hi)) | ((with_reducible refine qc (N := 7) rfl ?_); refine qY ?hg (N := 7) ?hd (cs := #[.int .i64 0, .int .i64 0, .int .i64 0]) (t := 27) ?hr ?_; (case hd => rfl); (case hg => rfl); (case hr => first | (go_simp; done) | (go_simp; rfl)); intro gb615 hg w19 hbox hb; have n0_ := Aside0.mk (qK (g := gb607) (o := .cells #[.int .i64 a1_0, .int .i64 a1_1, .int .i64 a1_2] 24 (0, 0)) (by (with_reducible repeat (first | refine qC ?_ _ | refine qD ?_ | refine qB ?_ _)); exact BK607.out) hb); have n1_ := Aside0.mk (qL (by repeat (first | (with_reducible first | exact HB.out | apply qF | apply qA | apply qE | refine qG ?_ GE607.out) | exact HB.out)) hb); have n2_ := Aside0.mk (hbox); have n3_ := Aside0.mk ((by rw [hg]; exact (qJ (by repeat (first | (with_reducible first | exact HB.out | apply qF | apply qA | apply qE | refine qG ?_ GE607.out) | exact HB.out))) : w.heap.size ≤ gb615)); have n4_ := Aside0.mk ((by rw [hg]; exact (qJ (by repeat (first | (with_reducible first | exact HB.out | apply qF | apply qA | apply qE | refine qG ?_ GE607.out) | exact HB.out))) : w.heap.size ≤ gb615)); have n5_ := Aside0.mk ((by rw [hg]; exact Nat.ne_of_lt (qd (g := gb607) (o := .cells #[.int .i64 a1_0, .int .i64 a1_1, .int .i64 a1_2] 24 (0, 0)) (by (with_reducible repeat (first | refine qC ?_ _ | refine qD ?_ | refine qB ?_ _)); exact BK607.out)) : gb607 ≠ gb615)); have n6_ := Aside0.mk ((by rw [hg]; exact Nat.ne_of_gt (qd (g := gb607) (o := .cells #[.int .i64 a1_0, .int .i64 a1_1, .int .i64 a1_2] 24 (0, 0)) (by (with_reducible repeat (first | refine qC ?_ _ | refine qD ?_ | refine qB ?_ _)); exact BK607.out)) : gb615 ≠ gb607)); clear BK607; clear HB; have BK607 := n0_; have HB := n1_; have BK615 := n2_; have GW615 := n3_; have GE615 := n4_; have NB607_615 := n5_; have NB615_607 := n6_; clear n0_ n1_ n2_ n3_ n4_ n5_ n6_; clear hb hbox hg; have hnb20 := NB615_607.out; have hnc20 := NB607_615.out; have hcz21_0 : w19.cell? ⟨gb615, 0, none⟩ = some (.int .i64 0) := (qI BK615.out 0).trans rfl; have hcz21_1 : w19.cell? ⟨gb615, 1, none⟩ = some (.int .i64 0) := (qI BK615.out 1).trans rfl; have hcz21_2 : w19.cell? ⟨gb615, 2, none⟩ = some (.int .i64 0) := (qI BK615.out 2).trans rfl; have hfz21_0 := qH BK615.out 0; have hfz21_1 := qH BK615.out 1; have hfz21_2 := qH BK615.out 2; have hcz22_0 : w19.cell? ⟨gb607, 0, none⟩ = some (.int .i64 a1_0) := (qI BK607.out 0).trans rfl; have hcz22_1 : w19.cell? ⟨gb607, 1, none⟩ = some (.int .i64 a1_1) := (qI BK607.out 1).trans rfl; have hcz22_2 : w19.cell? ⟨gb607, 2, none⟩ = some (.int .i64 a1_2) := (qI BK607.out 2).trans rfl; have hfz22_0 := qH BK607.out 0; have hfz22_1 := qH BK607.out 1; have hfz22_2 := qH BK607.out 2) | ((with_reducible refine qX (f := 20) rfl ?_); refine qo (some 28) rfl rfl Tryd.func20 (by kernel_rfl) rfl #[.agg #[.int .i64 a1_0, .int .i64 a1_1, .int .i64 a1_2]] rfl (by (try simp only [List.map_toArray, List.map_cons, List.map_nil]); first | done | rfl | (simp only [List.length_drop, List.length_take]; rfl)) ?_; (with_reducible refine (qKA.calls a1_0 a1_1 a1_2 t616 t617 t618 _ A10.out).mono ?_); rintro e w23 ⟨rfl, hb⟩; refine ⟨_, rfl, ?_⟩; have n0_ := Aside0.mk (qK (g := gb607) (o := .cells #[.int .i64 a1_0, .int .i64 a1_1, .int .i64 a1_2] 24 (0, 0)) (by (with_reducible repeat (first | refine qC ?_ _ | refine qD ?_ | refine qB ?_ _)); refine qR ?_ NB607_615.out _; (with_reducible repeat (first | refine qC ?_ _ | refine qD ?_ | refine qB ?_ _)); refine qR ?_ NB607_615.out _; (with_reducible repeat (first | refine qC ?_ _ | refine qD ?_ | refine qB ?_ _)); refine qR ?_ NB607_615.out _; (with_reducible repeat (first | refine qC ?_ _ | refine qD ?_ | refine qB ?_ _)); exact BK607.out) hb); have n1_ := Aside0.mk (qK (g := gb615) (o := .cells #[.int .i64 t611, .int .i64 t612, .int .i64 t613] 27 (0, 0)) (by (with_reducible repeat (first | refine qC ?_ _ | refine qD ?_ | refine qB ?_ _)); refine qO (cs := #[.int .i64 t611, .int .i64 t612, .int .i64 0]) ?_ 2 _ rfl; (with_reducible repeat (first | refine qC ?_ _ | refine qD ?_ | refine qB ?_ _)); refine qO (cs := #[.int .i64 t611, .int .i64 0, .int .i64 0]) ?_ 1 _ rfl; (with_reducible repeat (first | refine qC ?_ _ | refine qD ?_ | refine qB ?_ _)); refine qO (cs := #[.int .i64 0, .int .i64 0, .int .i64 0]) ?_ 0 _ rfl; (with_reducible repeat (first | refine qC ?_ _ | refine qD ?_ | refine qB ?_ _)); exact BK615.out) hb); have n2_ := Aside0.mk (qL (by repeat (first | (with_reducible first | exact HB.out | apply qF | apply qA | apply qE | refine qG ?_ GE607.out | refine qG ?_ GE615.out) | exact HB.out)) hb); clear BK607; clear BK615; clear HB; have BK607 := n0_; have BK615 := n1_; have HB := n2_; clear n0_ n1_ n2_; (try clear hb); (try clear hb2); (try clear hk); (try clear hi)) | ((with_reducible refine qX (f := 36) rfl ?_); refine qo (some 30) rfl rfl Tryd.func36 (by kernel_rfl) rfl #[.string a0, .agg #[.int .i64 t616, .int .i64 t617, .int .i64 t618], .string a2] rfl (by (try simp only [List.map_toArray, List.map_cons, List.map_nil]); first | done | rfl | (simp only [List.length_drop, List.length_take]; rfl)) ?_; (with_reducible refine (qp.calls k a0 t616 t617 t618 a2 t619 t620 t621 t622 _ ?side1 A11.out).mono ?_); (case side1 => first | exact HLD.out | exact Laid.below HLD.out (by repeat (first | (with_reducible first | exact HB.out | apply qF | apply qA | apply qE) | exact HB.out))); rintro e w24 ⟨rfl, hb⟩; refine ⟨_, rfl, ?_⟩; have n0_ := Aside0.mk (qK (g := gb607) (o := .cells #[.int .i64 a1_0, .int .i64 a1_1, .int .i64 a1_2] 24 (0, 0)) (by (with_reducible repeat (first | refine qC ?_ _ | refine qD ?_ | refine qB ?_ _)); exact BK607.out) hb); have n1_ := Aside0.mk (qK (g := gb615) (o := .cells #[.int .i64 t611, .int .i64 t612, .int .i64 t613] 27 (0, 0)) (by (with_reducible repeat (first | refine qC ?_ _ | refine qD ?_ | refine qB ?_ _)); exact BK615.out) hb); have n2_ := Aside0.mk (qL (by repeat (first | (with_reducible first | exact HB.out | apply qF | apply qA | apply qE | refine qG ?_ GE607.out | refine qG ?_ GE615.out) | exact HB.out)) hb); clear BK607; clear BK615; clear HB; have BK607 := n0_; have BK615 := n1_; have HB := n2_; clear n0_ n1_ n2_; (try clear hb); (try clear hb2); (try clear hk); (try clear hi)) | ((with_reducible refine qc (N := 9) rfl ?_); refine qY ?hg (N := 9) ?hd (cs := #[.int .i64 0, .int .i64 0, .int .i64 0]) (t := 27) ?hr ?_; (case hd => rfl); (case hg => rfl); (case hr => first | (go_simp; done) | (go_simp; rfl)); intro gb623 hg w25 hbox hb; have n0_ := Aside0.mk (qK (g := gb607) (o := .cells #[.int .i64 a1_0, .int .i64 a1_1, .int .i64 a1_2] 24 (0, 0)) (by (with_reducible repeat (first | refine qC ?_ _ | refine qD ?_ | refine qB ?_ _)); exact BK607.out) hb); have n1_ := Aside0.mk (qK (g := gb615) (o := .cells #[.int .i64 t611, .int .i64 t612, .int .i64 t613] 27 (0, 0)) (by (with_reducible repeat (first | refine qC ?_ _ | refine qD ?_ | refine qB ?_ _)); exact BK615.out) hb); have n2_ := Aside0.mk (qL (by repeat (first | (with_reducible first | exact HB.out | apply qF | apply qA | apply qE | refine qG ?_ GE607.out | refine qG ?_ GE615.out) | exact HB.out)) hb); have n3_ := Aside0.mk (hbox); have n4_ := Aside0.mk ((by rw [hg]; exact (qJ (by repeat (first | (with_reducible first | exact HB.out | apply qF | apply qA | apply qE | refine qG ?_ GE607.out | refine qG ?_ GE615.out) | exact HB.out))) : w.heap.size ≤ gb623)); have n5_ := Aside0.mk ((by rw [hg]; exact (qJ (by repeat (first | (with_reducible first | exact HB.out | apply qF | apply qA | apply qE | refine qG ?_ GE607.out | refine qG ?_ GE615.out) | exact HB.out))) : w.heap.size ≤ gb623)); have n6_ := Aside0.mk ((by rw [hg]; exact Nat.ne_of_lt (qd (g := gb607) (o := .cells #[.int .i64 a1_0, .int .i64 a1_1, .int .i64 a1_2] 24 (0, 0)) (by (with_reducible repeat (first | refine qC ?_ _ | refine qD ?_ | refine qB ?_ _)); exact BK607.out)) : gb607 ≠ gb623)); have n7_ := Aside0.mk ((by rw [hg]; exact Nat.ne_of_gt (qd (g := gb607) (o := .cells #[.int .i64 a1_0, .int .i64 a1_1, .int .i64 a1_2] 24 (0, 0)) (by (with_reducible repeat (first | refine qC ?_ _ | refine qD ?_ | refine qB ?_ _)); exact BK607.out)) : gb623 ≠ gb607)); have n8_ := Aside0.mk ((by rw [hg]; exact Nat.ne_of_lt (qd (g := gb615) (o := .cells #[.int .i64 t611, .int .i64 t612, .int .i64 t613] 27 (0, 0)) (by (with_reducible repeat (first | refine qC ?_ _ | refine qD ?_ | refine qB ?_ _)); exact BK615.out)) : gb615 ≠ gb623)); have n9_ := Aside0.mk ((by rw [hg]; exact Nat.ne_of_gt (qd (g := gb615) (o := .cells #[.int .i64 t611, .int .i64 t612, .int .i64 t613] 27 (0, 0)) (by (with_reducible repeat (first | refine qC ?_ _ | refine qD ?_ | refine qB ?_ _)); exact BK615.out)) : gb623 ≠ gb615)); clear BK607; clear BK615; clear HB; have BK607 := n0_; have BK615 := n1_; have HB := n2_; have BK623 := n3_; have GW623 := n4_; have GE623 := n5_; have NB607_623 := n6_; have NB623_607 := n7_; have NB615_623 := n8_; have NB623_615 := n9_; clear n0_ n1_ n2_ n3_ n4_ n5_ n6_ n7_ n8_ n9_; clear hb hbox hg; have hnb26 := NB623_607.out; have hnc26 := NB607_623.out; have hnb27 := NB623_615.out; have hnc27 := NB615_623.out; have hcz28_0 : w25.cell? ⟨gb623, 0, none⟩ = some (.int .i64 0) := (qI BK623.out 0).trans rfl; have hcz28_1 : w25.cell? ⟨gb623, 1, none⟩ = some (.int .i64 0) := (qI BK623.out 1).trans rfl; have hcz28_2 : w25.cell? ⟨gb623, 2, none⟩ = some (.int .i64 0) := (qI BK623.out 2).trans rfl; have hfz28_0 := qH BK623.out 0; have hfz28_1 := qH BK623.out 1; have hfz28_2 := qH BK623.out 2; have hcz29_0 : w25.cell? ⟨gb615, 0, none⟩ = some (.int .i64 t611) := (qI BK615.out 0).trans rfl; have hcz29_1 : w25.cell? ⟨gb615, 1, none⟩ = some (.int .i64 t612) := (qI BK615.out 1).trans rfl; have hcz29_2 : w25.cell? ⟨gb615, 2, none⟩ = some (.int .i64 t613) := (qI BK615.out 2).trans rfl; have hfz29_0 := qH BK615.out 0; have hfz29_1 := qH BK615.out 1; have hfz29_2 := qH BK615.out 2) | ((with_reducible refine qX (f := 26) rfl ?_); refine qo (some 35) rfl rfl Tryd.func26 (by kernel_rfl) rfl #[.agg #[.int .i64 t619, .int .i64 t620, .int .i64 t621], .agg #[.int .i64 t611, .int .i64 t612, .int .i64 t613]] rfl (by (try simp only [List.map_toArray, List.map_cons, List.map_nil]); first | done | rfl | (simp only [List.length_drop, List.length_take]; rfl)) ?_; (with_reducible refine (qSA.calls t619 t620 t621 t611 t612 t613 true _ A12.out).mono ?_); rintro e w30 ⟨rfl, hb⟩; refine ⟨_, rfl, ?_⟩; have n0_ := Aside0.mk (qK (g := gb607) (o := .cells #[.int .i64 a1_0, .int .i64 a1_1, .int .i64 a1_2] 24 (0, 0)) (by (with_reducible repeat (first | refine qC ?_ _ | refine qD ?_ | refine qB ?_ _)); refine qR ?_ NB607_623.out _; (with_reducible repeat (first | refine qC ?_ _ | refine qD ?_ | refine qB ?_ _)); refine qR ?_ NB607_623.out _; (with_reducible repeat (first | refine qC ?_ _ | refine qD ?_ | refine qB ?_ _)); refine qR ?_ NB607_623.out _; (with_reducible repeat (first | refine qC ?_ _ | refine qD ?_ | refine qB ?_ _)); exact BK607.out) hb); have n1_ := Aside0.mk (qK (g := gb615) (o := .cells #[.int .i64 t611, .int .i64 t612, .int .i64 t613] 27 (0, 0)) (by (with_reducible repeat (first | refine qC ?_ _ | refine qD ?_ | refine qB ?_ _)); refine qR ?_ NB615_623.out _; (with_reducible repeat (first | refine qC ?_ _ | refine qD ?_ | refine qB ?_ _)); refine qR ?_ NB615_623.out _; (with_reducible repeat (first | refine qC ?_ _ | refine qD ?_ | refine qB ?_ _)); refine qR ?_ NB615_623.out _; (with_reducible repeat (first | refine qC ?_ _ | refine qD ?_ | refine qB ?_ _)); exact BK615.out) hb); have n2_ := Aside0.mk (qK (g := gb623) (o := .cells #[.int .i64 t619, .int .i64 t620, .int .i64 t621] 27 (0, 0)) (by (with_reducible repeat (first | refine qC ?_ _ | refine qD ?_ | refine qB ?_ _)); refine qO (cs := #[.int .i64 t619, .int .i64 t620, .int .i64 0]) ?_ 2 _ rfl; (with_reducible repeat (first | refine qC ?_ _ | refine qD ?_ | refine qB ?_ _)); refine qO (cs := #[.int .i64 t619, .int .i64 0, .int .i64 0]) ?_ 1 _ rfl; (with_reducible repeat (first | refine qC ?_ _ | refine qD ?_ | refine qB ?_ _)); refine qO (cs := #[.int .i64 0, .int .i64 0, .int .i64 0]) ?_ 0 _ rfl; (with_reducible repeat (first | refine qC ?_ _ | refine qD ?_ | refine qB ?_ _)); exact BK623.out) hb); have n3_ := Aside0.mk (qL (by repeat (first | (with_reducible first | exact HB.out | apply qF | apply qA | apply qE | refine qG ?_ GE607.out | refine qG ?_ GE615.out | refine qG ?_ GE623.out) | exact HB.out)) hb); clear BK607; clear BK615; clear BK623; clear HB; have BK607 := n0_; have BK615 := n1_; have BK623 := n2_; have HB := n3_; clear n0_ n1_ n2_ n3_; (try clear hb); (try clear hb2); (try clear hk); (try clear hi)))
     go_ret
     exact ⟨by first | rfl | (simp [qN, qM] <;> rfl) | (simp [*, qN, qM] <;> rfl), by repeat (first | (with_reducible first | exact HB.out | apply qF | apply qA | apply qE | refine qG ?_ GE607.out | refine qG ?_ GE615.out | refine qG ?_ GE623.out) | exact HB.out)⟩
    ·rw [if_neg c14] at H
     have c14b0 : (t622 != t614) = false := by simpa using c14
     (try (have c14b1 : decide (t622 = t614) = true := by simpa using c14))
     (try (have c14b2 : (t622 == t614) = true := by simpa using c14))
     clear c14
     obtain rfl := Option.some.inj H
     go_enter Tryd.func11, Tryd.ntmps11
     go_wp2_with (first | ((with_reducible refine qc (N := 4) rfl ?_); refine qY ?hg (N := 4) ?hd (cs := #[.int .i64 a1_0, .int .i64 a1_1, .int .i64 a1_2]) (t := 24) ?hr ?_; (case hd => rfl); (case hg => rfl); (case hr => first | (go_simp; done) | (go_simp; rfl)); intro gb607 hg w31 hbox hb; have n0_ := Aside0.mk (qL (by repeat (first | (with_reducible first | exact HB.out | apply qF | apply qA | apply qE) | exact HB.out)) hb); have n1_ := Aside0.mk (hbox); have n2_ := Aside0.mk ((by rw [hg]; exact (qJ (by repeat (first | (with_reducible first | exact HB.out | apply qF | apply qA | apply qE) | exact HB.out))) : w.heap.size ≤ gb607)); have n3_ := Aside0.mk ((by rw [hg]; exact (qJ (by repeat (first | (with_reducible first | exact HB.out | apply qF | apply qA | apply qE) | exact HB.out))) : w.heap.size ≤ gb607)); clear HB; have HB := n0_; have BK607 := n1_; have GW607 := n2_; have GE607 := n3_; clear n0_ n1_ n2_ n3_; clear hb hbox hg; have hcz32_0 : w31.cell? ⟨gb607, 0, none⟩ = some (.int .i64 a1_0) := (qI BK607.out 0).trans rfl; have hcz32_1 : w31.cell? ⟨gb607, 1, none⟩ = some (.int .i64 a1_1) := (qI BK607.out 1).trans rfl; have hcz32_2 : w31.cell? ⟨gb607, 2, none⟩ = some (.int .i64 a1_2) := (qI BK607.out 2).trans rfl; have hfz32_0 := qH BK607.out 0; have hfz32_1 := qH BK607.out 1; have hfz32_2 := qH BK607.out 2) | ((with_reducible refine qX (f := 20) rfl ?_); refine qo (some 20) rfl rfl Tryd.func20 (by kernel_rfl) rfl #[.agg #[.int .i64 a1_0, .int .i64 a1_1, .int .i64 a1_2]] rfl (by (try simp only [List.map_toArray, List.map_cons, List.map_nil]); first | done | rfl | (simp only [List.length_drop, List.length_take]; rfl)) ?_; (with_reducible refine (qKA.calls a1_0 a1_1 a1_2 t608 t609 t610 _ A8.out).mono ?_); rintro e w33 ⟨rfl, hb⟩; refine ⟨_, rfl, ?_⟩; have n0_ := Aside0.mk (qK (g := gb607) (o := .cells #[.int .i64 a1_0, .int .i64 a1_1, .int .i64 a1_2] 24 (0, 0)) (by (with_reducible repeat (first | refine qC ?_ _ | refine qD ?_ | refine qB ?_ _)); exact BK607.out) hb); have n1_ := Aside0.mk (qL (by repeat (first | (with_reducible first | exact HB.out | apply qF | apply qA | apply qE | refine qG ?_ GE607.out) | exact HB.out)) hb); clear BK607; clear HB; have BK607 := n0_; have HB := n1_; clear n0_ n1_; (try clear hb); (try clear hb2); (try clear hk); (try clear hi)) | ((with_reducible refine qX (f := 35) rfl ?_); refine qo (some 22) rfl rfl Tryd.func35 (by kernel_rfl) rfl #[.string a0, .agg #[.int .i64 t608, .int .i64 t609, .int .i64 t610], .string a2] rfl (by (try simp only [List.map_toArray, List.map_cons, List.map_nil]); first | done | rfl | (simp only [List.length_drop, List.length_take]; rfl)) ?_; (with_reducible refine (qCA.calls k a0 t608 t609 t610 a2 t611 t612 t613 t614 _ A9.out).mono ?_); rintro e w34 ⟨rfl, hb⟩; refine ⟨_, rfl, ?_⟩; have n0_ := Aside0.mk (qK (g := gb607) (o := .cells #[.int .i64 a1_0, .int .i64 a1_1, .int .i64 a1_2] 24 (0, 0)) (by (with_reducible repeat (first | refine qC ?_ _ | refine qD ?_ | refine qB ?_ _)); exact BK607.out) hb); have n1_ := Aside0.mk (qL (by repeat (first | (with_reducible first | exact HB.out | apply qF | apply qA | apply qE | refine qG ?_ GE607.out) | exact HB.out)) hb); clear BK607; clear HB; have BK607 := n0_; have HB := n1_; clear n0_ n1_; (try clear hb); (try clear hb2); (try clear hk); (try clear hi)) | ((with_reducible refine qc (N := 7) rfl ?_); refine qY ?hg (N := 7) ?hd (cs := #[.int .i64 0, .int .i64 0, .int .i64 0]) (t := 27) ?hr ?_; (case hd => rfl); (case hg => rfl); (case hr => first | (go_simp; done) | (go_simp; rfl)); intro gb615 hg w35 hbox hb; have n0_ := Aside0.mk (qK (g := gb607) (o := .cells #[.int .i64 a1_0, .int .i64 a1_1, .int .i64 a1_2] 24 (0, 0)) (by (with_reducible repeat (first | refine qC ?_ _ | refine qD ?_ | refine qB ?_ _)); exact BK607.out) hb); have n1_ := Aside0.mk (qL (by repeat (first | (with_reducible first | exact HB.out | apply qF | apply qA | apply qE | refine qG ?_ GE607.out) | exact HB.out)) hb); have n2_ := Aside0.mk (hbox); have n3_ := Aside0.mk ((by rw [hg]; exact (qJ (by repeat (first | (with_reducible first | exact HB.out | apply qF | apply qA | apply qE | refine qG ?_ GE607.out) | exact HB.out))) : w.heap.size ≤ gb615)); have n4_ := Aside0.mk ((by rw [hg]; exact (qJ (by repeat (first | (with_reducible first | exact HB.out | apply qF | apply qA | apply qE | refine qG ?_ GE607.out) | exact HB.out))) : w.heap.size ≤ gb615)); have n5_ := Aside0.mk ((by rw [hg]; exact Nat.ne_of_lt (qd (g := gb607) (o := .cells #[.int .i64 a1_0, .int .i64 a1_1, .int .i64 a1_2] 24 (0, 0)) (by (with_reducible repeat (first | refine qC ?_ _ | refine qD ?_ | refine qB ?_ _)); exact BK607.out)) : gb607 ≠ gb615)); have n6_ := Aside0.mk ((by rw [hg]; exact Nat.ne_of_gt (qd (g := gb607) (o := .cells #[.int .i64 a1_0, .int .i64 a1_1, .int .i64 a1_2] 24 (0, 0)) (by (with_reducible repeat (first | refine qC ?_ _ | refine qD ?_ | refine qB ?_ _)); exact BK607.out)) : gb615 ≠ gb607)); clear BK607; clear HB; have BK607 := n0_; have HB := n1_; have BK615 := n2_; have GW615 := n3_; have GE615 := n4_; have NB607_615 := n5_; have NB615_607 := n6_; clear n0_ n1_ n2_ n3_ n4_ n5_ n6_; clear hb hbox hg; have hnb36 := NB615_607.out; have hnc36 := NB607_615.out; have hcz37_0 : w35.cell? ⟨gb615, 0, none⟩ = some (.int .i64 0) := (qI BK615.out 0).trans rfl; have hcz37_1 : w35.cell? ⟨gb615, 1, none⟩ = some (.int .i64 0) := (qI BK615.out 1).trans rfl; have hcz37_2 : w35.cell? ⟨gb615, 2, none⟩ = some (.int .i64 0) := (qI BK615.out 2).trans rfl; have hfz37_0 := qH BK615.out 0; have hfz37_1 := qH BK615.out 1; have hfz37_2 := qH BK615.out 2; have hcz38_0 : w35.cell? ⟨gb607, 0, none⟩ = some (.int .i64 a1_0) := (qI BK607.out 0).trans rfl; have hcz38_1 : w35.cell? ⟨gb607, 1, none⟩ = some (.int .i64 a1_1) := (qI BK607.out 1).trans rfl; have hcz38_2 : w35.cell? ⟨gb607, 2, none⟩ = some (.int .i64 a1_2) := (qI BK607.out 2).trans rfl; have hfz38_0 := qH BK607.out 0; have hfz38_1 := qH BK607.out 1; have hfz38_2 := qH BK607.out 2) | ((with_reducible refine qX (f := 20) rfl ?_); refine qo (some 28) rfl rfl Tryd.func20 (by kernel_rfl) rfl #[.agg #[.int .i64 a1_0, .int .i64 a1_1, .int .i64 a1_2]] rfl (by (try simp only [List.map_toArray, List.map_cons, List.map_nil]); first | done | rfl | (simp only [List.length_drop, List.length_take]; rfl)) ?_; (with_reducible refine (qKA.calls a1_0 a1_1 a1_2 t616 t617 t618 _ A10.out).mono ?_); rintro e w39 ⟨rfl, hb⟩; refine ⟨_, rfl, ?_⟩; have n0_ := Aside0.mk (qK (g := gb607) (o := .cells #[.int .i64 a1_0, .int .i64 a1_1, .int .i64 a1_2] 24 (0, 0)) (by (with_reducible repeat (first | refine qC ?_ _ | refine qD ?_ | refine qB ?_ _)); refine qR ?_ NB607_615.out _; (with_reducible repeat (first | refine qC ?_ _ | refine qD ?_ | refine qB ?_ _)); refine qR ?_ NB607_615.out _; (with_reducible repeat (first | refine qC ?_ _ | refine qD ?_ | refine qB ?_ _)); refine qR ?_ NB607_615.out _; (with_reducible repeat (first | refine qC ?_ _ | refine qD ?_ | refine qB ?_ _)); exact BK607.out) hb); have n1_ := Aside0.mk (qK (g := gb615) (o := .cells #[.int .i64 t611, .int .i64 t612, .int .i64 t613] 27 (0, 0)) (by (with_reducible repeat (first | refine qC ?_ _ | refine qD ?_ | refine qB ?_ _)); refine qO (cs := #[.int .i64 t611, .int .i64 t612, .int .i64 0]) ?_ 2 _ rfl; (with_reducible repeat (first | refine qC ?_ _ | refine qD ?_ | refine qB ?_ _)); refine qO (cs := #[.int .i64 t611, .int .i64 0, .int .i64 0]) ?_ 1 _ rfl; (with_reducible repeat (first | refine qC ?_ _ | refine qD ?_ | refine qB ?_ _)); refine qO (cs := #[.int .i64 0, .int .i64 0, .int .i64 0]) ?_ 0 _ rfl; (with_reducible repeat (first | refine qC ?_ _ | refine qD ?_ | refine qB ?_ _)); exact BK615.out) hb); have n2_ := Aside0.mk (qL (by repeat (first | (with_reducible first | exact HB.out | apply qF | apply qA | apply qE | refine qG ?_ GE607.out | refine qG ?_ GE615.out) | exact HB.out)) hb); clear BK607; clear BK615; clear HB; have BK607 := n0_; have BK615 := n1_; have HB := n2_; clear n0_ n1_ n2_; (try clear hb); (try clear hb2); (try clear hk); (try clear hi)) | ((with_reducible refine qX (f := 36) rfl ?_); refine qo (some 30) rfl rfl Tryd.func36 (by kernel_rfl) rfl #[.string a0, .agg #[.int .i64 t616, .int .i64 t617, .int .i64 t618], .string a2] rfl (by (try simp only [List.map_toArray, List.map_cons, List.map_nil]); first | done | rfl | (simp only [List.length_drop, List.length_take]; rfl)) ?_; (with_reducible refine (qp.calls k a0 t616 t617 t618 a2 t619 t620 t621 t622 _ ?side1 A11.out).mono ?_); (case side1 => first | exact HLD.out | exact Laid.below HLD.out (by repeat (first | (with_reducible first | exact HB.out | apply qF | apply qA | apply qE) | exact HB.out))); rintro e w40 ⟨rfl, hb⟩; refine ⟨_, rfl, ?_⟩; have n0_ := Aside0.mk (qK (g := gb607) (o := .cells #[.int .i64 a1_0, .int .i64 a1_1, .int .i64 a1_2] 24 (0, 0)) (by (with_reducible repeat (first | refine qC ?_ _ | refine qD ?_ | refine qB ?_ _)); exact BK607.out) hb); have n1_ := Aside0.mk (qK (g := gb615) (o := .cells #[.int .i64 t611, .int .i64 t612, .int .i64 t613] 27 (0, 0)) (by (with_reducible repeat (first | refine qC ?_ _ | refine qD ?_ | refine qB ?_ _)); exact BK615.out) hb); have n2_ := Aside0.mk (qL (by repeat (first | (with_reducible first | exact HB.out | apply qF | apply qA | apply qE | refine qG ?_ GE607.out | refine qG ?_ GE615.out) | exact HB.out)) hb); clear BK607; clear BK615; clear HB; have BK607 := n0_; have BK615 := n1_; have HB := n2_; clear n0_ n1_ n2_; (try clear hb); (try clear hb2); (try clear hk); (try clear hi)) | ((with_reducible refine qc (N := 9) rfl ?_); refine qY ?hg (N := 9) ?hd (cs := #[.int .i64 0, .int .i64 0, .int .i64 0]) (t := 27) ?hr ?_; (case hd => rfl); (case hg => rfl); (case hr => first | (go_simp; done) | (go_simp; rfl)); intro gb623 hg w41 hbox hb; have n0_ := Aside0.mk (qK (g := gb607) (o := .cells #[.int .i64 a1_0, .int .i64 a1_1, .int .i64 a1_2] 24 (0, 0)) (by (with_reducible repeat (first | refine qC ?_ _ | refine qD ?_ | refine qB ?_ _)); exact BK607.out) hb); have n1_ := Aside0.mk (qK (g := gb615) (o := .cells #[.int .i64 t611, .int .i64 t612, .int .i64 t613] 27 (0, 0)) (by (with_reducible repeat (first | refine qC ?_ _ | refine qD ?_ | refine qB ?_ _)); exact BK615.out) hb); have n2_ := Aside0.mk (qL (by repeat (first | (with_reducible first | exact HB.out | apply qF | apply qA | apply qE | refine qG ?_ GE607.out | refine qG ?_ GE615.out) | exact HB.out)) hb); have n3_ := Aside0.mk (hbox); have n4_ := Aside0.mk ((by rw [hg]; exact (qJ (by repeat (first | (with_reducible first | exact HB.out | apply qF | apply qA | apply qE | refine qG ?_ GE607.out | refine qG ?_ GE615.out) | exact HB.out))) : w.heap.size ≤ gb623)); have n5_ := Aside0.mk ((by rw [hg]; exact (qJ (by repeat (first | (with_reducible first | exact HB.out | apply qF | apply qA | apply qE | refine qG ?_ GE607.out | refine qG ?_ GE615.out) | exact HB.out))) : w.heap.size ≤ gb623)); have n6_ := Aside0.mk ((by rw [hg]; exact Nat.ne_of_lt (qd (g := gb607) (o := .cells #[.int .i64 a1_0, .int .i64 a1_1, .int .i64 a1_2] 24 (0, 0)) (by (with_reducible repeat (first | refine qC ?_ _ | refine qD ?_ | refine qB ?_ _)); exact BK607.out)) : gb607 ≠ gb623)); have n7_ := Aside0.mk ((by rw [hg]; exact Nat.ne_of_gt (qd (g := gb607) (o := .cells #[.int .i64 a1_0, .int .i64 a1_1, .int .i64 a1_2] 24 (0, 0)) (by (with_reducible repeat (first | refine qC ?_ _ | refine qD ?_ | refine qB ?_ _)); exact BK607.out)) : gb623 ≠ gb607)); have n8_ := Aside0.mk ((by rw [hg]; exact Nat.ne_of_lt (qd (g := gb615) (o := .cells #[.int .i64 t611, .int .i64 t612, .int .i64 t613] 27 (0, 0)) (by (with_reducible repeat (first | refine qC ?_ _ | refine qD ?_ | refine qB ?_ _)); exact BK615.out)) : gb615 ≠ gb623)); have n9_ := Aside0.mk ((by rw [hg]; exact Nat.ne_of_gt (qd (g := gb615) (o := .cells #[.int .i64 t611, .int .i64 t612, .int .i64 t613] 27 (0, 0)) (by (with_reducible repeat (first | refine qC ?_ _ | refine qD ?_ | refine qB ?_ _)); exact BK615.out)) : gb623 ≠ gb615)); clear BK607; clear BK615; clear HB; have BK607 := n0_; have BK615 := n1_; have HB := n2_; have BK623 := n3_; have GW623 := n4_; have GE623 := n5_; have NB607_623 := n6_; have NB623_607 := n7_; have NB615_623 := n8_; have NB623_615 := n9_; clear n0_ n1_ n2_ n3_ n4_ n5_ n6_ n7_ n8_ n9_; clear hb hbox hg; have hnb42 := NB623_607.out; have hnc42 := NB607_623.out; have hnb43 := NB623_615.out; have hnc43 := NB615_623.out; have hcz44_0 : w41.cell? ⟨gb623, 0, none⟩ = some (.int .i64 0) := (qI BK623.out 0).trans rfl; have hcz44_1 : w41.cell? ⟨gb623, 1, none⟩ = some (.int .i64 0) := (qI BK623.out 1).trans rfl; have hcz44_2 : w41.cell? ⟨gb623, 2, none⟩ = some (.int .i64 0) := (qI BK623.out 2).trans rfl; have hfz44_0 := qH BK623.out 0; have hfz44_1 := qH BK623.out 1; have hfz44_2 := qH BK623.out 2; have hcz45_0 : w41.cell? ⟨gb615, 0, none⟩ = some (.int .i64 t611) := (qI BK615.out 0).trans rfl; have hcz45_1 : w41.cell? ⟨gb615, 1, none⟩ = some (.int .i64 t612) := (qI BK615.out 1).trans rfl; have hcz45_2 : w41.cell? ⟨gb615, 2, none⟩ = some (.int .i64 t613) := (qI BK615.out 2).trans rfl; have hfz45_0 := qH BK615.out 0; have hfz45_1 := qH BK615.out 1; have hfz45_2 := qH BK615.out 2) | ((with_reducible refine qX (f := 26) rfl ?_); refine qo (some 35) rfl rfl Tryd.func26 (by kernel_rfl) rfl #[.agg #[.int .i64 t619, .int .i64 t620, .int .i64 t621], .agg #[.int .i64 t611, .int .i64 t612, .int .i64 t613]] rfl (by (try simp only [List.map_toArray, List.map_cons, List.map_nil]); first | done | rfl | (simp only [List.length_drop, List.length_take]; rfl)) ?_; (with_reducible refine (qSA.calls t619 t620 t621 t611 t612 t613 true _ A12.out).mono ?_); rintro e w46 ⟨rfl, hb⟩; refine ⟨_, rfl, ?_⟩; have n0_ := Aside0.mk (qK (g := gb607) (o := .cells #[.int .i64 a1_0, .int .i64 a1_1, .int .i64 a1_2] 24 (0, 0)) (by (with_reducible repeat (first | refine qC ?_ _ | refine qD ?_ | refine qB ?_ _)); refine qR ?_ NB607_623.out _; (with_reducible repeat (first | refine qC ?_ _ | refine qD ?_ | refine qB ?_ _)); refine qR ?_ NB607_623.out _; (with_reducible repeat (first | refine qC ?_ _ | refine qD ?_ | refine qB ?_ _)); refine qR ?_ NB607_623.out _; (with_reducible repeat (first | refine qC ?_ _ | refine qD ?_ | refine qB ?_ _)); exact BK607.out) hb); have n1_ := Aside0.mk (qK (g := gb615) (o := .cells #[.int .i64 t611, .int .i64 t612, .int .i64 t613] 27 (0, 0)) (by (with_reducible repeat (first | refine qC ?_ _ | refine qD ?_ | refine qB ?_ _)); refine qR ?_ NB615_623.out _; (with_reducible repeat (first | refine qC ?_ _ | refine qD ?_ | refine qB ?_ _)); refine qR ?_ NB615_623.out _; (with_reducible repeat (first | refine qC ?_ _ | refine qD ?_ | refine qB ?_ _)); refine qR ?_ NB615_623.out _; (with_reducible repeat (first | refine qC ?_ _ | refine qD ?_ | refine qB ?_ _)); exact BK615.out) hb); have n2_ := Aside0.mk (qK (g := gb623) (o := .cells #[.int .i64 t619, .int .i64 t620, .int .i64 t621] 27 (0, 0)) (by (with_reducible repeat (first | refine qC ?_ _ | refine qD ?_ | refine qB ?_ _)); refine qO (cs := #[.int .i64 t619, .int .i64 t620, .int .i64 0]) ?_ 2 _ rfl; (with_reducible repeat (first | refine qC ?_ _ | refine qD ?_ | refine qB ?_ _)); refine qO (cs := #[.int .i64 t619, .int .i64 0, .int .i64 0]) ?_ 1 _ rfl; (with_reducible repeat (first | refine qC ?_ _ | refine qD ?_ | refine qB ?_ _)); refine qO (cs := #[.int .i64 0, .int .i64 0, .int .i64 0]) ?_ 0 _ rfl; (with_reducible repeat (first | refine qC ?_ _ | refine qD ?_ | refine qB ?_ _)); exact BK623.out) hb); have n3_ := Aside0.mk (qL (by repeat (first | (with_reducible first | exact HB.out | apply qF | apply qA | apply qE | refine qG ?_ GE607.out | refine qG ?_ GE615.out | refine qG ?_ GE623.out) | exact HB.out)) hb); clear BK607; clear BK615; clear BK623; clear HB; have BK607 := n0_; have BK615 := n1_; have BK623 := n2_; have HB := n3_; clear n0_ n1_ n2_ n3_; (try clear hb); (try clear hb2); (try clear hk); (try clear hi)))
     go_ret
     exact ⟨by first | rfl | (simp [qN, qM] <;> rfl) | (simp [*, qN, qM] <;> rfl), by repeat (first | (with_reducible first | exact HB.out | apply qF | apply qA | apply qE | refine qG ?_ GE607.out | refine qG ?_ GE615.out | refine qG ?_ GE623.out) | exact HB.out)⟩
   ·replace c13 := Bool.eq_false_iff.mpr c13
    subst c13
    have H1 : (some false) = some r := by rw [if_neg (show ¬ (false = true) by decide)] at H; exact H
    clear H
    have H := H1
    clear H1
    obtain rfl := Option.some.inj H
    go_enter Tryd.func11, Tryd.ntmps11
    go_wp2_with (first | ((with_reducible refine qc (N := 4) rfl ?_); refine qY ?hg (N := 4) ?hd (cs := #[.int .i64 a1_0, .int .i64 a1_1, .int .i64 a1_2]) (t := 24) ?hr ?_; (case hd => rfl); (case hg => rfl); (case hr => first | (go_simp; done) | (go_simp; rfl)); intro gb607 hg w47 hbox hb; have n0_ := Aside0.mk (qL (by repeat (first | (with_reducible first | exact HB.out | apply qF | apply qA | apply qE) | exact HB.out)) hb); have n1_ := Aside0.mk (hbox); have n2_ := Aside0.mk ((by rw [hg]; exact (qJ (by repeat (first | (with_reducible first | exact HB.out | apply qF | apply qA | apply qE) | exact HB.out))) : w.heap.size ≤ gb607)); have n3_ := Aside0.mk ((by rw [hg]; exact (qJ (by repeat (first | (with_reducible first | exact HB.out | apply qF | apply qA | apply qE) | exact HB.out))) : w.heap.size ≤ gb607)); clear HB; have HB := n0_; have BK607 := n1_; have GW607 := n2_; have GE607 := n3_; clear n0_ n1_ n2_ n3_; clear hb hbox hg; have hcz48_0 : w47.cell? ⟨gb607, 0, none⟩ = some (.int .i64 a1_0) := (qI BK607.out 0).trans rfl; have hcz48_1 : w47.cell? ⟨gb607, 1, none⟩ = some (.int .i64 a1_1) := (qI BK607.out 1).trans rfl; have hcz48_2 : w47.cell? ⟨gb607, 2, none⟩ = some (.int .i64 a1_2) := (qI BK607.out 2).trans rfl; have hfz48_0 := qH BK607.out 0; have hfz48_1 := qH BK607.out 1; have hfz48_2 := qH BK607.out 2) | ((with_reducible refine qX (f := 20) rfl ?_); refine qo (some 20) rfl rfl Tryd.func20 (by kernel_rfl) rfl #[.agg #[.int .i64 a1_0, .int .i64 a1_1, .int .i64 a1_2]] rfl (by (try simp only [List.map_toArray, List.map_cons, List.map_nil]); first | done | rfl | (simp only [List.length_drop, List.length_take]; rfl)) ?_; (with_reducible refine (qKA.calls a1_0 a1_1 a1_2 t608 t609 t610 _ A8.out).mono ?_); rintro e w49 ⟨rfl, hb⟩; refine ⟨_, rfl, ?_⟩; have n0_ := Aside0.mk (qK (g := gb607) (o := .cells #[.int .i64 a1_0, .int .i64 a1_1, .int .i64 a1_2] 24 (0, 0)) (by (with_reducible repeat (first | refine qC ?_ _ | refine qD ?_ | refine qB ?_ _)); exact BK607.out) hb); have n1_ := Aside0.mk (qL (by repeat (first | (with_reducible first | exact HB.out | apply qF | apply qA | apply qE | refine qG ?_ GE607.out) | exact HB.out)) hb); clear BK607; clear HB; have BK607 := n0_; have HB := n1_; clear n0_ n1_; (try clear hb); (try clear hb2); (try clear hk); (try clear hi)) | ((with_reducible refine qX (f := 35) rfl ?_); refine qo (some 22) rfl rfl Tryd.func35 (by kernel_rfl) rfl #[.string a0, .agg #[.int .i64 t608, .int .i64 t609, .int .i64 t610], .string a2] rfl (by (try simp only [List.map_toArray, List.map_cons, List.map_nil]); first | done | rfl | (simp only [List.length_drop, List.length_take]; rfl)) ?_; (with_reducible refine (qCA.calls k a0 t608 t609 t610 a2 t611 t612 t613 t614 _ A9.out).mono ?_); rintro e w50 ⟨rfl, hb⟩; refine ⟨_, rfl, ?_⟩; have n0_ := Aside0.mk (qK (g := gb607) (o := .cells #[.int .i64 a1_0, .int .i64 a1_1, .int .i64 a1_2] 24 (0, 0)) (by (with_reducible repeat (first | refine qC ?_ _ | refine qD ?_ | refine qB ?_ _)); exact BK607.out) hb); have n1_ := Aside0.mk (qL (by repeat (first | (with_reducible first | exact HB.out | apply qF | apply qA | apply qE | refine qG ?_ GE607.out) | exact HB.out)) hb); clear BK607; clear HB; have BK607 := n0_; have HB := n1_; clear n0_ n1_; (try clear hb); (try clear hb2); (try clear hk); (try clear hi)) | ((with_reducible refine qc (N := 7) rfl ?_); refine qY ?hg (N := 7) ?hd (cs := #[.int .i64 0, .int .i64 0, .int .i64 0]) (t := 27) ?hr ?_; (case hd => rfl); (case hg => rfl); (case hr => first | (go_simp; done) | (go_simp; rfl)); intro gb615 hg w51 hbox hb; have n0_ := Aside0.mk (qK (g := gb607) (o := .cells #[.int .i64 a1_0, .int .i64 a1_1, .int .i64 a1_2] 24 (0, 0)) (by (with_reducible repeat (first | refine qC ?_ _ | refine qD ?_ | refine qB ?_ _)); exact BK607.out) hb); have n1_ := Aside0.mk (qL (by repeat (first | (with_reducible first | exact HB.out | apply qF | apply qA | apply qE | refine qG ?_ GE607.out) | exact HB.out)) hb); have n2_ := Aside0.mk (hbox); have n3_ := Aside0.mk ((by rw [hg]; exact (qJ (by repeat (first | (with_reducible first | exact HB.out | apply qF | apply qA | apply qE | refine qG ?_ GE607.out) | exact HB.out))) : w.heap.size ≤ gb615)); have n4_ := Aside0.mk ((by rw [hg]; exact (qJ (by repeat (first | (with_reducible first | exact HB.out | apply qF | apply qA | apply qE | refine qG ?_ GE607.out) | exact HB.out))) : w.heap.size ≤ gb615)); have n5_ := Aside0.mk ((by rw [hg]; exact Nat.ne_of_lt (qd (g := gb607) (o := .cells #[.int .i64 a1_0, .int .i64 a1_1, .int .i64 a1_2] 24 (0, 0)) (by (with_reducible repeat (first | refine qC ?_ _ | refine qD ?_ | refine qB ?_ _)); exact BK607.out)) : gb607 ≠ gb615)); have n6_ := Aside0.mk ((by rw [hg]; exact Nat.ne_of_gt (qd (g := gb607) (o := .cells #[.int .i64 a1_0, .int .i64 a1_1, .int .i64 a1_2] 24 (0, 0)) (by (with_reducible repeat (first | refine qC ?_ _ | refine qD ?_ | refine qB ?_ _)); exact BK607.out)) : gb615 ≠ gb607)); clear BK607; clear HB; have BK607 := n0_; have HB := n1_; have BK615 := n2_; have GW615 := n3_; have GE615 := n4_; have NB607_615 := n5_; have NB615_607 := n6_; clear n0_ n1_ n2_ n3_ n4_ n5_ n6_; clear hb hbox hg; have hnb52 := NB615_607.out; have hnc52 := NB607_615.out; have hcz53_0 : w51.cell? ⟨gb615, 0, none⟩ = some (.int .i64 0) := (qI BK615.out 0).trans rfl; have hcz53_1 : w51.cell? ⟨gb615, 1, none⟩ = some (.int .i64 0) := (qI BK615.out 1).trans rfl; have hcz53_2 : w51.cell? ⟨gb615, 2, none⟩ = some (.int .i64 0) := (qI BK615.out 2).trans rfl; have hfz53_0 := qH BK615.out 0; have hfz53_1 := qH BK615.out 1; have hfz53_2 := qH BK615.out 2; have hcz54_0 : w51.cell? ⟨gb607, 0, none⟩ = some (.int .i64 a1_0) := (qI BK607.out 0).trans rfl; have hcz54_1 : w51.cell? ⟨gb607, 1, none⟩ = some (.int .i64 a1_1) := (qI BK607.out 1).trans rfl; have hcz54_2 : w51.cell? ⟨gb607, 2, none⟩ = some (.int .i64 a1_2) := (qI BK607.out 2).trans rfl; have hfz54_0 := qH BK607.out 0; have hfz54_1 := qH BK607.out 1; have hfz54_2 := qH BK607.out 2) | ((with_reducible refine qX (f := 20) rfl ?_); refine qo (some 28) rfl rfl Tryd.func20 (by kernel_rfl) rfl #[.agg #[.int .i64 a1_0, .int .i64 a1_1, .int .i64 a1_2]] rfl (by (try simp only [List.map_toArray, List.map_cons, List.map_nil]); first | done | rfl | (simp only [List.length_drop, List.length_take]; rfl)) ?_; (with_reducible refine (qKA.calls a1_0 a1_1 a1_2 t616 t617 t618 _ A10.out).mono ?_); rintro e w55 ⟨rfl, hb⟩; refine ⟨_, rfl, ?_⟩; have n0_ := Aside0.mk (qK (g := gb607) (o := .cells #[.int .i64 a1_0, .int .i64 a1_1, .int .i64 a1_2] 24 (0, 0)) (by (with_reducible repeat (first | refine qC ?_ _ | refine qD ?_ | refine qB ?_ _)); refine qR ?_ NB607_615.out _; (with_reducible repeat (first | refine qC ?_ _ | refine qD ?_ | refine qB ?_ _)); refine qR ?_ NB607_615.out _; (with_reducible repeat (first | refine qC ?_ _ | refine qD ?_ | refine qB ?_ _)); refine qR ?_ NB607_615.out _; (with_reducible repeat (first | refine qC ?_ _ | refine qD ?_ | refine qB ?_ _)); exact BK607.out) hb); have n1_ := Aside0.mk (qK (g := gb615) (o := .cells #[.int .i64 t611, .int .i64 t612, .int .i64 t613] 27 (0, 0)) (by (with_reducible repeat (first | refine qC ?_ _ | refine qD ?_ | refine qB ?_ _)); refine qO (cs := #[.int .i64 t611, .int .i64 t612, .int .i64 0]) ?_ 2 _ rfl; (with_reducible repeat (first | refine qC ?_ _ | refine qD ?_ | refine qB ?_ _)); refine qO (cs := #[.int .i64 t611, .int .i64 0, .int .i64 0]) ?_ 1 _ rfl; (with_reducible repeat (first | refine qC ?_ _ | refine qD ?_ | refine qB ?_ _)); refine qO (cs := #[.int .i64 0, .int .i64 0, .int .i64 0]) ?_ 0 _ rfl; (with_reducible repeat (first | refine qC ?_ _ | refine qD ?_ | refine qB ?_ _)); exact BK615.out) hb); have n2_ := Aside0.mk (qL (by repeat (first | (with_reducible first | exact HB.out | apply qF | apply qA | apply qE | refine qG ?_ GE607.out | refine qG ?_ GE615.out) | exact HB.out)) hb); clear BK607; clear BK615; clear HB; have BK607 := n0_; have BK615 := n1_; have HB := n2_; clear n0_ n1_ n2_; (try clear hb); (try clear hb2); (try clear hk); (try clear hi)) | ((with_reducible refine qX (f := 36) rfl ?_); refine qo (some 30) rfl rfl Tryd.func36 (by kernel_rfl) rfl #[.string a0, .agg #[.int .i64 t616, .int .i64 t617, .int .i64 t618], .string a2] rfl (by (try simp only [List.map_toArray, List.map_cons, List.map_nil]); first | done | rfl | (simp only [List.length_drop, List.length_take]; rfl)) ?_; (with_reducible refine (qp.calls k a0 t616 t617 t618 a2 t619 t620 t621 t622 _ ?side1 A11.out).mono ?_); (case side1 => first | exact HLD.out | exact Laid.below HLD.out (by repeat (first | (with_reducible first | exact HB.out | apply qF | apply qA | apply qE) | exact HB.out))); rintro e w56 ⟨rfl, hb⟩; refine ⟨_, rfl, ?_⟩; have n0_ := Aside0.mk (qK (g := gb607) (o := .cells #[.int .i64 a1_0, .int .i64 a1_1, .int .i64 a1_2] 24 (0, 0)) (by (with_reducible repeat (first | refine qC ?_ _ | refine qD ?_ | refine qB ?_ _)); exact BK607.out) hb); have n1_ := Aside0.mk (qK (g := gb615) (o := .cells #[.int .i64 t611, .int .i64 t612, .int .i64 t613] 27 (0, 0)) (by (with_reducible repeat (first | refine qC ?_ _ | refine qD ?_ | refine qB ?_ _)); exact BK615.out) hb); have n2_ := Aside0.mk (qL (by repeat (first | (with_reducible first | exact HB.out | apply qF | apply qA | apply qE | refine qG ?_ GE607.out | refine qG ?_ GE615.out) | exact HB.out)) hb); clear BK607; clear BK615; clear HB; have BK607 := n0_; have BK615 := n1_; have HB := n2_; clear n0_ n1_ n2_; (try clear hb); (try clear hb2); (try clear hk); (try clear hi)) | ((with_reducible refine qc (N := 9) rfl ?_); refine qY ?hg (N := 9) ?hd (cs := #[.int .i64 0, .int .i64 0, .int .i64 0]) (t := 27) ?hr ?_; (case hd => rfl); (case hg => rfl); (case hr => first | (go_simp; done) | (go_simp; rfl)); intro gb623 hg w57 hbox hb; have n0_ := Aside0.mk (qK (g := gb607) (o := .cells #[.int .i64 a1_0, .int .i64 a1_1, .int .i64 a1_2] 24 (0, 0)) (by (with_reducible repeat (first | refine qC ?_ _ | refine qD ?_ | refine qB ?_ _)); exact BK607.out) hb); have n1_ := Aside0.mk (qK (g := gb615) (o := .cells #[.int .i64 t611, .int .i64 t612, .int .i64 t613] 27 (0, 0)) (by (with_reducible repeat (first | refine qC ?_ _ | refine qD ?_ | refine qB ?_ _)); exact BK615.out) hb); have n2_ := Aside0.mk (qL (by repeat (first | (with_reducible first | exact HB.out | apply qF | apply qA | apply qE | refine qG ?_ GE607.out | refine qG ?_ GE615.out) | exact HB.out)) hb); have n3_ := Aside0.mk (hbox); have n4_ := Aside0.mk ((by rw [hg]; exact (qJ (by repeat (first | (with_reducible first | exact HB.out | apply qF | apply qA | apply qE | refine qG ?_ GE607.out | refine qG ?_ GE615.out) | exact HB.out))) : w.heap.size ≤ gb623)); have n5_ := Aside0.mk ((by rw [hg]; exact (qJ (by repeat (first | (with_reducible first | exact HB.out | apply qF | apply qA | apply qE | refine qG ?_ GE607.out | refine qG ?_ GE615.out) | exact HB.out))) : w.heap.size ≤ gb623)); have n6_ := Aside0.mk ((by rw [hg]; exact Nat.ne_of_lt (qd (g := gb607) (o := .cells #[.int .i64 a1_0, .int .i64 a1_1, .int .i64 a1_2] 24 (0, 0)) (by (with_reducible repeat (first | refine qC ?_ _ | refine qD ?_ | refine qB ?_ _)); exact BK607.out)) : gb607 ≠ gb623)); have n7_ := Aside0.mk ((by rw [hg]; exact Nat.ne_of_gt (qd (g := gb607) (o := .cells #[.int .i64 a1_0, .int .i64 a1_1, .int .i64 a1_2] 24 (0, 0)) (by (with_reducible repeat (first | refine qC ?_ _ | refine qD ?_ | refine qB ?_ _)); exact BK607.out)) : gb623 ≠ gb607)); have n8_ := Aside0.mk ((by rw [hg]; exact Nat.ne_of_lt (qd (g := gb615) (o := .cells #[.int .i64 t611, .int .i64 t612, .int .i64 t613] 27 (0, 0)) (by (with_reducible repeat (first | refine qC ?_ _ | refine qD ?_ | refine qB ?_ _)); exact BK615.out)) : gb615 ≠ gb623)); have n9_ := Aside0.mk ((by rw [hg]; exact Nat.ne_of_gt (qd (g := gb615) (o := .cells #[.int .i64 t611, .int .i64 t612, .int .i64 t613] 27 (0, 0)) (by (with_reducible repeat (first | refine qC ?_ _ | refine qD ?_ | refine qB ?_ _)); exact BK615.out)) : gb623 ≠ gb615)); clear BK607; clear BK615; clear HB; have BK607 := n0_; have BK615 := n1_; have HB := n2_; have BK623 := n3_; have GW623 := n4_; have GE623 := n5_; have NB607_623 := n6_; have NB623_607 := n7_; have NB615_623 := n8_; have NB623_615 := n9_; clear n0_ n1_ n2_ n3_ n4_ n5_ n6_ n7_ n8_ n9_; clear hb hbox hg; have hnb58 := NB623_607.out; have hnc58 := NB607_623.out; have hnb59 := NB623_615.out; have hnc59 := NB615_623.out; have hcz60_0 : w57.cell? ⟨gb623, 0, none⟩ = some (.int .i64 0) := (qI BK623.out 0).trans rfl; have hcz60_1 : w57.cell? ⟨gb623, 1, none⟩ = some (.int .i64 0) := (qI BK623.out 1).trans rfl; have hcz60_2 : w57.cell? ⟨gb623, 2, none⟩ = some (.int .i64 0) := (qI BK623.out 2).trans rfl; have hfz60_0 := qH BK623.out 0; have hfz60_1 := qH BK623.out 1; have hfz60_2 := qH BK623.out 2; have hcz61_0 : w57.cell? ⟨gb615, 0, none⟩ = some (.int .i64 t611) := (qI BK615.out 0).trans rfl; have hcz61_1 : w57.cell? ⟨gb615, 1, none⟩ = some (.int .i64 t612) := (qI BK615.out 1).trans rfl; have hcz61_2 : w57.cell? ⟨gb615, 2, none⟩ = some (.int .i64 t613) := (qI BK615.out 2).trans rfl; have hfz61_0 := qH BK615.out 0; have hfz61_1 := qH BK615.out 1; have hfz61_2 := qH BK615.out 2) | ((with_reducible refine qX (f := 26) rfl ?_); refine qo (some 35) rfl rfl Tryd.func26 (by kernel_rfl) rfl #[.agg #[.int .i64 t619, .int .i64 t620, .int .i64 t621], .agg #[.int .i64 t611, .int .i64 t612, .int .i64 t613]] rfl (by (try simp only [List.map_toArray, List.map_cons, List.map_nil]); first | done | rfl | (simp only [List.length_drop, List.length_take]; rfl)) ?_; (with_reducible refine (qSA.calls t619 t620 t621 t611 t612 t613 false _ A12.out).mono ?_); rintro e w62 ⟨rfl, hb⟩; refine ⟨_, rfl, ?_⟩; have n0_ := Aside0.mk (qK (g := gb607) (o := .cells #[.int .i64 a1_0, .int .i64 a1_1, .int .i64 a1_2] 24 (0, 0)) (by (with_reducible repeat (first | refine qC ?_ _ | refine qD ?_ | refine qB ?_ _)); refine qR ?_ NB607_623.out _; (with_reducible repeat (first | refine qC ?_ _ | refine qD ?_ | refine qB ?_ _)); refine qR ?_ NB607_623.out _; (with_reducible repeat (first | refine qC ?_ _ | refine qD ?_ | refine qB ?_ _)); refine qR ?_ NB607_623.out _; (with_reducible repeat (first | refine qC ?_ _ | refine qD ?_ | refine qB ?_ _)); exact BK607.out) hb); have n1_ := Aside0.mk (qK (g := gb615) (o := .cells #[.int .i64 t611, .int .i64 t612, .int .i64 t613] 27 (0, 0)) (by (with_reducible repeat (first | refine qC ?_ _ | refine qD ?_ | refine qB ?_ _)); refine qR ?_ NB615_623.out _; (with_reducible repeat (first | refine qC ?_ _ | refine qD ?_ | refine qB ?_ _)); refine qR ?_ NB615_623.out _; (with_reducible repeat (first | refine qC ?_ _ | refine qD ?_ | refine qB ?_ _)); refine qR ?_ NB615_623.out _; (with_reducible repeat (first | refine qC ?_ _ | refine qD ?_ | refine qB ?_ _)); exact BK615.out) hb); have n2_ := Aside0.mk (qK (g := gb623) (o := .cells #[.int .i64 t619, .int .i64 t620, .int .i64 t621] 27 (0, 0)) (by (with_reducible repeat (first | refine qC ?_ _ | refine qD ?_ | refine qB ?_ _)); refine qO (cs := #[.int .i64 t619, .int .i64 t620, .int .i64 0]) ?_ 2 _ rfl; (with_reducible repeat (first | refine qC ?_ _ | refine qD ?_ | refine qB ?_ _)); refine qO (cs := #[.int .i64 t619, .int .i64 0, .int .i64 0]) ?_ 1 _ rfl; (with_reducible repeat (first | refine qC ?_ _ | refine qD ?_ | refine qB ?_ _)); refine qO (cs := #[.int .i64 0, .int .i64 0, .int .i64 0]) ?_ 0 _ rfl; (with_reducible repeat (first | refine qC ?_ _ | refine qD ?_ | refine qB ?_ _)); exact BK623.out) hb); have n3_ := Aside0.mk (qL (by repeat (first | (with_reducible first | exact HB.out | apply qF | apply qA | apply qE | refine qG ?_ GE607.out | refine qG ?_ GE615.out | refine qG ?_ GE623.out) | exact HB.out)) hb); clear BK607; clear BK615; clear BK623; clear HB; have BK607 := n0_; have BK615 := n1_; have BK623 := n2_; have HB := n3_; clear n0_ n1_ n2_ n3_; (try clear hb); (try clear hb2); (try clear hk); (try clear hi)))
    go_ret
    exact ⟨by first | rfl | (simp [qN, qM] <;> rfl) | (simp [*, qN, qM] <;> rfl), by repeat (first | (with_reducible first | exact HB.out | apply qF | apply qA | apply qE | refine qG ?_ GE607.out | refine qG ?_ GE615.out | refine qG ?_ GE623.out) | exact HB.out)⟩
def qAA.Pure : Prop := ∀ (a0 : ByteArray) (a1_0 : Int) (a1_1 : Int) (a1_2 : Int) (a2 : ByteArray), a0.size ≤ 140737488351232 → (Lit.int .i64 a1_0).wf = true → (Lit.int .i64 a1_1).wf = true → (Lit.int .i64 a1_2).wf = true → a2.size ≤ 140737488351232 → ∃ k, qAA.f k a0 a1_0 a1_1 a1_2 a2 = some true
end Go.Proofs.YtbpfhpjbeomfcaaDoor.P
namespace Go.Proofs.YtbpfhpjbeomfcaaDoor
open Go.ChangeShapes Go.WideShapes Go.Deep Go.RowKit Go.Proofs.YtbpfhpjbeomfcaaDoorW.PrintWords
set_option linter.unusedVariables false
set_option linter.unusedSimpArgs false
theorem list_of_3 : ∀ zs : List Int, zs.length = 3 → ∃ x0 x1 x2 : Int, zs = [x0, x1, x2]
 | [x0, x1, x2], _ => ⟨x0, x1, x2, rfl⟩
def laidB (P : Program) : List Field → Nat → Nat → Bool
 | [], o, n => decide (o = n)
 | f :: fs, o, n => decide (f.offset = o) && laidB P fs (o + P.cellsOf f.type) n
def flatB (P : Program) : Nat → TypeId → Bool
 | 0, _ => false
 | m + 1, t => match P.underlying t with
  | some (.int .i64) => decide (P.cellsOf t = 1)
  | some (.struct fs) => laidB P fs.toList 0 (P.cellsOf t) && fs.toList.all fun f => flatB P m f.type
  | _ => false
section
variable {H : Type} {enc : TypeId × Value → H} {P : Program} {w : World} {base : Nat} {spare : Nat → Bool} {held : Bool}
theorem fields_flat {n : Nat} (cs : List Value) (rd : TypeId → List Value → Option (DataW H × List MemPlace)) :
  ∀ (fs : List Field) (o : Nat) (xs : List (DataW H × List MemPlace)), laidB P fs o n = true → xs.length = fs.length →
   (∀ (i : Nat) (f : Field), fs[i]? = some f → rd f.type ((cs.drop f.offset).take (P.cellsOf f.type)) = xs[i]?) →
   (∀ f ∈ fs, ∀ cs' x, rd f.type cs' = some x → cs'.length = P.cellsOf f.type ∧ ∃ zs : List Int, cs' = zs.map (Value.int .i64) ∧ ∀ z ∈ zs, (Lit.int .i64 z).wf = true) →
   o ≤ n ∧ ∃ zs : List Int, (cs.drop o).take (n - o) = zs.map (Value.int .i64) ∧ ∀ z ∈ zs, (Lit.int .i64 z).wf = true
 | [], o, xs, hl, hx, hr, hi => by
  have : o = n := by simpa [laidB] using hl
  subst this
  exact ⟨Nat.le_refl _, [], by simp, by simp⟩
 | f :: fs, o, xs, hl, hx, hr, hi => by
  simp only [laidB, Bool.and_eq_true, decide_eq_true_eq] at hl
  obtain ⟨ho, hl⟩ := hl
  match xs, hx with
  | x :: xs, hx =>
   have h0 := hr 0 f rfl
   rw [ho] at h0
   obtain ⟨hlen, zs, hz, hw⟩ := hi f (by simp) _ x h0
   obtain ⟨hle, ws, hw2, hw3⟩ := fields_flat cs rd fs (o + P.cellsOf f.type) xs hl (by simpa using hx) (fun i g hg => by have := hr (i + 1) g (by simpa using hg); simpa using this) (fun g hg => hi g (by simp [hg]))
   refine ⟨by omega, zs ++ ws, ?_, fun z hz' => ?_⟩
   ·rw [List.map_append, ← hz, ← hw2, ← List.drop_drop, show n - o = P.cellsOf f.type + (n - (o + P.cellsOf f.type)) by omega, List.take_add]
   ·rcases List.mem_append.1 hz' with h | h
    ·exact hw z h
    ·exact hw3 z h
theorem trod_flat (m : Nat) : ∀ {t : TypeId} {fuel : Nat} {cs : List Value} {x : DataW H × List MemPlace}, flatB P m t = true → DataW.trod enc P w base spare held fuel t cs = some x → (∃ k, P.underlying t = some (.int k)) → cs.length = 1 ∧ ∃ zs : List Int, cs = zs.map (Value.int .i64) ∧ ∀ z ∈ zs, (Lit.int .i64 z).wf = true := by
 intro t fuel cs x hf h ⟨k, hk⟩
 cases m with
 | zero => simp [flatB] at hf
 | succ m =>
  unfold flatB at hf
  rw [hk] at hf
  have : k = .i64 := by
   cases k <;> first | rfl | (simp at hf)
  subst this
  obtain ⟨n, rfl, _, hw⟩ := DataW.trod_int hk h
  exact ⟨rfl, [n], rfl, by simpa using hw⟩
theorem trod_flat_all (m : Nat) : ∀ {t : TypeId} {fuel : Nat} {cs : List Value} {x : DataW H × List MemPlace}, flatB P m t = true → DataW.trod enc P w base spare held fuel t cs = some x →
  cs.length = P.cellsOf t ∧ ∃ zs : List Int, cs = zs.map (Value.int .i64) ∧ ∀ z ∈ zs, (Lit.int .i64 z).wf = true := by
 induction m with
 | zero => intro t fuel cs x hf h; simp [flatB] at hf
 | succ m ih =>
  intro t fuel cs x hf h
  have hf0 := hf
  unfold flatB at hf
  split at hf
  ·rename_i hu
   obtain ⟨hl, hz⟩ := trod_flat (m + 1) hf0 h ⟨_, hu⟩
   exact ⟨by rw [hl, of_decide_eq_true hf], hz⟩
  ·rename_i fs hu
   rw [Bool.and_eq_true, List.all_eq_true] at hf
   obtain ⟨hl, ha⟩ := hf
   obtain ⟨xs, n, _, _, hlen, hxl, hg⟩ := DataW.trod_struct hu h
   obtain ⟨_, zs, hz, hw⟩ := fields_flat (n := P.cellsOf t) cs (fun t cs => DataW.trod enc P w base spare held n t cs) fs.toList 0 xs hl (by simpa using hxl)
    (fun i f hf => hg i f (by simpa using hf)) (fun f hf cs' x hx => ih (ha f hf) hx)
   refine ⟨hlen, zs, ?_, hw⟩
   rw [← hz, List.drop_zero, Nat.sub_zero, ← hlen, List.take_length]
  ·cases hf
theorem open_flat {r : Reach} {b0 m : Nat} {t : TypeId} {fs : Array Field} {v : Value} {d : DataW H} {p : List MemPlace} (hu : P.underlying t = some (.struct fs)) (hf : flatB P m t = true)
  (hv : Value.okWide P w r b0 t v) (h : DataW.Trod enc P w base spare held t v d p) : ∃ zs : List Int, v = .agg (zs.map (Value.int .i64)).toArray ∧ zs.length = P.cellsOf t ∧ ∀ z ∈ zs, (Lit.int .i64 z).wf = true := by
 obtain ⟨cs, rfl, hsz⟩ := okWide_struct hu hv
 obtain ⟨fuel, hf'⟩ := h
 obtain ⟨hl, zs, hz, hw⟩ := trod_flat_all m hf hf'
 simp only [Value.cells] at hz hl
 refine ⟨zs, ?_, by rw [← hl, hz, List.length_map], hw⟩
 rw [← hz]
end
end Go.Proofs.YtbpfhpjbeomfcaaDoor
namespace Go.Proofs.YtbpfhpjbeomfcaaDoor
open Go.RowKit Go.Proofs.YtbpfhpjbeomfcaaDoorW.PrintWords Go.Proofs.YtbpfhpjbeomfcaaDoorW.PrintLast
set_option linter.unusedVariables false
set_option linter.unusedSimpArgs false
theorem Ev.at_ {α : Type} {g : Nat → Option α} {r : α} (n : Nat) (h : ∀ k, g (k + n) = some r) : Ev g r := ⟨n, fun k hk => by
 obtain ⟨m, rfl⟩ : ∃ m, k = m + n := ⟨k - n, by omega⟩
 exact h m⟩
theorem Ev.pos {α : Type} {c : Prop} [Decidable c] {g f : Nat → Option α} {r : α} (hc : c) (h : Ev g r) : Ev (fun k => if c then g k else f k) r := h.congr fun k => if_pos hc
theorem Ev.neg {α : Type} {c : Prop} [Decidable c] {g f : Nat → Option α} {r : α} (hc : ¬ c) (h : Ev f r) : Ev (fun k => if c then g k else f k) r := h.congr fun k => if_neg hc
theorem Ev.some_ {α : Type} {a r : α} (h : a = r) : Ev (fun _ => some a) r := ⟨0, fun _ _ => by rw [h]⟩
theorem Ev.bindc {α β : Type} {o : Option α} {f : Nat → α → Option β} {a : α} {r : β} (h : o = some a) (k : Ev (fun n => f n a) r) : Ev (fun n => o.bind (f n)) r := k.congr fun n => by rw [h]; rfl
end Go.Proofs.YtbpfhpjbeomfcaaDoor
namespace Go.Proofs.YtbpfhpjbeomfcaaDoor
open Go.RowKit Go.Proofs.YtbpfhpjbeomfcaaDoorW.PrintWords Go.Proofs.YtbpfhpjbeomfcaaDoorW.PrintLast
set_option linter.unusedVariables false
set_option linter.unusedSimpArgs false
def sp (c : UInt8) : List UInt8 → List UInt8 × List (List UInt8)
 | [] => ([], [])
 | b :: r => if b = c then ([], (sp c r).1 :: (sp c r).2) else (b :: (sp c r).1, (sp c r).2)
theorem splitK_sp (c : UInt8) (l : List UInt8) : Lib.splitK [c] 0 (Lib.count l [c]) l = (sp c l).1 :: (sp c l).2 := by
 induction l with
 | nil =>
  have : Lib.count [] [c] = 0 := by rw [Lib.count_one]; rfl
  rw [this]; rfl
 | cons b l ih =>
  by_cases h : b = c
  ·subst h
   have hix : Lib.index (b :: l) [b] = 0 := by rw [Lib.index]; simp [List.isPrefixOf]
   rw [Lib.count_cons_eq, show 1 + Lib.count l [b] = Lib.count l [b] + 1 by omega, Lib.splitK, hix]
   simp only [sp, if_true]
   rw [if_neg (by decide), ← ih]
   rfl
  ·have hp : ([c] : List UInt8).isPrefixOf (b :: l) = false := by simp [List.isPrefixOf, Ne.symm h]
   have hix : Lib.index (b :: l) [c] = if Lib.index l [c] == -1 then -1 else Lib.index l [c] + 1 := by rw [Lib.index, hp]; simp
   rw [Lib.count_cons_ne b c l h]
   simp only [sp, if_neg h]
   by_cases hm : Lib.index l [c] = -1
   ·have h0 : Lib.count l [c] = 0 := Lib.count_miss hm
    rw [h0] at ih ⊢
    simp only [Lib.splitK] at ih ⊢
    injection ih with e1 e2
    rw [← e1, ← e2]
   ·have hge := Lib.index_ge l [c]
    obtain ⟨j, hj⟩ : ∃ j : Nat, Lib.index l [c] = j := ⟨(Lib.index l [c]).toNat, by omega⟩
    have hc := Lib.count_hit (sub := [c]) (by simp) hj
    obtain ⟨k, hk⟩ : ∃ k, Lib.count l [c] = k + 1 := ⟨Lib.count l [c] - 1, by omega⟩
    rw [hk] at ih ⊢
    have hne : ¬ ((j : Int) == -1) = true := by intro e; have := beq_iff_eq.1 e; omega
    have hne' : ¬ ((j : Int) + 1 == -1) = true := by intro e; have := beq_iff_eq.1 e; omega
    rw [Lib.splitK, hj, if_neg hne] at ih
    rw [Lib.splitK, hix, hj, if_neg hne, if_neg hne']
    have e1 : ((j : Int) + 1).toNat = j + 1 := by omega
    rw [e1]
    simp only [Int.toNat_natCast, Nat.add_zero, List.length_singleton] at ih ⊢
    injection ih with i1 i2
    rw [← i1, ← i2]
    rfl
theorem split_sp (a : ByteArray) (c : UInt8) : (Lib.splitB ⟨#[c]⟩ 0 (Lib.countB a ⟨#[c]⟩) a).map (·.data.toList) = (sp c a.data.toList).1 :: (sp c a.data.toList).2 := by
 rw [Lib.splitB_data]
 exact splitK_sp c a.data.toList
theorem qSB (c : UInt8) (l : List UInt8) : l.length = (sp c l).1.length + ((sp c l).2.map List.length).sum + (sp c l).2.length := by
 induction l with
 | nil => rfl
 | cons b l ih =>
  by_cases h : b = c
  ·simp only [sp, if_pos h, List.length_cons, List.length_nil, List.map_cons, List.sum_cons]; omega
  ·simp only [sp, if_neg h, List.length_cons]; omega
theorem sp_all (c : UInt8) (p : UInt8 → Bool) (l : List UInt8) (hp : p c = false) : ((sp c l).1.all p && (sp c l).2.all (·.all p)) = l.all fun b => b == c || p b := by
 induction l with
 | nil => rfl
 | cons b l ih =>
  by_cases h : b = c
  ·subst h
   simp only [sp, if_true, List.all_nil, Bool.true_and, List.all_cons, ih, beq_self_eq_true, Bool.true_or]
  ·have : (b == c) = false := by simpa using h
   simp only [sp, if_neg h, List.all_cons, Bool.and_assoc, ih, this, Bool.false_or]
theorem qlA {p : UInt8 → Bool} {e : UInt8} (he : p e = false) : ∀ l : List UInt8, e ∈ l → e ∈ l.dropWhile p
 | [], h => h
 | b :: l, h => by
  rw [List.dropWhile_cons]
  split
  ·rename_i hb
   rcases List.mem_cons.1 h with rfl | h
   ·rw [he] at hb; cases hb
   ·exact qlA he l h
  ·exact h
theorem dropWhile_all {p : UInt8 → Bool} : ∀ l : List UInt8, l.all p = true → l.dropWhile p = []
 | [], _ => rfl
 | b :: l, h => by
  rw [List.all_cons, Bool.and_eq_true] at h
  rw [List.dropWhile_cons, if_pos h.1]
  exact dropWhile_all l h.2
theorem qRB (l cs : List UInt8) : (Lib.trimS l cs = []) ↔ l.all (cs.contains ·) = true := by
 unfold Lib.trimS Lib.trimLeftS Lib.trimRightS
 constructor
 ·intro h
  rw [List.all_eq_true]
  intro e he
  cases hc : cs.contains e with
  | true => rfl
  | false =>
   have h1 := qlA (p := (cs.contains ·)) (e := e) hc l.reverse (by simpa using he)
   have h2 := qlA (p := (cs.contains ·)) (e := e) hc (l.reverse.dropWhile (cs.contains ·)).reverse (by simpa using h1)
   rw [h] at h2; cases h2
 ·intro h
  rw [dropWhile_all l.reverse (by rw [List.all_reverse]; exact h)]
  rfl
end Go.Proofs.YtbpfhpjbeomfcaaDoor
namespace Go.Proofs.YtbpfhpjbeomfcaaDoor
open Go.RowKit Go.Proofs.YtbpfhpjbeomfcaaDoor.P Go.Proofs.YtbpfhpjbeomfcaaDoorW.PrintWords Go.Proofs.YtbpfhpjbeomfcaaDoorW.PrintLast
set_option linter.unusedVariables false
set_option linter.unusedSimpArgs false
theorem qMB (n a b : Int) : qLA.f n a b = some (decide (a ≤ n) && decide (n ≤ b)) := by
 unfold qLA.f
 by_cases h : a ≤ n
 ·rw [if_pos h, decide_eq_true h, Bool.true_and]
 ·rw [if_neg h, decide_eq_false h, Bool.false_and]
theorem qiB (l : List ByteArray) (i : Nat) (h : i < l.length) : rdOf ByteArray.empty l (i : Int) = l[i] := by
 unfold rdOf
 rw [Int.toNat_natCast, List.getD_eq_getElem?_getD, List.getElem?_eq_getElem h]; rfl
theorem qrA (s : ByteArray) : s.data.toList.length = s.size := by rw [Array.length_toList]; rfl
theorem gr_bt (s : ByteArray) (i : Nat) (h : i < s.data.toList.length) : bt s (i : Int) = ((s.data.toList[i]).toNat : Int) := by
 have h' : i < s.size := by rw [← qrA]; exact h
 unfold bt
 rw [dif_pos (by simpa using h')]
 simp only [Int.toNat_natCast, Array.getElem_toList]
 rfl
def fitR (C : List UInt8) (w : Nat) (r : List UInt8) : Bool := decide (r.length = w) && r.all (C.contains ·)
def szR (w h : Nat) : Bool := decide (1 ≤ h) && decide (h ≤ 7) && decide (1 ≤ w) && decide (w ≤ 7) && decide (w * h ≤ 36)
theorem rowsOf_loop (C : ByteArray) (hC : C.size < 100) (hA : (C.data.toList.all fun b => decide (b.toNat < 128)) = true) (w : Nat) (hw : w ≤ 4294967281) (L : List ByteArray) (hL : L.length ≤ 4294967281) (hs : ∀ x ∈ L, x.size ≤ 4294967281) (d : Nat) : ∀ i : Nat, i ≤ L.length → L.length - i = d →
  Ev (fun k => qBA.l0 k C (w : Int) L (L.length : Int) (i : Int)) (if (L.drop i).all (fun x => fitR C.data.toList w x.data.toList) then (L, szR w L.length) else ([], false)) := by
 induction d with
 | zero =>
  intro i hi hd
  refine Ev.step (f := fun k => _) (fun k => by rw [qBA.l0]) ?_
  refine Ev.neg (by omega) (Ev.bindc (qMB _ _ _) ?_)
  rw [List.drop_eq_nil_of_le (by omega), List.all_nil, if_pos rfl]
  by_cases h1 : 1 ≤ L.length ∧ L.length ≤ 7
  ·have e1 : (decide ((1 : Int) ≤ (L.length : Int)) && decide ((L.length : Int) ≤ 7)) = true := by rw [decide_eq_true (by omega), decide_eq_true (by omega)]; rfl
   refine Ev.pos e1 (Ev.bindc (qMB _ _ _) ?_)
   by_cases h2 : 1 ≤ w ∧ w ≤ 7
   ·have e2 : (decide ((1 : Int) ≤ (w : Int)) && decide ((w : Int) ≤ 7)) = true := by rw [decide_eq_true (by omega), decide_eq_true (by omega)]; rfl
    refine Ev.pos e2 (Ev.some_ ?_)
    have hm : w * L.length ≤ 7 * 7 := Nat.mul_le_mul h2.2 h1.2
    have hc : ((w : Int) * (L.length : Int)) = ((w * L.length : Nat) : Int) := by push_cast; rfl
    rw [hc]
    generalize hn : w * L.length = n at *
    have ew : wrap64 (n : Int) = (n : Int) := by unfold wrap64; omega
    rw [ew]
    have : szR w L.length = decide (n ≤ 36) := by
     unfold szR
     rw [hn, decide_eq_true h1.1, decide_eq_true h1.2, decide_eq_true h2.1, decide_eq_true h2.2]; rfl
    rw [this]
    congr 1
    exact decide_eq_decide.2 (by omega)
   ·refine Ev.neg (by simp only [Bool.and_eq_true, decide_eq_true_eq]; omega) (Ev.some_ ?_)
    have : szR w L.length = false := by
     unfold szR
     simp only [Bool.and_eq_false_iff, decide_eq_false_iff_not]; omega
    rw [this]
  ·refine Ev.neg (by simp only [Bool.and_eq_true, decide_eq_true_eq]; omega) (Ev.some_ ?_)
   have : szR w L.length = false := by
    unfold szR
    simp only [Bool.and_eq_false_iff, decide_eq_false_iff_not]; omega
   rw [this]
 | succ d ih =>
  intro i hi hd
  have h : i < L.length := by omega
  refine Ev.step (f := fun k => _) (fun k => by rw [qBA.l0]) ?_
  refine Ev.pos (by omega) (Ev.pos (by omega) (Ev.pos (by omega) ?_))
  rw [qiB L i h, List.drop_eq_getElem_cons h, List.all_cons, show wrap64 ((i : Int) + 1) = ((i + 1 : Nat) : Int) by unfold wrap64; omega]
  have hsz := hs _ (List.getElem_mem h)
  have ihh := ih (i + 1) (by omega) (by omega)
  generalize L[i] = x at *
  by_cases hx : x.size = w
  ·refine Ev.pos (by omega) (Ev.bindc (show qIA.f x C = some _ from by unfold qIA.f; rw [if_pos ⟨by omega, by omega, hA⟩]) ?_)
   have ht : (⟨(Lib.trimS x.data.toList C.data.toList).toArray⟩ : ByteArray).toList = Lib.trimS x.data.toList C.data.toList := by
    rw [Lib.toList_data]
   by_cases hal : x.data.toList.all (C.data.toList.contains ·) = true
   ·refine Ev.pos (by rw [ht]; exact (qRB _ _).2 hal) ?_
    have : fitR C.data.toList w x.data.toList = true := by
     unfold fitR
     rw [hal, Bool.and_true, decide_eq_true (by rw [qrA]; exact hx)]
    rw [this, Bool.true_and]
    exact ihh
   ·refine Ev.neg (by rw [ht]; exact fun e => hal ((qRB _ _).1 e)) (Ev.some_ ?_)
    have : fitR C.data.toList w x.data.toList = false := by
     unfold fitR
     rw [Bool.eq_false_iff.2 hal, Bool.and_false]
    rw [this]; rfl
  ·refine Ev.neg (by omega) (Ev.some_ ?_)
   have : fitR C.data.toList w x.data.toList = false := by
    unfold fitR
    rw [decide_eq_false (by rw [qrA]; exact hx), Bool.false_and]
   rw [this]; rfl
def rowsT (a : ByteArray) : List ByteArray := Lib.splitB ⟨#[47]⟩ 0 (Lib.countB a ⟨#[47]⟩) a
theorem qvA (a : ByteArray) : (rowsT a).map (·.data.toList) = (sp 47 a.data.toList).1 :: (sp 47 a.data.toList).2 := split_sp a 47
def wideT (a : ByteArray) : Nat := (sp 47 a.data.toList).1.length
def highT (a : ByteArray) : Nat := (sp 47 a.data.toList).2.length + 1
theorem qtA (a : ByteArray) : (rowsT a).length = highT a := by
 have := congrArg List.length (qvA a)
 simpa [highT] using this
def rowsFit (C : List UInt8) (a : ByteArray) : Bool := ((sp 47 a.data.toList).1 :: (sp 47 a.data.toList).2).all (fitR C (wideT a))
theorem sum_le_mem (l : List Nat) : ∀ x ∈ l, x ≤ l.sum := by
 induction l with
 | nil => intro x h; cases h
 | cons b l ih =>
  intro x h
  rw [List.sum_cons]
  rcases List.mem_cons.1 h with rfl | h
  ·omega
  ·have := ih x h; omega
theorem rowsT_size (a : ByteArray) : ∀ x ∈ rowsT a, x.size ≤ a.size := by
 intro x hx
 have h1 : x.data.toList ∈ (rowsT a).map (·.data.toList) := List.mem_map_of_mem hx
 rw [qvA] at h1
 have h2 := qSB 47 a.data.toList
 rw [qrA] at h2
 rw [← qrA x]
 rcases List.mem_cons.1 h1 with h | h
 ·rw [h]; omega
 ·have := sum_le_mem _ _ (List.mem_map_of_mem (f := List.length) h); omega
theorem rowsOf_ev (a C : ByteArray) (ha : a.size ≤ 1048576) (hC : C.size < 100) (hA : (C.data.toList.all fun b => decide (b.toNat < 128)) = true) :
  Ev (fun k => qBA.f k a C) (if rowsFit C.data.toList a then (rowsT a, szR (wideT a) (highT a)) else ([], false)) := by
 unfold qBA.f
 refine Ev.bindc (show strings_Split.f a ⟨#[47]⟩ = some (rowsT a) from by unfold strings_Split.f; rw [if_pos ⟨by omega, by decide⟩]; rfl) ?_
 have hlen := qtA a
 have hl2 := qSB 47 a.data.toList
 rw [qrA] at hl2
 have hh : highT a ≤ a.size + 1 := by unfold highT; omega
 have h0 : 0 < (rowsT a).length := by rw [hlen]; unfold highT; omega
 refine Ev.pos (by omega) ?_
 have e0 : rdOf ByteArray.empty (rowsT a) 0 = (rowsT a)[0] := qiB (rowsT a) 0 h0
 have e1 : ((rowsT a)[0]).size = wideT a := by
  have := qvA a
  have h2 : ((rowsT a).map (·.data.toList))[0]'(by simpa using h0) = (sp 47 a.data.toList).1 := by
   simp only [this, List.getElem_cons_zero]
  rw [List.getElem_map] at h2
  rw [← qrA, h2]; rfl
 rw [e0, e1]
 have hw : wideT a ≤ a.size := by rw [← e1]; exact rowsT_size a _ (List.getElem_mem h0)
 have := rowsOf_loop C hC hA (wideT a) (by omega) (rowsT a) (by omega) (fun x hx => by have := rowsT_size a x hx; omega) (rowsT a).length 0 (by omega) (by omega)
 rw [List.drop_zero] at this
 have e2 : (rowsT a).all (fun x => fitR C.data.toList (wideT a) x.data.toList) = rowsFit C.data.toList a := by
  unfold rowsFit
  rw [← qvA, List.all_map]; rfl
 rw [e2] at this
 rw [← hlen]
 exact this
end Go.Proofs.YtbpfhpjbeomfcaaDoor
namespace Go.Proofs.YtbpfhpjbeomfcaaDoor
open Go.RowKit Go.Proofs.YtbpfhpjbeomfcaaDoor.P Go.Proofs.YtbpfhpjbeomfcaaDoorW.PrintWords Go.Proofs.YtbpfhpjbeomfcaaDoorW.PrintLast
set_option linter.unusedVariables false
set_option linter.unusedSimpArgs false
abbrev RdG := Int × Int × List Int × Bool
def badG : RdG := (0, 0, [], false)
def finG (ho w h : Nat) (cs : List Int) : RdG := if 7 < w then badG else if 7 < h then badG else if 36 < cs.length then badG else if 1 < ho then badG else ((w : Int), (h : Int), cs, true)
def runG : List UInt8 → Nat → Nat → Nat → Nat → List Int → RdG
 | [], x, ho, w, h, cs => if (0 < h ∧ x ≠ w) ∨ x = 0 then badG else finG ho x (h + 1) cs
 | c :: r, x, ho, w, h, cs =>
  if c = 47 then (if (0 < h ∧ x ≠ w) ∨ x = 0 then badG else runG r 0 ho x (h + 1) cs)
  else if c = 46 ∨ c = 35 ∨ c = 45 then runG r (x + 1) ho w h (cs ++ [(c.toNat : Int)])
  else if c = 111 then runG r (x + 1) (ho + 1) w h (cs ++ [(c.toNat : Int)])
  else badG
theorem u8eq (c : UInt8) (n : Nat) (hn : n < 256) : ((c.toNat : Int) = (n : Int)) ↔ c = UInt8.ofNat n := by
 constructor
 ·intro h
  have : c.toNat = n := by omega
  rw [← this]; simp
 ·intro h
  subst h
  simp; omega
theorem bx_end (a : ByteArray) (ha : a.size ≤ 42) (ho w h : Nat) (cs : List Int) : Ev (fun k => qV.l0 k a 0 (ho : Int) ((a.size : Int) + 1) (w : Int) (h : Int) cs) (finG ho w h cs) := by
 refine Ev.step (f := fun k => _) (fun k => by rw [qV.l0]) ?_
 refine Ev.neg (by omega) ?_
 unfold finG
 by_cases h1 : 7 < w
 ·rw [if_pos h1]; exact Ev.pos (by omega) (Ev.now _)
 rw [if_neg h1]; refine Ev.neg (by omega) ?_
 by_cases h2 : 7 < h
 ·rw [if_pos h2]; exact Ev.pos (by omega) (Ev.now _)
 rw [if_neg h2]; refine Ev.neg (by omega) ?_
 by_cases h3 : 36 < cs.length
 ·rw [if_pos h3]; exact Ev.pos (by omega) (Ev.now _)
 rw [if_neg h3]; refine Ev.neg (by omega) ?_
 by_cases h4 : 1 < ho
 ·rw [if_pos h4]; exact Ev.pos (by omega) (Ev.now _)
 rw [if_neg h4]; exact Ev.neg (by omega) (Ev.now _)
theorem bx_sep (a : ByteArray) (i x ho w h : Nat) (cs : List Int) (hx : x ≤ 100) (hh : h ≤ 100) (hi : i ≤ 100) (R : RdG)
  (hR : Ev (fun k => qV.l0 k a 0 (ho : Int) ((i : Int) + 1) (x : Int) ((h + 1 : Nat) : Int) cs) R) :
  Ev (fun k => qV.j1 k a (x : Int) (ho : Int) (i : Int) false (w : Int) (h : Int) cs) (if (0 < h ∧ x ≠ w) ∨ x = 0 then badG else R) := by
 have w1 : wrap64 ((i : Int) + 1) = (i : Int) + 1 := by unfold wrap64; omega
 have w2 : wrap64 ((h : Int) + 1) = ((h + 1 : Nat) : Int) := by unfold wrap64; omega
 refine Ev.step (f := fun k => _) (fun k => by rw [qV.j1]) ?_
 refine Ev.neg (by decide) ?_
 rw [w1, w2]
 by_cases h1 : 0 < h
 ·refine Ev.pos (by omega) ?_
  by_cases h2 : x = w
  ·refine Ev.pos (by omega) ?_
   by_cases h3 : x = 0
   ·rw [if_pos (.inr h3)]; exact Ev.pos (by omega) (Ev.now _)
   ·rw [if_neg (by omega)]; exact Ev.neg (by omega) hR
  ·rw [if_pos (.inl ⟨h1, h2⟩)]; exact Ev.neg (by omega) (Ev.now _)
 ·refine Ev.neg (by omega) ?_
  by_cases h3 : x = 0
  ·rw [if_pos (.inr h3)]; exact Ev.pos (by omega) (Ev.now _)
  ·rw [if_neg (by omega)]; exact Ev.neg (by omega) hR
theorem bx_loop (a : ByteArray) (ha : a.size ≤ 42) (d : Nat) : ∀ (i x ho w h : Nat) (cs : List Int), i ≤ a.size → a.size - i = d → x ≤ i → ho ≤ i → h ≤ i → cs.length ≤ i →
  Ev (fun k => qV.l0 k a (x : Int) (ho : Int) (i : Int) (w : Int) (h : Int) cs) (runG (a.data.toList.drop i) x ho w h cs) := by
 have hsz := qrA a
 induction d with
 | zero =>
  intro i x ho w h cs hi hd hx hho hh hc
  obtain rfl : i = a.size := by omega
  refine Ev.step (f := fun k => _) (fun k => by rw [qV.l0]) ?_
  refine Ev.pos (by omega) (Ev.neg (by omega) ?_)
  rw [List.drop_eq_nil_of_le (by omega), runG]
  exact bx_sep a a.size x ho w h cs (by omega) (by omega) (by omega) _ (bx_end a ha ho x (h + 1) cs)
 | succ d ih =>
  intro i x ho w h cs hi hd hx hho hh hc
  have hl : i < a.data.toList.length := by omega
  have e1 : ((i : Int) + 1) = ((i + 1 : Nat) : Int) := by omega
  have w1 : wrap64 ((i : Int) + 1) = ((i + 1 : Nat) : Int) := by unfold wrap64; omega
  have w2 : wrap64 ((x : Int) + 1) = ((x + 1 : Nat) : Int) := by unfold wrap64; omega
  have w3 : wrap64 ((ho : Int) + 1) = ((ho + 1 : Nat) : Int) := by unfold wrap64; omega
  have hdr := List.drop_eq_getElem_cons hl
  obtain ⟨c, hcc, hb⟩ : ∃ c, a.data.toList[i] = c ∧ bt a (i : Int) = (c.toNat : Int) := ⟨_, rfl, gr_bt a i hl⟩
  rw [hcc] at hdr
  clear hcc
  have HB := Lib.hid hb
  have HW1 := Lib.hid w1
  have HW2 := Lib.hid w2
  have HW3 := Lib.hid w3
  have HD := Lib.hid hdr
  clear hb w1 w2 w3 hdr
  refine Ev.step (f := fun k => _) (fun k => by rw [qV.l0]) ?_
  refine Ev.pos (by omega) (Ev.pos (by omega) (Ev.pos (by omega) ?_))
  rw [HD.out, HB.out, runG]
  by_cases h47 : c = 47
  ·rw [show ((c.toNat : Int) != 47) = false by subst h47; rfl, if_pos h47]
   clear HB HD h47
   refine bx_sep a i x ho w h cs (by omega) (by omega) (by omega) _ ?_
   rw [e1]
   exact ih (i + 1) 0 ho x (h + 1) cs (by omega) (by omega) (by omega) (by omega) (by omega) (by omega)
  ·rw [show ((c.toNat : Int) != 47) = true by
    rw [bne_iff_ne]; intro e; exact h47 ((u8eq c 47 (by decide)).1 e), if_neg h47]
   have go1 := ih (i + 1) (x + 1) ho w h (cs ++ [(c.toNat : Int)]) (by omega) (by omega) (by omega) (by omega) (by omega) (by simp; omega)
   have go2 := ih (i + 1) (x + 1) (ho + 1) w h (cs ++ [(c.toNat : Int)]) (by omega) (by omega) (by omega) (by omega) (by omega) (by simp; omega)
   have step : ∀ R, (c = 46 ∨ c = 35 ∨ c = 45) → Ev (fun k => qV.l0 k a ((x + 1 : Nat) : Int) (ho : Int) ((i + 1 : Nat) : Int) (w : Int) (h : Int) (cs ++ [(c.toNat : Int)])) R →
     Ev (fun k => qV.j2 k a (x : Int) (ho : Int) (i : Int) (c.toNat : Int) true (w : Int) (h : Int) cs) R := fun R _ hR => by
    refine Ev.step (f := fun k => _) (fun k => by rw [qV.j2]) ?_
    refine Ev.pos rfl (Ev.pos (by omega) (Ev.pos (by omega) (Ev.pos (by omega) ?_)))
    rw [HW1.out, HW2.out, HB.out]
    exact hR
   refine Ev.step (f := fun k => _) (fun k => by rw [qV.j1]) ?_
   refine Ev.pos rfl (Ev.pos (by omega) (Ev.pos (by omega) ?_))
   rw [HB.out]
   by_cases h46 : c = 46
   ·rw [if_pos (.inl h46)]
    refine Ev.pos (by subst h46; rfl) ?_
    rw [show ((c.toNat : Int) == 46) = true by subst h46; rfl]
    exact step _ (.inl h46) go1
   ·refine Ev.neg (fun e => h46 ((u8eq c 46 (by decide)).1 e)) ?_
    by_cases h35 : c = 35
    ·rw [if_pos (.inr (.inl h35))]
     refine Ev.pos (by subst h35; rfl) ?_
     rw [show ((c.toNat : Int) == 35) = true by subst h35; rfl]
     exact step _ (.inr (.inl h35)) go1
    ·refine Ev.neg (fun e => h35 ((u8eq c 35 (by decide)).1 e)) ?_
     by_cases h45 : c = 45
     ·rw [if_pos (.inr (.inr h45)), show ((c.toNat : Int) == 45) = true by subst h45; rfl]
      exact step _ (.inr (.inr h45)) go1
     ·rw [if_neg (by simp [h46, h35, h45]), show ((c.toNat : Int) == 45) = false by
       rw [beq_eq_false_iff_ne]; intro e; exact h45 ((u8eq c 45 (by decide)).1 e)]
      refine Ev.step (f := fun k => _) (fun k => by rw [qV.j2]) ?_
      refine Ev.neg (by decide) ?_
      by_cases h111 : c = 111
      ·rw [if_pos h111]
       refine Ev.pos (by subst h111; rfl) (Ev.pos (by omega) (Ev.pos (by omega) (Ev.pos (by omega) ?_)))
       rw [HW1.out, HW2.out, HW3.out, HB.out]
       exact go2
      ·rw [if_neg h111]
       exact Ev.neg (fun e => h111 ((u8eq c 111 (by decide)).1 e)) (Ev.now _)
def cG : List UInt8 := [46, 35, 45, 111]
def numsOf (l : List UInt8) : List Int := l.map fun c => (c.toNat : Int)
def flatT (l : List UInt8) : List UInt8 := (sp 47 l).1 ++ (sp 47 l).2.flatten
theorem runG_eq (l : List UInt8) : ∀ (x ho w h : Nat) (cs : List Int), runG l x ho w h cs =
  if (l.all (fun b => b == 47 || cG.contains b)) = true ∧ x + (sp 47 l).1.length ≠ 0 ∧ (0 < h → x + (sp 47 l).1.length = w) ∧ (∀ r ∈ (sp 47 l).2, r.length = x + (sp 47 l).1.length)
  then finG (ho + l.count 111) (x + (sp 47 l).1.length) (h + ((sp 47 l).2.length + 1)) (cs ++ numsOf (flatT l)) else badG := by
 induction l with
 | nil =>
  intro x ho w h cs
  rw [runG]
  simp only [sp, List.all_nil, List.length_nil, Nat.add_zero, List.count_nil, flatT, List.flatten_nil, List.append_nil, numsOf, List.map_nil, Nat.zero_add]
  by_cases hb : (0 < h ∧ x ≠ w) ∨ x = 0
  ·rw [if_pos hb, if_neg (by rintro ⟨_, h1, h2, _⟩; exact hb.elim (fun h34 => h34.2 (h2 h34.1)) h1)]
  ·rw [if_neg hb, if_pos ⟨trivial, fun e => hb (.inr e), fun h3 => Classical.byContradiction fun h4 => hb (.inl ⟨h3, h4⟩), by simp⟩]
 | cons c r ih =>
  intro x ho w h cs
  rw [runG]
  by_cases h47 : c = 47
  ·subst h47
   rw [if_pos rfl]
   simp only [sp, if_true, List.all_cons, beq_self_eq_true, Bool.true_or, Bool.true_and, List.length_nil, Nat.add_zero, List.count_cons_of_ne (show ((47 : UInt8) ≠ 111) by decide), flatT, List.nil_append, List.flatten_cons, List.length_cons]
   by_cases hb : (0 < h ∧ x ≠ w) ∨ x = 0
   ·rw [if_pos hb, if_neg (by rintro ⟨_, h1, h2, _⟩; exact hb.elim (fun h34 => h34.2 (h2 h34.1)) h1)]
   ·rw [if_neg hb, ih]
    have hx0 : x ≠ 0 := fun e => hb (.inr e)
    have hxw : 0 < h → x = w := fun h3 => Classical.byContradiction fun h4 => hb (.inl ⟨h3, h4⟩)
    by_cases hg : (r.all (fun b => b == 47 || cG.contains b)) = true ∧ ∀ q ∈ (sp 47 r).1 :: (sp 47 r).2, q.length = x
    ·have hf : (sp 47 r).1.length = x := hg.2 _ (List.mem_cons_self)
     rw [if_pos ⟨hg.1, by omega, fun _ => by omega, fun q hq => by have := hg.2 q (List.mem_cons_of_mem _ hq); omega⟩, if_pos ⟨hg.1, hx0, hxw, hg.2⟩]
     congr 1
     ·omega
     ·omega
    ·rw [if_neg, if_neg]
     ·rintro ⟨h1, _, _, h4⟩; exact hg ⟨h1, h4⟩
     ·rintro ⟨h1, _, h3, h4⟩
      have h5 := h3 (by omega)
      refine hg ⟨h1, fun q hq => ?_⟩
      rcases List.mem_cons.1 hq with rfl | hq
      ·omega
      ·have := h4 q hq; omega
  ·rw [if_neg h47]
   have e47 : (c == 47) = false := by simpa using h47
   simp only [sp, if_neg h47, List.all_cons, e47, Bool.false_or, List.length_cons]
   have hsh : x + ((sp 47 r).1.length + 1) = x + 1 + (sp 47 r).1.length := by omega
   by_cases h3 : c = 46 ∨ c = 35 ∨ c = 45
   ·have hc : cG.contains c = true := by rcases h3 with rfl | rfl | rfl <;> decide
    have hn : c ≠ 111 := by rcases h3 with rfl | rfl | rfl <;> decide
    rw [if_pos h3, ih, hc, Bool.true_and, hsh, List.count_cons_of_ne hn]
    simp only [flatT, sp, if_neg h47, numsOf, List.cons_append, List.map_cons, List.append_assoc, List.nil_append]
   ·rw [if_neg h3]
    by_cases h111 : c = 111
    ·subst h111
     rw [if_pos rfl, ih, show cG.contains 111 = true by decide, Bool.true_and, hsh, List.count_cons_self]
     simp only [flatT, sp, if_neg h47, numsOf, List.cons_append, List.map_cons, List.append_assoc, List.nil_append, show ho + (r.count 111 + 1) = ho + 1 + r.count 111 by omega]
    ·rw [if_neg h111, if_neg]
     rintro ⟨h1, _⟩
     have : cG.contains c = false := by
      simp only [cG, List.contains_cons, List.contains_nil, Bool.or_false, Bool.or_eq_false_iff, beq_eq_false_iff_ne]
      exact ⟨fun e => h3 (.inl e), fun e => h3 (.inr (.inl e)), fun e => h3 (.inr (.inr e)), h111⟩
     rw [this] at h1; simp at h1
theorem qZB (f : Nat) : ∀ (L : List (List UInt8)), (∀ r ∈ L, r.length = f) → L.flatten.length = f * L.length ∧ (L.map List.length).sum = f * L.length
 | [], _ => by simp
 | a :: L, h => by
  obtain ⟨h1, h2⟩ := qZB f L (fun r hr => h r (List.mem_cons_of_mem _ hr))
  have h3 := h a List.mem_cons_self
  simp only [List.flatten_cons, List.length_append, List.map_cons, List.sum_cons, List.length_cons, h1, h2, h3, Nat.mul_add, Nat.mul_one]
  omega
def groundB (a : ByteArray) : Bool := rowsFit cG a && szR (wideT a) (highT a) && decide (a.data.toList.count 111 ≤ 1)
theorem qzA (a : ByteArray) : rowsFit cG a = true ↔ (a.data.toList.all (fun b => b == 47 || cG.contains b)) = true ∧ ∀ r ∈ (sp 47 a.data.toList).2, r.length = wideT a := by
 have hs := sp_all 47 (cG.contains ·) a.data.toList (by decide)
 unfold rowsFit
 rw [← hs, List.all_cons]
 unfold fitR wideT
 simp only [Bool.and_eq_true, decide_eq_true_eq, List.all_eq_true, true_and]
 constructor
 ·rintro ⟨h1, h2⟩
  exact ⟨⟨h1, fun r hr => (h2 r hr).2⟩, fun r hr => (h2 r hr).1⟩
 ·rintro ⟨⟨h1, h2⟩, h3⟩
  exact ⟨h1, fun r hr => ⟨h3 r hr, h2 r hr⟩⟩
theorem bxRead_ev (a : ByteArray) : Ev (fun k => qV.f k a) (if groundB a then ((wideT a : Int), (highT a : Int), numsOf (flatT a.data.toList), true) else badG) := by
 have hl := qSB 47 a.data.toList
 rw [qrA] at hl
 unfold qV.f
 by_cases h42 : a.size ≤ 42
 ·refine Ev.neg (by omega) ?_
  have := bx_loop a h42 a.size 0 0 0 0 0 [] (by omega) (by omega) (by omega) (by omega) (by omega) (by simp)
  rw [List.drop_zero, runG_eq] at this
  simp only [Nat.zero_add, List.nil_append, Nat.lt_irrefl, false_implies, true_and] at this
  have e : (if (a.data.toList.all (fun b => b == 47 || cG.contains b)) = true ∧ (sp 47 a.data.toList).1.length ≠ 0 ∧ (∀ r ∈ (sp 47 a.data.toList).2, r.length = (sp 47 a.data.toList).1.length) then finG (a.data.toList.count 111) (sp 47 a.data.toList).1.length ((sp 47 a.data.toList).2.length + 1) (numsOf (flatT a.data.toList)) else badG) = (if groundB a then ((wideT a : Int), (highT a : Int), numsOf (flatT a.data.toList), true) else badG) := by
   have hw : (sp 47 a.data.toList).1.length = wideT a := rfl
   have hh : (sp 47 a.data.toList).2.length + 1 = highT a := rfl
   rw [hw, hh]
   unfold groundB
   by_cases hr : rowsFit cG a = true
   ·obtain ⟨h1, h2⟩ := (qzA a).1 hr
    obtain ⟨f1, f2⟩ := qZB (wideT a) (sp 47 a.data.toList).2 h2
    have hfl : (numsOf (flatT a.data.toList)).length = wideT a * highT a := by
     simp only [numsOf, List.length_map, flatT, List.length_append, f1, hw, ← hh, Nat.mul_add, Nat.mul_one]; omega
    rw [hr, Bool.true_and]
    by_cases h0 : wideT a ≠ 0
    ·rw [if_pos ⟨h1, h0, h2⟩]
     unfold finG szR
     rw [hfl]
     have hh1 : 1 ≤ highT a := by omega
     rw [decide_eq_true hh1, Bool.true_and, decide_eq_true (show 1 ≤ wideT a by omega)]
     by_cases a1 : 7 < wideT a
     ·rw [if_pos a1, decide_eq_false (show ¬ wideT a ≤ 7 by omega)]; simp
     rw [if_neg a1, decide_eq_true (show wideT a ≤ 7 by omega)]
     by_cases a2 : 7 < highT a
     ·rw [if_pos a2, decide_eq_false (show ¬ highT a ≤ 7 by omega)]; simp
     rw [if_neg a2, decide_eq_true (show highT a ≤ 7 by omega)]
     by_cases a3 : 36 < wideT a * highT a
     ·rw [if_pos a3, decide_eq_false (show ¬ wideT a * highT a ≤ 36 by omega)]; simp
     rw [if_neg a3, decide_eq_true (show wideT a * highT a ≤ 36 by omega)]
     by_cases a4 : 1 < a.data.toList.count 111
     ·rw [if_pos a4, decide_eq_false (by omega)]; simp
     ·rw [if_neg a4, decide_eq_true (by omega)]; simp
    ·rw [if_neg (fun h => h0 h.2.1)]
     have : szR (wideT a) (highT a) = false := by
      unfold szR
      simp only [Bool.and_eq_false_iff, decide_eq_false_iff_not]; omega
     rw [this]; simp
   ·rw [if_neg (fun h => hr ((qzA a).2 ⟨h.1, h.2.2⟩)), Bool.eq_false_iff.2 hr]; simp
  rw [e] at this
  exact this
 ·refine Ev.pos (by omega) (Ev.some_ ?_)
  have : groundB a = false := by
   cases hg : groundB a with
   | false => rfl
   | true =>
    unfold groundB szR at hg
    simp only [Bool.and_eq_true, decide_eq_true_eq] at hg
    obtain ⟨⟨hr, ⟨⟨⟨g1, g2⟩, g3⟩, g4⟩, g5⟩, _⟩ := hg
    obtain ⟨h1, h2⟩ := (qzA a).1 hr
    obtain ⟨f1, f2⟩ := qZB (wideT a) (sp 47 a.data.toList).2 h2
    rw [f2] at hl
    have hw : (sp 47 a.data.toList).1.length = wideT a := rfl
    have hh : (sp 47 a.data.toList).2.length + 1 = highT a := rfl
    have : wideT a * highT a = wideT a + wideT a * (sp 47 a.data.toList).2.length := by rw [← hh, Nat.mul_add, Nat.mul_one]; omega
    omega
  rw [this]; rfl
theorem ground_ev (a : ByteArray) (ha : a.size ≤ 1048576) : ∃ rows : List ByteArray, Ev (fun k => qeA.f k a) (rows, groundB a) ∧ (groundB a = true → rows = rowsT a) := by
 have h := rowsOf_ev a ⟨#[46, 35, 45, 111]⟩ ha (by decide) (by decide)
 have hc : (⟨#[46, 35, 45, 111]⟩ : ByteArray).data.toList = cG := rfl
 rw [hc] at h
 unfold qeA.f
 unfold groundB
 cases hr : rowsFit cG a with
 | false =>
  rw [hr, if_neg (by decide)] at h
  exact ⟨[], Ev.bind h (Ev.neg (by simp) (Ev.now _)), fun e => by cases e⟩
 | true =>
  rw [hr, if_pos rfl] at h
  refine ⟨rowsT a, Ev.bind h ?_, fun _ => rfl⟩
  cases hz : szR (wideT a) (highT a) with
  | false => exact Ev.neg (by simp) (Ev.now _)
  | true =>
   refine Ev.pos rfl (Ev.bindc (show qQA.f a ⟨#[111]⟩ = some _ from rfl) (Ev.some_ ?_))
   show (rowsT a, _) = _
   congr 1
   unfold Lib.countByte
   simp only [Bool.true_and]
   exact decide_eq_decide.2 (by omega)
end Go.Proofs.YtbpfhpjbeomfcaaDoor
