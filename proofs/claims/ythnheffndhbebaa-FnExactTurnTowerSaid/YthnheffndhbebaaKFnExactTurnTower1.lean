/- The program's TurnTower returns what the reference's returns, for all lists of dice and numbers (the law lets longer lists by). No further condition. -/
import Derived.Test.YthnheffndhbebaaKFnExactTurnTower0
import Derived.ChangeArms
import Derived.ChangeSame
import Derived.Deep.Slices
import Derived.ProofKit
import Derived.OpenShut
import Derived.SizedLaws
import Derived.Test.YthnheffndhbebaaProg
import Derived.Test.YthnheffndhbebaaWWords
import Derived.Test.YthnheffndhbebaaWSized
import Derived.Test.YthnheffndhbebaaWLast

namespace Go.Proofs.Ythnheffndhbebaa.P
open Go.RowKit Go.Proofs.YthnheffndhbebaaW.PrintWords Go.Proofs.YthnheffndhbebaaW.PrintLast Go.Proofs.YthnheffndhbebaaW.PrintMore
attribute [local go_sem] max2_int min2_int max_two min_two max_three min_three max_four min_four   -- for this text's walks alone
set_option linter.unusedVariables false
set_option linter.unusedSimpArgs false

/-! ### impl_Die_turn: function 104 -/
def impl_Die_turn.f (a0_0 : Int) (a0_1 : Int) (a0_2 : Int) (a0_3 : Int) (a0_4 : Int) (a0_5 : Int) : Option (Int × Int × Int × Int × Int × Int) := some (a0_0, a0_4, a0_1, a0_2, a0_3, a0_5)
set_option maxHeartbeats 8000000 in
set_option maxRecDepth 100000 in
theorem impl_Die_turn.calls (a0_0 : Int) (a0_1 : Int) (a0_2 : Int) (a0_3 : Int) (a0_4 : Int) (a0_5 : Int) (r1 : Int) (r2 : Int) (r3 : Int) (r4 : Int) (r5 : Int) (r6 : Int) (w : World) (h : impl_Die_turn.f a0_0 a0_1 a0_2 a0_3 a0_4 a0_5 = some (r1, r2, r3, r4, r5, r6)) :
    Calls Try.prog 104 #[.agg #[.int .i64 a0_0, .int .i64 a0_1, .int .i64 a0_2, .int .i64 a0_3, .int .i64 a0_4, .int .i64 a0_5]] w fun e w' => e = .returned (.agg #[.int .i64 r1, .int .i64 r2, .int .i64 r3, .int .i64 r4, .int .i64 r5, .int .i64 r6]) ∧ Below w.heap.size w w' := by
  have hu40 := Try.underlying40
  have HB := Aside0.mk (Below.refl w.heap.size w)
  have H : (some (a0_0, a0_4, a0_1, a0_2, a0_3, a0_5)) = some (r1, r2, r3, r4, r5, r6) := h
  clear h
  simp only [Option.some.injEq, Prod.mk.injEq] at H
  obtain ⟨rfl, rfl, rfl, rfl, rfl, rfl⟩ := H
  go_enter Try.func104, Try.ntmps104
  go_wp2_with (first | ((with_reducible refine gate_dst (N := 1) rfl ?_); refine box_event ?hg (N := 1) ?hd (cs := #[.int .i64 a0_0, .int .i64 a0_1, .int .i64 a0_2, .int .i64 a0_3, .int .i64 a0_4, .int .i64 a0_5]) (t := 40) ?hr ?_; (case hd => rfl); (case hg => rfl); (case hr => first | (go_simp; done) | (go_simp; rfl)); intro gb660 hg w2 hbox hb; have n0_ := Aside0.mk (below_step (by repeat (first | (with_reducible first | exact HB.out | apply below_alloc | apply pw_below_drewN | apply below_drew1) | exact HB.out)) hb); have n1_ := Aside0.mk (hbox); have n2_ := Aside0.mk ((by rw [hg]; exact (below_size (by repeat (first | (with_reducible first | exact HB.out | apply below_alloc | apply pw_below_drewN | apply below_drew1) | exact HB.out))) : w.heap.size ≤ gb660)); have n3_ := Aside0.mk ((by rw [hg]; exact (below_size (by repeat (first | (with_reducible first | exact HB.out | apply below_alloc | apply pw_below_drewN | apply below_drew1) | exact HB.out))) : w.heap.size ≤ gb660)); clear HB; have HB := n0_; have BK660 := n1_; have GW660 := n2_; have GE660 := n3_; clear n0_ n1_ n2_ n3_; clear hb hbox hg) | ((with_reducible refine gate_dst (N := 2) rfl ?_); refine box_event ?hg (N := 2) ?hd (cs := #[.int .i64 0, .int .i64 0, .int .i64 0, .int .i64 0, .int .i64 0, .int .i64 0]) (t := 40) ?hr ?_; (case hd => rfl); (case hg => rfl); (case hr => first | (go_simp; done) | (go_simp; rfl)); intro gb661 hg w3 hbox hb; have n0_ := Aside0.mk (blk_below (g := gb660) (o := .cells #[.int .i64 a0_0, .int .i64 a0_1, .int .i64 a0_2, .int .i64 a0_3, .int .i64 a0_4, .int .i64 a0_5] 40 (0, 0)) (by (with_reducible repeat (first | refine blk_drewN ?_ _ | refine blk_drew ?_ | refine blk_alloc ?_ _)); exact BK660.out) hb); have n1_ := Aside0.mk (below_step (by repeat (first | (with_reducible first | exact HB.out | apply below_alloc | apply pw_below_drewN | apply below_drew1 | refine below_set ?_ GE660.out) | exact HB.out)) hb); have n2_ := Aside0.mk (hbox); have n3_ := Aside0.mk ((by rw [hg]; exact (below_size (by repeat (first | (with_reducible first | exact HB.out | apply below_alloc | apply pw_below_drewN | apply below_drew1 | refine below_set ?_ GE660.out) | exact HB.out))) : w.heap.size ≤ gb661)); have n4_ := Aside0.mk ((by rw [hg]; exact (below_size (by repeat (first | (with_reducible first | exact HB.out | apply below_alloc | apply pw_below_drewN | apply below_drew1 | refine below_set ?_ GE660.out) | exact HB.out))) : w.heap.size ≤ gb661)); have n5_ := Aside0.mk ((by rw [hg]; exact Nat.ne_of_lt (blk_lt (g := gb660) (o := .cells #[.int .i64 a0_0, .int .i64 a0_1, .int .i64 a0_2, .int .i64 a0_3, .int .i64 a0_4, .int .i64 a0_5] 40 (0, 0)) (by (with_reducible repeat (first | refine blk_drewN ?_ _ | refine blk_drew ?_ | refine blk_alloc ?_ _)); exact BK660.out)) : gb660 ≠ gb661)); have n6_ := Aside0.mk ((by rw [hg]; exact Nat.ne_of_gt (blk_lt (g := gb660) (o := .cells #[.int .i64 a0_0, .int .i64 a0_1, .int .i64 a0_2, .int .i64 a0_3, .int .i64 a0_4, .int .i64 a0_5] 40 (0, 0)) (by (with_reducible repeat (first | refine blk_drewN ?_ _ | refine blk_drew ?_ | refine blk_alloc ?_ _)); exact BK660.out)) : gb661 ≠ gb660)); clear BK660; clear HB; have BK660 := n0_; have HB := n1_; have BK661 := n2_; have GW661 := n3_; have GE661 := n4_; have NB660_661 := n5_; have NB661_660 := n6_; clear n0_ n1_ n2_ n3_ n4_ n5_ n6_; clear hb hbox hg; have hnb4 := NB660_661.out; have hnc4 := NB661_660.out; have hcz5_0 : w3.cell? ⟨gb660, 0, none⟩ = some (.int .i64 a0_0) := (blk_cell BK660.out 0).trans rfl; have hcz5_1 : w3.cell? ⟨gb660, 1, none⟩ = some (.int .i64 a0_1) := (blk_cell BK660.out 1).trans rfl; have hcz5_2 : w3.cell? ⟨gb660, 2, none⟩ = some (.int .i64 a0_2) := (blk_cell BK660.out 2).trans rfl; have hcz5_3 : w3.cell? ⟨gb660, 3, none⟩ = some (.int .i64 a0_3) := (blk_cell BK660.out 3).trans rfl; have hcz5_4 : w3.cell? ⟨gb660, 4, none⟩ = some (.int .i64 a0_4) := (blk_cell BK660.out 4).trans rfl; have hcz5_5 : w3.cell? ⟨gb660, 5, none⟩ = some (.int .i64 a0_5) := (blk_cell BK660.out 5).trans rfl; have hfz5_0 := blk_frozen BK660.out 0; have hfz5_1 := blk_frozen BK660.out 1; have hfz5_2 := blk_frozen BK660.out 2; have hfz5_3 := blk_frozen BK660.out 3; have hfz5_4 := blk_frozen BK660.out 4; have hfz5_5 := blk_frozen BK660.out 5; have hcz6_0 : w3.cell? ⟨gb661, 0, none⟩ = some (.int .i64 0) := (blk_cell BK661.out 0).trans rfl; have hcz6_1 : w3.cell? ⟨gb661, 1, none⟩ = some (.int .i64 0) := (blk_cell BK661.out 1).trans rfl; have hcz6_2 : w3.cell? ⟨gb661, 2, none⟩ = some (.int .i64 0) := (blk_cell BK661.out 2).trans rfl; have hcz6_3 : w3.cell? ⟨gb661, 3, none⟩ = some (.int .i64 0) := (blk_cell BK661.out 3).trans rfl; have hcz6_4 : w3.cell? ⟨gb661, 4, none⟩ = some (.int .i64 0) := (blk_cell BK661.out 4).trans rfl; have hcz6_5 : w3.cell? ⟨gb661, 5, none⟩ = some (.int .i64 0) := (blk_cell BK661.out 5).trans rfl; have hfz6_0 := blk_frozen BK661.out 0; have hfz6_1 := blk_frozen BK661.out 1; have hfz6_2 := blk_frozen BK661.out 2; have hfz6_3 := blk_frozen BK661.out 3; have hfz6_4 := blk_frozen BK661.out 4; have hfz6_5 := blk_frozen BK661.out 5))
  refine bodyPost_ret (results_cell_row rfl _ _ gb661 40 #[.int .i64 a0_0, .int .i64 a0_4, .int .i64 a0_1, .int .i64 a0_2, .int .i64 a0_3, .int .i64 a0_5] (0, 0) _ rfl (by (with_reducible repeat (first | refine blk_drewN ?_ _ | refine blk_drew ?_ | refine blk_alloc ?_ _)); refine blk_put (cs := #[.int .i64 a0_0, .int .i64 a0_4, .int .i64 a0_1, .int .i64 a0_2, .int .i64 a0_3, .int .i64 0]) ?_ 5 _ rfl; (with_reducible repeat (first | refine blk_drewN ?_ _ | refine blk_drew ?_ | refine blk_alloc ?_ _)); refine blk_put (cs := #[.int .i64 a0_0, .int .i64 a0_4, .int .i64 a0_1, .int .i64 a0_2, .int .i64 0, .int .i64 0]) ?_ 4 _ rfl; (with_reducible repeat (first | refine blk_drewN ?_ _ | refine blk_drew ?_ | refine blk_alloc ?_ _)); refine blk_put (cs := #[.int .i64 a0_0, .int .i64 a0_4, .int .i64 a0_1, .int .i64 0, .int .i64 0, .int .i64 0]) ?_ 3 _ rfl; (with_reducible repeat (first | refine blk_drewN ?_ _ | refine blk_drew ?_ | refine blk_alloc ?_ _)); refine blk_put (cs := #[.int .i64 a0_0, .int .i64 a0_4, .int .i64 0, .int .i64 0, .int .i64 0, .int .i64 0]) ?_ 2 _ rfl; (with_reducible repeat (first | refine blk_drewN ?_ _ | refine blk_drew ?_ | refine blk_alloc ?_ _)); refine blk_put (cs := #[.int .i64 a0_0, .int .i64 0, .int .i64 0, .int .i64 0, .int .i64 0, .int .i64 0]) ?_ 1 _ rfl; (with_reducible repeat (first | refine blk_drewN ?_ _ | refine blk_drew ?_ | refine blk_alloc ?_ _)); refine blk_put (cs := #[.int .i64 0, .int .i64 0, .int .i64 0, .int .i64 0, .int .i64 0, .int .i64 0]) ?_ 0 _ rfl; (with_reducible repeat (first | refine blk_drewN ?_ _ | refine blk_drew ?_ | refine blk_alloc ?_ _)); exact BK661.out) Try.underlying40 rfl (by kernel_rfl)) rfl ?_
  exact ⟨by first | rfl | (simp [errW_none, errW_some] <;> rfl) | (simp [*, errW_none, errW_some] <;> rfl), by repeat (first | (with_reducible first | exact HB.out | apply below_alloc | apply pw_below_drewN | apply below_drew1 | refine below_set ?_ GE660.out | refine below_set ?_ GE661.out) | exact HB.out)⟩

end Go.Proofs.Ythnheffndhbebaa.P

namespace Go.Proofs.Ythnheffndhbebaa.P
open Go.RowKit Go.Proofs.YthnheffndhbebaaW.PrintWords Go.Proofs.YthnheffndhbebaaW.PrintLast Go.Proofs.YthnheffndhbebaaW.PrintMore
attribute [local go_sem] max2_int min2_int max_two min_two max_three min_three max_four min_four   -- for this text's walks alone
set_option linter.unusedVariables false
set_option linter.unusedSimpArgs false

/-! ### impl_TurnDie: function 82 -/
mutual
def impl_TurnDie.j0 : Nat → Int → Bool → Int → Int → Int → Int → Int → Int → Option (Int × Int × Int × Int × Int × Int × Bool)
  | 0, _, _, _, _, _, _, _, _ => none
  | k + 1, x1, x13, x663000, x663001, x663002, x663003, x663004, x663005 => if x13 = true then (some (0, 0, 0, 0, 0, 0, false)) else (impl_TurnDie.l0 k x1 0 x663000 x663001 x663002 x663003 x663004 x663005)
def impl_TurnDie.l0 : Nat → Int → Int → Int → Int → Int → Int → Int → Int → Option (Int × Int × Int × Int × Int × Int × Bool)
  | 0, _, _, _, _, _, _, _, _ => none
  | k + 1, x15, x16, x663000, x663001, x663002, x663003, x663004, x663005 => if x16 < x15 then ((impl_Die_turn.f x663000 x663001 x663002 x663003 x663004 x663005).bind fun bt666 => (impl_TurnDie.l0 k x15 (wrap64 (x16 + 1)) bt666.1 bt666.2.1 bt666.2.2.1 bt666.2.2.2.1 bt666.2.2.2.2.1 bt666.2.2.2.2.2)) else (some (x663000, x663001, x663002, x663003, x663004, x663005, true))
end
def impl_TurnDie.f (k : Nat) (a0_0 : Int) (a0_1 : Int) (a0_2 : Int) (a0_3 : Int) (a0_4 : Int) (a0_5 : Int) (a1 : Int) : Option (Int × Int × Int × Int × Int × Int × Bool) := (impl_IsDie.f k a0_0 a0_1 a0_2 a0_3 a0_4 a0_5).bind fun t664 => (if t664 = true then ((impl_in.f a1 0 3).bind fun t665 => (impl_TurnDie.j0 k a1 (!t665) a0_0 a0_1 a0_2 a0_3 a0_4 a0_5)) else (impl_TurnDie.j0 k a1 true a0_0 a0_1 a0_2 a0_3 a0_4 a0_5))
theorem impl_TurnDie.mono_l : ∀ k, (∀ y0 y1 y2 y3 y4 y5 y6 y7, LeO (impl_TurnDie.j0 k y0 y1 y2 y3 y4 y5 y6 y7) (impl_TurnDie.j0 (k + 1) y0 y1 y2 y3 y4 y5 y6 y7)) ∧ (∀ y0 y1 y2 y3 y4 y5 y6 y7, LeO (impl_TurnDie.l0 k y0 y1 y2 y3 y4 y5 y6 y7) (impl_TurnDie.l0 (k + 1) y0 y1 y2 y3 y4 y5 y6 y7))
  | 0 => ⟨fun _ _ _ _ _ _ _ _ r h => by simp [impl_TurnDie.j0] at h, fun _ _ _ _ _ _ _ _ r h => by simp [impl_TurnDie.l0] at h⟩
  | k + 1 => by
    obtain ⟨ih0, ih1⟩ := impl_TurnDie.mono_l k
    refine ⟨?_, ?_⟩
    · intro y0 y1 y2 y3 y4 y5 y6 y7
      unfold impl_TurnDie.j0
      repeat' first
      | (with_reducible exact ih0 _ _ _ _ _ _ _ _)
      | (with_reducible exact ih1 _ _ _ _ _ _ _ _)
      | (with_reducible exact impl_IsDie.mono _ _ _ _ _ _ _)
      | (with_reducible exact LeO.refl _)
      | (with_reducible exact LeO.none _)
      | (with_reducible refine LeO.ite ?_ ?_)
      | (with_reducible refine LeO.bind ?_ (fun _ => ?_))
      | exact ih0 _ _ _ _ _ _ _ _
      | exact ih1 _ _ _ _ _ _ _ _
      | exact impl_IsDie.mono _ _ _ _ _ _ _
      | exact LeO.none _
      | refine LeO.ite ?_ ?_
      | refine LeO.bind ?_ (fun _ => ?_)
    · intro y0 y1 y2 y3 y4 y5 y6 y7
      unfold impl_TurnDie.l0
      repeat' first
      | (with_reducible exact ih0 _ _ _ _ _ _ _ _)
      | (with_reducible exact ih1 _ _ _ _ _ _ _ _)
      | (with_reducible exact impl_IsDie.mono _ _ _ _ _ _ _)
      | (with_reducible exact LeO.refl _)
      | (with_reducible exact LeO.none _)
      | (with_reducible refine LeO.ite ?_ ?_)
      | (with_reducible refine LeO.bind ?_ (fun _ => ?_))
      | exact ih0 _ _ _ _ _ _ _ _
      | exact ih1 _ _ _ _ _ _ _ _
      | exact impl_IsDie.mono _ _ _ _ _ _ _
      | exact LeO.none _
      | refine LeO.ite ?_ ?_
      | refine LeO.bind ?_ (fun _ => ?_)
theorem impl_TurnDie.mono : ∀ a0 a1 a2 a3 a4 a5 a6 k, LeO (impl_TurnDie.f k a0 a1 a2 a3 a4 a5 a6) (impl_TurnDie.f (k + 1) a0 a1 a2 a3 a4 a5 a6) := by
  intro a0 a1 a2 a3 a4 a5 a6 k
  obtain ⟨ih0, ih1⟩ := impl_TurnDie.mono_l k
  unfold impl_TurnDie.f
  repeat' first
      | (with_reducible exact ih0 _ _ _ _ _ _ _ _)
      | (with_reducible exact ih1 _ _ _ _ _ _ _ _)
      | (with_reducible exact impl_IsDie.mono _ _ _ _ _ _ _)
      | (with_reducible exact LeO.refl _)
      | (with_reducible exact LeO.none _)
      | (with_reducible refine LeO.ite ?_ ?_)
      | (with_reducible refine LeO.bind ?_ (fun _ => ?_))
      | exact ih0 _ _ _ _ _ _ _ _
      | exact ih1 _ _ _ _ _ _ _ _
      | exact impl_IsDie.mono _ _ _ _ _ _ _
      | exact LeO.none _
      | refine LeO.ite ?_ ?_
      | refine LeO.bind ?_ (fun _ => ?_)
set_option maxHeartbeats 8000000 in
set_option maxRecDepth 100000 in
theorem impl_TurnDie.calls (k : Nat) (a0_0 : Int) (a0_1 : Int) (a0_2 : Int) (a0_3 : Int) (a0_4 : Int) (a0_5 : Int) (a1 : Int) (r1 : Int) (r2 : Int) (r3 : Int) (r4 : Int) (r5 : Int) (r6 : Int) (r7 : Bool) (w : World) (h : impl_TurnDie.f k a0_0 a0_1 a0_2 a0_3 a0_4 a0_5 a1 = some (r1, r2, r3, r4, r5, r6, r7)) :
    Calls Try.prog 82 #[.agg #[.int .i64 a0_0, .int .i64 a0_1, .int .i64 a0_2, .int .i64 a0_3, .int .i64 a0_4, .int .i64 a0_5], .int .i64 a1] w fun e w' => e = .returned (.tuple #[.agg #[.int .i64 r1, .int .i64 r2, .int .i64 r3, .int .i64 r4, .int .i64 r5, .int .i64 r6], .bool r7]) ∧ Below w.heap.size w w' := by
  have hu40 := Try.underlying40
  have HB := Aside0.mk (Below.refl w.heap.size w)
  have H : ((impl_IsDie.f k a0_0 a0_1 a0_2 a0_3 a0_4 a0_5).bind fun t664 => (if t664 = true then ((impl_in.f a1 0 3).bind fun t665 => (impl_TurnDie.j0 k a1 (!t665) a0_0 a0_1 a0_2 a0_3 a0_4 a0_5)) else (impl_TurnDie.j0 k a1 true a0_0 a0_1 a0_2 a0_3 a0_4 a0_5))) = some (r1, r2, r3, r4, r5, r6, r7) := h
  clear h
  have HC3 := Aside0.mk H
  clear H
  go_enter Try.func82, Try.ntmps82
  go_upto_region 1 with (first | ((with_reducible refine gate_dst (N := 2) rfl ?_); refine box_event ?hg (N := 2) ?hd (cs := #[.int .i64 a0_0, .int .i64 a0_1, .int .i64 a0_2, .int .i64 a0_3, .int .i64 a0_4, .int .i64 a0_5]) (t := 40) ?hr ?_; (case hd => rfl); (case hg => rfl); (case hr => first | (go_simp; done) | (go_simp; rfl)); intro gb662 hg w4 hbox hb; have n0_ := Aside0.mk (below_step (by repeat (first | (with_reducible first | exact HB.out | apply below_alloc | apply pw_below_drewN | apply below_drew1) | exact HB.out)) hb); have n1_ := Aside0.mk (hbox); have n2_ := Aside0.mk ((by rw [hg]; exact (below_size (by repeat (first | (with_reducible first | exact HB.out | apply below_alloc | apply pw_below_drewN | apply below_drew1) | exact HB.out))) : w.heap.size ≤ gb662)); have n3_ := Aside0.mk ((by rw [hg]; exact (below_size (by repeat (first | (with_reducible first | exact HB.out | apply below_alloc | apply pw_below_drewN | apply below_drew1) | exact HB.out))) : w.heap.size ≤ gb662)); clear HB; have HB := n0_; have BK662 := n1_; have GW662 := n2_; have GE662 := n3_; clear n0_ n1_ n2_ n3_; clear hb hbox hg) | ((with_reducible refine gate_dst (N := 4) rfl ?_); refine box_event ?hg (N := 4) ?hd (cs := #[.int .i64 0, .int .i64 0, .int .i64 0, .int .i64 0, .int .i64 0, .int .i64 0]) (t := 40) ?hr ?_; (case hd => rfl); (case hg => rfl); (case hr => first | (go_simp; done) | (go_simp; rfl)); intro gb663 hg w5 hbox hb; have n0_ := Aside0.mk (blk_below (g := gb662) (o := .cells #[.int .i64 a0_0, .int .i64 a0_1, .int .i64 a0_2, .int .i64 a0_3, .int .i64 a0_4, .int .i64 a0_5] 40 (0, 0)) (by (with_reducible repeat (first | refine blk_drewN ?_ _ | refine blk_drew ?_ | refine blk_alloc ?_ _)); exact BK662.out) hb); have n1_ := Aside0.mk (below_step (by repeat (first | (with_reducible first | exact HB.out | apply below_alloc | apply pw_below_drewN | apply below_drew1 | refine below_set ?_ GE662.out) | exact HB.out)) hb); have n2_ := Aside0.mk (hbox); have n3_ := Aside0.mk ((by rw [hg]; exact (below_size (by repeat (first | (with_reducible first | exact HB.out | apply below_alloc | apply pw_below_drewN | apply below_drew1 | refine below_set ?_ GE662.out) | exact HB.out))) : w.heap.size ≤ gb663)); have n4_ := Aside0.mk ((by rw [hg]; exact (below_size (by repeat (first | (with_reducible first | exact HB.out | apply below_alloc | apply pw_below_drewN | apply below_drew1 | refine below_set ?_ GE662.out) | exact HB.out))) : w.heap.size ≤ gb663)); have n5_ := Aside0.mk ((by rw [hg]; exact Nat.ne_of_lt (blk_lt (g := gb662) (o := .cells #[.int .i64 a0_0, .int .i64 a0_1, .int .i64 a0_2, .int .i64 a0_3, .int .i64 a0_4, .int .i64 a0_5] 40 (0, 0)) (by (with_reducible repeat (first | refine blk_drewN ?_ _ | refine blk_drew ?_ | refine blk_alloc ?_ _)); exact BK662.out)) : gb662 ≠ gb663)); have n6_ := Aside0.mk ((by rw [hg]; exact Nat.ne_of_gt (blk_lt (g := gb662) (o := .cells #[.int .i64 a0_0, .int .i64 a0_1, .int .i64 a0_2, .int .i64 a0_3, .int .i64 a0_4, .int .i64 a0_5] 40 (0, 0)) (by (with_reducible repeat (first | refine blk_drewN ?_ _ | refine blk_drew ?_ | refine blk_alloc ?_ _)); exact BK662.out)) : gb663 ≠ gb662)); clear BK662; clear HB; have BK662 := n0_; have HB := n1_; have BK663 := n2_; have GW663 := n3_; have GE663 := n4_; have NB662_663 := n5_; have NB663_662 := n6_; clear n0_ n1_ n2_ n3_ n4_ n5_ n6_; clear hb hbox hg))
  (try simp only [Act.put, List.setIfInBounds_toArray, List.set_cons_zero, List.set_cons_succ])
  go_cut [13] (fun v13 wc => ∃ (kq : Nat) (x13_2 : Bool), v13 = .bool x13_2 ∧ Aside0 (impl_TurnDie.j0 kq a1 x13_2 a0_0 a0_1 a0_2 a0_3 a0_4 a0_5 = some (r1, r2, r3, r4, r5, r6, r7)) ∧ Aside0 (kq ≤ k) ∧ Aside0 (wc.heap[gb662]? = some (.cells #[.int .i64 a0_0, .int .i64 a0_1, .int .i64 a0_2, .int .i64 a0_3, .int .i64 a0_4, .int .i64 a0_5] 40 (0, 0))) ∧ Aside0 (wc.heap[gb663]? = some (.cells #[.int .i64 0, .int .i64 0, .int .i64 0, .int .i64 0, .int .i64 0, .int .i64 0] 40 (0, 0))) ∧ Aside0 (Below w.heap.size w wc))
  case first =>
    have H := HC3.out
    clear HC3
    replace H := Option.bind_eq_some_iff.mp H
    obtain ⟨t664, A60, H⟩ := H
    replace H : (if t664 = true then ((impl_in.f a1 0 3).bind fun t665 => (impl_TurnDie.j0 k a1 (!t665) a0_0 a0_1 a0_2 a0_3 a0_4 a0_5)) else (impl_TurnDie.j0 k a1 true a0_0 a0_1 a0_2 a0_3 a0_4 a0_5)) = some (r1, r2, r3, r4, r5, r6, r7) := H
    have A6 := Aside0.mk A60
    clear A60
    by_cases c7 : t664 = true
    · subst c7
      have H1 : ((impl_in.f a1 0 3).bind fun t665 => (impl_TurnDie.j0 k a1 (!t665) a0_0 a0_1 a0_2 a0_3 a0_4 a0_5)) = some (r1, r2, r3, r4, r5, r6, r7) := by rw [if_pos rfl] at H; exact H
      clear H
      have H := H1
      clear H1
      replace H := Option.bind_eq_some_iff.mp H
      obtain ⟨t665, A80, H⟩ := H
      replace H : (impl_TurnDie.j0 k a1 (!t665) a0_0 a0_1 a0_2 a0_3 a0_4 a0_5) = some (r1, r2, r3, r4, r5, r6, r7) := H
      have A8 := Aside0.mk A80
      clear A80
      have H' := Aside0.mk H
      clear H
      have hnb9 := NB662_663.out
      have hnc9 := NB663_662.out
      have hcz10_0 : w5.cell? ⟨gb662, 0, none⟩ = some (.int .i64 a0_0) := (blk_cell BK662.out 0).trans rfl
      have hcz10_1 : w5.cell? ⟨gb662, 1, none⟩ = some (.int .i64 a0_1) := (blk_cell BK662.out 1).trans rfl
      have hcz10_2 : w5.cell? ⟨gb662, 2, none⟩ = some (.int .i64 a0_2) := (blk_cell BK662.out 2).trans rfl
      have hcz10_3 : w5.cell? ⟨gb662, 3, none⟩ = some (.int .i64 a0_3) := (blk_cell BK662.out 3).trans rfl
      have hcz10_4 : w5.cell? ⟨gb662, 4, none⟩ = some (.int .i64 a0_4) := (blk_cell BK662.out 4).trans rfl
      have hcz10_5 : w5.cell? ⟨gb662, 5, none⟩ = some (.int .i64 a0_5) := (blk_cell BK662.out 5).trans rfl
      have hfz10_0 := blk_frozen BK662.out 0
      have hfz10_1 := blk_frozen BK662.out 1
      have hfz10_2 := blk_frozen BK662.out 2
      have hfz10_3 := blk_frozen BK662.out 3
      have hfz10_4 := blk_frozen BK662.out 4
      have hfz10_5 := blk_frozen BK662.out 5
      go_wp2_with (first | ((with_reducible refine gate_callee (f := 64) rfl ?_); refine goesL_ (some 7) rfl rfl Try.func64 (by kernel_rfl) rfl #[.agg #[.int .i64 a0_0, .int .i64 a0_1, .int .i64 a0_2, .int .i64 a0_3, .int .i64 a0_4, .int .i64 a0_5]] rfl (by (try simp only [List.map_toArray, List.map_cons, List.map_nil]); first | done | rfl | (simp only [List.length_drop, List.length_take]; rfl)) ?_; (with_reducible refine (impl_IsDie.calls k a0_0 a0_1 a0_2 a0_3 a0_4 a0_5 true _ A6.out).mono ?_); rintro e w11 ⟨rfl, hb⟩; refine ⟨_, rfl, ?_⟩; have n0_ := Aside0.mk (blk_below (g := gb662) (o := .cells #[.int .i64 a0_0, .int .i64 a0_1, .int .i64 a0_2, .int .i64 a0_3, .int .i64 a0_4, .int .i64 a0_5] 40 (0, 0)) (by (with_reducible repeat (first | refine blk_drewN ?_ _ | refine blk_drew ?_ | refine blk_alloc ?_ _)); exact BK662.out) hb); have n1_ := Aside0.mk (blk_below (g := gb663) (o := .cells #[.int .i64 0, .int .i64 0, .int .i64 0, .int .i64 0, .int .i64 0, .int .i64 0] 40 (0, 0)) (by (with_reducible repeat (first | refine blk_drewN ?_ _ | refine blk_drew ?_ | refine blk_alloc ?_ _)); exact BK663.out) hb); have n2_ := Aside0.mk (below_step (by repeat (first | (with_reducible first | exact HB.out | apply below_alloc | apply pw_below_drewN | apply below_drew1 | refine below_set ?_ GE662.out | refine below_set ?_ GE663.out) | exact HB.out)) hb); clear BK662; clear BK663; clear HB; have BK662 := n0_; have BK663 := n1_; have HB := n2_; clear n0_ n1_ n2_; (try clear hb); (try clear hb2); (try clear hk); (try clear hi)) | (go_at_call 60; (with_reducible refine (impl_in.calls a1 0 3 t665 _ A8.out).mono ?_); rintro e w' ⟨rfl, ⟨nd, rfl⟩⟩))
      go_meet
      case rel => exact ⟨_, (!t665), (by first | rfl | (simp; done) | (simp [*]; done)), H', ⟨by first | omega | exact Nat.le_refl _⟩, ⟨by (with_reducible repeat (first | refine blk_drewN ?_ _ | refine blk_drew ?_ | refine blk_alloc ?_ _)); exact BK662.out⟩, ⟨by (with_reducible repeat (first | refine blk_drewN ?_ _ | refine blk_drew ?_ | refine blk_alloc ?_ _)); exact BK663.out⟩, ⟨by repeat (first | (with_reducible first | exact HB.out | apply below_alloc | apply pw_below_drewN | apply below_drew1 | refine below_set ?_ GE662.out | refine below_set ?_ GE663.out) | exact HB.out)⟩⟩
    · replace c7 := Bool.eq_false_iff.mpr c7
      subst c7
      have H1 : (impl_TurnDie.j0 k a1 true a0_0 a0_1 a0_2 a0_3 a0_4 a0_5) = some (r1, r2, r3, r4, r5, r6, r7) := by rw [if_neg (show ¬ (false = true) by decide)] at H; exact H
      clear H
      have H := H1
      clear H1
      have H' := Aside0.mk H
      clear H
      have hnb12 := NB662_663.out
      have hnc12 := NB663_662.out
      have hcz13_0 : w5.cell? ⟨gb662, 0, none⟩ = some (.int .i64 a0_0) := (blk_cell BK662.out 0).trans rfl
      have hcz13_1 : w5.cell? ⟨gb662, 1, none⟩ = some (.int .i64 a0_1) := (blk_cell BK662.out 1).trans rfl
      have hcz13_2 : w5.cell? ⟨gb662, 2, none⟩ = some (.int .i64 a0_2) := (blk_cell BK662.out 2).trans rfl
      have hcz13_3 : w5.cell? ⟨gb662, 3, none⟩ = some (.int .i64 a0_3) := (blk_cell BK662.out 3).trans rfl
      have hcz13_4 : w5.cell? ⟨gb662, 4, none⟩ = some (.int .i64 a0_4) := (blk_cell BK662.out 4).trans rfl
      have hcz13_5 : w5.cell? ⟨gb662, 5, none⟩ = some (.int .i64 a0_5) := (blk_cell BK662.out 5).trans rfl
      have hfz13_0 := blk_frozen BK662.out 0
      have hfz13_1 := blk_frozen BK662.out 1
      have hfz13_2 := blk_frozen BK662.out 2
      have hfz13_3 := blk_frozen BK662.out 3
      have hfz13_4 := blk_frozen BK662.out 4
      have hfz13_5 := blk_frozen BK662.out 5
      go_wp2_with (first | ((with_reducible refine gate_callee (f := 64) rfl ?_); refine goesL_ (some 7) rfl rfl Try.func64 (by kernel_rfl) rfl #[.agg #[.int .i64 a0_0, .int .i64 a0_1, .int .i64 a0_2, .int .i64 a0_3, .int .i64 a0_4, .int .i64 a0_5]] rfl (by (try simp only [List.map_toArray, List.map_cons, List.map_nil]); first | done | rfl | (simp only [List.length_drop, List.length_take]; rfl)) ?_; (with_reducible refine (impl_IsDie.calls k a0_0 a0_1 a0_2 a0_3 a0_4 a0_5 false _ A6.out).mono ?_); rintro e w14 ⟨rfl, hb⟩; refine ⟨_, rfl, ?_⟩; have n0_ := Aside0.mk (blk_below (g := gb662) (o := .cells #[.int .i64 a0_0, .int .i64 a0_1, .int .i64 a0_2, .int .i64 a0_3, .int .i64 a0_4, .int .i64 a0_5] 40 (0, 0)) (by (with_reducible repeat (first | refine blk_drewN ?_ _ | refine blk_drew ?_ | refine blk_alloc ?_ _)); exact BK662.out) hb); have n1_ := Aside0.mk (blk_below (g := gb663) (o := .cells #[.int .i64 0, .int .i64 0, .int .i64 0, .int .i64 0, .int .i64 0, .int .i64 0] 40 (0, 0)) (by (with_reducible repeat (first | refine blk_drewN ?_ _ | refine blk_drew ?_ | refine blk_alloc ?_ _)); exact BK663.out) hb); have n2_ := Aside0.mk (below_step (by repeat (first | (with_reducible first | exact HB.out | apply below_alloc | apply pw_below_drewN | apply below_drew1 | refine below_set ?_ GE662.out | refine below_set ?_ GE663.out) | exact HB.out)) hb); clear BK662; clear BK663; clear HB; have BK662 := n0_; have BK663 := n1_; have HB := n2_; clear n0_ n1_ n2_; (try clear hb); (try clear hb2); (try clear hk); (try clear hi)))
      go_meet
      case rel => exact ⟨_, (true), (by first | rfl | (simp; done) | (simp [*]; done)), H', ⟨by first | omega | exact Nat.le_refl _⟩, ⟨by (with_reducible repeat (first | refine blk_drewN ?_ _ | refine blk_drew ?_ | refine blk_alloc ?_ _)); exact BK662.out⟩, ⟨by (with_reducible repeat (first | refine blk_drewN ?_ _ | refine blk_drew ?_ | refine blk_alloc ?_ _)); exact BK663.out⟩, ⟨by repeat (first | (with_reducible first | exact HB.out | apply below_alloc | apply pw_below_drewN | apply below_drew1 | refine below_set ?_ GE662.out | refine below_set ?_ GE663.out) | exact HB.out)⟩⟩
  case rest =>
    clear HC3
    try clear c1
    try clear p2
    try clear c6
    try clear c7
    try clear c8
    try clear c9
    try clear c12
    try clear hcz10_0
    try clear hcz10_1
    try clear hcz10_2
    try clear hcz10_3
    try clear hcz10_4
    try clear hcz10_5
    try clear hcz13_0
    try clear hcz13_1
    try clear hcz13_2
    try clear hcz13_3
    try clear hcz13_4
    try clear hcz13_5
    try clear hfz10_0
    try clear hfz10_1
    try clear hfz10_2
    try clear hfz10_3
    try clear hfz10_4
    try clear hfz10_5
    try clear hfz13_0
    try clear hfz13_1
    try clear hfz13_2
    try clear hfz13_3
    try clear hfz13_4
    try clear hfz13_5
    obtain ⟨kq, x13_2, rfl, HA, HJ2, BK662, BK663, HB⟩ := hcut
    cases kq with
    | zero => exact absurd HA.out (by simp [impl_TurnDie.j0])
    | succ kj2 =>
      have H := HA.out
      clear HA
      simp only [impl_TurnDie.j0] at H
      by_cases c15 : x13_2 = true
      · subst c15
        have H1 : (some (0, 0, 0, 0, 0, 0, false)) = some (r1, r2, r3, r4, r5, r6, r7) := by rw [if_pos rfl] at H; exact H
        clear H
        have H := H1
        clear H1
        simp only [Option.some.injEq, Prod.mk.injEq] at H
        obtain ⟨rfl, rfl, rfl, rfl, rfl, rfl, rfl⟩ := H
        have hnb16 := NB663_662.out
        have hnc16 := NB662_663.out
        have hcz17_0 : wc.cell? ⟨gb663, 0, none⟩ = some (.int .i64 0) := (blk_cell BK663.out 0).trans rfl
        have hcz17_1 : wc.cell? ⟨gb663, 1, none⟩ = some (.int .i64 0) := (blk_cell BK663.out 1).trans rfl
        have hcz17_2 : wc.cell? ⟨gb663, 2, none⟩ = some (.int .i64 0) := (blk_cell BK663.out 2).trans rfl
        have hcz17_3 : wc.cell? ⟨gb663, 3, none⟩ = some (.int .i64 0) := (blk_cell BK663.out 3).trans rfl
        have hcz17_4 : wc.cell? ⟨gb663, 4, none⟩ = some (.int .i64 0) := (blk_cell BK663.out 4).trans rfl
        have hcz17_5 : wc.cell? ⟨gb663, 5, none⟩ = some (.int .i64 0) := (blk_cell BK663.out 5).trans rfl
        have hfz17_0 := blk_frozen BK663.out 0
        have hfz17_1 := blk_frozen BK663.out 1
        have hfz17_2 := blk_frozen BK663.out 2
        have hfz17_3 := blk_frozen BK663.out 3
        have hfz17_4 := blk_frozen BK663.out 4
        have hfz17_5 := blk_frozen BK663.out 5
        go_wp2
        refine bodyPost_ret (results_ct rfl _ _ gb663 40 #[.int .i64 0, .int .i64 0, .int .i64 0, .int .i64 0, .int .i64 0, .int .i64 0] (0, 0) _ rfl (by (with_reducible repeat (first | refine blk_drewN ?_ _ | refine blk_drew ?_ | refine blk_alloc ?_ _)); refine blk_put (cs := #[.int .i64 0, .int .i64 0, .int .i64 0, .int .i64 0, .int .i64 0, .int .i64 0]) ?_ 5 _ rfl; (with_reducible repeat (first | refine blk_drewN ?_ _ | refine blk_drew ?_ | refine blk_alloc ?_ _)); refine blk_put (cs := #[.int .i64 0, .int .i64 0, .int .i64 0, .int .i64 0, .int .i64 0, .int .i64 0]) ?_ 4 _ rfl; (with_reducible repeat (first | refine blk_drewN ?_ _ | refine blk_drew ?_ | refine blk_alloc ?_ _)); refine blk_put (cs := #[.int .i64 0, .int .i64 0, .int .i64 0, .int .i64 0, .int .i64 0, .int .i64 0]) ?_ 3 _ rfl; (with_reducible repeat (first | refine blk_drewN ?_ _ | refine blk_drew ?_ | refine blk_alloc ?_ _)); refine blk_put (cs := #[.int .i64 0, .int .i64 0, .int .i64 0, .int .i64 0, .int .i64 0, .int .i64 0]) ?_ 2 _ rfl; (with_reducible repeat (first | refine blk_drewN ?_ _ | refine blk_drew ?_ | refine blk_alloc ?_ _)); refine blk_put (cs := #[.int .i64 0, .int .i64 0, .int .i64 0, .int .i64 0, .int .i64 0, .int .i64 0]) ?_ 1 _ rfl; (with_reducible repeat (first | refine blk_drewN ?_ _ | refine blk_drew ?_ | refine blk_alloc ?_ _)); refine blk_put (cs := #[.int .i64 0, .int .i64 0, .int .i64 0, .int .i64 0, .int .i64 0, .int .i64 0]) ?_ 0 _ rfl; (with_reducible repeat (first | refine blk_drewN ?_ _ | refine blk_drew ?_ | refine blk_alloc ?_ _)); exact BK663.out) Try.underlying40 rfl (by kernel_rfl)) rfl ?_
        exact ⟨by first | rfl | (simp [errW_none, errW_some] <;> rfl) | (simp [*, errW_none, errW_some] <;> rfl), by repeat (first | (with_reducible first | exact HB.out | apply below_alloc | apply pw_below_drewN | apply below_drew1 | refine below_set ?_ GE662.out | refine below_set ?_ GE663.out) | exact HB.out)⟩
      · replace c15 := Bool.eq_false_iff.mpr c15
        subst c15
        have H1 : (impl_TurnDie.l0 kj2 a1 0 a0_0 a0_1 a0_2 a0_3 a0_4 a0_5) = some (r1, r2, r3, r4, r5, r6, r7) := by rw [if_neg (show ¬ (false = true) by decide)] at H; exact H
        clear H
        have H := H1
        clear H1
        have H' := Aside0.mk H
        clear H
        go_wp2
        go_loopg [16] kj2 (fun kq v16 w' => ∃ (x16_2 : Int) (x663000_2 : Int) (x663001_2 : Int) (x663002_2 : Int) (x663003_2 : Int) (x663004_2 : Int) (x663005_2 : Int), v16 = .int .i64 x16_2 ∧ Aside0 (impl_TurnDie.l0 kq a1 x16_2 x663000_2 x663001_2 x663002_2 x663003_2 x663004_2 x663005_2 = some (r1, r2, r3, r4, r5, r6, r7)) ∧ Aside0 (kq ≤ kj2) ∧ Aside0 (w'.heap[gb662]? = some (.cells #[.int .i64 x663000_2, .int .i64 x663001_2, .int .i64 x663002_2, .int .i64 x663003_2, .int .i64 x663004_2, .int .i64 x663005_2] 40 (0, 0))) ∧ Aside0 (w'.heap[gb663]? = some (.cells #[.int .i64 0, .int .i64 0, .int .i64 0, .int .i64 0, .int .i64 0, .int .i64 0] 40 (0, 0))) ∧ Aside0 (Below w.heap.size w w'))
        case atStart => exact ⟨(0), (a0_0), (a0_1), (a0_2), (a0_3), (a0_4), (a0_5), (by first | rfl | (simp; done) | (simp [*]; done)), H', ⟨Nat.le_refl _⟩, ⟨by (with_reducible repeat (first | refine blk_drewN ?_ _ | refine blk_drew ?_ | refine blk_alloc ?_ _)); exact BK662.out⟩, ⟨by (with_reducible repeat (first | refine blk_drewN ?_ _ | refine blk_drew ?_ | refine blk_alloc ?_ _)); exact BK663.out⟩, ⟨by repeat (first | (with_reducible first | exact HB.out | apply below_alloc | apply pw_below_drewN | apply below_drew1 | refine below_set ?_ GE662.out | refine below_set ?_ GE663.out) | exact HB.out)⟩⟩
        case round =>
          clear H'
          try clear c1
          try clear p2
          try clear c6
          try clear c7
          try clear c8
          try clear c9
          try clear c12
          try clear c15
          try clear c16
          try clear hcz10_0
          try clear hcz10_1
          try clear hcz10_2
          try clear hcz10_3
          try clear hcz10_4
          try clear hcz10_5
          try clear hcz13_0
          try clear hcz13_1
          try clear hcz13_2
          try clear hcz13_3
          try clear hcz13_4
          try clear hcz13_5
          try clear hcz17_0
          try clear hcz17_1
          try clear hcz17_2
          try clear hcz17_3
          try clear hcz17_4
          try clear hcz17_5
          try clear hfz10_0
          try clear hfz10_1
          try clear hfz10_2
          try clear hfz10_3
          try clear hfz10_4
          try clear hfz10_5
          try clear hfz13_0
          try clear hfz13_1
          try clear hfz13_2
          try clear hfz13_3
          try clear hfz13_4
          try clear hfz13_5
          try clear hfz17_0
          try clear hfz17_1
          try clear hfz17_2
          try clear hfz17_3
          try clear hfz17_4
          try clear hfz17_5
          try clear p2
          obtain ⟨x16_2, x663000_2, x663001_2, x663002_2, x663003_2, x663004_2, x663005_2, rfl, HA, HK2, BK662, BK663, HB⟩ := hrel
          cases gk with
          | zero => exact absurd HA.out (by simp [impl_TurnDie.l0])
          | succ k2 =>
            have H := HA.out
            clear HA
            simp only [impl_TurnDie.l0] at H
            by_cases c18 : x16_2 < a1
            · rw [if_pos c18] at H
              have c18b0 : decide (x16_2 < a1) = true := decide_eq_true c18
              clear c18
              replace H := Option.bind_eq_some_iff.mp H
              obtain ⟨⟨t666, t667, t668, t669, t670, t671⟩, A190, H⟩ := H
              replace H : (impl_TurnDie.l0 k2 a1 (wrap64 (x16_2 + 1)) t666 t667 t668 t669 t670 t671) = some (r1, r2, r3, r4, r5, r6, r7) := H
              have A19 := Aside0.mk A190
              clear A190
              have H' := Aside0.mk H
              clear H
              have hnb20 := NB662_663.out
              have hnc20 := NB663_662.out
              have hcz21_0 : wr.cell? ⟨gb662, 0, none⟩ = some (.int .i64 x663000_2) := (blk_cell BK662.out 0).trans rfl
              have hcz21_1 : wr.cell? ⟨gb662, 1, none⟩ = some (.int .i64 x663001_2) := (blk_cell BK662.out 1).trans rfl
              have hcz21_2 : wr.cell? ⟨gb662, 2, none⟩ = some (.int .i64 x663002_2) := (blk_cell BK662.out 2).trans rfl
              have hcz21_3 : wr.cell? ⟨gb662, 3, none⟩ = some (.int .i64 x663003_2) := (blk_cell BK662.out 3).trans rfl
              have hcz21_4 : wr.cell? ⟨gb662, 4, none⟩ = some (.int .i64 x663004_2) := (blk_cell BK662.out 4).trans rfl
              have hcz21_5 : wr.cell? ⟨gb662, 5, none⟩ = some (.int .i64 x663005_2) := (blk_cell BK662.out 5).trans rfl
              have hfz21_0 := blk_frozen BK662.out 0
              have hfz21_1 := blk_frozen BK662.out 1
              have hfz21_2 := blk_frozen BK662.out 2
              have hfz21_3 := blk_frozen BK662.out 3
              have hfz21_4 := blk_frozen BK662.out 4
              have hfz21_5 := blk_frozen BK662.out 5
              go_wp2_with (first | ((with_reducible refine gate_callee (f := 104) rfl ?_); refine goesL_ (some 19) rfl rfl Try.func104 (by kernel_rfl) rfl #[.agg #[.int .i64 x663000_2, .int .i64 x663001_2, .int .i64 x663002_2, .int .i64 x663003_2, .int .i64 x663004_2, .int .i64 x663005_2]] rfl (by (try simp only [List.map_toArray, List.map_cons, List.map_nil]); first | done | rfl | (simp only [List.length_drop, List.length_take]; rfl)) ?_; (with_reducible refine (impl_Die_turn.calls x663000_2 x663001_2 x663002_2 x663003_2 x663004_2 x663005_2 t666 t667 t668 t669 t670 t671 _ A19.out).mono ?_); rintro e w22 ⟨rfl, hb⟩; refine ⟨_, rfl, ?_⟩; have n0_ := Aside0.mk (blk_below (g := gb662) (o := .cells #[.int .i64 x663000_2, .int .i64 x663001_2, .int .i64 x663002_2, .int .i64 x663003_2, .int .i64 x663004_2, .int .i64 x663005_2] 40 (0, 0)) (by (with_reducible repeat (first | refine blk_drewN ?_ _ | refine blk_drew ?_ | refine blk_alloc ?_ _)); exact BK662.out) hb); have n1_ := Aside0.mk (blk_below (g := gb663) (o := .cells #[.int .i64 0, .int .i64 0, .int .i64 0, .int .i64 0, .int .i64 0, .int .i64 0] 40 (0, 0)) (by (with_reducible repeat (first | refine blk_drewN ?_ _ | refine blk_drew ?_ | refine blk_alloc ?_ _)); exact BK663.out) hb); have n2_ := Aside0.mk (below_step (by repeat (first | (with_reducible first | exact HB.out | apply below_alloc | apply pw_below_drewN | apply below_drew1 | refine below_set ?_ GE662.out | refine below_set ?_ GE663.out) | exact HB.out)) hb); clear BK662; clear BK663; clear HB; have BK662 := n0_; have BK663 := n1_; have HB := n2_; clear n0_ n1_ n2_; (try clear hb); (try clear hb2); (try clear hk); (try clear hi); have hcz23_0 : w22.cell? ⟨gb662, 0, none⟩ = some (.int .i64 x663000_2) := (blk_cell BK662.out 0).trans rfl; have hcz23_1 : w22.cell? ⟨gb662, 1, none⟩ = some (.int .i64 x663001_2) := (blk_cell BK662.out 1).trans rfl; have hcz23_2 : w22.cell? ⟨gb662, 2, none⟩ = some (.int .i64 x663002_2) := (blk_cell BK662.out 2).trans rfl; have hcz23_3 : w22.cell? ⟨gb662, 3, none⟩ = some (.int .i64 x663003_2) := (blk_cell BK662.out 3).trans rfl; have hcz23_4 : w22.cell? ⟨gb662, 4, none⟩ = some (.int .i64 x663004_2) := (blk_cell BK662.out 4).trans rfl; have hcz23_5 : w22.cell? ⟨gb662, 5, none⟩ = some (.int .i64 x663005_2) := (blk_cell BK662.out 5).trans rfl; have hfz23_0 := blk_frozen BK662.out 0; have hfz23_1 := blk_frozen BK662.out 1; have hfz23_2 := blk_frozen BK662.out 2; have hfz23_3 := blk_frozen BK662.out 3; have hfz23_4 := blk_frozen BK662.out 4; have hfz23_5 := blk_frozen BK662.out 5))
              go_roundg k2
              case measure => have := HJ2.out; have := HK2.out; omega
              case rel => exact ⟨(wrap64 (x16_2 + 1)), (t666), (t667), (t668), (t669), (t670), (t671), (by first | rfl | (simp; done) | (simp [*]; done)), H', ⟨by have := HJ2.out; have := HK2.out; omega⟩, ⟨by (with_reducible repeat (first | refine blk_drewN ?_ _ | refine blk_drew ?_ | refine blk_alloc ?_ _)); refine blk_put (cs := #[.int .i64 t666, .int .i64 t667, .int .i64 t668, .int .i64 t669, .int .i64 t670, .int .i64 x663005_2]) ?_ 5 _ rfl; (with_reducible repeat (first | refine blk_drewN ?_ _ | refine blk_drew ?_ | refine blk_alloc ?_ _)); refine blk_put (cs := #[.int .i64 t666, .int .i64 t667, .int .i64 t668, .int .i64 t669, .int .i64 x663004_2, .int .i64 x663005_2]) ?_ 4 _ rfl; (with_reducible repeat (first | refine blk_drewN ?_ _ | refine blk_drew ?_ | refine blk_alloc ?_ _)); refine blk_put (cs := #[.int .i64 t666, .int .i64 t667, .int .i64 t668, .int .i64 x663003_2, .int .i64 x663004_2, .int .i64 x663005_2]) ?_ 3 _ rfl; (with_reducible repeat (first | refine blk_drewN ?_ _ | refine blk_drew ?_ | refine blk_alloc ?_ _)); refine blk_put (cs := #[.int .i64 t666, .int .i64 t667, .int .i64 x663002_2, .int .i64 x663003_2, .int .i64 x663004_2, .int .i64 x663005_2]) ?_ 2 _ rfl; (with_reducible repeat (first | refine blk_drewN ?_ _ | refine blk_drew ?_ | refine blk_alloc ?_ _)); refine blk_put (cs := #[.int .i64 t666, .int .i64 x663001_2, .int .i64 x663002_2, .int .i64 x663003_2, .int .i64 x663004_2, .int .i64 x663005_2]) ?_ 1 _ rfl; (with_reducible repeat (first | refine blk_drewN ?_ _ | refine blk_drew ?_ | refine blk_alloc ?_ _)); refine blk_put (cs := #[.int .i64 x663000_2, .int .i64 x663001_2, .int .i64 x663002_2, .int .i64 x663003_2, .int .i64 x663004_2, .int .i64 x663005_2]) ?_ 0 _ rfl; (with_reducible repeat (first | refine blk_drewN ?_ _ | refine blk_drew ?_ | refine blk_alloc ?_ _)); exact BK662.out⟩, ⟨by (with_reducible repeat (first | refine blk_drewN ?_ _ | refine blk_drew ?_ | refine blk_alloc ?_ _)); refine blk_far ?_ NB663_662.out _; (with_reducible repeat (first | refine blk_drewN ?_ _ | refine blk_drew ?_ | refine blk_alloc ?_ _)); refine blk_far ?_ NB663_662.out _; (with_reducible repeat (first | refine blk_drewN ?_ _ | refine blk_drew ?_ | refine blk_alloc ?_ _)); refine blk_far ?_ NB663_662.out _; (with_reducible repeat (first | refine blk_drewN ?_ _ | refine blk_drew ?_ | refine blk_alloc ?_ _)); refine blk_far ?_ NB663_662.out _; (with_reducible repeat (first | refine blk_drewN ?_ _ | refine blk_drew ?_ | refine blk_alloc ?_ _)); refine blk_far ?_ NB663_662.out _; (with_reducible repeat (first | refine blk_drewN ?_ _ | refine blk_drew ?_ | refine blk_alloc ?_ _)); refine blk_far ?_ NB663_662.out _; (with_reducible repeat (first | refine blk_drewN ?_ _ | refine blk_drew ?_ | refine blk_alloc ?_ _)); exact BK663.out⟩, ⟨by repeat (first | (with_reducible first | exact HB.out | apply below_alloc | apply pw_below_drewN | apply below_drew1 | refine below_set ?_ GE662.out | refine below_set ?_ GE663.out) | exact HB.out)⟩⟩
            · rw [if_neg c18] at H
              have c18b0 : decide (x16_2 < a1) = false := decide_eq_false c18
              clear c18
              simp only [Option.some.injEq, Prod.mk.injEq] at H
              obtain ⟨rfl, rfl, rfl, rfl, rfl, rfl, rfl⟩ := H
              have hnb24 := NB662_663.out
              have hnc24 := NB663_662.out
              have hcz25_0 : wr.cell? ⟨gb662, 0, none⟩ = some (.int .i64 x663000_2) := (blk_cell BK662.out 0).trans rfl
              have hcz25_1 : wr.cell? ⟨gb662, 1, none⟩ = some (.int .i64 x663001_2) := (blk_cell BK662.out 1).trans rfl
              have hcz25_2 : wr.cell? ⟨gb662, 2, none⟩ = some (.int .i64 x663002_2) := (blk_cell BK662.out 2).trans rfl
              have hcz25_3 : wr.cell? ⟨gb662, 3, none⟩ = some (.int .i64 x663003_2) := (blk_cell BK662.out 3).trans rfl
              have hcz25_4 : wr.cell? ⟨gb662, 4, none⟩ = some (.int .i64 x663004_2) := (blk_cell BK662.out 4).trans rfl
              have hcz25_5 : wr.cell? ⟨gb662, 5, none⟩ = some (.int .i64 x663005_2) := (blk_cell BK662.out 5).trans rfl
              have hfz25_0 := blk_frozen BK662.out 0
              have hfz25_1 := blk_frozen BK662.out 1
              have hfz25_2 := blk_frozen BK662.out 2
              have hfz25_3 := blk_frozen BK662.out 3
              have hfz25_4 := blk_frozen BK662.out 4
              have hfz25_5 := blk_frozen BK662.out 5
              have hcz26_0 : wr.cell? ⟨gb663, 0, none⟩ = some (.int .i64 0) := (blk_cell BK663.out 0).trans rfl
              have hcz26_1 : wr.cell? ⟨gb663, 1, none⟩ = some (.int .i64 0) := (blk_cell BK663.out 1).trans rfl
              have hcz26_2 : wr.cell? ⟨gb663, 2, none⟩ = some (.int .i64 0) := (blk_cell BK663.out 2).trans rfl
              have hcz26_3 : wr.cell? ⟨gb663, 3, none⟩ = some (.int .i64 0) := (blk_cell BK663.out 3).trans rfl
              have hcz26_4 : wr.cell? ⟨gb663, 4, none⟩ = some (.int .i64 0) := (blk_cell BK663.out 4).trans rfl
              have hcz26_5 : wr.cell? ⟨gb663, 5, none⟩ = some (.int .i64 0) := (blk_cell BK663.out 5).trans rfl
              have hfz26_0 := blk_frozen BK663.out 0
              have hfz26_1 := blk_frozen BK663.out 1
              have hfz26_2 := blk_frozen BK663.out 2
              have hfz26_3 := blk_frozen BK663.out 3
              have hfz26_4 := blk_frozen BK663.out 4
              have hfz26_5 := blk_frozen BK663.out 5
              go_wp2
              refine bodyPost_ret (results_ct rfl _ _ gb663 40 #[.int .i64 x663000_2, .int .i64 x663001_2, .int .i64 x663002_2, .int .i64 x663003_2, .int .i64 x663004_2, .int .i64 x663005_2] (0, 0) _ rfl (by (with_reducible repeat (first | refine blk_drewN ?_ _ | refine blk_drew ?_ | refine blk_alloc ?_ _)); refine blk_put (cs := #[.int .i64 x663000_2, .int .i64 x663001_2, .int .i64 x663002_2, .int .i64 x663003_2, .int .i64 x663004_2, .int .i64 0]) ?_ 5 _ rfl; (with_reducible repeat (first | refine blk_drewN ?_ _ | refine blk_drew ?_ | refine blk_alloc ?_ _)); refine blk_put (cs := #[.int .i64 x663000_2, .int .i64 x663001_2, .int .i64 x663002_2, .int .i64 x663003_2, .int .i64 0, .int .i64 0]) ?_ 4 _ rfl; (with_reducible repeat (first | refine blk_drewN ?_ _ | refine blk_drew ?_ | refine blk_alloc ?_ _)); refine blk_put (cs := #[.int .i64 x663000_2, .int .i64 x663001_2, .int .i64 x663002_2, .int .i64 0, .int .i64 0, .int .i64 0]) ?_ 3 _ rfl; (with_reducible repeat (first | refine blk_drewN ?_ _ | refine blk_drew ?_ | refine blk_alloc ?_ _)); refine blk_put (cs := #[.int .i64 x663000_2, .int .i64 x663001_2, .int .i64 0, .int .i64 0, .int .i64 0, .int .i64 0]) ?_ 2 _ rfl; (with_reducible repeat (first | refine blk_drewN ?_ _ | refine blk_drew ?_ | refine blk_alloc ?_ _)); refine blk_put (cs := #[.int .i64 x663000_2, .int .i64 0, .int .i64 0, .int .i64 0, .int .i64 0, .int .i64 0]) ?_ 1 _ rfl; (with_reducible repeat (first | refine blk_drewN ?_ _ | refine blk_drew ?_ | refine blk_alloc ?_ _)); refine blk_put (cs := #[.int .i64 0, .int .i64 0, .int .i64 0, .int .i64 0, .int .i64 0, .int .i64 0]) ?_ 0 _ rfl; (with_reducible repeat (first | refine blk_drewN ?_ _ | refine blk_drew ?_ | refine blk_alloc ?_ _)); exact BK663.out) Try.underlying40 rfl (by kernel_rfl)) rfl ?_
              exact ⟨by first | rfl | (simp [errW_none, errW_some] <;> rfl) | (simp [*, errW_none, errW_some] <;> rfl), by repeat (first | (with_reducible first | exact HB.out | apply below_alloc | apply pw_below_drewN | apply below_drew1 | refine below_set ?_ GE662.out | refine below_set ?_ GE663.out) | exact HB.out)⟩

end Go.Proofs.Ythnheffndhbebaa.P

namespace Go.Proofs.Ythnheffndhbebaa.P
open Go.RowKit Go.Proofs.YthnheffndhbebaaW.PrintWords Go.Proofs.YthnheffndhbebaaW.PrintLast Go.Proofs.YthnheffndhbebaaW.PrintMore
attribute [local go_sem] max2_int min2_int max_two min_two max_three min_three max_four min_four   -- for this text's walks alone
set_option linter.unusedVariables false
set_option linter.unusedSimpArgs false

/-! ### impl_TurnTower: function 42 -/
mutual
def impl_TurnTower.j0 : Nat → List (S40) → Int → Bool → Option ((List (S40)) × Bool)
  | 0, _, _, _ => none
  | k + 1, x0, x1, x18 => if x18 = true then (some (([] : List (S40)), false)) else (impl_TurnTower.l0 k x1 (([] : List (S40))) x0 (x0.length : Int) 0)
def impl_TurnTower.l0 : Nat → Int → List (S40) → List (S40) → Int → Int → Option ((List (S40)) × Bool)
  | 0, _, _, _, _, _ => none
  | k + 1, x1, x6, x20, x21, x22 => if x22 < x21 then (if 0 ≤ x22 then (if x22 < (x20.length : Int) then ((impl_TurnDie.f k ((rd_T40 x20 x22).f0) ((rd_T40 x20 x22).f1) ((rd_T40 x20 x22).f2) ((rd_T40 x20 x22).f3) ((rd_T40 x20 x22).f4) ((rd_T40 x20 x22).f5) x1).bind fun bt679 => (if x6.length < 2932031007402 then (impl_TurnTower.l0 k x1 (x6 ++ [(⟨bt679.1, bt679.2.1, bt679.2.2.1, bt679.2.2.2.1, bt679.2.2.2.2.1, bt679.2.2.2.2.2.1⟩ : S40)]) x20 x21 (wrap64 (x22 + 1))) else (none))) else (none)) else (none)) else (some (x6, true))
end
def impl_TurnTower.f (k : Nat) (l0 : List (S40)) (a1 : Int) : Option ((List (S40)) × Bool) := (impl_areTower.f k l0).bind fun t672 => (if t672 = true then ((impl_in.f a1 0 3).bind fun t673 => (impl_TurnTower.j0 k l0 a1 (!t673))) else (impl_TurnTower.j0 k l0 a1 true))
theorem impl_TurnTower.mono_l : ∀ k, (∀ y0 y1 y2, LeO (impl_TurnTower.j0 k y0 y1 y2) (impl_TurnTower.j0 (k + 1) y0 y1 y2)) ∧ (∀ y0 y1 y2 y3 y4, LeO (impl_TurnTower.l0 k y0 y1 y2 y3 y4) (impl_TurnTower.l0 (k + 1) y0 y1 y2 y3 y4))
  | 0 => ⟨fun _ _ _ r h => by simp [impl_TurnTower.j0] at h, fun _ _ _ _ _ r h => by simp [impl_TurnTower.l0] at h⟩
  | k + 1 => by
    obtain ⟨ih0, ih1⟩ := impl_TurnTower.mono_l k
    refine ⟨?_, ?_⟩
    · intro y0 y1 y2
      unfold impl_TurnTower.j0
      repeat' first
      | (with_reducible exact ih0 _ _ _)
      | (with_reducible exact ih1 _ _ _ _ _)
      | (with_reducible exact impl_TurnDie.mono _ _ _ _ _ _ _ _)
      | (with_reducible exact impl_areTower.mono _ _)
      | (with_reducible exact LeO.refl _)
      | (with_reducible exact LeO.none _)
      | (with_reducible refine LeO.ite ?_ ?_)
      | (with_reducible refine LeO.bind ?_ (fun _ => ?_))
      | exact ih0 _ _ _
      | exact ih1 _ _ _ _ _
      | exact impl_TurnDie.mono _ _ _ _ _ _ _ _
      | exact impl_areTower.mono _ _
      | exact LeO.none _
      | refine LeO.ite ?_ ?_
      | refine LeO.bind ?_ (fun _ => ?_)
    · intro y0 y1 y2 y3 y4
      unfold impl_TurnTower.l0
      repeat' first
      | (with_reducible exact ih0 _ _ _)
      | (with_reducible exact ih1 _ _ _ _ _)
      | (with_reducible exact impl_TurnDie.mono _ _ _ _ _ _ _ _)
      | (with_reducible exact impl_areTower.mono _ _)
      | (with_reducible exact LeO.refl _)
      | (with_reducible exact LeO.none _)
      | (with_reducible refine LeO.ite ?_ ?_)
      | (with_reducible refine LeO.bind ?_ (fun _ => ?_))
      | exact ih0 _ _ _
      | exact ih1 _ _ _ _ _
      | exact impl_TurnDie.mono _ _ _ _ _ _ _ _
      | exact impl_areTower.mono _ _
      | exact LeO.none _
      | refine LeO.ite ?_ ?_
      | refine LeO.bind ?_ (fun _ => ?_)
theorem impl_TurnTower.mono : ∀ a0 a1 k, LeO (impl_TurnTower.f k a0 a1) (impl_TurnTower.f (k + 1) a0 a1) := by
  intro a0 a1 k
  obtain ⟨ih0, ih1⟩ := impl_TurnTower.mono_l k
  unfold impl_TurnTower.f
  repeat' first
      | (with_reducible exact ih0 _ _ _)
      | (with_reducible exact ih1 _ _ _ _ _)
      | (with_reducible exact impl_TurnDie.mono _ _ _ _ _ _ _ _)
      | (with_reducible exact impl_areTower.mono _ _)
      | (with_reducible exact LeO.refl _)
      | (with_reducible exact LeO.none _)
      | (with_reducible refine LeO.ite ?_ ?_)
      | (with_reducible refine LeO.bind ?_ (fun _ => ?_))
      | exact ih0 _ _ _
      | exact ih1 _ _ _ _ _
      | exact impl_TurnDie.mono _ _ _ _ _ _ _ _
      | exact impl_areTower.mono _ _
      | exact LeO.none _
      | refine LeO.ite ?_ ?_
      | refine LeO.bind ?_ (fun _ => ?_)
set_option maxHeartbeats 8000000 in
set_option maxRecDepth 100000 in
theorem impl_TurnTower.calls (k : Nat) (A0 : Option Addr) (c0 : Nat) (l0 : List (S40)) (a1 : Int) (r1 : List (S40)) (r2 : Bool) (w : World) (hr0 : Kd.C k40 w A0 l0.length l0) (hc0 : l0.length ≤ c0) (h : impl_TurnTower.f k l0 a1 = some (r1, r2)) :
    Calls Try.prog 42 #[.slice A0 l0.length c0, .int .i64 a1] w fun e w' => ∃ v0_ : Value, e = .returned (.tuple #[v0_, .bool r2]) ∧ Kd.R k40 40 w' w.heap.size (fun _ => True) v0_ r1 ∧ Below w.heap.size w w' := by
  have hu40 := Try.underlying40
  have HR0 := Aside0.mk hr0
  have HC0 := Aside0.mk hc0
  clear hr0 hc0
  have HB := Aside0.mk (Below.refl w.heap.size w)
  have H : ((impl_areTower.f k l0).bind fun t672 => (if t672 = true then ((impl_in.f a1 0 3).bind fun t673 => (impl_TurnTower.j0 k l0 a1 (!t673))) else (impl_TurnTower.j0 k l0 a1 true))) = some (r1, r2) := h
  clear h
  have HC3 := Aside0.mk H
  clear H
  go_enter Try.func42, Try.ntmps42
  go_upto_region 1 with (fail)
  go_cut [18] (fun v18 wc => ∃ (kq : Nat) (x18_2 : Bool), v18 = .bool x18_2 ∧ Aside0 (impl_TurnTower.j0 kq l0 a1 x18_2 = some (r1, r2)) ∧ Aside0 (kq ≤ k) ∧ Aside0 (Below w.heap.size w wc))
  case first =>
    have H := HC3.out
    clear HC3
    replace H := Option.bind_eq_some_iff.mp H
    obtain ⟨t672, A40, H⟩ := H
    replace H : (if t672 = true then ((impl_in.f a1 0 3).bind fun t673 => (impl_TurnTower.j0 k l0 a1 (!t673))) else (impl_TurnTower.j0 k l0 a1 true)) = some (r1, r2) := H
    have A4 := Aside0.mk A40
    clear A40
    by_cases c5 : t672 = true
    · subst c5
      have H1 : ((impl_in.f a1 0 3).bind fun t673 => (impl_TurnTower.j0 k l0 a1 (!t673))) = some (r1, r2) := by rw [if_pos rfl] at H; exact H
      clear H
      have H := H1
      clear H1
      replace H := Option.bind_eq_some_iff.mp H
      obtain ⟨t673, A60, H⟩ := H
      replace H : (impl_TurnTower.j0 k l0 a1 (!t673)) = some (r1, r2) := H
      have A6 := Aside0.mk A60
      clear A60
      have H' := Aside0.mk H
      clear H
      go_wp2_with (first | ((with_reducible refine gate_callee (f := 77) rfl ?_); refine goesL_ (some 12) rfl rfl Try.func77 (by kernel_rfl) rfl #[.slice A0 l0.length c0] rfl (by (try simp only [List.map_toArray, List.map_cons, List.map_nil]); first | done | rfl | (simp only [List.length_drop, List.length_take]; rfl)) ?_; (with_reducible refine (impl_areTower.calls k _ _ l0 true _ ?side1 ?side2 A4.out).mono ?_); (case side1 => repeat (first | exact (Kd.C_below HR0.out HB.out) | (with_reducible refine Kd.C_alloc ?_ _) | (with_reducible refine Kd.C_drewN ?_ _) | (with_reducible refine Kd.C_drew ?_))); (case side2 => exact HC0.out); rintro e w7 ⟨rfl, hb⟩; refine ⟨_, rfl, ?_⟩; have n0_ := Aside0.mk (below_step (by repeat (first | (with_reducible first | exact HB.out | apply below_alloc | apply pw_below_drewN | apply below_drew1) | exact HB.out)) hb); clear HB; have HB := n0_; clear n0_; (try clear hb); (try clear hb2); (try clear hk); (try clear hi)) | (go_at_call 60; (with_reducible refine (impl_in.calls a1 0 3 t673 _ A6.out).mono ?_); rintro e w' ⟨rfl, ⟨nd, rfl⟩⟩))
      go_meet
      case rel => exact ⟨_, (!t673), (by first | rfl | (simp; done) | (simp [*]; done)), H', ⟨by first | omega | exact Nat.le_refl _⟩, ⟨by repeat (first | (with_reducible first | exact HB.out | apply below_alloc | apply pw_below_drewN | apply below_drew1) | exact HB.out)⟩⟩
    · replace c5 := Bool.eq_false_iff.mpr c5
      subst c5
      have H1 : (impl_TurnTower.j0 k l0 a1 true) = some (r1, r2) := by rw [if_neg (show ¬ (false = true) by decide)] at H; exact H
      clear H
      have H := H1
      clear H1
      have H' := Aside0.mk H
      clear H
      go_wp2_with (first | ((with_reducible refine gate_callee (f := 77) rfl ?_); refine goesL_ (some 12) rfl rfl Try.func77 (by kernel_rfl) rfl #[.slice A0 l0.length c0] rfl (by (try simp only [List.map_toArray, List.map_cons, List.map_nil]); first | done | rfl | (simp only [List.length_drop, List.length_take]; rfl)) ?_; (with_reducible refine (impl_areTower.calls k _ _ l0 false _ ?side1 ?side2 A4.out).mono ?_); (case side1 => repeat (first | exact (Kd.C_below HR0.out HB.out) | (with_reducible refine Kd.C_alloc ?_ _) | (with_reducible refine Kd.C_drewN ?_ _) | (with_reducible refine Kd.C_drew ?_))); (case side2 => exact HC0.out); rintro e w8 ⟨rfl, hb⟩; refine ⟨_, rfl, ?_⟩; have n0_ := Aside0.mk (below_step (by repeat (first | (with_reducible first | exact HB.out | apply below_alloc | apply pw_below_drewN | apply below_drew1) | exact HB.out)) hb); clear HB; have HB := n0_; clear n0_; (try clear hb); (try clear hb2); (try clear hk); (try clear hi)))
      go_meet
      case rel => exact ⟨_, (true), (by first | rfl | (simp; done) | (simp [*]; done)), H', ⟨by first | omega | exact Nat.le_refl _⟩, ⟨by repeat (first | (with_reducible first | exact HB.out | apply below_alloc | apply pw_below_drewN | apply below_drew1) | exact HB.out)⟩⟩
  case rest =>
    clear HC3
    try clear p2
    try clear c4
    try clear c5
    try clear c7
    obtain ⟨kq, x18_2, rfl, HA, HJ2, HB⟩ := hcut
    cases kq with
    | zero => exact absurd HA.out (by simp [impl_TurnTower.j0])
    | succ kj2 =>
      have H := HA.out
      clear HA
      simp only [impl_TurnTower.j0] at H
      by_cases c9 : x18_2 = true
      · subst c9
        have H1 : (some (([] : List (S40)), false)) = some (r1, r2) := by rw [if_pos rfl] at H; exact H
        clear H
        have H := H1
        clear H1
        simp only [Option.some.injEq, Prod.mk.injEq] at H
        obtain ⟨rfl, rfl⟩ := H
        go_wp2
        go_ret2
        exact ⟨_, by first | rfl | (simp [errW_none, errW_some] <;> rfl) | (simp [*, errW_none, errW_some] <;> rfl), by first | exact Kd.R_nil _ _ _ _ _ | exact Kd.N_nil _ _ _ _ _ | exact Kd.V_nil _ _ _ _ _ | exact Kd.Q_nil _ _ _ _ _ | exact Kd.S_nil _ _ _ _ _, by repeat (first | (with_reducible first | exact HB.out | apply below_alloc | apply pw_below_drewN | apply below_drew1) | exact HB.out)⟩
      · replace c9 := Bool.eq_false_iff.mpr c9
        subst c9
        have H1 : (impl_TurnTower.l0 kj2 a1 (([] : List (S40))) l0 (l0.length : Int) 0) = some (r1, r2) := by rw [if_neg (show ¬ (false = true) by decide)] at H; exact H
        clear H
        have H := H1
        clear H1
        obtain ⟨y674, hy674⟩ : ∃ y_ : List (S40), y_ = (([] : List (S40))) := ⟨_, rfl⟩
        replace H : (impl_TurnTower.l0 kj2 a1 y674 l0 (l0.length : Int) 0) = some (r1, r2) := by first | (rw [hy674]; with_reducible exact H) | (have H2_ := (Option.bind_some _ _).symm.trans H; rw [hy674]; with_reducible exact H2_) | (have H2_ := (Option.bind_some _ _).symm.trans H; with_reducible exact H2_) | with_reducible exact H | (rw [hy674]; exact H) | exact H
        have Ny674 := Aside0.mk hy674
        clear hy674
        have H' := Aside0.mk H
        clear H
        go_wp2_with (first | ((with_reducible refine gate_dst (N := 19) rfl ?_); refine Kd.R_lit k40 _ 40 ?hg (N := 19) ?hd (xs := ([] : List (S40))) (inner := []) (ok := fun _ => True) (okp := fun _ => True) ?hr ?hp (fun _ hk => hk) trivial (Below.refl _ _) (Nat.le_refl _) (by simp) ?_; (case hd => rfl); (case hg => rfl); (case hr => first | (go_simp; done) | (go_simp; rfl)); (case hp => exact (Reps.none _ _)); intro v675 w10 ho11 hb hg_ hnew_; clear hg_ hnew_; (first | rw [← Ny674.out] at ho11 | (simp only [Int.reduceToNat] at ho11; rw [← Ny674.out] at ho11)); have n0_ := Aside0.mk (Kd.R_lower ho11 (below_size (by repeat (first | (with_reducible first | exact HB.out | apply below_alloc | apply pw_below_drewN | apply below_drew1) | exact HB.out)))); have n1_ := Aside0.mk (below_step (by repeat (first | (with_reducible first | exact HB.out | apply below_alloc | apply pw_below_drewN | apply below_drew1) | exact HB.out)) hb); clear HB; have HO676 := n0_; have HB := n1_; clear n0_ n1_; clear hb ho11))
        go_loopg [6, 22] kj2 (fun kq v6 v22 w' => ∃ (x6_2 : List (S40)) (x22_2 : Int), v22 = .int .i64 x22_2 ∧ Aside0 (impl_TurnTower.l0 kq a1 x6_2 l0 (l0.length : Int) x22_2 = some (r1, r2)) ∧ Aside0 (kq ≤ kj2) ∧ Aside0 (Kd.R k40 40 w' w.heap.size (fun _ => True) v6 x6_2) ∧ Aside0 (Below w.heap.size w w'))
        case atStart => exact ⟨(y674), (0), (by first | rfl | (simp; done) | (simp [*]; done)), H', ⟨Nat.le_refl _⟩, ⟨by (with_reducible repeat (first | apply Kd.R_alloc | apply Kd.R_drewN | apply Kd.R_drew)); exact HO676.out⟩, ⟨by repeat (first | (with_reducible first | exact HB.out | apply below_alloc | apply pw_below_drewN | apply below_drew1) | exact HB.out)⟩⟩
        case round =>
          clear H'
          try clear p2
          try clear c4
          try clear c5
          try clear c7
          try clear c9
          try clear p2
          obtain ⟨x6_2, x22_2, rfl, HA, HK2, HO_6, HB⟩ := hrel
          cases gk with
          | zero => exact absurd HA.out (by simp [impl_TurnTower.l0])
          | succ k2 =>
            have H := HA.out
            clear HA
            simp only [impl_TurnTower.l0] at H
            by_cases c12 : x22_2 < (l0.length : Int)
            · rw [if_pos c12] at H
              have c12b0 : decide (x22_2 < (l0.length : Int)) = true := decide_eq_true c12
              clear c12
              by_cases c13 : 0 ≤ x22_2
              · rw [if_pos c13] at H
                have c13b0 : decide (0 ≤ x22_2) = true := decide_eq_true c13
                clear c13
                by_cases c14 : x22_2 < (l0.length : Int)
                · rw [if_pos c14] at H
                  have c14b0 : decide (x22_2 < (l0.length : Int)) = true := decide_eq_true c14
                  clear c14
                  replace H := Option.bind_eq_some_iff.mp H
                  obtain ⟨⟨t679, t680, t681, t682, t683, t684, t685⟩, A150, H⟩ := H
                  replace H : (if x6_2.length < 2932031007402 then (impl_TurnTower.l0 k2 a1 (x6_2 ++ [(⟨t679, t680, t681, t682, t683, t684⟩ : S40)]) l0 (l0.length : Int) (wrap64 (x22_2 + 1))) else (none)) = some (r1, r2) := H
                  have A15 := Aside0.mk A150
                  clear A150
                  by_cases c16 : x6_2.length < 2932031007402
                  · rw [if_pos c16] at H
                    have LMc16 := Aside0.mk c16
                    clear c16
                    obtain ⟨y687, hy687⟩ : ∃ y_ : List (S40), y_ = (x6_2 ++ [(⟨t679, t680, t681, t682, t683, t684⟩ : S40)]) := ⟨_, rfl⟩
                    replace H : (impl_TurnTower.l0 k2 a1 y687 l0 (l0.length : Int) (wrap64 (x22_2 + 1))) = some (r1, r2) := by first | (rw [hy687]; with_reducible exact H) | (have H2_ := (Option.bind_some _ _).symm.trans H; rw [hy687]; with_reducible exact H2_) | (have H2_ := (Option.bind_some _ _).symm.trans H; with_reducible exact H2_) | with_reducible exact H | (rw [hy687]; exact H) | exact H
                    have Ny687 := Aside0.mk hy687
                    clear hy687
                    have H' := Aside0.mk H
                    clear H
                    have p677 : 0 ≤ (x22_2 : Int) := of_decide_eq_true (by first | (with_reducible assumption) | assumption)
                    have q677 : x22_2 < (l0.length : Int) := of_decide_eq_true (by first | (with_reducible assumption) | assumption)
                    obtain ⟨ad677, e677, hx677_0, hx677_1, hx677_2, hx677_3, hx677_4, hx677_5⟩ := at_T40 HR0.out x22_2 p677 q677
                    cases e677
                    replace hx677_0 := (HB.out.cell (World.block_lt_of_cell? w _ hx677_0)).trans hx677_0
                    replace hx677_1 := (HB.out.cell (World.block_lt_of_cell? w _ hx677_1)).trans hx677_1
                    replace hx677_2 := (HB.out.cell (World.block_lt_of_cell? w _ hx677_2)).trans hx677_2
                    replace hx677_3 := (HB.out.cell (World.block_lt_of_cell? w _ hx677_3)).trans hx677_3
                    replace hx677_4 := (HB.out.cell (World.block_lt_of_cell? w _ hx677_4)).trans hx677_4
                    replace hx677_5 := (HB.out.cell (World.block_lt_of_cell? w _ hx677_5)).trans hx677_5
                    replace p677 := eq_true p677
                    replace q677 := eq_true q677
                    go_wp2_with (first | ((with_reducible refine gate_dst (N := 8) rfl ?_); refine box_event ?hg (N := 8) ?hd (cs := #[.int .i64 0, .int .i64 0, .int .i64 0, .int .i64 0, .int .i64 0, .int .i64 0]) (t := 40) ?hr ?_; (case hd => rfl); (case hg => rfl); (case hr => first | (go_simp; done) | (go_simp; rfl)); intro gb678 hg w17 hbox hb; have n0_ := Aside0.mk (Kd.R_below (Kd.R_elderB (by (with_reducible repeat (first | apply Kd.R_alloc | apply Kd.R_drewN | apply Kd.R_drew)); exact HO_6.out) gb678 (Nat.le_of_eq hg.symm)) hb); have n1_ := Aside0.mk (below_step (by repeat (first | (with_reducible first | exact HB.out | apply below_alloc | apply pw_below_drewN | apply below_drew1) | exact HB.out)) hb); have n2_ := Aside0.mk (hbox); have n3_ := Aside0.mk ((by rw [hg]; exact (below_size (by repeat (first | (with_reducible first | exact HB.out | apply below_alloc | apply pw_below_drewN | apply below_drew1) | exact HB.out))) : w.heap.size ≤ gb678)); have n4_ := Aside0.mk ((by rw [hg]; exact (below_size (by repeat (first | (with_reducible first | exact HB.out | apply below_alloc | apply pw_below_drewN | apply below_drew1) | exact HB.out))) : w.heap.size ≤ gb678)); clear HO_6; clear HB; have HO_6 := n0_; have HB := n1_; have BK678 := n2_; have GW678 := n3_; have GE678 := n4_; clear n0_ n1_ n2_ n3_ n4_; clear hb hbox hg; have hcz18_0 : w17.cell? ⟨gb678, 0, none⟩ = some (.int .i64 0) := (blk_cell BK678.out 0).trans rfl; have hcz18_1 : w17.cell? ⟨gb678, 1, none⟩ = some (.int .i64 0) := (blk_cell BK678.out 1).trans rfl; have hcz18_2 : w17.cell? ⟨gb678, 2, none⟩ = some (.int .i64 0) := (blk_cell BK678.out 2).trans rfl; have hcz18_3 : w17.cell? ⟨gb678, 3, none⟩ = some (.int .i64 0) := (blk_cell BK678.out 3).trans rfl; have hcz18_4 : w17.cell? ⟨gb678, 4, none⟩ = some (.int .i64 0) := (blk_cell BK678.out 4).trans rfl; have hcz18_5 : w17.cell? ⟨gb678, 5, none⟩ = some (.int .i64 0) := (blk_cell BK678.out 5).trans rfl; have hfz18_0 := blk_frozen BK678.out 0; have hfz18_1 := blk_frozen BK678.out 1; have hfz18_2 := blk_frozen BK678.out 2; have hfz18_3 := blk_frozen BK678.out 3; have hfz18_4 := blk_frozen BK678.out 4; have hfz18_5 := blk_frozen BK678.out 5) | ((with_reducible refine gate_callee (f := 82) rfl ?_); refine goesL_ (some 29) rfl rfl Try.func82 (by kernel_rfl) rfl #[.agg #[.int .i64 ((rd_T40 l0 x22_2).f0), .int .i64 ((rd_T40 l0 x22_2).f1), .int .i64 ((rd_T40 l0 x22_2).f2), .int .i64 ((rd_T40 l0 x22_2).f3), .int .i64 ((rd_T40 l0 x22_2).f4), .int .i64 ((rd_T40 l0 x22_2).f5)], .int .i64 a1] rfl (by (try simp only [List.map_toArray, List.map_cons, List.map_nil]); first | done | rfl | (simp only [List.length_drop, List.length_take]; rfl)) ?_; (with_reducible refine (impl_TurnDie.calls k2 ((rd_T40 l0 x22_2).f0) ((rd_T40 l0 x22_2).f1) ((rd_T40 l0 x22_2).f2) ((rd_T40 l0 x22_2).f3) ((rd_T40 l0 x22_2).f4) ((rd_T40 l0 x22_2).f5) a1 t679 t680 t681 t682 t683 t684 t685 _ A15.out).mono ?_); rintro e w19 ⟨rfl, hb⟩; refine ⟨_, rfl, ?_⟩; have n0_ := Aside0.mk (Kd.R_below (by (with_reducible repeat (first | apply Kd.R_alloc | apply Kd.R_drewN | apply Kd.R_drew)); exact (Kd.R_mono (Kd.R_far (p := ⟨gb678, 5, none⟩) (Kd.R_far (p := ⟨gb678, 4, none⟩) (Kd.R_far (p := ⟨gb678, 3, none⟩) (Kd.R_far (p := ⟨gb678, 2, none⟩) (Kd.R_far (p := ⟨gb678, 1, none⟩) (Kd.R_far (p := ⟨gb678, 0, none⟩) (Kd.R_mono HO_6.out (fun k_ hk => (⟨hk, hk.2⟩ : _ ∧ k_ ≠ gb678))) (fun _ hk => hk.2) (.int .i64 ((rd_T40 l0 x22_2).f0))) (fun _ hk => hk.2) (.int .i64 ((rd_T40 l0 x22_2).f1))) (fun _ hk => hk.2) (.int .i64 ((rd_T40 l0 x22_2).f2))) (fun _ hk => hk.2) (.int .i64 ((rd_T40 l0 x22_2).f3))) (fun _ hk => hk.2) (.int .i64 ((rd_T40 l0 x22_2).f4))) (fun _ hk => hk.2) (.int .i64 ((rd_T40 l0 x22_2).f5))) (fun _ h_ => h_.1))) hb); have n1_ := Aside0.mk (blk_below (g := gb678) (o := .cells #[.int .i64 ((rd_T40 l0 x22_2).f0), .int .i64 ((rd_T40 l0 x22_2).f1), .int .i64 ((rd_T40 l0 x22_2).f2), .int .i64 ((rd_T40 l0 x22_2).f3), .int .i64 ((rd_T40 l0 x22_2).f4), .int .i64 ((rd_T40 l0 x22_2).f5)] 40 (0, 0)) (by (with_reducible repeat (first | refine blk_drewN ?_ _ | refine blk_drew ?_ | refine blk_alloc ?_ _)); refine blk_put (cs := #[.int .i64 ((rd_T40 l0 x22_2).f0), .int .i64 ((rd_T40 l0 x22_2).f1), .int .i64 ((rd_T40 l0 x22_2).f2), .int .i64 ((rd_T40 l0 x22_2).f3), .int .i64 ((rd_T40 l0 x22_2).f4), .int .i64 0]) ?_ 5 _ rfl; (with_reducible repeat (first | refine blk_drewN ?_ _ | refine blk_drew ?_ | refine blk_alloc ?_ _)); refine blk_put (cs := #[.int .i64 ((rd_T40 l0 x22_2).f0), .int .i64 ((rd_T40 l0 x22_2).f1), .int .i64 ((rd_T40 l0 x22_2).f2), .int .i64 ((rd_T40 l0 x22_2).f3), .int .i64 0, .int .i64 0]) ?_ 4 _ rfl; (with_reducible repeat (first | refine blk_drewN ?_ _ | refine blk_drew ?_ | refine blk_alloc ?_ _)); refine blk_put (cs := #[.int .i64 ((rd_T40 l0 x22_2).f0), .int .i64 ((rd_T40 l0 x22_2).f1), .int .i64 ((rd_T40 l0 x22_2).f2), .int .i64 0, .int .i64 0, .int .i64 0]) ?_ 3 _ rfl; (with_reducible repeat (first | refine blk_drewN ?_ _ | refine blk_drew ?_ | refine blk_alloc ?_ _)); refine blk_put (cs := #[.int .i64 ((rd_T40 l0 x22_2).f0), .int .i64 ((rd_T40 l0 x22_2).f1), .int .i64 0, .int .i64 0, .int .i64 0, .int .i64 0]) ?_ 2 _ rfl; (with_reducible repeat (first | refine blk_drewN ?_ _ | refine blk_drew ?_ | refine blk_alloc ?_ _)); refine blk_put (cs := #[.int .i64 ((rd_T40 l0 x22_2).f0), .int .i64 0, .int .i64 0, .int .i64 0, .int .i64 0, .int .i64 0]) ?_ 1 _ rfl; (with_reducible repeat (first | refine blk_drewN ?_ _ | refine blk_drew ?_ | refine blk_alloc ?_ _)); refine blk_put (cs := #[.int .i64 0, .int .i64 0, .int .i64 0, .int .i64 0, .int .i64 0, .int .i64 0]) ?_ 0 _ rfl; (with_reducible repeat (first | refine blk_drewN ?_ _ | refine blk_drew ?_ | refine blk_alloc ?_ _)); exact BK678.out) hb); have n2_ := Aside0.mk (below_step (by repeat (first | (with_reducible first | exact HB.out | apply below_alloc | apply pw_below_drewN | apply below_drew1 | refine below_set ?_ GE678.out) | exact HB.out)) hb); clear HO_6; clear BK678; clear HB; have HO_6 := n0_; have BK678 := n1_; have HB := n2_; clear n0_ n1_ n2_; (try clear hb); (try clear hb2); (try clear hk); (try clear hi)) | ((with_reducible refine gate_dst (N := 9) rfl ?_); refine box_event ?hg (N := 9) ?hd (cs := #[.int .i64 0, .int .i64 0, .int .i64 0, .int .i64 0, .int .i64 0, .int .i64 0]) (t := 40) ?hr ?_; (case hd => rfl); (case hg => rfl); (case hr => first | (go_simp; done) | (go_simp; rfl)); intro gb686 hg w20 hbox hb; have n0_ := Aside0.mk (Kd.R_below (Kd.R_elderB (by (with_reducible repeat (first | apply Kd.R_alloc | apply Kd.R_drewN | apply Kd.R_drew)); exact HO_6.out) gb686 (Nat.le_of_eq hg.symm)) hb); have n1_ := Aside0.mk (blk_below (g := gb678) (o := .cells #[.int .i64 ((rd_T40 l0 x22_2).f0), .int .i64 ((rd_T40 l0 x22_2).f1), .int .i64 ((rd_T40 l0 x22_2).f2), .int .i64 ((rd_T40 l0 x22_2).f3), .int .i64 ((rd_T40 l0 x22_2).f4), .int .i64 ((rd_T40 l0 x22_2).f5)] 40 (0, 0)) (by (with_reducible repeat (first | refine blk_drewN ?_ _ | refine blk_drew ?_ | refine blk_alloc ?_ _)); exact BK678.out) hb); have n2_ := Aside0.mk (below_step (by repeat (first | (with_reducible first | exact HB.out | apply below_alloc | apply pw_below_drewN | apply below_drew1 | refine below_set ?_ GE678.out) | exact HB.out)) hb); have n3_ := Aside0.mk (hbox); have n4_ := Aside0.mk ((by rw [hg]; exact (below_size (by repeat (first | (with_reducible first | exact HB.out | apply below_alloc | apply pw_below_drewN | apply below_drew1 | refine below_set ?_ GE678.out) | exact HB.out))) : w.heap.size ≤ gb686)); have n5_ := Aside0.mk ((by rw [hg]; exact (below_size (by repeat (first | (with_reducible first | exact HB.out | apply below_alloc | apply pw_below_drewN | apply below_drew1 | refine below_set ?_ GE678.out) | exact HB.out))) : w.heap.size ≤ gb686)); have n6_ := Aside0.mk ((by rw [hg]; exact Nat.ne_of_lt (blk_lt (g := gb678) (o := .cells #[.int .i64 ((rd_T40 l0 x22_2).f0), .int .i64 ((rd_T40 l0 x22_2).f1), .int .i64 ((rd_T40 l0 x22_2).f2), .int .i64 ((rd_T40 l0 x22_2).f3), .int .i64 ((rd_T40 l0 x22_2).f4), .int .i64 ((rd_T40 l0 x22_2).f5)] 40 (0, 0)) (by (with_reducible repeat (first | refine blk_drewN ?_ _ | refine blk_drew ?_ | refine blk_alloc ?_ _)); exact BK678.out)) : gb678 ≠ gb686)); have n7_ := Aside0.mk ((by rw [hg]; exact Nat.ne_of_gt (blk_lt (g := gb678) (o := .cells #[.int .i64 ((rd_T40 l0 x22_2).f0), .int .i64 ((rd_T40 l0 x22_2).f1), .int .i64 ((rd_T40 l0 x22_2).f2), .int .i64 ((rd_T40 l0 x22_2).f3), .int .i64 ((rd_T40 l0 x22_2).f4), .int .i64 ((rd_T40 l0 x22_2).f5)] 40 (0, 0)) (by (with_reducible repeat (first | refine blk_drewN ?_ _ | refine blk_drew ?_ | refine blk_alloc ?_ _)); exact BK678.out)) : gb686 ≠ gb678)); clear HO_6; clear BK678; clear HB; have HO_6 := n0_; have BK678 := n1_; have HB := n2_; have BK686 := n3_; have GW686 := n4_; have GE686 := n5_; have NB678_686 := n6_; have NB686_678 := n7_; clear n0_ n1_ n2_ n3_ n4_ n5_ n6_ n7_; clear hb hbox hg; have hnb21 := NB686_678.out; have hnc21 := NB678_686.out; have hcz22_0 : w20.cell? ⟨gb686, 0, none⟩ = some (.int .i64 0) := (blk_cell BK686.out 0).trans rfl; have hcz22_1 : w20.cell? ⟨gb686, 1, none⟩ = some (.int .i64 0) := (blk_cell BK686.out 1).trans rfl; have hcz22_2 : w20.cell? ⟨gb686, 2, none⟩ = some (.int .i64 0) := (blk_cell BK686.out 2).trans rfl; have hcz22_3 : w20.cell? ⟨gb686, 3, none⟩ = some (.int .i64 0) := (blk_cell BK686.out 3).trans rfl; have hcz22_4 : w20.cell? ⟨gb686, 4, none⟩ = some (.int .i64 0) := (blk_cell BK686.out 4).trans rfl; have hcz22_5 : w20.cell? ⟨gb686, 5, none⟩ = some (.int .i64 0) := (blk_cell BK686.out 5).trans rfl; have hfz22_0 := blk_frozen BK686.out 0; have hfz22_1 := blk_frozen BK686.out 1; have hfz22_2 := blk_frozen BK686.out 2; have hfz22_3 := blk_frozen BK686.out 3; have hfz22_4 := blk_frozen BK686.out 4; have hfz22_5 := blk_frozen BK686.out 5) | ((with_reducible refine gate_builtin (b := .append) (xs := #[.tmp 32, .tmp 34]) rfl ?_); at_builtin; refine Kd.R_append k40 (w0 := w) w.heap.size rfl (.tmp 32) (.tmp 34) 55 40 (.agg #[(.int .i64 0), (.int .i64 0), (.int .i64 0), (.int .i64 0), (.int .i64 0), (.int .i64 0)]) 48 rfl Try.underlying55 info40 rfl (by decide) (by omega) u6 x6_2 (⟨t679, t680, t681, t682, t683, t684⟩ : S40) [.int .i64 t679, .int .i64 t680, .int .i64 t681, .int .i64 t682, .int .i64 t683, .int .i64 t684] (fun k_ => k_ ≠ gb678 ∧ k_ ≠ gb686) (fun _ => False) rfl (by first | (go_simp; done) | (go_simp; rfl)) ?aP (fun _ hk => hk.elim) ?aF ?aO ?aB ?aS ?aL ?_; (case aP => exact k40_mkM _ _ _ (⟨t679, t680, t681, t682, t683, t684⟩ : S40)); (case aB => exact (by repeat (first | (with_reducible first | exact HB.out | apply below_alloc | apply pw_below_drewN | apply below_drew1 | refine below_set ?_ GE678.out | refine below_set ?_ GE686.out) | exact HB.out))); (case aF => exact (fun k_ hk => ⟨Kd.freshB (g := gb678) (o := .cells #[.int .i64 ((rd_T40 l0 x22_2).f0), .int .i64 ((rd_T40 l0 x22_2).f1), .int .i64 ((rd_T40 l0 x22_2).f2), .int .i64 ((rd_T40 l0 x22_2).f3), .int .i64 ((rd_T40 l0 x22_2).f4), .int .i64 ((rd_T40 l0 x22_2).f5)] 40 (0, 0)) (by (with_reducible repeat (first | refine blk_drewN ?_ _ | refine blk_drew ?_ | refine blk_alloc ?_ _)); refine blk_far ?_ NB678_686.out _; (with_reducible repeat (first | refine blk_drewN ?_ _ | refine blk_drew ?_ | refine blk_alloc ?_ _)); refine blk_far ?_ NB678_686.out _; (with_reducible repeat (first | refine blk_drewN ?_ _ | refine blk_drew ?_ | refine blk_alloc ?_ _)); refine blk_far ?_ NB678_686.out _; (with_reducible repeat (first | refine blk_drewN ?_ _ | refine blk_drew ?_ | refine blk_alloc ?_ _)); refine blk_far ?_ NB678_686.out _; (with_reducible repeat (first | refine blk_drewN ?_ _ | refine blk_drew ?_ | refine blk_alloc ?_ _)); refine blk_far ?_ NB678_686.out _; (with_reducible repeat (first | refine blk_drewN ?_ _ | refine blk_drew ?_ | refine blk_alloc ?_ _)); refine blk_far ?_ NB678_686.out _; (with_reducible repeat (first | refine blk_drewN ?_ _ | refine blk_drew ?_ | refine blk_alloc ?_ _)); exact BK678.out) k_ hk, Kd.freshB (g := gb686) (o := .cells #[.int .i64 t679, .int .i64 t680, .int .i64 t681, .int .i64 t682, .int .i64 t683, .int .i64 t684] 40 (0, 0)) (by (with_reducible repeat (first | refine blk_drewN ?_ _ | refine blk_drew ?_ | refine blk_alloc ?_ _)); refine blk_put (cs := #[.int .i64 t679, .int .i64 t680, .int .i64 t681, .int .i64 t682, .int .i64 t683, .int .i64 0]) ?_ 5 _ rfl; (with_reducible repeat (first | refine blk_drewN ?_ _ | refine blk_drew ?_ | refine blk_alloc ?_ _)); refine blk_put (cs := #[.int .i64 t679, .int .i64 t680, .int .i64 t681, .int .i64 t682, .int .i64 0, .int .i64 0]) ?_ 4 _ rfl; (with_reducible repeat (first | refine blk_drewN ?_ _ | refine blk_drew ?_ | refine blk_alloc ?_ _)); refine blk_put (cs := #[.int .i64 t679, .int .i64 t680, .int .i64 t681, .int .i64 0, .int .i64 0, .int .i64 0]) ?_ 3 _ rfl; (with_reducible repeat (first | refine blk_drewN ?_ _ | refine blk_drew ?_ | refine blk_alloc ?_ _)); refine blk_put (cs := #[.int .i64 t679, .int .i64 t680, .int .i64 0, .int .i64 0, .int .i64 0, .int .i64 0]) ?_ 2 _ rfl; (with_reducible repeat (first | refine blk_drewN ?_ _ | refine blk_drew ?_ | refine blk_alloc ?_ _)); refine blk_put (cs := #[.int .i64 t679, .int .i64 0, .int .i64 0, .int .i64 0, .int .i64 0, .int .i64 0]) ?_ 1 _ rfl; (with_reducible repeat (first | refine blk_drewN ?_ _ | refine blk_drew ?_ | refine blk_alloc ?_ _)); refine blk_put (cs := #[.int .i64 0, .int .i64 0, .int .i64 0, .int .i64 0, .int .i64 0, .int .i64 0]) ?_ 0 _ rfl; (with_reducible repeat (first | refine blk_drewN ?_ _ | refine blk_drew ?_ | refine blk_alloc ?_ _)); exact BK686.out) k_ hk⟩)); (case aO => exact (by (with_reducible repeat (first | apply Kd.R_alloc | apply Kd.R_drewN | apply Kd.R_drew)); exact Kd.R_mono (Kd.R_far (p := ⟨gb686, 5, none⟩) (Kd.R_far (p := ⟨gb686, 4, none⟩) (Kd.R_far (p := ⟨gb686, 3, none⟩) (Kd.R_far (p := ⟨gb686, 2, none⟩) (Kd.R_far (p := ⟨gb686, 1, none⟩) (Kd.R_far (p := ⟨gb686, 0, none⟩) (Kd.R_mono HO_6.out (fun k_ hk => (⟨hk, hk.2⟩ : _ ∧ k_ ≠ gb686))) (fun _ hk => hk.2) (.int .i64 t679)) (fun _ hk => hk.2) (.int .i64 t680)) (fun _ hk => hk.2) (.int .i64 t681)) (fun _ hk => hk.2) (.int .i64 t682)) (fun _ hk => hk.2) (.int .i64 t683)) (fun _ hk => hk.2) (.int .i64 t684)) (fun _ hk => ⟨hk.1.1.2, hk.1.2⟩))); (case aS => exact (below_size (by repeat (first | (with_reducible first | exact HB.out | apply below_alloc | apply pw_below_drewN | apply below_drew1 | refine below_set ?_ GE678.out | refine below_set ?_ GE686.out) | exact HB.out)))); (case aL => have := LMc16.out; omega); intro v688 w23 ho hb hg hat; rw [← Ny687.out] at ho; have n0_ := Aside0.mk (blk_grown (g := gb678) (o := .cells #[.int .i64 ((rd_T40 l0 x22_2).f0), .int .i64 ((rd_T40 l0 x22_2).f1), .int .i64 ((rd_T40 l0 x22_2).f2), .int .i64 ((rd_T40 l0 x22_2).f3), .int .i64 ((rd_T40 l0 x22_2).f4), .int .i64 ((rd_T40 l0 x22_2).f5)] 40 (0, 0)) (by (with_reducible repeat (first | refine blk_drewN ?_ _ | refine blk_drew ?_ | refine blk_alloc ?_ _)); refine blk_far ?_ NB678_686.out _; (with_reducible repeat (first | refine blk_drewN ?_ _ | refine blk_drew ?_ | refine blk_alloc ?_ _)); refine blk_far ?_ NB678_686.out _; (with_reducible repeat (first | refine blk_drewN ?_ _ | refine blk_drew ?_ | refine blk_alloc ?_ _)); refine blk_far ?_ NB678_686.out _; (with_reducible repeat (first | refine blk_drewN ?_ _ | refine blk_drew ?_ | refine blk_alloc ?_ _)); refine blk_far ?_ NB678_686.out _; (with_reducible repeat (first | refine blk_drewN ?_ _ | refine blk_drew ?_ | refine blk_alloc ?_ _)); refine blk_far ?_ NB678_686.out _; (with_reducible repeat (first | refine blk_drewN ?_ _ | refine blk_drew ?_ | refine blk_alloc ?_ _)); refine blk_far ?_ NB678_686.out _; (with_reducible repeat (first | refine blk_drewN ?_ _ | refine blk_drew ?_ | refine blk_alloc ?_ _)); exact BK678.out) hg (Kd.R_away HO_6.out (fun _ hk => hk.1.2))); have n1_ := Aside0.mk (blk_grown (g := gb686) (o := .cells #[.int .i64 t679, .int .i64 t680, .int .i64 t681, .int .i64 t682, .int .i64 t683, .int .i64 t684] 40 (0, 0)) (by (with_reducible repeat (first | refine blk_drewN ?_ _ | refine blk_drew ?_ | refine blk_alloc ?_ _)); refine blk_put (cs := #[.int .i64 t679, .int .i64 t680, .int .i64 t681, .int .i64 t682, .int .i64 t683, .int .i64 0]) ?_ 5 _ rfl; (with_reducible repeat (first | refine blk_drewN ?_ _ | refine blk_drew ?_ | refine blk_alloc ?_ _)); refine blk_put (cs := #[.int .i64 t679, .int .i64 t680, .int .i64 t681, .int .i64 t682, .int .i64 0, .int .i64 0]) ?_ 4 _ rfl; (with_reducible repeat (first | refine blk_drewN ?_ _ | refine blk_drew ?_ | refine blk_alloc ?_ _)); refine blk_put (cs := #[.int .i64 t679, .int .i64 t680, .int .i64 t681, .int .i64 0, .int .i64 0, .int .i64 0]) ?_ 3 _ rfl; (with_reducible repeat (first | refine blk_drewN ?_ _ | refine blk_drew ?_ | refine blk_alloc ?_ _)); refine blk_put (cs := #[.int .i64 t679, .int .i64 t680, .int .i64 0, .int .i64 0, .int .i64 0, .int .i64 0]) ?_ 2 _ rfl; (with_reducible repeat (first | refine blk_drewN ?_ _ | refine blk_drew ?_ | refine blk_alloc ?_ _)); refine blk_put (cs := #[.int .i64 t679, .int .i64 0, .int .i64 0, .int .i64 0, .int .i64 0, .int .i64 0]) ?_ 1 _ rfl; (with_reducible repeat (first | refine blk_drewN ?_ _ | refine blk_drew ?_ | refine blk_alloc ?_ _)); refine blk_put (cs := #[.int .i64 0, .int .i64 0, .int .i64 0, .int .i64 0, .int .i64 0, .int .i64 0]) ?_ 0 _ rfl; (with_reducible repeat (first | refine blk_drewN ?_ _ | refine blk_drew ?_ | refine blk_alloc ?_ _)); exact BK686.out) hg (Kd.R_away HO_6.out (fun _ hk => hk.2))); have n2_ := Aside0.mk (hb); have n3_ := Aside0.mk (ho); clear BK678; clear BK686; clear HB; clear HO_6; have BK678 := n0_; have BK686 := n1_; have HB := n2_; have HO689 := n3_; clear n0_ n1_ n2_ n3_; clear ho hb hg hat))
                    go_roundg k2
                    case measure => have := HJ2.out; have := HK2.out; omega
                    case rel => exact ⟨(y687), (wrap64 (x22_2 + 1)), (by first | rfl | (simp; done) | (simp [*]; done)), H', ⟨by have := HJ2.out; have := HK2.out; omega⟩, ⟨by (with_reducible repeat (first | apply Kd.R_alloc | apply Kd.R_drewN | apply Kd.R_drew)); exact Kd.R_mono HO689.out (fun _ hk => trivial)⟩, ⟨by repeat (first | (with_reducible first | exact HB.out | apply below_alloc | apply pw_below_drewN | apply below_drew1 | refine below_set ?_ GE678.out | refine below_set ?_ GE686.out) | exact HB.out)⟩⟩
                  · rw [if_neg c16] at H
                    exact absurd H (by simp)
                · rw [if_neg c14] at H
                  exact absurd H (by simp)
              · rw [if_neg c13] at H
                exact absurd H (by simp)
            · rw [if_neg c12] at H
              have c12b0 : decide (x22_2 < (l0.length : Int)) = false := decide_eq_false c12
              clear c12
              simp only [Option.some.injEq, Prod.mk.injEq] at H
              obtain ⟨rfl, rfl⟩ := H
              go_wp2
              go_ret2
              exact ⟨_, by first | rfl | (simp [errW_none, errW_some] <;> rfl) | (simp [*, errW_none, errW_some] <;> rfl), by (with_reducible repeat (first | apply Kd.R_alloc | apply Kd.R_drewN | apply Kd.R_drew)); exact HO_6.out, by repeat (first | (with_reducible first | exact HB.out | apply below_alloc | apply pw_below_drewN | apply below_drew1) | exact HB.out)⟩

end Go.Proofs.Ythnheffndhbebaa.P

namespace Go.Proofs.Ythnheffndhbebaa.P
open Go.RowKit Go.Proofs.YthnheffndhbebaaW.PrintWords Go.Proofs.YthnheffndhbebaaW.PrintLast Go.Proofs.YthnheffndhbebaaW.PrintMore
attribute [local go_sem] max2_int min2_int max_two min_two max_three min_three max_four min_four   -- for this text's walks alone
set_option linter.unusedVariables false
set_option linter.unusedSimpArgs false

/-! ### laws_markDieS: function 43 -/
def laws_markDieS.l0 : Nat → List (S40) → Int → Int → Option (Int × (List (S40)))
  | 0, _, _, _ => none
  | k + 1, x0, x1, x5 => if x5 < (x0.length : Int) then (if 0 ≤ x5 then ((some (x0.set (x5 : Int).toNat (⟨x1, (rd_T40 x0 x5).f1, (rd_T40 x0 x5).f2, (rd_T40 x0 x5).f3, (rd_T40 x0 x5).f4, (rd_T40 x0 x5).f5⟩ : S40) : List (S40))).bind fun y690 => ((some (y690.set (x5 : Int).toNat (⟨(rd_T40 y690 x5).f0, wrap64 (x1 + 1), (rd_T40 y690 x5).f2, (rd_T40 y690 x5).f3, (rd_T40 y690 x5).f4, (rd_T40 y690 x5).f5⟩ : S40) : List (S40))).bind fun y691 => ((some (y691.set (x5 : Int).toNat (⟨(rd_T40 y691 x5).f0, (rd_T40 y691 x5).f1, wrap64 ((wrap64 (x1 + 1)) + 1), (rd_T40 y691 x5).f3, (rd_T40 y691 x5).f4, (rd_T40 y691 x5).f5⟩ : S40) : List (S40))).bind fun y692 => ((some (y692.set (x5 : Int).toNat (⟨(rd_T40 y692 x5).f0, (rd_T40 y692 x5).f1, (rd_T40 y692 x5).f2, wrap64 ((wrap64 ((wrap64 (x1 + 1)) + 1)) + 1), (rd_T40 y692 x5).f4, (rd_T40 y692 x5).f5⟩ : S40) : List (S40))).bind fun y693 => ((some (y693.set (x5 : Int).toNat (⟨(rd_T40 y693 x5).f0, (rd_T40 y693 x5).f1, (rd_T40 y693 x5).f2, (rd_T40 y693 x5).f3, wrap64 ((wrap64 ((wrap64 ((wrap64 (x1 + 1)) + 1)) + 1)) + 1), (rd_T40 y693 x5).f5⟩ : S40) : List (S40))).bind fun y694 => (laws_markDieS.l0 k (y694.set (x5 : Int).toNat (⟨(rd_T40 y694 x5).f0, (rd_T40 y694 x5).f1, (rd_T40 y694 x5).f2, (rd_T40 y694 x5).f3, (rd_T40 y694 x5).f4, wrap64 ((wrap64 ((wrap64 ((wrap64 ((wrap64 (x1 + 1)) + 1)) + 1)) + 1)) + 1)⟩ : S40)) (wrap64 ((wrap64 ((wrap64 ((wrap64 ((wrap64 ((wrap64 (x1 + 1)) + 1)) + 1)) + 1)) + 1)) + 1)) (wrap64 (x5 + 1)))))))) else (none)) else (some (x1, x0))
def laws_markDieS.f (k : Nat) (l0 : List (S40)) (a1 : Int) : Option (Int × (List (S40))) := laws_markDieS.l0 k l0 a1 0
theorem laws_markDieS.mono_l : ∀ k, (∀ y0 y1 y2, LeO (laws_markDieS.l0 k y0 y1 y2) (laws_markDieS.l0 (k + 1) y0 y1 y2))
  | 0 => fun _ _ _ r h => by simp [laws_markDieS.l0] at h
  | k + 1 => by
    have ih0 := laws_markDieS.mono_l k
    · intro y0 y1 y2
      unfold laws_markDieS.l0
      repeat' first
      | (with_reducible exact ih0 _ _ _)
      | (with_reducible exact LeO.refl _)
      | (with_reducible exact LeO.none _)
      | (with_reducible refine LeO.ite ?_ ?_)
      | (with_reducible refine LeO.bind ?_ (fun _ => ?_))
      | exact ih0 _ _ _
      | exact LeO.none _
      | refine LeO.ite ?_ ?_
      | refine LeO.bind ?_ (fun _ => ?_)
theorem laws_markDieS.mono : ∀ a0 a1 k, LeO (laws_markDieS.f k a0 a1) (laws_markDieS.f (k + 1) a0 a1) := by
  intro a0 a1 k
  have ih0 := laws_markDieS.mono_l k
  unfold laws_markDieS.f
  repeat' first
      | (with_reducible exact ih0 _ _ _)
      | (with_reducible exact LeO.refl _)
      | (with_reducible exact LeO.none _)
      | (with_reducible refine LeO.ite ?_ ?_)
      | (with_reducible refine LeO.bind ?_ (fun _ => ?_))
      | exact ih0 _ _ _
      | exact LeO.none _
      | refine LeO.ite ?_ ?_
      | refine LeO.bind ?_ (fun _ => ?_)
set_option maxHeartbeats 8000000 in
set_option maxRecDepth 100000 in
theorem laws_markDieS.calls (k : Nat) (P0_ : Nat → Prop) (u9000_ : Value) (l0 : List (S40)) (a1 : Int) (r1 : Int) (r2 : List (S40)) (w0 w : World) (hB : Below w0.heap.size w0 w) (ho0 : Kd.R k40 40 w w0.heap.size P0_ u9000_ l0) (h : laws_markDieS.f k l0 a1 = some (r1, r2)) :
    Calls Try.prog 43 #[u9000_, .int .i64 a1] w fun e w' => e = .returned (.int .i64 r1) ∧ Kd.R k40 40 w' w0.heap.size (fun k_ => (P0_ k_ ∨ w.heap.size ≤ k_)) u9000_ r2 ∧ Below w0.heap.size w0 w' ∧ Kept w w' (fun k_ => P0_ k_) := by
  have HO0 := Aside0.mk (show Kd.R k40 40 w w0.heap.size (fun k_ => (P0_ k_ ∨ w.heap.size ≤ k_)) u9000_ l0 from Kd.R_mono ho0 (fun k_ hk => (.inl hk)))
  have HK := Aside0.mk (Kept.refl w (fun k_ => P0_ k_))
  have HW0 := Aside0.mk hB.size
  have HB := Aside0.mk hB
  clear hB
  have H : (laws_markDieS.l0 k l0 a1 0) = some (r1, r2) := h
  clear h
  have H' := Aside0.mk H
  clear H
  go_enter Try.func43, Try.ntmps43
  go_wp2
  go_loopg [1, 5] k (fun kq v1 v5 w' => ∃ (x0_1 : List (S40)) (x1_1 : Int) (x5_1 : Int), v1 = .int .i64 x1_1 ∧ v5 = .int .i64 x5_1 ∧ Aside0 (laws_markDieS.l0 kq x0_1 x1_1 x5_1 = some (r1, r2)) ∧ Aside0 (kq ≤ k) ∧ Aside0 (Kd.R k40 40 w' w0.heap.size (fun k_ => (P0_ k_ ∨ w.heap.size ≤ k_)) u9000_ x0_1) ∧ Aside0 (Kept w w' (fun k_ => P0_ k_)) ∧ Aside0 (Below w0.heap.size w0 w'))
  case atStart => exact ⟨(l0), (a1), (0), (by first | rfl | (simp; done) | (simp [*]; done)), (by first | rfl | (simp; done) | (simp [*]; done)), H', ⟨Nat.le_refl _⟩, ⟨by (with_reducible repeat (first | apply Kd.R_alloc | apply Kd.R_drewN | apply Kd.R_drew)); exact HO0.out⟩, ⟨by repeat (first | (with_reducible first | exact HK.out | apply Kept.alloc | apply Kept.drewN | apply Kept.drew) | exact HK.out)⟩, ⟨by repeat (first | (with_reducible first | exact HB.out | apply below_alloc | apply pw_below_drewN | apply below_drew1) | exact HB.out)⟩⟩
  case round =>
    clear H'
    try clear p2
    obtain ⟨x0_1, x1_1, x5_1, rfl, rfl, HA, HK1, HO_0, HK, HB⟩ := hrel
    cases gk with
    | zero => exact absurd HA.out (by simp [laws_markDieS.l0])
    | succ k1 =>
      have H := HA.out
      clear HA
      simp only [laws_markDieS.l0] at H
      by_cases c3 : x5_1 < (x0_1.length : Int)
      · rw [if_pos c3] at H
        have c3b0 : decide (x5_1 < (x0_1.length : Int)) = true := decide_eq_true c3
        clear c3
        by_cases c4 : 0 ≤ x5_1
        · rw [if_pos c4] at H
          have c4b0 : decide (0 ≤ x5_1) = true := decide_eq_true c4
          clear c4
          obtain ⟨y690, hy690⟩ : ∃ y_ : List (S40), y_ = (x0_1.set (x5_1 : Int).toNat (⟨x1_1, (rd_T40 x0_1 x5_1).f1, (rd_T40 x0_1 x5_1).f2, (rd_T40 x0_1 x5_1).f3, (rd_T40 x0_1 x5_1).f4, (rd_T40 x0_1 x5_1).f5⟩ : S40)) := ⟨_, rfl⟩
          replace H : ((some (y690.set (x5_1 : Int).toNat (⟨(rd_T40 y690 x5_1).f0, wrap64 (x1_1 + 1), (rd_T40 y690 x5_1).f2, (rd_T40 y690 x5_1).f3, (rd_T40 y690 x5_1).f4, (rd_T40 y690 x5_1).f5⟩ : S40) : List (S40))).bind fun y691 => ((some (y691.set (x5_1 : Int).toNat (⟨(rd_T40 y691 x5_1).f0, (rd_T40 y691 x5_1).f1, wrap64 ((wrap64 (x1_1 + 1)) + 1), (rd_T40 y691 x5_1).f3, (rd_T40 y691 x5_1).f4, (rd_T40 y691 x5_1).f5⟩ : S40) : List (S40))).bind fun y692 => ((some (y692.set (x5_1 : Int).toNat (⟨(rd_T40 y692 x5_1).f0, (rd_T40 y692 x5_1).f1, (rd_T40 y692 x5_1).f2, wrap64 ((wrap64 ((wrap64 (x1_1 + 1)) + 1)) + 1), (rd_T40 y692 x5_1).f4, (rd_T40 y692 x5_1).f5⟩ : S40) : List (S40))).bind fun y693 => ((some (y693.set (x5_1 : Int).toNat (⟨(rd_T40 y693 x5_1).f0, (rd_T40 y693 x5_1).f1, (rd_T40 y693 x5_1).f2, (rd_T40 y693 x5_1).f3, wrap64 ((wrap64 ((wrap64 ((wrap64 (x1_1 + 1)) + 1)) + 1)) + 1), (rd_T40 y693 x5_1).f5⟩ : S40) : List (S40))).bind fun y694 => (laws_markDieS.l0 k1 (y694.set (x5_1 : Int).toNat (⟨(rd_T40 y694 x5_1).f0, (rd_T40 y694 x5_1).f1, (rd_T40 y694 x5_1).f2, (rd_T40 y694 x5_1).f3, (rd_T40 y694 x5_1).f4, wrap64 ((wrap64 ((wrap64 ((wrap64 ((wrap64 (x1_1 + 1)) + 1)) + 1)) + 1)) + 1)⟩ : S40)) (wrap64 ((wrap64 ((wrap64 ((wrap64 ((wrap64 ((wrap64 (x1_1 + 1)) + 1)) + 1)) + 1)) + 1)) + 1)) (wrap64 (x5_1 + 1))))))) = some (r1, r2) := by first | (rw [hy690]; with_reducible exact H) | (have H2_ := (Option.bind_some _ _).symm.trans H; rw [hy690]; with_reducible exact H2_) | (have H2_ := (Option.bind_some _ _).symm.trans H; with_reducible exact H2_) | with_reducible exact H | (rw [hy690]; exact H) | exact H
          have Ny690 := Aside0.mk hy690
          clear hy690
          obtain ⟨y691, hy691⟩ : ∃ y_ : List (S40), y_ = (y690.set (x5_1 : Int).toNat (⟨(rd_T40 y690 x5_1).f0, wrap64 (x1_1 + 1), (rd_T40 y690 x5_1).f2, (rd_T40 y690 x5_1).f3, (rd_T40 y690 x5_1).f4, (rd_T40 y690 x5_1).f5⟩ : S40)) := ⟨_, rfl⟩
          replace H : ((some (y691.set (x5_1 : Int).toNat (⟨(rd_T40 y691 x5_1).f0, (rd_T40 y691 x5_1).f1, wrap64 ((wrap64 (x1_1 + 1)) + 1), (rd_T40 y691 x5_1).f3, (rd_T40 y691 x5_1).f4, (rd_T40 y691 x5_1).f5⟩ : S40) : List (S40))).bind fun y692 => ((some (y692.set (x5_1 : Int).toNat (⟨(rd_T40 y692 x5_1).f0, (rd_T40 y692 x5_1).f1, (rd_T40 y692 x5_1).f2, wrap64 ((wrap64 ((wrap64 (x1_1 + 1)) + 1)) + 1), (rd_T40 y692 x5_1).f4, (rd_T40 y692 x5_1).f5⟩ : S40) : List (S40))).bind fun y693 => ((some (y693.set (x5_1 : Int).toNat (⟨(rd_T40 y693 x5_1).f0, (rd_T40 y693 x5_1).f1, (rd_T40 y693 x5_1).f2, (rd_T40 y693 x5_1).f3, wrap64 ((wrap64 ((wrap64 ((wrap64 (x1_1 + 1)) + 1)) + 1)) + 1), (rd_T40 y693 x5_1).f5⟩ : S40) : List (S40))).bind fun y694 => (laws_markDieS.l0 k1 (y694.set (x5_1 : Int).toNat (⟨(rd_T40 y694 x5_1).f0, (rd_T40 y694 x5_1).f1, (rd_T40 y694 x5_1).f2, (rd_T40 y694 x5_1).f3, (rd_T40 y694 x5_1).f4, wrap64 ((wrap64 ((wrap64 ((wrap64 ((wrap64 (x1_1 + 1)) + 1)) + 1)) + 1)) + 1)⟩ : S40)) (wrap64 ((wrap64 ((wrap64 ((wrap64 ((wrap64 ((wrap64 (x1_1 + 1)) + 1)) + 1)) + 1)) + 1)) + 1)) (wrap64 (x5_1 + 1)))))) = some (r1, r2) := by first | (rw [hy691]; with_reducible exact H) | (have H2_ := (Option.bind_some _ _).symm.trans H; rw [hy691]; with_reducible exact H2_) | (have H2_ := (Option.bind_some _ _).symm.trans H; with_reducible exact H2_) | with_reducible exact H | (rw [hy691]; exact H) | exact H
          have Ny691 := Aside0.mk hy691
          clear hy691
          obtain ⟨y692, hy692⟩ : ∃ y_ : List (S40), y_ = (y691.set (x5_1 : Int).toNat (⟨(rd_T40 y691 x5_1).f0, (rd_T40 y691 x5_1).f1, wrap64 ((wrap64 (x1_1 + 1)) + 1), (rd_T40 y691 x5_1).f3, (rd_T40 y691 x5_1).f4, (rd_T40 y691 x5_1).f5⟩ : S40)) := ⟨_, rfl⟩
          replace H : ((some (y692.set (x5_1 : Int).toNat (⟨(rd_T40 y692 x5_1).f0, (rd_T40 y692 x5_1).f1, (rd_T40 y692 x5_1).f2, wrap64 ((wrap64 ((wrap64 (x1_1 + 1)) + 1)) + 1), (rd_T40 y692 x5_1).f4, (rd_T40 y692 x5_1).f5⟩ : S40) : List (S40))).bind fun y693 => ((some (y693.set (x5_1 : Int).toNat (⟨(rd_T40 y693 x5_1).f0, (rd_T40 y693 x5_1).f1, (rd_T40 y693 x5_1).f2, (rd_T40 y693 x5_1).f3, wrap64 ((wrap64 ((wrap64 ((wrap64 (x1_1 + 1)) + 1)) + 1)) + 1), (rd_T40 y693 x5_1).f5⟩ : S40) : List (S40))).bind fun y694 => (laws_markDieS.l0 k1 (y694.set (x5_1 : Int).toNat (⟨(rd_T40 y694 x5_1).f0, (rd_T40 y694 x5_1).f1, (rd_T40 y694 x5_1).f2, (rd_T40 y694 x5_1).f3, (rd_T40 y694 x5_1).f4, wrap64 ((wrap64 ((wrap64 ((wrap64 ((wrap64 (x1_1 + 1)) + 1)) + 1)) + 1)) + 1)⟩ : S40)) (wrap64 ((wrap64 ((wrap64 ((wrap64 ((wrap64 ((wrap64 (x1_1 + 1)) + 1)) + 1)) + 1)) + 1)) + 1)) (wrap64 (x5_1 + 1))))) = some (r1, r2) := by first | (rw [hy692]; with_reducible exact H) | (have H2_ := (Option.bind_some _ _).symm.trans H; rw [hy692]; with_reducible exact H2_) | (have H2_ := (Option.bind_some _ _).symm.trans H; with_reducible exact H2_) | with_reducible exact H | (rw [hy692]; exact H) | exact H
          have Ny692 := Aside0.mk hy692
          clear hy692
          obtain ⟨y693, hy693⟩ : ∃ y_ : List (S40), y_ = (y692.set (x5_1 : Int).toNat (⟨(rd_T40 y692 x5_1).f0, (rd_T40 y692 x5_1).f1, (rd_T40 y692 x5_1).f2, wrap64 ((wrap64 ((wrap64 (x1_1 + 1)) + 1)) + 1), (rd_T40 y692 x5_1).f4, (rd_T40 y692 x5_1).f5⟩ : S40)) := ⟨_, rfl⟩
          replace H : ((some (y693.set (x5_1 : Int).toNat (⟨(rd_T40 y693 x5_1).f0, (rd_T40 y693 x5_1).f1, (rd_T40 y693 x5_1).f2, (rd_T40 y693 x5_1).f3, wrap64 ((wrap64 ((wrap64 ((wrap64 (x1_1 + 1)) + 1)) + 1)) + 1), (rd_T40 y693 x5_1).f5⟩ : S40) : List (S40))).bind fun y694 => (laws_markDieS.l0 k1 (y694.set (x5_1 : Int).toNat (⟨(rd_T40 y694 x5_1).f0, (rd_T40 y694 x5_1).f1, (rd_T40 y694 x5_1).f2, (rd_T40 y694 x5_1).f3, (rd_T40 y694 x5_1).f4, wrap64 ((wrap64 ((wrap64 ((wrap64 ((wrap64 (x1_1 + 1)) + 1)) + 1)) + 1)) + 1)⟩ : S40)) (wrap64 ((wrap64 ((wrap64 ((wrap64 ((wrap64 ((wrap64 (x1_1 + 1)) + 1)) + 1)) + 1)) + 1)) + 1)) (wrap64 (x5_1 + 1)))) = some (r1, r2) := by first | (rw [hy693]; with_reducible exact H) | (have H2_ := (Option.bind_some _ _).symm.trans H; rw [hy693]; with_reducible exact H2_) | (have H2_ := (Option.bind_some _ _).symm.trans H; with_reducible exact H2_) | with_reducible exact H | (rw [hy693]; exact H) | exact H
          have Ny693 := Aside0.mk hy693
          clear hy693
          obtain ⟨y694, hy694⟩ : ∃ y_ : List (S40), y_ = (y693.set (x5_1 : Int).toNat (⟨(rd_T40 y693 x5_1).f0, (rd_T40 y693 x5_1).f1, (rd_T40 y693 x5_1).f2, (rd_T40 y693 x5_1).f3, wrap64 ((wrap64 ((wrap64 ((wrap64 (x1_1 + 1)) + 1)) + 1)) + 1), (rd_T40 y693 x5_1).f5⟩ : S40)) := ⟨_, rfl⟩
          replace H : (laws_markDieS.l0 k1 (y694.set (x5_1 : Int).toNat (⟨(rd_T40 y694 x5_1).f0, (rd_T40 y694 x5_1).f1, (rd_T40 y694 x5_1).f2, (rd_T40 y694 x5_1).f3, (rd_T40 y694 x5_1).f4, wrap64 ((wrap64 ((wrap64 ((wrap64 ((wrap64 (x1_1 + 1)) + 1)) + 1)) + 1)) + 1)⟩ : S40)) (wrap64 ((wrap64 ((wrap64 ((wrap64 ((wrap64 ((wrap64 (x1_1 + 1)) + 1)) + 1)) + 1)) + 1)) + 1)) (wrap64 (x5_1 + 1))) = some (r1, r2) := by first | (rw [hy694]; with_reducible exact H) | (have H2_ := (Option.bind_some _ _).symm.trans H; rw [hy694]; with_reducible exact H2_) | (have H2_ := (Option.bind_some _ _).symm.trans H; with_reducible exact H2_) | with_reducible exact H | (rw [hy694]; exact H) | exact H
          have Ny694 := Aside0.mk hy694
          clear hy694
          obtain ⟨y695, hy695⟩ : ∃ y_ : List (S40), y_ = (y694.set (x5_1 : Int).toNat (⟨(rd_T40 y694 x5_1).f0, (rd_T40 y694 x5_1).f1, (rd_T40 y694 x5_1).f2, (rd_T40 y694 x5_1).f3, (rd_T40 y694 x5_1).f4, wrap64 ((wrap64 ((wrap64 ((wrap64 ((wrap64 (x1_1 + 1)) + 1)) + 1)) + 1)) + 1)⟩ : S40)) := ⟨_, rfl⟩
          replace H : (laws_markDieS.l0 k1 y695 (wrap64 ((wrap64 ((wrap64 ((wrap64 ((wrap64 ((wrap64 (x1_1 + 1)) + 1)) + 1)) + 1)) + 1)) + 1)) (wrap64 (x5_1 + 1))) = some (r1, r2) := by first | (rw [hy695]; with_reducible exact H) | (have H2_ := (Option.bind_some _ _).symm.trans H; rw [hy695]; with_reducible exact H2_) | (have H2_ := (Option.bind_some _ _).symm.trans H; with_reducible exact H2_) | with_reducible exact H | (rw [hy695]; exact H) | exact H
          have Ny695 := Aside0.mk hy695
          clear hy695
          have H' := Aside0.mk H
          clear H
          obtain ⟨Ao11, co11, eo11⟩ := Kd.R_slice HO_0.out
          subst eo11
          have p5 : 0 ≤ (x5_1 : Int) := of_decide_eq_true (by first | (with_reducible assumption) | assumption)
          have q5 : (x5_1 : Int) < ((x0_1.length : Int) : Int) := of_decide_eq_true (by first | (with_reducible assumption) | assumption)
          obtain ⟨go5, co5, eo5, gb5, gl5, cl5, HG5⟩ := Kd.R_form HO_0.out (by omega)
          (first | cases eo5 | (injection eo5 with ea_ en_ ec_; (first | subst ea_ | (injection ea_ with ea_; subst ea_)); subst ec_; clear en_))
          have GB5 := Aside0.mk gb5
          have GG5 := Aside0.mk HG5
          clear gb5 gl5 HG5
          have HMgo5 := Aside0.mk (show (P0_ go5 ∨ w.heap.size ≤ go5) from (HO_0.out.1 _ rfl))
          obtain ⟨ce5, hcl5, hM5, hcc5, hfr5⟩ := Kd.R_elem HO_0.out z40 (x5_1 : Int) p5 q5
          obtain rfl := k40_openM hM5
          have hx5_0 : wr.cell? ⟨go5, (x5_1 : Int).toNat * 6, none⟩ = some (.int .i64 ((rd_T40 x0_1 x5_1).f0)) := hcc5 0 _ rfl
          have hx5_1 : wr.cell? ⟨go5, (x5_1 : Int).toNat * 6 + 1, none⟩ = some (.int .i64 ((rd_T40 x0_1 x5_1).f1)) := hcc5 1 _ rfl
          have hx5_2 : wr.cell? ⟨go5, (x5_1 : Int).toNat * 6 + 2, none⟩ = some (.int .i64 ((rd_T40 x0_1 x5_1).f2)) := hcc5 2 _ rfl
          have hx5_3 : wr.cell? ⟨go5, (x5_1 : Int).toNat * 6 + 3, none⟩ = some (.int .i64 ((rd_T40 x0_1 x5_1).f3)) := hcc5 3 _ rfl
          have hx5_4 : wr.cell? ⟨go5, (x5_1 : Int).toNat * 6 + 4, none⟩ = some (.int .i64 ((rd_T40 x0_1 x5_1).f4)) := hcc5 4 _ rfl
          have hx5_5 : wr.cell? ⟨go5, (x5_1 : Int).toNat * 6 + 5, none⟩ = some (.int .i64 ((rd_T40 x0_1 x5_1).f5)) := hcc5 5 _ rfl
          have hf5_0 : wr.frozen? ⟨go5, (x5_1 : Int).toNat * 6, none⟩ = false := hfr5 0
          have hf5_1 : wr.frozen? ⟨go5, (x5_1 : Int).toNat * 6 + 1, none⟩ = false := hfr5 1
          have hf5_2 : wr.frozen? ⟨go5, (x5_1 : Int).toNat * 6 + 2, none⟩ = false := hfr5 2
          have hf5_3 : wr.frozen? ⟨go5, (x5_1 : Int).toNat * 6 + 3, none⟩ = false := hfr5 3
          have hf5_4 : wr.frozen? ⟨go5, (x5_1 : Int).toNat * 6 + 4, none⟩ = false := hfr5 4
          have hf5_5 : wr.frozen? ⟨go5, (x5_1 : Int).toNat * 6 + 5, none⟩ = false := hfr5 5
          clear hcl5 hcc5 hfr5 hM5
          replace p5 := eq_true p5
          replace q5 := eq_true q5
          have HX12 := Aside0.mk (show Kd.R k40 40 wr w0.heap.size (fun k_ => (P0_ k_ ∨ w.heap.size ≤ k_)) (.slice (some ⟨go5, 0, none⟩) x0_1.length co11) x0_1 from (by (with_reducible repeat (first | apply Kd.R_alloc | apply Kd.R_drewN | apply Kd.R_drew)); exact HO_0.out))
          obtain ⟨ce12, hcl12, hM12, hcc12, hfr12⟩ := Kd.R_elem HX12.out z40 (x5_1 : Int) (of_decide_eq_true (by first | (with_reducible assumption) | assumption)) (by have h_ : (x5_1 : Int) < ((x0_1.length : Int) : Int) := of_decide_eq_true (by first | (with_reducible assumption) | assumption); first | exact h_ | (have e_ := (Kd.R_reads' HO_0.out).1; omega) | simpa using h_)
          obtain rfl := k40_openM hM12
          have HP12 := Kd.R_seg HX12.out (x5_1 : Int) (of_decide_eq_true (by first | (with_reducible assumption) | assumption)) (by have h_ : (x5_1 : Int) < ((x0_1.length : Int) : Int) := of_decide_eq_true (by first | (with_reducible assumption) | assumption); first | exact h_ | (have e_ := (Kd.R_reads' HO_0.out).1; omega) | simpa using h_) (seg := [.int .i64 x1_1]) (j := 0) hcl12 hcc12 (show 1 ≤ 6 from by decide) (x' := (⟨x1_1, (rd_T40 x0_1 x5_1).f1, (rd_T40 x0_1 x5_1).f2, (rd_T40 x0_1 x5_1).f3, (rd_T40 x0_1 x5_1).f4, (rd_T40 x0_1 x5_1).f5⟩ : S40)) (k40_mkM _ _ _ (⟨x1_1, (rd_T40 x0_1 x5_1).f1, (rd_T40 x0_1 x5_1).f2, (rd_T40 x0_1 x5_1).f3, (rd_T40 x0_1 x5_1).f4, (rd_T40 x0_1 x5_1).f5⟩ : S40) ) (fun _ hk => hk)
          have hx12_0 := hcc12 0 _ rfl
          (try simp only [show (k40).sz = 6 from rfl, Nat.mul_one, Nat.add_zero] at hx12_0)
          have hf12_0 := hfr12 0
          (try simp only [show (k40).sz = 6 from rfl, Nat.mul_one, Nat.add_zero] at hf12_0)
          clear hcl12 hcc12 hfr12 hM12
          go_wp2_with (first | ((with_reducible refine gate_store (t := 3) (p := 16) rfl ?_); refine store_event (t := 3) (p := 16) (v := ?vo_w13) (w1 := (wr.setCell ⟨go5, (x5_1 : Int).toNat * 6, none⟩ (.int .i64 x1_1))) ?hg ?ho ?hn ?hr ?_; (case ho => rfl); (case hg => rfl); (case hn => rfl); (case hr => first | (go_simp; done) | (go_simp; rfl)); intro w13 hw; have hg : wr.grownBy w13 (some go5) := (by rw [hw]; exact HP12.2); have hp_ : Kd.R k40 40 w13 w0.heap.size (fun k_ => (P0_ k_ ∨ w.heap.size ≤ k_)) (.slice (some ⟨go5, 0, none⟩) x0_1.length co11) y690 := (by rw [hw, Ny690.out]; exact HP12.1); clear HP12; have n0_ := Aside0.mk (hp_); have n1_ := Aside0.mk ((by rw [hw]; exact below_set (HB.out) GB5.out : Below w0.heap.size w0 w13)); have n2_ := Aside0.mk (Kept.of_grown (S := (fun k_ => P0_ k_)) hg (by repeat (first | (with_reducible first | exact HK.out | apply Kept.alloc | apply Kept.drewN | apply Kept.drew) | exact HK.out)) (fun k_ e_ => (HO_0.out.1 k_ e_))); clear HO_0; clear HB; clear HK; have HO_0 := n0_; have HB := n1_; have HK := n2_; clear n0_ n1_ n2_; clear hg hw hp_; have p6 : 0 ≤ (x5_1 : Int) := of_decide_eq_true (by first | (with_reducible assumption) | assumption); have q6 : (x5_1 : Int) < ((x0_1.length : Int) : Int) := of_decide_eq_true (by first | (with_reducible assumption) | assumption); obtain ⟨ce6, hcl6, hM6, hcc6, hfr6⟩ := Kd.R_elem HO_0.out z40 (x5_1 : Int) p6 q6; obtain rfl := k40_openM hM6; have hx6_0 : w13.cell? ⟨go5, (x5_1 : Int).toNat * 6, none⟩ = some (.int .i64 ((rd_T40 y690 x5_1).f0)) := hcc6 0 _ rfl; have hx6_1 : w13.cell? ⟨go5, (x5_1 : Int).toNat * 6 + 1, none⟩ = some (.int .i64 ((rd_T40 y690 x5_1).f1)) := hcc6 1 _ rfl; have hx6_2 : w13.cell? ⟨go5, (x5_1 : Int).toNat * 6 + 2, none⟩ = some (.int .i64 ((rd_T40 y690 x5_1).f2)) := hcc6 2 _ rfl; have hx6_3 : w13.cell? ⟨go5, (x5_1 : Int).toNat * 6 + 3, none⟩ = some (.int .i64 ((rd_T40 y690 x5_1).f3)) := hcc6 3 _ rfl; have hx6_4 : w13.cell? ⟨go5, (x5_1 : Int).toNat * 6 + 4, none⟩ = some (.int .i64 ((rd_T40 y690 x5_1).f4)) := hcc6 4 _ rfl; have hx6_5 : w13.cell? ⟨go5, (x5_1 : Int).toNat * 6 + 5, none⟩ = some (.int .i64 ((rd_T40 y690 x5_1).f5)) := hcc6 5 _ rfl; have hf6_0 : w13.frozen? ⟨go5, (x5_1 : Int).toNat * 6, none⟩ = false := hfr6 0; have hf6_1 : w13.frozen? ⟨go5, (x5_1 : Int).toNat * 6 + 1, none⟩ = false := hfr6 1; have hf6_2 : w13.frozen? ⟨go5, (x5_1 : Int).toNat * 6 + 2, none⟩ = false := hfr6 2; have hf6_3 : w13.frozen? ⟨go5, (x5_1 : Int).toNat * 6 + 3, none⟩ = false := hfr6 3; have hf6_4 : w13.frozen? ⟨go5, (x5_1 : Int).toNat * 6 + 4, none⟩ = false := hfr6 4; have hf6_5 : w13.frozen? ⟨go5, (x5_1 : Int).toNat * 6 + 5, none⟩ = false := hfr6 5; clear hcl6 hcc6 hfr6 hM6; replace p6 := eq_true p6; replace q6 := eq_true q6; have HX14 := Aside0.mk (show Kd.R k40 40 w13 w0.heap.size (fun k_ => (P0_ k_ ∨ w.heap.size ≤ k_)) (.slice (some ⟨go5, 0, none⟩) x0_1.length co11) y690 from (by (with_reducible repeat (first | apply Kd.R_alloc | apply Kd.R_drewN | apply Kd.R_drew)); exact HO_0.out)); obtain ⟨ce14, hcl14, hM14, hcc14, hfr14⟩ := Kd.R_elem HX14.out z40 (x5_1 : Int) (of_decide_eq_true (by first | (with_reducible assumption) | assumption)) (by have h_ : (x5_1 : Int) < ((x0_1.length : Int) : Int) := of_decide_eq_true (by first | (with_reducible assumption) | assumption); first | exact h_ | (have e_ := (Kd.R_reads' HO_0.out).1; omega) | simpa using h_); obtain rfl := k40_openM hM14; have HP14 := Kd.R_seg HX14.out (x5_1 : Int) (of_decide_eq_true (by first | (with_reducible assumption) | assumption)) (by have h_ : (x5_1 : Int) < ((x0_1.length : Int) : Int) := of_decide_eq_true (by first | (with_reducible assumption) | assumption); first | exact h_ | (have e_ := (Kd.R_reads' HO_0.out).1; omega) | simpa using h_) (seg := [.int .i64 (wrap64 (x1_1 + 1))]) (j := 1) hcl14 hcc14 (show 2 ≤ 6 from by decide) (x' := (⟨(rd_T40 y690 x5_1).f0, wrap64 (x1_1 + 1), (rd_T40 y690 x5_1).f2, (rd_T40 y690 x5_1).f3, (rd_T40 y690 x5_1).f4, (rd_T40 y690 x5_1).f5⟩ : S40)) (k40_mkM _ _ _ (⟨(rd_T40 y690 x5_1).f0, wrap64 (x1_1 + 1), (rd_T40 y690 x5_1).f2, (rd_T40 y690 x5_1).f3, (rd_T40 y690 x5_1).f4, (rd_T40 y690 x5_1).f5⟩ : S40) ) (fun _ hk => hk); have hx14_1 := hcc14 1 _ rfl; (try simp only [show (k40).sz = 6 from rfl, Nat.mul_one, Nat.add_zero] at hx14_1); have hf14_1 := hfr14 1; (try simp only [show (k40).sz = 6 from rfl, Nat.mul_one, Nat.add_zero] at hf14_1); clear hcl14 hcc14 hfr14 hM14) | ((with_reducible refine gate_store (t := 3) (p := 23) rfl ?_); refine store_event (t := 3) (p := 23) (v := ?vo_w15) (w1 := (w13.setCell ⟨go5, (x5_1 : Int).toNat * 6 + 1, none⟩ (.int .i64 (wrap64 (x1_1 + 1))))) ?hg ?ho ?hn ?hr ?_; (case ho => rfl); (case hg => rfl); (case hn => rfl); (case hr => first | (go_simp; done) | (go_simp; rfl)); intro w15 hw; have hg : w13.grownBy w15 (some go5) := (by rw [hw]; exact HP14.2); have hp_ : Kd.R k40 40 w15 w0.heap.size (fun k_ => (P0_ k_ ∨ w.heap.size ≤ k_)) (.slice (some ⟨go5, 0, none⟩) x0_1.length co11) y691 := (by rw [hw, Ny691.out]; exact HP14.1); clear HP14; have n0_ := Aside0.mk (hp_); have n1_ := Aside0.mk ((by rw [hw]; exact below_set (HB.out) GB5.out : Below w0.heap.size w0 w15)); have n2_ := Aside0.mk (Kept.of_grown (S := (fun k_ => P0_ k_)) hg (by repeat (first | (with_reducible first | exact HK.out | apply Kept.alloc | apply Kept.drewN | apply Kept.drew) | exact HK.out)) (fun k_ e_ => (HO_0.out.1 k_ e_))); clear HO_0; clear HB; clear HK; have HO_0 := n0_; have HB := n1_; have HK := n2_; clear n0_ n1_ n2_; clear hg hw hp_; have p7 : 0 ≤ (x5_1 : Int) := of_decide_eq_true (by first | (with_reducible assumption) | assumption); have q7 : (x5_1 : Int) < ((x0_1.length : Int) : Int) := of_decide_eq_true (by first | (with_reducible assumption) | assumption); obtain ⟨ce7, hcl7, hM7, hcc7, hfr7⟩ := Kd.R_elem HO_0.out z40 (x5_1 : Int) p7 q7; obtain rfl := k40_openM hM7; have hx7_0 : w15.cell? ⟨go5, (x5_1 : Int).toNat * 6, none⟩ = some (.int .i64 ((rd_T40 y691 x5_1).f0)) := hcc7 0 _ rfl; have hx7_1 : w15.cell? ⟨go5, (x5_1 : Int).toNat * 6 + 1, none⟩ = some (.int .i64 ((rd_T40 y691 x5_1).f1)) := hcc7 1 _ rfl; have hx7_2 : w15.cell? ⟨go5, (x5_1 : Int).toNat * 6 + 2, none⟩ = some (.int .i64 ((rd_T40 y691 x5_1).f2)) := hcc7 2 _ rfl; have hx7_3 : w15.cell? ⟨go5, (x5_1 : Int).toNat * 6 + 3, none⟩ = some (.int .i64 ((rd_T40 y691 x5_1).f3)) := hcc7 3 _ rfl; have hx7_4 : w15.cell? ⟨go5, (x5_1 : Int).toNat * 6 + 4, none⟩ = some (.int .i64 ((rd_T40 y691 x5_1).f4)) := hcc7 4 _ rfl; have hx7_5 : w15.cell? ⟨go5, (x5_1 : Int).toNat * 6 + 5, none⟩ = some (.int .i64 ((rd_T40 y691 x5_1).f5)) := hcc7 5 _ rfl; have hf7_0 : w15.frozen? ⟨go5, (x5_1 : Int).toNat * 6, none⟩ = false := hfr7 0; have hf7_1 : w15.frozen? ⟨go5, (x5_1 : Int).toNat * 6 + 1, none⟩ = false := hfr7 1; have hf7_2 : w15.frozen? ⟨go5, (x5_1 : Int).toNat * 6 + 2, none⟩ = false := hfr7 2; have hf7_3 : w15.frozen? ⟨go5, (x5_1 : Int).toNat * 6 + 3, none⟩ = false := hfr7 3; have hf7_4 : w15.frozen? ⟨go5, (x5_1 : Int).toNat * 6 + 4, none⟩ = false := hfr7 4; have hf7_5 : w15.frozen? ⟨go5, (x5_1 : Int).toNat * 6 + 5, none⟩ = false := hfr7 5; clear hcl7 hcc7 hfr7 hM7; replace p7 := eq_true p7; replace q7 := eq_true q7; have HX16 := Aside0.mk (show Kd.R k40 40 w15 w0.heap.size (fun k_ => (P0_ k_ ∨ w.heap.size ≤ k_)) (.slice (some ⟨go5, 0, none⟩) x0_1.length co11) y691 from (by (with_reducible repeat (first | apply Kd.R_alloc | apply Kd.R_drewN | apply Kd.R_drew)); exact HO_0.out)); obtain ⟨ce16, hcl16, hM16, hcc16, hfr16⟩ := Kd.R_elem HX16.out z40 (x5_1 : Int) (of_decide_eq_true (by first | (with_reducible assumption) | assumption)) (by have h_ : (x5_1 : Int) < ((x0_1.length : Int) : Int) := of_decide_eq_true (by first | (with_reducible assumption) | assumption); first | exact h_ | (have e_ := (Kd.R_reads' HO_0.out).1; omega) | simpa using h_); obtain rfl := k40_openM hM16; have HP16 := Kd.R_seg HX16.out (x5_1 : Int) (of_decide_eq_true (by first | (with_reducible assumption) | assumption)) (by have h_ : (x5_1 : Int) < ((x0_1.length : Int) : Int) := of_decide_eq_true (by first | (with_reducible assumption) | assumption); first | exact h_ | (have e_ := (Kd.R_reads' HO_0.out).1; omega) | simpa using h_) (seg := [.int .i64 (wrap64 ((wrap64 (x1_1 + 1)) + 1))]) (j := 2) hcl16 hcc16 (show 3 ≤ 6 from by decide) (x' := (⟨(rd_T40 y691 x5_1).f0, (rd_T40 y691 x5_1).f1, wrap64 ((wrap64 (x1_1 + 1)) + 1), (rd_T40 y691 x5_1).f3, (rd_T40 y691 x5_1).f4, (rd_T40 y691 x5_1).f5⟩ : S40)) (k40_mkM _ _ _ (⟨(rd_T40 y691 x5_1).f0, (rd_T40 y691 x5_1).f1, wrap64 ((wrap64 (x1_1 + 1)) + 1), (rd_T40 y691 x5_1).f3, (rd_T40 y691 x5_1).f4, (rd_T40 y691 x5_1).f5⟩ : S40) ) (fun _ hk => hk); have hx16_2 := hcc16 2 _ rfl; (try simp only [show (k40).sz = 6 from rfl, Nat.mul_one, Nat.add_zero] at hx16_2); have hf16_2 := hfr16 2; (try simp only [show (k40).sz = 6 from rfl, Nat.mul_one, Nat.add_zero] at hf16_2); clear hcl16 hcc16 hfr16 hM16) | ((with_reducible refine gate_store (t := 3) (p := 30) rfl ?_); refine store_event (t := 3) (p := 30) (v := ?vo_w17) (w1 := (w15.setCell ⟨go5, (x5_1 : Int).toNat * 6 + 2, none⟩ (.int .i64 (wrap64 ((wrap64 (x1_1 + 1)) + 1))))) ?hg ?ho ?hn ?hr ?_; (case ho => rfl); (case hg => rfl); (case hn => rfl); (case hr => first | (go_simp; done) | (go_simp; rfl)); intro w17 hw; have hg : w15.grownBy w17 (some go5) := (by rw [hw]; exact HP16.2); have hp_ : Kd.R k40 40 w17 w0.heap.size (fun k_ => (P0_ k_ ∨ w.heap.size ≤ k_)) (.slice (some ⟨go5, 0, none⟩) x0_1.length co11) y692 := (by rw [hw, Ny692.out]; exact HP16.1); clear HP16; have n0_ := Aside0.mk (hp_); have n1_ := Aside0.mk ((by rw [hw]; exact below_set (HB.out) GB5.out : Below w0.heap.size w0 w17)); have n2_ := Aside0.mk (Kept.of_grown (S := (fun k_ => P0_ k_)) hg (by repeat (first | (with_reducible first | exact HK.out | apply Kept.alloc | apply Kept.drewN | apply Kept.drew) | exact HK.out)) (fun k_ e_ => (HO_0.out.1 k_ e_))); clear HO_0; clear HB; clear HK; have HO_0 := n0_; have HB := n1_; have HK := n2_; clear n0_ n1_ n2_; clear hg hw hp_; have p8 : 0 ≤ (x5_1 : Int) := of_decide_eq_true (by first | (with_reducible assumption) | assumption); have q8 : (x5_1 : Int) < ((x0_1.length : Int) : Int) := of_decide_eq_true (by first | (with_reducible assumption) | assumption); obtain ⟨ce8, hcl8, hM8, hcc8, hfr8⟩ := Kd.R_elem HO_0.out z40 (x5_1 : Int) p8 q8; obtain rfl := k40_openM hM8; have hx8_0 : w17.cell? ⟨go5, (x5_1 : Int).toNat * 6, none⟩ = some (.int .i64 ((rd_T40 y692 x5_1).f0)) := hcc8 0 _ rfl; have hx8_1 : w17.cell? ⟨go5, (x5_1 : Int).toNat * 6 + 1, none⟩ = some (.int .i64 ((rd_T40 y692 x5_1).f1)) := hcc8 1 _ rfl; have hx8_2 : w17.cell? ⟨go5, (x5_1 : Int).toNat * 6 + 2, none⟩ = some (.int .i64 ((rd_T40 y692 x5_1).f2)) := hcc8 2 _ rfl; have hx8_3 : w17.cell? ⟨go5, (x5_1 : Int).toNat * 6 + 3, none⟩ = some (.int .i64 ((rd_T40 y692 x5_1).f3)) := hcc8 3 _ rfl; have hx8_4 : w17.cell? ⟨go5, (x5_1 : Int).toNat * 6 + 4, none⟩ = some (.int .i64 ((rd_T40 y692 x5_1).f4)) := hcc8 4 _ rfl; have hx8_5 : w17.cell? ⟨go5, (x5_1 : Int).toNat * 6 + 5, none⟩ = some (.int .i64 ((rd_T40 y692 x5_1).f5)) := hcc8 5 _ rfl; have hf8_0 : w17.frozen? ⟨go5, (x5_1 : Int).toNat * 6, none⟩ = false := hfr8 0; have hf8_1 : w17.frozen? ⟨go5, (x5_1 : Int).toNat * 6 + 1, none⟩ = false := hfr8 1; have hf8_2 : w17.frozen? ⟨go5, (x5_1 : Int).toNat * 6 + 2, none⟩ = false := hfr8 2; have hf8_3 : w17.frozen? ⟨go5, (x5_1 : Int).toNat * 6 + 3, none⟩ = false := hfr8 3; have hf8_4 : w17.frozen? ⟨go5, (x5_1 : Int).toNat * 6 + 4, none⟩ = false := hfr8 4; have hf8_5 : w17.frozen? ⟨go5, (x5_1 : Int).toNat * 6 + 5, none⟩ = false := hfr8 5; clear hcl8 hcc8 hfr8 hM8; replace p8 := eq_true p8; replace q8 := eq_true q8; have HX18 := Aside0.mk (show Kd.R k40 40 w17 w0.heap.size (fun k_ => (P0_ k_ ∨ w.heap.size ≤ k_)) (.slice (some ⟨go5, 0, none⟩) x0_1.length co11) y692 from (by (with_reducible repeat (first | apply Kd.R_alloc | apply Kd.R_drewN | apply Kd.R_drew)); exact HO_0.out)); obtain ⟨ce18, hcl18, hM18, hcc18, hfr18⟩ := Kd.R_elem HX18.out z40 (x5_1 : Int) (of_decide_eq_true (by first | (with_reducible assumption) | assumption)) (by have h_ : (x5_1 : Int) < ((x0_1.length : Int) : Int) := of_decide_eq_true (by first | (with_reducible assumption) | assumption); first | exact h_ | (have e_ := (Kd.R_reads' HO_0.out).1; omega) | simpa using h_); obtain rfl := k40_openM hM18; have HP18 := Kd.R_seg HX18.out (x5_1 : Int) (of_decide_eq_true (by first | (with_reducible assumption) | assumption)) (by have h_ : (x5_1 : Int) < ((x0_1.length : Int) : Int) := of_decide_eq_true (by first | (with_reducible assumption) | assumption); first | exact h_ | (have e_ := (Kd.R_reads' HO_0.out).1; omega) | simpa using h_) (seg := [.int .i64 (wrap64 ((wrap64 ((wrap64 (x1_1 + 1)) + 1)) + 1))]) (j := 3) hcl18 hcc18 (show 4 ≤ 6 from by decide) (x' := (⟨(rd_T40 y692 x5_1).f0, (rd_T40 y692 x5_1).f1, (rd_T40 y692 x5_1).f2, wrap64 ((wrap64 ((wrap64 (x1_1 + 1)) + 1)) + 1), (rd_T40 y692 x5_1).f4, (rd_T40 y692 x5_1).f5⟩ : S40)) (k40_mkM _ _ _ (⟨(rd_T40 y692 x5_1).f0, (rd_T40 y692 x5_1).f1, (rd_T40 y692 x5_1).f2, wrap64 ((wrap64 ((wrap64 (x1_1 + 1)) + 1)) + 1), (rd_T40 y692 x5_1).f4, (rd_T40 y692 x5_1).f5⟩ : S40) ) (fun _ hk => hk); have hx18_3 := hcc18 3 _ rfl; (try simp only [show (k40).sz = 6 from rfl, Nat.mul_one, Nat.add_zero] at hx18_3); have hf18_3 := hfr18 3; (try simp only [show (k40).sz = 6 from rfl, Nat.mul_one, Nat.add_zero] at hf18_3); clear hcl18 hcc18 hfr18 hM18) | ((with_reducible refine gate_store (t := 3) (p := 37) rfl ?_); refine store_event (t := 3) (p := 37) (v := ?vo_w19) (w1 := (w17.setCell ⟨go5, (x5_1 : Int).toNat * 6 + 3, none⟩ (.int .i64 (wrap64 ((wrap64 ((wrap64 (x1_1 + 1)) + 1)) + 1))))) ?hg ?ho ?hn ?hr ?_; (case ho => rfl); (case hg => rfl); (case hn => rfl); (case hr => first | (go_simp; done) | (go_simp; rfl)); intro w19 hw; have hg : w17.grownBy w19 (some go5) := (by rw [hw]; exact HP18.2); have hp_ : Kd.R k40 40 w19 w0.heap.size (fun k_ => (P0_ k_ ∨ w.heap.size ≤ k_)) (.slice (some ⟨go5, 0, none⟩) x0_1.length co11) y693 := (by rw [hw, Ny693.out]; exact HP18.1); clear HP18; have n0_ := Aside0.mk (hp_); have n1_ := Aside0.mk ((by rw [hw]; exact below_set (HB.out) GB5.out : Below w0.heap.size w0 w19)); have n2_ := Aside0.mk (Kept.of_grown (S := (fun k_ => P0_ k_)) hg (by repeat (first | (with_reducible first | exact HK.out | apply Kept.alloc | apply Kept.drewN | apply Kept.drew) | exact HK.out)) (fun k_ e_ => (HO_0.out.1 k_ e_))); clear HO_0; clear HB; clear HK; have HO_0 := n0_; have HB := n1_; have HK := n2_; clear n0_ n1_ n2_; clear hg hw hp_; have p9 : 0 ≤ (x5_1 : Int) := of_decide_eq_true (by first | (with_reducible assumption) | assumption); have q9 : (x5_1 : Int) < ((x0_1.length : Int) : Int) := of_decide_eq_true (by first | (with_reducible assumption) | assumption); obtain ⟨ce9, hcl9, hM9, hcc9, hfr9⟩ := Kd.R_elem HO_0.out z40 (x5_1 : Int) p9 q9; obtain rfl := k40_openM hM9; have hx9_0 : w19.cell? ⟨go5, (x5_1 : Int).toNat * 6, none⟩ = some (.int .i64 ((rd_T40 y693 x5_1).f0)) := hcc9 0 _ rfl; have hx9_1 : w19.cell? ⟨go5, (x5_1 : Int).toNat * 6 + 1, none⟩ = some (.int .i64 ((rd_T40 y693 x5_1).f1)) := hcc9 1 _ rfl; have hx9_2 : w19.cell? ⟨go5, (x5_1 : Int).toNat * 6 + 2, none⟩ = some (.int .i64 ((rd_T40 y693 x5_1).f2)) := hcc9 2 _ rfl; have hx9_3 : w19.cell? ⟨go5, (x5_1 : Int).toNat * 6 + 3, none⟩ = some (.int .i64 ((rd_T40 y693 x5_1).f3)) := hcc9 3 _ rfl; have hx9_4 : w19.cell? ⟨go5, (x5_1 : Int).toNat * 6 + 4, none⟩ = some (.int .i64 ((rd_T40 y693 x5_1).f4)) := hcc9 4 _ rfl; have hx9_5 : w19.cell? ⟨go5, (x5_1 : Int).toNat * 6 + 5, none⟩ = some (.int .i64 ((rd_T40 y693 x5_1).f5)) := hcc9 5 _ rfl; have hf9_0 : w19.frozen? ⟨go5, (x5_1 : Int).toNat * 6, none⟩ = false := hfr9 0; have hf9_1 : w19.frozen? ⟨go5, (x5_1 : Int).toNat * 6 + 1, none⟩ = false := hfr9 1; have hf9_2 : w19.frozen? ⟨go5, (x5_1 : Int).toNat * 6 + 2, none⟩ = false := hfr9 2; have hf9_3 : w19.frozen? ⟨go5, (x5_1 : Int).toNat * 6 + 3, none⟩ = false := hfr9 3; have hf9_4 : w19.frozen? ⟨go5, (x5_1 : Int).toNat * 6 + 4, none⟩ = false := hfr9 4; have hf9_5 : w19.frozen? ⟨go5, (x5_1 : Int).toNat * 6 + 5, none⟩ = false := hfr9 5; clear hcl9 hcc9 hfr9 hM9; replace p9 := eq_true p9; replace q9 := eq_true q9; have HX20 := Aside0.mk (show Kd.R k40 40 w19 w0.heap.size (fun k_ => (P0_ k_ ∨ w.heap.size ≤ k_)) (.slice (some ⟨go5, 0, none⟩) x0_1.length co11) y693 from (by (with_reducible repeat (first | apply Kd.R_alloc | apply Kd.R_drewN | apply Kd.R_drew)); exact HO_0.out)); obtain ⟨ce20, hcl20, hM20, hcc20, hfr20⟩ := Kd.R_elem HX20.out z40 (x5_1 : Int) (of_decide_eq_true (by first | (with_reducible assumption) | assumption)) (by have h_ : (x5_1 : Int) < ((x0_1.length : Int) : Int) := of_decide_eq_true (by first | (with_reducible assumption) | assumption); first | exact h_ | (have e_ := (Kd.R_reads' HO_0.out).1; omega) | simpa using h_); obtain rfl := k40_openM hM20; have HP20 := Kd.R_seg HX20.out (x5_1 : Int) (of_decide_eq_true (by first | (with_reducible assumption) | assumption)) (by have h_ : (x5_1 : Int) < ((x0_1.length : Int) : Int) := of_decide_eq_true (by first | (with_reducible assumption) | assumption); first | exact h_ | (have e_ := (Kd.R_reads' HO_0.out).1; omega) | simpa using h_) (seg := [.int .i64 (wrap64 ((wrap64 ((wrap64 ((wrap64 (x1_1 + 1)) + 1)) + 1)) + 1))]) (j := 4) hcl20 hcc20 (show 5 ≤ 6 from by decide) (x' := (⟨(rd_T40 y693 x5_1).f0, (rd_T40 y693 x5_1).f1, (rd_T40 y693 x5_1).f2, (rd_T40 y693 x5_1).f3, wrap64 ((wrap64 ((wrap64 ((wrap64 (x1_1 + 1)) + 1)) + 1)) + 1), (rd_T40 y693 x5_1).f5⟩ : S40)) (k40_mkM _ _ _ (⟨(rd_T40 y693 x5_1).f0, (rd_T40 y693 x5_1).f1, (rd_T40 y693 x5_1).f2, (rd_T40 y693 x5_1).f3, wrap64 ((wrap64 ((wrap64 ((wrap64 (x1_1 + 1)) + 1)) + 1)) + 1), (rd_T40 y693 x5_1).f5⟩ : S40) ) (fun _ hk => hk); have hx20_4 := hcc20 4 _ rfl; (try simp only [show (k40).sz = 6 from rfl, Nat.mul_one, Nat.add_zero] at hx20_4); have hf20_4 := hfr20 4; (try simp only [show (k40).sz = 6 from rfl, Nat.mul_one, Nat.add_zero] at hf20_4); clear hcl20 hcc20 hfr20 hM20) | ((with_reducible refine gate_store (t := 3) (p := 44) rfl ?_); refine store_event (t := 3) (p := 44) (v := ?vo_w21) (w1 := (w19.setCell ⟨go5, (x5_1 : Int).toNat * 6 + 4, none⟩ (.int .i64 (wrap64 ((wrap64 ((wrap64 ((wrap64 (x1_1 + 1)) + 1)) + 1)) + 1))))) ?hg ?ho ?hn ?hr ?_; (case ho => rfl); (case hg => rfl); (case hn => rfl); (case hr => first | (go_simp; done) | (go_simp; rfl)); intro w21 hw; have hg : w19.grownBy w21 (some go5) := (by rw [hw]; exact HP20.2); have hp_ : Kd.R k40 40 w21 w0.heap.size (fun k_ => (P0_ k_ ∨ w.heap.size ≤ k_)) (.slice (some ⟨go5, 0, none⟩) x0_1.length co11) y694 := (by rw [hw, Ny694.out]; exact HP20.1); clear HP20; have n0_ := Aside0.mk (hp_); have n1_ := Aside0.mk ((by rw [hw]; exact below_set (HB.out) GB5.out : Below w0.heap.size w0 w21)); have n2_ := Aside0.mk (Kept.of_grown (S := (fun k_ => P0_ k_)) hg (by repeat (first | (with_reducible first | exact HK.out | apply Kept.alloc | apply Kept.drewN | apply Kept.drew) | exact HK.out)) (fun k_ e_ => (HO_0.out.1 k_ e_))); clear HO_0; clear HB; clear HK; have HO_0 := n0_; have HB := n1_; have HK := n2_; clear n0_ n1_ n2_; clear hg hw hp_; have p10 : 0 ≤ (x5_1 : Int) := of_decide_eq_true (by first | (with_reducible assumption) | assumption); have q10 : (x5_1 : Int) < ((x0_1.length : Int) : Int) := of_decide_eq_true (by first | (with_reducible assumption) | assumption); obtain ⟨ce10, hcl10, hM10, hcc10, hfr10⟩ := Kd.R_elem HO_0.out z40 (x5_1 : Int) p10 q10; obtain rfl := k40_openM hM10; have hx10_0 : w21.cell? ⟨go5, (x5_1 : Int).toNat * 6, none⟩ = some (.int .i64 ((rd_T40 y694 x5_1).f0)) := hcc10 0 _ rfl; have hx10_1 : w21.cell? ⟨go5, (x5_1 : Int).toNat * 6 + 1, none⟩ = some (.int .i64 ((rd_T40 y694 x5_1).f1)) := hcc10 1 _ rfl; have hx10_2 : w21.cell? ⟨go5, (x5_1 : Int).toNat * 6 + 2, none⟩ = some (.int .i64 ((rd_T40 y694 x5_1).f2)) := hcc10 2 _ rfl; have hx10_3 : w21.cell? ⟨go5, (x5_1 : Int).toNat * 6 + 3, none⟩ = some (.int .i64 ((rd_T40 y694 x5_1).f3)) := hcc10 3 _ rfl; have hx10_4 : w21.cell? ⟨go5, (x5_1 : Int).toNat * 6 + 4, none⟩ = some (.int .i64 ((rd_T40 y694 x5_1).f4)) := hcc10 4 _ rfl; have hx10_5 : w21.cell? ⟨go5, (x5_1 : Int).toNat * 6 + 5, none⟩ = some (.int .i64 ((rd_T40 y694 x5_1).f5)) := hcc10 5 _ rfl; have hf10_0 : w21.frozen? ⟨go5, (x5_1 : Int).toNat * 6, none⟩ = false := hfr10 0; have hf10_1 : w21.frozen? ⟨go5, (x5_1 : Int).toNat * 6 + 1, none⟩ = false := hfr10 1; have hf10_2 : w21.frozen? ⟨go5, (x5_1 : Int).toNat * 6 + 2, none⟩ = false := hfr10 2; have hf10_3 : w21.frozen? ⟨go5, (x5_1 : Int).toNat * 6 + 3, none⟩ = false := hfr10 3; have hf10_4 : w21.frozen? ⟨go5, (x5_1 : Int).toNat * 6 + 4, none⟩ = false := hfr10 4; have hf10_5 : w21.frozen? ⟨go5, (x5_1 : Int).toNat * 6 + 5, none⟩ = false := hfr10 5; clear hcl10 hcc10 hfr10 hM10; replace p10 := eq_true p10; replace q10 := eq_true q10; have HX22 := Aside0.mk (show Kd.R k40 40 w21 w0.heap.size (fun k_ => (P0_ k_ ∨ w.heap.size ≤ k_)) (.slice (some ⟨go5, 0, none⟩) x0_1.length co11) y694 from (by (with_reducible repeat (first | apply Kd.R_alloc | apply Kd.R_drewN | apply Kd.R_drew)); exact HO_0.out)); obtain ⟨ce22, hcl22, hM22, hcc22, hfr22⟩ := Kd.R_elem HX22.out z40 (x5_1 : Int) (of_decide_eq_true (by first | (with_reducible assumption) | assumption)) (by have h_ : (x5_1 : Int) < ((x0_1.length : Int) : Int) := of_decide_eq_true (by first | (with_reducible assumption) | assumption); first | exact h_ | (have e_ := (Kd.R_reads' HO_0.out).1; omega) | simpa using h_); obtain rfl := k40_openM hM22; have HP22 := Kd.R_seg HX22.out (x5_1 : Int) (of_decide_eq_true (by first | (with_reducible assumption) | assumption)) (by have h_ : (x5_1 : Int) < ((x0_1.length : Int) : Int) := of_decide_eq_true (by first | (with_reducible assumption) | assumption); first | exact h_ | (have e_ := (Kd.R_reads' HO_0.out).1; omega) | simpa using h_) (seg := [.int .i64 (wrap64 ((wrap64 ((wrap64 ((wrap64 ((wrap64 (x1_1 + 1)) + 1)) + 1)) + 1)) + 1))]) (j := 5) hcl22 hcc22 (show 6 ≤ 6 from by decide) (x' := (⟨(rd_T40 y694 x5_1).f0, (rd_T40 y694 x5_1).f1, (rd_T40 y694 x5_1).f2, (rd_T40 y694 x5_1).f3, (rd_T40 y694 x5_1).f4, wrap64 ((wrap64 ((wrap64 ((wrap64 ((wrap64 (x1_1 + 1)) + 1)) + 1)) + 1)) + 1)⟩ : S40)) (k40_mkM _ _ _ (⟨(rd_T40 y694 x5_1).f0, (rd_T40 y694 x5_1).f1, (rd_T40 y694 x5_1).f2, (rd_T40 y694 x5_1).f3, (rd_T40 y694 x5_1).f4, wrap64 ((wrap64 ((wrap64 ((wrap64 ((wrap64 (x1_1 + 1)) + 1)) + 1)) + 1)) + 1)⟩ : S40) ) (fun _ hk => hk); have hx22_5 := hcc22 5 _ rfl; (try simp only [show (k40).sz = 6 from rfl, Nat.mul_one, Nat.add_zero] at hx22_5); have hf22_5 := hfr22 5; (try simp only [show (k40).sz = 6 from rfl, Nat.mul_one, Nat.add_zero] at hf22_5); clear hcl22 hcc22 hfr22 hM22) | ((with_reducible refine gate_store (t := 3) (p := 51) rfl ?_); refine store_event (t := 3) (p := 51) (v := ?vo_w23) (w1 := (w21.setCell ⟨go5, (x5_1 : Int).toNat * 6 + 5, none⟩ (.int .i64 (wrap64 ((wrap64 ((wrap64 ((wrap64 ((wrap64 (x1_1 + 1)) + 1)) + 1)) + 1)) + 1))))) ?hg ?ho ?hn ?hr ?_; (case ho => rfl); (case hg => rfl); (case hn => rfl); (case hr => first | (go_simp; done) | (go_simp; rfl)); intro w23 hw; have hg : w21.grownBy w23 (some go5) := (by rw [hw]; exact HP22.2); have hp_ : Kd.R k40 40 w23 w0.heap.size (fun k_ => (P0_ k_ ∨ w.heap.size ≤ k_)) (.slice (some ⟨go5, 0, none⟩) x0_1.length co11) y695 := (by rw [hw, Ny695.out]; exact HP22.1); clear HP22; have n0_ := Aside0.mk (hp_); have n1_ := Aside0.mk ((by rw [hw]; exact below_set (HB.out) GB5.out : Below w0.heap.size w0 w23)); have n2_ := Aside0.mk (Kept.of_grown (S := (fun k_ => P0_ k_)) hg (by repeat (first | (with_reducible first | exact HK.out | apply Kept.alloc | apply Kept.drewN | apply Kept.drew) | exact HK.out)) (fun k_ e_ => (HO_0.out.1 k_ e_))); clear HO_0; clear HB; clear HK; have HO_0 := n0_; have HB := n1_; have HK := n2_; clear n0_ n1_ n2_; clear hg hw hp_))
          go_roundg k1
          case measure => have := HK1.out; omega
          case rel => exact ⟨(y695), (wrap64 ((wrap64 ((wrap64 ((wrap64 ((wrap64 ((wrap64 (x1_1 + 1)) + 1)) + 1)) + 1)) + 1)) + 1)), (wrap64 (x5_1 + 1)), (by first | rfl | (simp; done) | (simp [*]; done)), (by first | rfl | (simp; done) | (simp [*]; done)), H', ⟨by have := HK1.out; omega⟩, ⟨by (with_reducible repeat (first | apply Kd.R_alloc | apply Kd.R_drewN | apply Kd.R_drew)); exact HO_0.out⟩, ⟨by repeat (first | (with_reducible first | exact HK.out | apply Kept.alloc | apply Kept.drewN | apply Kept.drew) | exact HK.out)⟩, ⟨by repeat (first | (with_reducible first | exact HB.out | apply below_alloc | apply pw_below_drewN | apply below_drew1) | exact HB.out)⟩⟩
        · rw [if_neg c4] at H
          exact absurd H (by simp)
      · rw [if_neg c3] at H
        have c3b0 : decide (x5_1 < (x0_1.length : Int)) = false := decide_eq_false c3
        clear c3
        simp only [Option.some.injEq, Prod.mk.injEq] at H
        obtain ⟨rfl, rfl⟩ := H
        obtain ⟨Ao24, co24, eo24⟩ := Kd.R_slice HO_0.out
        subst eo24
        go_wp2
        go_ret
        exact ⟨by first | rfl | (simp [errW_none, errW_some] <;> rfl) | (simp [*, errW_none, errW_some] <;> rfl), by (with_reducible repeat (first | apply Kd.R_alloc | apply Kd.R_drewN | apply Kd.R_drew)); exact HO_0.out, by repeat (first | (with_reducible first | exact HB.out | apply below_alloc | apply pw_below_drewN | apply below_drew1) | exact HB.out), by repeat (first | (with_reducible first | exact HK.out | apply Kept.alloc | apply Kept.drewN | apply Kept.drew) | exact HK.out)⟩

end Go.Proofs.Ythnheffndhbebaa.P

namespace Go.Proofs.Ythnheffndhbebaa.P
open Go.RowKit Go.Proofs.YthnheffndhbebaaW.PrintWords Go.Proofs.YthnheffndhbebaaW.PrintLast Go.Proofs.YthnheffndhbebaaW.PrintMore
attribute [local go_sem] max2_int min2_int max_two min_two max_three min_three max_four min_four   -- for this text's walks alone
set_option linter.unusedVariables false
set_option linter.unusedSimpArgs false

/-! ### laws_heldDieS: function 44 -/
def laws_heldDieS.l0 : Nat → List (S40) → Int → Int → Option (Int)
  | 0, _, _, _ => none
  | k + 1, x0, x1, x5 => if x5 < (x0.length : Int) then (if 0 ≤ x5 then (if ((rd_T40 x0 x5).f0) = x1 then (if ((rd_T40 x0 x5).f1) = (wrap64 (x1 + 1)) then (if ((rd_T40 x0 x5).f2) = (wrap64 ((wrap64 (x1 + 1)) + 1)) then (if ((rd_T40 x0 x5).f3) = (wrap64 ((wrap64 ((wrap64 (x1 + 1)) + 1)) + 1)) then (if ((rd_T40 x0 x5).f4) = (wrap64 ((wrap64 ((wrap64 ((wrap64 (x1 + 1)) + 1)) + 1)) + 1)) then (if ((rd_T40 x0 x5).f5) = (wrap64 ((wrap64 ((wrap64 ((wrap64 ((wrap64 (x1 + 1)) + 1)) + 1)) + 1)) + 1)) then (laws_heldDieS.l0 k x0 (wrap64 ((wrap64 ((wrap64 ((wrap64 ((wrap64 ((wrap64 (x1 + 1)) + 1)) + 1)) + 1)) + 1)) + 1)) (wrap64 (x5 + 1))) else (some (-1))) else (some (-1))) else (some (-1))) else (some (-1))) else (some (-1))) else (some (-1))) else (none)) else (some x1)
def laws_heldDieS.f (k : Nat) (l0 : List (S40)) (a1 : Int) : Option (Int) := laws_heldDieS.l0 k l0 a1 0
theorem laws_heldDieS.mono_l : ∀ k, (∀ y0 y1 y2, LeO (laws_heldDieS.l0 k y0 y1 y2) (laws_heldDieS.l0 (k + 1) y0 y1 y2))
  | 0 => fun _ _ _ r h => by simp [laws_heldDieS.l0] at h
  | k + 1 => by
    have ih0 := laws_heldDieS.mono_l k
    · intro y0 y1 y2
      unfold laws_heldDieS.l0
      repeat' first
      | (with_reducible exact ih0 _ _ _)
      | (with_reducible exact LeO.refl _)
      | (with_reducible exact LeO.none _)
      | (with_reducible refine LeO.ite ?_ ?_)
      | (with_reducible refine LeO.bind ?_ (fun _ => ?_))
      | exact ih0 _ _ _
      | exact LeO.none _
      | refine LeO.ite ?_ ?_
      | refine LeO.bind ?_ (fun _ => ?_)
theorem laws_heldDieS.mono : ∀ a0 a1 k, LeO (laws_heldDieS.f k a0 a1) (laws_heldDieS.f (k + 1) a0 a1) := by
  intro a0 a1 k
  have ih0 := laws_heldDieS.mono_l k
  unfold laws_heldDieS.f
  repeat' first
      | (with_reducible exact ih0 _ _ _)
      | (with_reducible exact LeO.refl _)
      | (with_reducible exact LeO.none _)
      | (with_reducible refine LeO.ite ?_ ?_)
      | (with_reducible refine LeO.bind ?_ (fun _ => ?_))
      | exact ih0 _ _ _
      | exact LeO.none _
      | refine LeO.ite ?_ ?_
      | refine LeO.bind ?_ (fun _ => ?_)
set_option maxHeartbeats 8000000 in
set_option maxRecDepth 100000 in
theorem laws_heldDieS.calls (k : Nat) (A0 : Option Addr) (c0 : Nat) (l0 : List (S40)) (a1 : Int) (r : Int) (w : World) (hr0 : Kd.C k40 w A0 l0.length l0) (hc0 : l0.length ≤ c0) (h : laws_heldDieS.f k l0 a1 = some r) :
    Calls Try.prog 44 #[.slice A0 l0.length c0, .int .i64 a1] w fun e w' => e = .returned (.int .i64 r) ∧ Drawn0 w w' := by
  have HR0 := Aside0.mk hr0
  have HC0 := Aside0.mk hc0
  clear hr0 hc0
  have H : (laws_heldDieS.l0 k l0 a1 0) = some r := h
  clear h
  have H' := Aside0.mk H
  clear H
  go_enter Try.func44, Try.ntmps44
  go_wp2
  go_loopg [1, 5] k (fun kq v1 v5 w' => ∃ (x1_1 : Int) (x5_1 : Int), v1 = .int .i64 x1_1 ∧ v5 = .int .i64 x5_1 ∧ Aside0 (laws_heldDieS.l0 kq l0 x1_1 x5_1 = some r) ∧ Aside0 (kq ≤ k) ∧ Drawn0 w w')
  case atStart => exact ⟨(a1), (0), (by first | rfl | (simp; done) | (simp [*]; done)), (by first | rfl | (simp; done) | (simp [*]; done)), H', ⟨Nat.le_refl _⟩, by repeat (first | exact Drawn0.refl _ | apply Drawn0.step)⟩
  case round =>
    clear H'
    try clear p2
    obtain ⟨x1_1, x5_1, rfl, rfl, HA, HK1, ⟨m1, rfl⟩⟩ := hrel
    cases gk with
    | zero => exact absurd HA.out (by simp [laws_heldDieS.l0])
    | succ k1 =>
      have H := HA.out
      clear HA
      simp only [laws_heldDieS.l0] at H
      by_cases c3 : x5_1 < (l0.length : Int)
      · rw [if_pos c3] at H
        have c3b0 : decide (x5_1 < (l0.length : Int)) = true := decide_eq_true c3
        clear c3
        by_cases c4 : 0 ≤ x5_1
        · rw [if_pos c4] at H
          have c4b0 : decide (0 ≤ x5_1) = true := decide_eq_true c4
          clear c4
          by_cases c5 : ((rd_T40 l0 x5_1).f0) = x1_1
          · rw [if_pos c5] at H
            have c5b0 : (((rd_T40 l0 x5_1).f0) == x1_1) = true := beq_iff_eq.mpr c5
            have c5b1 : (((rd_T40 l0 x5_1).f0) != x1_1) = false := bne_eq_false_iff_eq.mpr c5
            clear c5
            by_cases c6 : ((rd_T40 l0 x5_1).f1) = (wrap64 (x1_1 + 1))
            · rw [if_pos c6] at H
              have c6b0 : (((rd_T40 l0 x5_1).f1) == (wrap64 (x1_1 + 1))) = true := beq_iff_eq.mpr c6
              have c6b1 : (((rd_T40 l0 x5_1).f1) != (wrap64 (x1_1 + 1))) = false := bne_eq_false_iff_eq.mpr c6
              clear c6
              by_cases c7 : ((rd_T40 l0 x5_1).f2) = (wrap64 ((wrap64 (x1_1 + 1)) + 1))
              · rw [if_pos c7] at H
                have c7b0 : (((rd_T40 l0 x5_1).f2) == (wrap64 ((wrap64 (x1_1 + 1)) + 1))) = true := beq_iff_eq.mpr c7
                have c7b1 : (((rd_T40 l0 x5_1).f2) != (wrap64 ((wrap64 (x1_1 + 1)) + 1))) = false := bne_eq_false_iff_eq.mpr c7
                clear c7
                by_cases c8 : ((rd_T40 l0 x5_1).f3) = (wrap64 ((wrap64 ((wrap64 (x1_1 + 1)) + 1)) + 1))
                · rw [if_pos c8] at H
                  have c8b0 : (((rd_T40 l0 x5_1).f3) == (wrap64 ((wrap64 ((wrap64 (x1_1 + 1)) + 1)) + 1))) = true := beq_iff_eq.mpr c8
                  have c8b1 : (((rd_T40 l0 x5_1).f3) != (wrap64 ((wrap64 ((wrap64 (x1_1 + 1)) + 1)) + 1))) = false := bne_eq_false_iff_eq.mpr c8
                  clear c8
                  by_cases c9 : ((rd_T40 l0 x5_1).f4) = (wrap64 ((wrap64 ((wrap64 ((wrap64 (x1_1 + 1)) + 1)) + 1)) + 1))
                  · rw [if_pos c9] at H
                    have c9b0 : (((rd_T40 l0 x5_1).f4) == (wrap64 ((wrap64 ((wrap64 ((wrap64 (x1_1 + 1)) + 1)) + 1)) + 1))) = true := beq_iff_eq.mpr c9
                    have c9b1 : (((rd_T40 l0 x5_1).f4) != (wrap64 ((wrap64 ((wrap64 ((wrap64 (x1_1 + 1)) + 1)) + 1)) + 1))) = false := bne_eq_false_iff_eq.mpr c9
                    clear c9
                    by_cases c10 : ((rd_T40 l0 x5_1).f5) = (wrap64 ((wrap64 ((wrap64 ((wrap64 ((wrap64 (x1_1 + 1)) + 1)) + 1)) + 1)) + 1))
                    · rw [if_pos c10] at H
                      have c10b0 : (((rd_T40 l0 x5_1).f5) == (wrap64 ((wrap64 ((wrap64 ((wrap64 ((wrap64 (x1_1 + 1)) + 1)) + 1)) + 1)) + 1))) = true := beq_iff_eq.mpr c10
                      have c10b1 : (((rd_T40 l0 x5_1).f5) != (wrap64 ((wrap64 ((wrap64 ((wrap64 ((wrap64 (x1_1 + 1)) + 1)) + 1)) + 1)) + 1))) = false := bne_eq_false_iff_eq.mpr c10
                      clear c10
                      have H' := Aside0.mk H
                      clear H
                      have p696 : 0 ≤ (x5_1 : Int) := of_decide_eq_true (by first | (with_reducible assumption) | assumption)
                      have q696 : x5_1 < (l0.length : Int) := of_decide_eq_true (by first | (with_reducible assumption) | assumption)
                      obtain ⟨ad696, e696, hx696_0, hx696_1, hx696_2, hx696_3, hx696_4, hx696_5⟩ := at_T40 HR0.out x5_1 p696 q696
                      cases e696
                      replace p696 := eq_true p696
                      replace q696 := eq_true q696
                      have p697 : 0 ≤ (x5_1 : Int) := of_decide_eq_true (by first | (with_reducible assumption) | assumption)
                      have q697 : x5_1 < (l0.length : Int) := of_decide_eq_true (by first | (with_reducible assumption) | assumption)
                      obtain ⟨ad697, e697, hx697_0, hx697_1, hx697_2, hx697_3, hx697_4, hx697_5⟩ := at_T40 HR0.out x5_1 p697 q697
                      obtain rfl : ad696 = ad697 := (by injection e697)
                      replace p697 := eq_true p697
                      replace q697 := eq_true q697
                      have p698 : 0 ≤ (x5_1 : Int) := of_decide_eq_true (by first | (with_reducible assumption) | assumption)
                      have q698 : x5_1 < (l0.length : Int) := of_decide_eq_true (by first | (with_reducible assumption) | assumption)
                      obtain ⟨ad698, e698, hx698_0, hx698_1, hx698_2, hx698_3, hx698_4, hx698_5⟩ := at_T40 HR0.out x5_1 p698 q698
                      obtain rfl : ad696 = ad698 := (by injection e698)
                      replace p698 := eq_true p698
                      replace q698 := eq_true q698
                      have p699 : 0 ≤ (x5_1 : Int) := of_decide_eq_true (by first | (with_reducible assumption) | assumption)
                      have q699 : x5_1 < (l0.length : Int) := of_decide_eq_true (by first | (with_reducible assumption) | assumption)
                      obtain ⟨ad699, e699, hx699_0, hx699_1, hx699_2, hx699_3, hx699_4, hx699_5⟩ := at_T40 HR0.out x5_1 p699 q699
                      obtain rfl : ad696 = ad699 := (by injection e699)
                      replace p699 := eq_true p699
                      replace q699 := eq_true q699
                      have p700 : 0 ≤ (x5_1 : Int) := of_decide_eq_true (by first | (with_reducible assumption) | assumption)
                      have q700 : x5_1 < (l0.length : Int) := of_decide_eq_true (by first | (with_reducible assumption) | assumption)
                      obtain ⟨ad700, e700, hx700_0, hx700_1, hx700_2, hx700_3, hx700_4, hx700_5⟩ := at_T40 HR0.out x5_1 p700 q700
                      obtain rfl : ad696 = ad700 := (by injection e700)
                      replace p700 := eq_true p700
                      replace q700 := eq_true q700
                      have p701 : 0 ≤ (x5_1 : Int) := of_decide_eq_true (by first | (with_reducible assumption) | assumption)
                      have q701 : x5_1 < (l0.length : Int) := of_decide_eq_true (by first | (with_reducible assumption) | assumption)
                      obtain ⟨ad701, e701, hx701_0, hx701_1, hx701_2, hx701_3, hx701_4, hx701_5⟩ := at_T40 HR0.out x5_1 p701 q701
                      obtain rfl : ad696 = ad701 := (by injection e701)
                      replace p701 := eq_true p701
                      replace q701 := eq_true q701
                      go_wp2
                      go_roundg k1
                      case measure => have := HK1.out; omega
                      case rel => exact ⟨(wrap64 ((wrap64 ((wrap64 ((wrap64 ((wrap64 ((wrap64 (x1_1 + 1)) + 1)) + 1)) + 1)) + 1)) + 1)), (wrap64 (x5_1 + 1)), (by first | rfl | (simp; done) | (simp [*]; done)), (by first | rfl | (simp; done) | (simp [*]; done)), H', ⟨by have := HK1.out; omega⟩, by repeat (first | exact Drawn0.refl _ | apply Drawn0.step)⟩
                    · rw [if_neg c10] at H
                      have c10b0 : (((rd_T40 l0 x5_1).f5) == (wrap64 ((wrap64 ((wrap64 ((wrap64 ((wrap64 (x1_1 + 1)) + 1)) + 1)) + 1)) + 1))) = false := beq_eq_false_iff_ne.mpr c10
                      have c10b1 : (((rd_T40 l0 x5_1).f5) != (wrap64 ((wrap64 ((wrap64 ((wrap64 ((wrap64 (x1_1 + 1)) + 1)) + 1)) + 1)) + 1))) = true := bne_iff_ne.mpr c10
                      obtain rfl := Option.some.inj H
                      have p696 : 0 ≤ (x5_1 : Int) := of_decide_eq_true (by first | (with_reducible assumption) | assumption)
                      have q696 : x5_1 < (l0.length : Int) := of_decide_eq_true (by first | (with_reducible assumption) | assumption)
                      obtain ⟨ad696, e696, hx696_0, hx696_1, hx696_2, hx696_3, hx696_4, hx696_5⟩ := at_T40 HR0.out x5_1 p696 q696
                      cases e696
                      replace p696 := eq_true p696
                      replace q696 := eq_true q696
                      have p697 : 0 ≤ (x5_1 : Int) := of_decide_eq_true (by first | (with_reducible assumption) | assumption)
                      have q697 : x5_1 < (l0.length : Int) := of_decide_eq_true (by first | (with_reducible assumption) | assumption)
                      obtain ⟨ad697, e697, hx697_0, hx697_1, hx697_2, hx697_3, hx697_4, hx697_5⟩ := at_T40 HR0.out x5_1 p697 q697
                      obtain rfl : ad696 = ad697 := (by injection e697)
                      replace p697 := eq_true p697
                      replace q697 := eq_true q697
                      have p698 : 0 ≤ (x5_1 : Int) := of_decide_eq_true (by first | (with_reducible assumption) | assumption)
                      have q698 : x5_1 < (l0.length : Int) := of_decide_eq_true (by first | (with_reducible assumption) | assumption)
                      obtain ⟨ad698, e698, hx698_0, hx698_1, hx698_2, hx698_3, hx698_4, hx698_5⟩ := at_T40 HR0.out x5_1 p698 q698
                      obtain rfl : ad696 = ad698 := (by injection e698)
                      replace p698 := eq_true p698
                      replace q698 := eq_true q698
                      have p699 : 0 ≤ (x5_1 : Int) := of_decide_eq_true (by first | (with_reducible assumption) | assumption)
                      have q699 : x5_1 < (l0.length : Int) := of_decide_eq_true (by first | (with_reducible assumption) | assumption)
                      obtain ⟨ad699, e699, hx699_0, hx699_1, hx699_2, hx699_3, hx699_4, hx699_5⟩ := at_T40 HR0.out x5_1 p699 q699
                      obtain rfl : ad696 = ad699 := (by injection e699)
                      replace p699 := eq_true p699
                      replace q699 := eq_true q699
                      have p700 : 0 ≤ (x5_1 : Int) := of_decide_eq_true (by first | (with_reducible assumption) | assumption)
                      have q700 : x5_1 < (l0.length : Int) := of_decide_eq_true (by first | (with_reducible assumption) | assumption)
                      obtain ⟨ad700, e700, hx700_0, hx700_1, hx700_2, hx700_3, hx700_4, hx700_5⟩ := at_T40 HR0.out x5_1 p700 q700
                      obtain rfl : ad696 = ad700 := (by injection e700)
                      replace p700 := eq_true p700
                      replace q700 := eq_true q700
                      have p701 : 0 ≤ (x5_1 : Int) := of_decide_eq_true (by first | (with_reducible assumption) | assumption)
                      have q701 : x5_1 < (l0.length : Int) := of_decide_eq_true (by first | (with_reducible assumption) | assumption)
                      obtain ⟨ad701, e701, hx701_0, hx701_1, hx701_2, hx701_3, hx701_4, hx701_5⟩ := at_T40 HR0.out x5_1 p701 q701
                      obtain rfl : ad696 = ad701 := (by injection e701)
                      replace p701 := eq_true p701
                      replace q701 := eq_true q701
                      go_wp2
                      go_ret
                      exact ⟨by first | rfl | (simp; done) | (simp [*]; done), by repeat (first | exact Drawn0.refl _ | apply Drawn0.step)⟩
                  · rw [if_neg c9] at H
                    have c9b0 : (((rd_T40 l0 x5_1).f4) == (wrap64 ((wrap64 ((wrap64 ((wrap64 (x1_1 + 1)) + 1)) + 1)) + 1))) = false := beq_eq_false_iff_ne.mpr c9
                    have c9b1 : (((rd_T40 l0 x5_1).f4) != (wrap64 ((wrap64 ((wrap64 ((wrap64 (x1_1 + 1)) + 1)) + 1)) + 1))) = true := bne_iff_ne.mpr c9
                    obtain rfl := Option.some.inj H
                    have p696 : 0 ≤ (x5_1 : Int) := of_decide_eq_true (by first | (with_reducible assumption) | assumption)
                    have q696 : x5_1 < (l0.length : Int) := of_decide_eq_true (by first | (with_reducible assumption) | assumption)
                    obtain ⟨ad696, e696, hx696_0, hx696_1, hx696_2, hx696_3, hx696_4, hx696_5⟩ := at_T40 HR0.out x5_1 p696 q696
                    cases e696
                    replace p696 := eq_true p696
                    replace q696 := eq_true q696
                    have p697 : 0 ≤ (x5_1 : Int) := of_decide_eq_true (by first | (with_reducible assumption) | assumption)
                    have q697 : x5_1 < (l0.length : Int) := of_decide_eq_true (by first | (with_reducible assumption) | assumption)
                    obtain ⟨ad697, e697, hx697_0, hx697_1, hx697_2, hx697_3, hx697_4, hx697_5⟩ := at_T40 HR0.out x5_1 p697 q697
                    obtain rfl : ad696 = ad697 := (by injection e697)
                    replace p697 := eq_true p697
                    replace q697 := eq_true q697
                    have p698 : 0 ≤ (x5_1 : Int) := of_decide_eq_true (by first | (with_reducible assumption) | assumption)
                    have q698 : x5_1 < (l0.length : Int) := of_decide_eq_true (by first | (with_reducible assumption) | assumption)
                    obtain ⟨ad698, e698, hx698_0, hx698_1, hx698_2, hx698_3, hx698_4, hx698_5⟩ := at_T40 HR0.out x5_1 p698 q698
                    obtain rfl : ad696 = ad698 := (by injection e698)
                    replace p698 := eq_true p698
                    replace q698 := eq_true q698
                    have p699 : 0 ≤ (x5_1 : Int) := of_decide_eq_true (by first | (with_reducible assumption) | assumption)
                    have q699 : x5_1 < (l0.length : Int) := of_decide_eq_true (by first | (with_reducible assumption) | assumption)
                    obtain ⟨ad699, e699, hx699_0, hx699_1, hx699_2, hx699_3, hx699_4, hx699_5⟩ := at_T40 HR0.out x5_1 p699 q699
                    obtain rfl : ad696 = ad699 := (by injection e699)
                    replace p699 := eq_true p699
                    replace q699 := eq_true q699
                    have p700 : 0 ≤ (x5_1 : Int) := of_decide_eq_true (by first | (with_reducible assumption) | assumption)
                    have q700 : x5_1 < (l0.length : Int) := of_decide_eq_true (by first | (with_reducible assumption) | assumption)
                    obtain ⟨ad700, e700, hx700_0, hx700_1, hx700_2, hx700_3, hx700_4, hx700_5⟩ := at_T40 HR0.out x5_1 p700 q700
                    obtain rfl : ad696 = ad700 := (by injection e700)
                    replace p700 := eq_true p700
                    replace q700 := eq_true q700
                    go_wp2
                    go_ret
                    exact ⟨by first | rfl | (simp; done) | (simp [*]; done), by repeat (first | exact Drawn0.refl _ | apply Drawn0.step)⟩
                · rw [if_neg c8] at H
                  have c8b0 : (((rd_T40 l0 x5_1).f3) == (wrap64 ((wrap64 ((wrap64 (x1_1 + 1)) + 1)) + 1))) = false := beq_eq_false_iff_ne.mpr c8
                  have c8b1 : (((rd_T40 l0 x5_1).f3) != (wrap64 ((wrap64 ((wrap64 (x1_1 + 1)) + 1)) + 1))) = true := bne_iff_ne.mpr c8
                  obtain rfl := Option.some.inj H
                  have p696 : 0 ≤ (x5_1 : Int) := of_decide_eq_true (by first | (with_reducible assumption) | assumption)
                  have q696 : x5_1 < (l0.length : Int) := of_decide_eq_true (by first | (with_reducible assumption) | assumption)
                  obtain ⟨ad696, e696, hx696_0, hx696_1, hx696_2, hx696_3, hx696_4, hx696_5⟩ := at_T40 HR0.out x5_1 p696 q696
                  cases e696
                  replace p696 := eq_true p696
                  replace q696 := eq_true q696
                  have p697 : 0 ≤ (x5_1 : Int) := of_decide_eq_true (by first | (with_reducible assumption) | assumption)
                  have q697 : x5_1 < (l0.length : Int) := of_decide_eq_true (by first | (with_reducible assumption) | assumption)
                  obtain ⟨ad697, e697, hx697_0, hx697_1, hx697_2, hx697_3, hx697_4, hx697_5⟩ := at_T40 HR0.out x5_1 p697 q697
                  obtain rfl : ad696 = ad697 := (by injection e697)
                  replace p697 := eq_true p697
                  replace q697 := eq_true q697
                  have p698 : 0 ≤ (x5_1 : Int) := of_decide_eq_true (by first | (with_reducible assumption) | assumption)
                  have q698 : x5_1 < (l0.length : Int) := of_decide_eq_true (by first | (with_reducible assumption) | assumption)
                  obtain ⟨ad698, e698, hx698_0, hx698_1, hx698_2, hx698_3, hx698_4, hx698_5⟩ := at_T40 HR0.out x5_1 p698 q698
                  obtain rfl : ad696 = ad698 := (by injection e698)
                  replace p698 := eq_true p698
                  replace q698 := eq_true q698
                  have p699 : 0 ≤ (x5_1 : Int) := of_decide_eq_true (by first | (with_reducible assumption) | assumption)
                  have q699 : x5_1 < (l0.length : Int) := of_decide_eq_true (by first | (with_reducible assumption) | assumption)
                  obtain ⟨ad699, e699, hx699_0, hx699_1, hx699_2, hx699_3, hx699_4, hx699_5⟩ := at_T40 HR0.out x5_1 p699 q699
                  obtain rfl : ad696 = ad699 := (by injection e699)
                  replace p699 := eq_true p699
                  replace q699 := eq_true q699
                  go_wp2
                  go_ret
                  exact ⟨by first | rfl | (simp; done) | (simp [*]; done), by repeat (first | exact Drawn0.refl _ | apply Drawn0.step)⟩
              · rw [if_neg c7] at H
                have c7b0 : (((rd_T40 l0 x5_1).f2) == (wrap64 ((wrap64 (x1_1 + 1)) + 1))) = false := beq_eq_false_iff_ne.mpr c7
                have c7b1 : (((rd_T40 l0 x5_1).f2) != (wrap64 ((wrap64 (x1_1 + 1)) + 1))) = true := bne_iff_ne.mpr c7
                obtain rfl := Option.some.inj H
                have p696 : 0 ≤ (x5_1 : Int) := of_decide_eq_true (by first | (with_reducible assumption) | assumption)
                have q696 : x5_1 < (l0.length : Int) := of_decide_eq_true (by first | (with_reducible assumption) | assumption)
                obtain ⟨ad696, e696, hx696_0, hx696_1, hx696_2, hx696_3, hx696_4, hx696_5⟩ := at_T40 HR0.out x5_1 p696 q696
                cases e696
                replace p696 := eq_true p696
                replace q696 := eq_true q696
                have p697 : 0 ≤ (x5_1 : Int) := of_decide_eq_true (by first | (with_reducible assumption) | assumption)
                have q697 : x5_1 < (l0.length : Int) := of_decide_eq_true (by first | (with_reducible assumption) | assumption)
                obtain ⟨ad697, e697, hx697_0, hx697_1, hx697_2, hx697_3, hx697_4, hx697_5⟩ := at_T40 HR0.out x5_1 p697 q697
                obtain rfl : ad696 = ad697 := (by injection e697)
                replace p697 := eq_true p697
                replace q697 := eq_true q697
                have p698 : 0 ≤ (x5_1 : Int) := of_decide_eq_true (by first | (with_reducible assumption) | assumption)
                have q698 : x5_1 < (l0.length : Int) := of_decide_eq_true (by first | (with_reducible assumption) | assumption)
                obtain ⟨ad698, e698, hx698_0, hx698_1, hx698_2, hx698_3, hx698_4, hx698_5⟩ := at_T40 HR0.out x5_1 p698 q698
                obtain rfl : ad696 = ad698 := (by injection e698)
                replace p698 := eq_true p698
                replace q698 := eq_true q698
                go_wp2
                go_ret
                exact ⟨by first | rfl | (simp; done) | (simp [*]; done), by repeat (first | exact Drawn0.refl _ | apply Drawn0.step)⟩
            · rw [if_neg c6] at H
              have c6b0 : (((rd_T40 l0 x5_1).f1) == (wrap64 (x1_1 + 1))) = false := beq_eq_false_iff_ne.mpr c6
              have c6b1 : (((rd_T40 l0 x5_1).f1) != (wrap64 (x1_1 + 1))) = true := bne_iff_ne.mpr c6
              obtain rfl := Option.some.inj H
              have p696 : 0 ≤ (x5_1 : Int) := of_decide_eq_true (by first | (with_reducible assumption) | assumption)
              have q696 : x5_1 < (l0.length : Int) := of_decide_eq_true (by first | (with_reducible assumption) | assumption)
              obtain ⟨ad696, e696, hx696_0, hx696_1, hx696_2, hx696_3, hx696_4, hx696_5⟩ := at_T40 HR0.out x5_1 p696 q696
              cases e696
              replace p696 := eq_true p696
              replace q696 := eq_true q696
              have p697 : 0 ≤ (x5_1 : Int) := of_decide_eq_true (by first | (with_reducible assumption) | assumption)
              have q697 : x5_1 < (l0.length : Int) := of_decide_eq_true (by first | (with_reducible assumption) | assumption)
              obtain ⟨ad697, e697, hx697_0, hx697_1, hx697_2, hx697_3, hx697_4, hx697_5⟩ := at_T40 HR0.out x5_1 p697 q697
              obtain rfl : ad696 = ad697 := (by injection e697)
              replace p697 := eq_true p697
              replace q697 := eq_true q697
              go_wp2
              go_ret
              exact ⟨by first | rfl | (simp; done) | (simp [*]; done), by repeat (first | exact Drawn0.refl _ | apply Drawn0.step)⟩
          · rw [if_neg c5] at H
            have c5b0 : (((rd_T40 l0 x5_1).f0) == x1_1) = false := beq_eq_false_iff_ne.mpr c5
            have c5b1 : (((rd_T40 l0 x5_1).f0) != x1_1) = true := bne_iff_ne.mpr c5
            obtain rfl := Option.some.inj H
            have p696 : 0 ≤ (x5_1 : Int) := of_decide_eq_true (by first | (with_reducible assumption) | assumption)
            have q696 : x5_1 < (l0.length : Int) := of_decide_eq_true (by first | (with_reducible assumption) | assumption)
            obtain ⟨ad696, e696, hx696_0, hx696_1, hx696_2, hx696_3, hx696_4, hx696_5⟩ := at_T40 HR0.out x5_1 p696 q696
            cases e696
            replace p696 := eq_true p696
            replace q696 := eq_true q696
            go_wp2
            go_ret
            exact ⟨by first | rfl | (simp; done) | (simp [*]; done), by repeat (first | exact Drawn0.refl _ | apply Drawn0.step)⟩
        · rw [if_neg c4] at H
          exact absurd H (by simp)
      · rw [if_neg c3] at H
        have c3b0 : decide (x5_1 < (l0.length : Int)) = false := decide_eq_false c3
        clear c3
        obtain rfl := Option.some.inj H
        go_wp2
        go_ret
        exact ⟨by first | rfl | (simp; done) | (simp [*]; done), by repeat (first | exact Drawn0.refl _ | apply Drawn0.step)⟩

end Go.Proofs.Ythnheffndhbebaa.P

namespace Go.Proofs.Ythnheffndhbebaa.P
open Go.RowKit Go.Proofs.YthnheffndhbebaaW.PrintWords Go.Proofs.YthnheffndhbebaaW.PrintLast Go.Proofs.YthnheffndhbebaaW.PrintMore
attribute [local go_sem] max2_int min2_int max_two min_two max_three min_three max_four min_four   -- for this text's walks alone
set_option linter.unusedVariables false
set_option linter.unusedSimpArgs false

/-! ### laws_FnExactTurnTower: function 11 -/
mutual
def laws_FnExactTurnTower.j0 : Nat → List (S38) → Int → List (S40) → Bool → List (S40) → List (S40) → Bool → Bool → Option (Bool)
  | 0, _, _, _, _, _, _, _, _ => none
  | k + 1, x0, x1, x6, x7, x8, x9, x10, x44 => if x44 = true then (some false) else ((laws_toDieS.f k x0).bind fun t718 => ((laws_eqDieS.f k x8 t718).bind fun t721 => (if t721 = true then ((laws_markDieS.f k x8 1).bind fun bt722 => (if bt722.1 < 0 then (laws_FnExactTurnTower.j1 k x0 x1 x6 x7 x9 true) else ((laws_eqDieS.f k x9 x6).bind fun t724 => (if t724 = true then (laws_FnExactTurnTower.j1 k x0 x1 x6 x7 x9 (x10 != x7)) else (laws_FnExactTurnTower.j1 k x0 x1 x6 x7 x9 true))))) else (some false))))
def laws_FnExactTurnTower.j1 : Nat → List (S38) → Int → List (S40) → Bool → List (S40) → Bool → Option (Bool)
  | 0, _, _, _, _, _, _ => none
  | k + 1, x0, x1, x6, x7, x9, x65 => if x65 = true then (some false) else ((laws_markDieS.f k x9 1).bind fun bt725 => ((laws_heldDieS.f k bt725.2 1).bind fun t727 => (if t727 < 0 then (some false) else (if t727 = bt725.1 then ((laws_toDieS.f k x0).bind fun t728 => ((impl_TurnTower.f k t728 x1).bind fun bt731 => ((laws_eqDieS.f k bt731.1 x6).bind fun t735 => (if t735 = true then (laws_FnExactTurnTower.j2 k bt725.2 bt725.1 (bt731.2 != x7)) else (laws_FnExactTurnTower.j2 k bt725.2 bt725.1 true))))) else (some false)))))
def laws_FnExactTurnTower.j2 : Nat → List (S40) → Int → Bool → Option (Bool)
  | 0, _, _, _ => none
  | k + 1, x9, x12, x92 => if x92 = true then (some false) else ((laws_heldDieS.f k x9 1).bind fun t736 => (if t736 < 0 then (some false) else (if t736 = x12 then (some true) else (some false))))
end
def laws_FnExactTurnTower.f (k : Nat) (l0 : List (S38)) (a1 : Int) : Option (Bool) := (laws_szDieS.f l0 1048576).bind fun t702 => (if t702 < 0 then (some true) else ((laws_toDieS.f k l0).bind fun t703 => ((spec_TurnTower.f k t703 a1).bind fun bt706 => ((laws_toDieS.f k l0).bind fun t710 => ((impl_TurnTower.f k t710 a1).bind fun bt713 => ((laws_eqDieS.f k bt713.1 bt706.1).bind fun t717 => (if t717 = true then (laws_FnExactTurnTower.j0 k l0 a1 bt706.1 bt706.2 t710 bt713.1 bt713.2 (bt713.2 != bt706.2)) else (laws_FnExactTurnTower.j0 k l0 a1 bt706.1 bt706.2 t710 bt713.1 bt713.2 true))))))))
theorem laws_FnExactTurnTower.mono_l : ∀ k, (∀ y0 y1 y2 y3 y4 y5 y6 y7, LeO (laws_FnExactTurnTower.j0 k y0 y1 y2 y3 y4 y5 y6 y7) (laws_FnExactTurnTower.j0 (k + 1) y0 y1 y2 y3 y4 y5 y6 y7)) ∧ (∀ y0 y1 y2 y3 y4 y5, LeO (laws_FnExactTurnTower.j1 k y0 y1 y2 y3 y4 y5) (laws_FnExactTurnTower.j1 (k + 1) y0 y1 y2 y3 y4 y5)) ∧ (∀ y0 y1 y2, LeO (laws_FnExactTurnTower.j2 k y0 y1 y2) (laws_FnExactTurnTower.j2 (k + 1) y0 y1 y2))
  | 0 => ⟨fun _ _ _ _ _ _ _ _ r h => by simp [laws_FnExactTurnTower.j0] at h, fun _ _ _ _ _ _ r h => by simp [laws_FnExactTurnTower.j1] at h, fun _ _ _ r h => by simp [laws_FnExactTurnTower.j2] at h⟩
  | k + 1 => by
    obtain ⟨ih0, ih1, ih2⟩ := laws_FnExactTurnTower.mono_l k
    refine ⟨?_, ?_, ?_⟩
    · intro y0 y1 y2 y3 y4 y5 y6 y7
      unfold laws_FnExactTurnTower.j0
      repeat' first
      | (with_reducible exact ih0 _ _ _ _ _ _ _ _)
      | (with_reducible exact ih1 _ _ _ _ _ _)
      | (with_reducible exact ih2 _ _ _)
      | (with_reducible exact impl_TurnTower.mono _ _ _)
      | (with_reducible exact laws_eqDieS.mono _ _ _)
      | (with_reducible exact laws_heldDieS.mono _ _ _)
      | (with_reducible exact laws_markDieS.mono _ _ _)
      | (with_reducible exact laws_toDieS.mono _ _)
      | (with_reducible exact spec_TurnTower.mono _ _ _)
      | (with_reducible exact LeO.refl _)
      | (with_reducible exact LeO.none _)
      | (with_reducible refine LeO.ite ?_ ?_)
      | (with_reducible refine LeO.bind ?_ (fun _ => ?_))
      | exact ih0 _ _ _ _ _ _ _ _
      | exact ih1 _ _ _ _ _ _
      | exact ih2 _ _ _
      | exact impl_TurnTower.mono _ _ _
      | exact laws_eqDieS.mono _ _ _
      | exact laws_heldDieS.mono _ _ _
      | exact laws_markDieS.mono _ _ _
      | exact laws_toDieS.mono _ _
      | exact spec_TurnTower.mono _ _ _
      | exact LeO.none _
      | refine LeO.ite ?_ ?_
      | refine LeO.bind ?_ (fun _ => ?_)
    · intro y0 y1 y2 y3 y4 y5
      unfold laws_FnExactTurnTower.j1
      repeat' first
      | (with_reducible exact ih0 _ _ _ _ _ _ _ _)
      | (with_reducible exact ih1 _ _ _ _ _ _)
      | (with_reducible exact ih2 _ _ _)
      | (with_reducible exact impl_TurnTower.mono _ _ _)
      | (with_reducible exact laws_eqDieS.mono _ _ _)
      | (with_reducible exact laws_heldDieS.mono _ _ _)
      | (with_reducible exact laws_markDieS.mono _ _ _)
      | (with_reducible exact laws_toDieS.mono _ _)
      | (with_reducible exact spec_TurnTower.mono _ _ _)
      | (with_reducible exact LeO.refl _)
      | (with_reducible exact LeO.none _)
      | (with_reducible refine LeO.ite ?_ ?_)
      | (with_reducible refine LeO.bind ?_ (fun _ => ?_))
      | exact ih0 _ _ _ _ _ _ _ _
      | exact ih1 _ _ _ _ _ _
      | exact ih2 _ _ _
      | exact impl_TurnTower.mono _ _ _
      | exact laws_eqDieS.mono _ _ _
      | exact laws_heldDieS.mono _ _ _
      | exact laws_markDieS.mono _ _ _
      | exact laws_toDieS.mono _ _
      | exact spec_TurnTower.mono _ _ _
      | exact LeO.none _
      | refine LeO.ite ?_ ?_
      | refine LeO.bind ?_ (fun _ => ?_)
    · intro y0 y1 y2
      unfold laws_FnExactTurnTower.j2
      repeat' first
      | (with_reducible exact ih0 _ _ _ _ _ _ _ _)
      | (with_reducible exact ih1 _ _ _ _ _ _)
      | (with_reducible exact ih2 _ _ _)
      | (with_reducible exact impl_TurnTower.mono _ _ _)
      | (with_reducible exact laws_eqDieS.mono _ _ _)
      | (with_reducible exact laws_heldDieS.mono _ _ _)
      | (with_reducible exact laws_markDieS.mono _ _ _)
      | (with_reducible exact laws_toDieS.mono _ _)
      | (with_reducible exact spec_TurnTower.mono _ _ _)
      | (with_reducible exact LeO.refl _)
      | (with_reducible exact LeO.none _)
      | (with_reducible refine LeO.ite ?_ ?_)
      | (with_reducible refine LeO.bind ?_ (fun _ => ?_))
      | exact ih0 _ _ _ _ _ _ _ _
      | exact ih1 _ _ _ _ _ _
      | exact ih2 _ _ _
      | exact impl_TurnTower.mono _ _ _
      | exact laws_eqDieS.mono _ _ _
      | exact laws_heldDieS.mono _ _ _
      | exact laws_markDieS.mono _ _ _
      | exact laws_toDieS.mono _ _
      | exact spec_TurnTower.mono _ _ _
      | exact LeO.none _
      | refine LeO.ite ?_ ?_
      | refine LeO.bind ?_ (fun _ => ?_)
theorem laws_FnExactTurnTower.mono : ∀ a0 a1 k, LeO (laws_FnExactTurnTower.f k a0 a1) (laws_FnExactTurnTower.f (k + 1) a0 a1) := by
  intro a0 a1 k
  obtain ⟨ih0, ih1, ih2⟩ := laws_FnExactTurnTower.mono_l k
  unfold laws_FnExactTurnTower.f
  repeat' first
      | (with_reducible exact ih0 _ _ _ _ _ _ _ _)
      | (with_reducible exact ih1 _ _ _ _ _ _)
      | (with_reducible exact ih2 _ _ _)
      | (with_reducible exact impl_TurnTower.mono _ _ _)
      | (with_reducible exact laws_eqDieS.mono _ _ _)
      | (with_reducible exact laws_heldDieS.mono _ _ _)
      | (with_reducible exact laws_markDieS.mono _ _ _)
      | (with_reducible exact laws_toDieS.mono _ _)
      | (with_reducible exact spec_TurnTower.mono _ _ _)
      | (with_reducible exact LeO.refl _)
      | (with_reducible exact LeO.none _)
      | (with_reducible refine LeO.ite ?_ ?_)
      | (with_reducible refine LeO.bind ?_ (fun _ => ?_))
      | exact ih0 _ _ _ _ _ _ _ _
      | exact ih1 _ _ _ _ _ _
      | exact ih2 _ _ _
      | exact impl_TurnTower.mono _ _ _
      | exact laws_eqDieS.mono _ _ _
      | exact laws_heldDieS.mono _ _ _
      | exact laws_markDieS.mono _ _ _
      | exact laws_toDieS.mono _ _
      | exact spec_TurnTower.mono _ _ _
      | exact LeO.none _
      | refine LeO.ite ?_ ?_
      | refine LeO.bind ?_ (fun _ => ?_)
set_option maxHeartbeats 8000000 in
set_option maxRecDepth 100000 in
theorem laws_FnExactTurnTower.calls (k : Nat) (A0 : Option Addr) (c0 : Nat) (l0 : List (S38)) (a1 : Int) (r : Bool) (w : World) (hr0 : Kd.C k38 w A0 l0.length l0) (hc0 : l0.length ≤ c0) (h : laws_FnExactTurnTower.f k l0 a1 = some r) :
    Calls Try.prog 11 #[.slice A0 l0.length c0, .int .i64 a1] w fun e w' => e = .returned (.bool r) ∧ Below w.heap.size w w' := by
  have HR0 := Aside0.mk hr0
  have HC0 := Aside0.mk hc0
  clear hr0 hc0
  have HB := Aside0.mk (Below.refl w.heap.size w)
  have H : ((laws_szDieS.f l0 1048576).bind fun t702 => (if t702 < 0 then (some true) else ((laws_toDieS.f k l0).bind fun t703 => ((spec_TurnTower.f k t703 a1).bind fun bt706 => ((laws_toDieS.f k l0).bind fun t710 => ((impl_TurnTower.f k t710 a1).bind fun bt713 => ((laws_eqDieS.f k bt713.1 bt706.1).bind fun t717 => (if t717 = true then (laws_FnExactTurnTower.j0 k l0 a1 bt706.1 bt706.2 t710 bt713.1 bt713.2 (bt713.2 != bt706.2)) else (laws_FnExactTurnTower.j0 k l0 a1 bt706.1 bt706.2 t710 bt713.1 bt713.2 true))))))))) = some r := h
  clear h
  replace H := Option.bind_eq_some_iff.mp H
  obtain ⟨t702, A30, H⟩ := H
  replace H : (if t702 < 0 then (some true) else ((laws_toDieS.f k l0).bind fun t703 => ((spec_TurnTower.f k t703 a1).bind fun bt706 => ((laws_toDieS.f k l0).bind fun t710 => ((impl_TurnTower.f k t710 a1).bind fun bt713 => ((laws_eqDieS.f k bt713.1 bt706.1).bind fun t717 => (if t717 = true then (laws_FnExactTurnTower.j0 k l0 a1 bt706.1 bt706.2 t710 bt713.1 bt713.2 (bt713.2 != bt706.2)) else (laws_FnExactTurnTower.j0 k l0 a1 bt706.1 bt706.2 t710 bt713.1 bt713.2 true)))))))) = some r := H
  have A3 := Aside0.mk A30
  clear A30
  by_cases c4 : t702 < 0
  · rw [if_pos c4] at H
    have c4b0 : decide (t702 < 0) = true := decide_eq_true c4
    clear c4
    obtain rfl := Option.some.inj H
    go_enter Try.func11, Try.ntmps11
    go_wp2_with (first | ((with_reducible refine gate_callee (f := 36) rfl ?_); refine goesL_ (some 18) rfl rfl Try.func36 (by kernel_rfl) rfl #[.slice A0 l0.length c0, .int .i64 1048576] rfl (by (try simp only [List.map_toArray, List.map_cons, List.map_nil]); first | done | rfl | (simp only [List.length_drop, List.length_take]; rfl)) ?_; (with_reducible refine (laws_szDieS.calls _ _ l0 1048576 t702 _ ?side1 ?side2 A3.out).mono ?_); (case side1 => repeat (first | exact HR0.out | (with_reducible refine Kd.C_alloc ?_ _) | (with_reducible refine Kd.C_drewN ?_ _) | (with_reducible refine Kd.C_drew ?_))); (case side2 => exact HC0.out); rintro e w' ⟨rfl, ⟨nd, rfl⟩⟩; refine ⟨_, rfl, ?_⟩))
    go_ret
    exact ⟨by first | rfl | (simp [errW_none, errW_some] <;> rfl) | (simp [*, errW_none, errW_some] <;> rfl), by repeat (first | (with_reducible first | exact HB.out | apply below_alloc | apply pw_below_drewN | apply below_drew1) | exact HB.out)⟩
  · rw [if_neg c4] at H
    have c4b0 : decide (t702 < 0) = false := decide_eq_false c4
    clear c4
    replace H := Option.bind_eq_some_iff.mp H
    obtain ⟨t703, A50, H⟩ := H
    replace H : ((spec_TurnTower.f k t703 a1).bind fun bt706 => ((laws_toDieS.f k l0).bind fun t710 => ((impl_TurnTower.f k t710 a1).bind fun bt713 => ((laws_eqDieS.f k bt713.1 bt706.1).bind fun t717 => (if t717 = true then (laws_FnExactTurnTower.j0 k l0 a1 bt706.1 bt706.2 t710 bt713.1 bt713.2 (bt713.2 != bt706.2)) else (laws_FnExactTurnTower.j0 k l0 a1 bt706.1 bt706.2 t710 bt713.1 bt713.2 true)))))) = some r := H
    have A5 := Aside0.mk A50
    clear A50
    replace H := Option.bind_eq_some_iff.mp H
    obtain ⟨⟨t706, t707⟩, A60, H⟩ := H
    replace H : ((laws_toDieS.f k l0).bind fun t710 => ((impl_TurnTower.f k t710 a1).bind fun bt713 => ((laws_eqDieS.f k bt713.1 t706).bind fun t717 => (if t717 = true then (laws_FnExactTurnTower.j0 k l0 a1 t706 t707 t710 bt713.1 bt713.2 (bt713.2 != t707)) else (laws_FnExactTurnTower.j0 k l0 a1 t706 t707 t710 bt713.1 bt713.2 true))))) = some r := H
    have A6 := Aside0.mk A60
    clear A60
    replace H := Option.bind_eq_some_iff.mp H
    obtain ⟨t710, A70, H⟩ := H
    replace H : ((impl_TurnTower.f k t710 a1).bind fun bt713 => ((laws_eqDieS.f k bt713.1 t706).bind fun t717 => (if t717 = true then (laws_FnExactTurnTower.j0 k l0 a1 t706 t707 t710 bt713.1 bt713.2 (bt713.2 != t707)) else (laws_FnExactTurnTower.j0 k l0 a1 t706 t707 t710 bt713.1 bt713.2 true)))) = some r := H
    have A7 := Aside0.mk A70
    clear A70
    replace H := Option.bind_eq_some_iff.mp H
    obtain ⟨⟨t713, t714⟩, A80, H⟩ := H
    replace H : ((laws_eqDieS.f k t713 t706).bind fun t717 => (if t717 = true then (laws_FnExactTurnTower.j0 k l0 a1 t706 t707 t710 t713 t714 (t714 != t707)) else (laws_FnExactTurnTower.j0 k l0 a1 t706 t707 t710 t713 t714 true))) = some r := H
    have A8 := Aside0.mk A80
    clear A80
    have HC9 := Aside0.mk H
    clear H
    go_enter Try.func11, Try.ntmps11
    go_upto_region 8 with (first | ((with_reducible refine gate_callee (f := 36) rfl ?_); refine goesL_ (some 18) rfl rfl Try.func36 (by kernel_rfl) rfl #[.slice A0 l0.length c0, .int .i64 1048576] rfl (by (try simp only [List.map_toArray, List.map_cons, List.map_nil]); first | done | rfl | (simp only [List.length_drop, List.length_take]; rfl)) ?_; (with_reducible refine (laws_szDieS.calls _ _ l0 1048576 t702 _ ?side1 ?side2 A3.out).mono ?_); (case side1 => repeat (first | exact HR0.out | (with_reducible refine Kd.C_alloc ?_ _) | (with_reducible refine Kd.C_drewN ?_ _) | (with_reducible refine Kd.C_drew ?_))); (case side2 => exact HC0.out); rintro e w' ⟨rfl, ⟨nd, rfl⟩⟩; refine ⟨_, rfl, ?_⟩) | ((with_reducible refine gate_callee (f := 38) rfl ?_); refine goesL_ (some 23) rfl rfl Try.func38 (by kernel_rfl) rfl #[.slice A0 l0.length c0] rfl (by (try simp only [List.map_toArray, List.map_cons, List.map_nil]); first | done | rfl | (simp only [List.length_drop, List.length_take]; rfl)) ?_; (with_reducible refine (laws_toDieS.calls k _ _ l0 t703 _ ?side1 ?side2 A5.out).mono ?_); (case side1 => repeat (first | exact HR0.out | (with_reducible refine Kd.C_alloc ?_ _) | (with_reducible refine Kd.C_drewN ?_ _) | (with_reducible refine Kd.C_drew ?_))); (case side2 => exact HC0.out); rintro e w10 ⟨v704, rfl, ho0, hb⟩; refine ⟨_, rfl, ?_⟩; have n0_ := Aside0.mk (Kd.R_lower ho0 (below_size (by repeat (first | (with_reducible first | exact HB.out | apply below_alloc | apply pw_below_drewN | apply below_drew1) | exact HB.out)))); have n1_ := Aside0.mk (below_step (by repeat (first | (with_reducible first | exact HB.out | apply below_alloc | apply pw_below_drewN | apply below_drew1) | exact HB.out)) hb); clear HB; have HO705 := n0_; have HB := n1_; clear n0_ n1_; (try clear hb); (try clear hb2); (try clear hk); (try clear hi); (try clear ho0); obtain ⟨Ao11, co11, eo11⟩ := Kd.R_slice HO705.out; subst eo11) | ((with_reducible refine gate_callee (f := 41) rfl ?_); refine goesL_ (some 25) rfl rfl Try.func41 (by kernel_rfl) rfl #[.slice Ao11 t703.length co11, .int .i64 a1] rfl (by (try simp only [List.map_toArray, List.map_cons, List.map_nil]); first | done | rfl | (simp only [List.length_drop, List.length_take]; rfl)) ?_; (with_reducible refine (spec_TurnTower.calls k _ _ t703 a1 t706 t707 _ ?side1 ?side2 A6.out).mono ?_); (case side1 => repeat (first | exact (Kd.R_reads' HO705.out).2.2 | (with_reducible refine Kd.C_alloc ?_ _) | (with_reducible refine Kd.C_drewN ?_ _) | (with_reducible refine Kd.C_drew ?_))); (case side2 => exact (Kd.R_reads' HO705.out).2.1); rintro e w12 ⟨v708, rfl, ho0, hb⟩; refine ⟨_, rfl, ?_⟩; have n0_ := Aside0.mk (Kd.R_elder' (by (with_reducible repeat (first | apply Kd.R_alloc | apply Kd.R_drewN | apply Kd.R_drew)); exact HO705.out) (Kd.R_base ho0) hb); have n1_ := Aside0.mk (Kd.R_lower (Kd.R_new' ho0 (Kd.R_lt (by (with_reducible repeat (first | apply Kd.R_alloc | apply Kd.R_drewN | apply Kd.R_drew)); exact HO705.out))) (below_size (by repeat (first | (with_reducible first | exact HB.out | apply below_alloc | apply pw_below_drewN | apply below_drew1) | exact HB.out)))); have n2_ := Aside0.mk (below_step (by repeat (first | (with_reducible first | exact HB.out | apply below_alloc | apply pw_below_drewN | apply below_drew1) | exact HB.out)) hb); clear HO705; clear HB; have HO705 := n0_; have HO709 := n1_; have HB := n2_; clear n0_ n1_ n2_; (try clear hb); (try clear hb2); (try clear hk); (try clear hi); (try clear ho0)) | ((with_reducible refine gate_callee (f := 38) rfl ?_); refine goesL_ (some 29) rfl rfl Try.func38 (by kernel_rfl) rfl #[.slice A0 l0.length c0] rfl (by (try simp only [List.map_toArray, List.map_cons, List.map_nil]); first | done | rfl | (simp only [List.length_drop, List.length_take]; rfl)) ?_; (with_reducible refine (laws_toDieS.calls k _ _ l0 t710 _ ?side1 ?side2 A7.out).mono ?_); (case side1 => repeat (first | exact (Kd.C_below HR0.out HB.out) | (with_reducible refine Kd.C_alloc ?_ _) | (with_reducible refine Kd.C_drewN ?_ _) | (with_reducible refine Kd.C_drew ?_))); (case side2 => exact HC0.out); rintro e w13 ⟨v711, rfl, ho0, hb⟩; refine ⟨_, rfl, ?_⟩; have n0_ := Aside0.mk (Kd.R_elder' (by (with_reducible repeat (first | apply Kd.R_alloc | apply Kd.R_drewN | apply Kd.R_drew)); exact HO705.out) (Kd.R_base ho0) hb); have n1_ := Aside0.mk (Kd.R_elder' (by (with_reducible repeat (first | apply Kd.R_alloc | apply Kd.R_drewN | apply Kd.R_drew)); exact HO709.out) (Kd.R_base ho0) hb); have n2_ := Aside0.mk (Kd.R_lower (Kd.R_new' (Kd.R_new' ho0 (Kd.R_lt (by (with_reducible repeat (first | apply Kd.R_alloc | apply Kd.R_drewN | apply Kd.R_drew)); exact HO705.out))) (Kd.R_lt (by (with_reducible repeat (first | apply Kd.R_alloc | apply Kd.R_drewN | apply Kd.R_drew)); exact HO709.out))) (below_size (by repeat (first | (with_reducible first | exact HB.out | apply below_alloc | apply pw_below_drewN | apply below_drew1) | exact HB.out)))); have n3_ := Aside0.mk (below_step (by repeat (first | (with_reducible first | exact HB.out | apply below_alloc | apply pw_below_drewN | apply below_drew1) | exact HB.out)) hb); clear HO705; clear HO709; clear HB; have HO705 := n0_; have HO709 := n1_; have HO712 := n2_; have HB := n3_; clear n0_ n1_ n2_ n3_; (try clear hb); (try clear hb2); (try clear hk); (try clear hi); (try clear ho0); obtain ⟨Ao14, co14, eo14⟩ := Kd.R_slice HO712.out; subst eo14) | ((with_reducible refine gate_callee (f := 42) rfl ?_); refine goesL_ (some 33) rfl rfl Try.func42 (by kernel_rfl) rfl #[.slice Ao14 t710.length co14, .int .i64 a1] rfl (by (try simp only [List.map_toArray, List.map_cons, List.map_nil]); first | done | rfl | (simp only [List.length_drop, List.length_take]; rfl)) ?_; (with_reducible refine (impl_TurnTower.calls k _ _ t710 a1 t713 t714 _ ?side1 ?side2 A8.out).mono ?_); (case side1 => repeat (first | exact (Kd.R_reads' HO712.out).2.2 | (with_reducible refine Kd.C_alloc ?_ _) | (with_reducible refine Kd.C_drewN ?_ _) | (with_reducible refine Kd.C_drew ?_))); (case side2 => exact (Kd.R_reads' HO712.out).2.1); rintro e w15 ⟨v715, rfl, ho0, hb⟩; refine ⟨_, rfl, ?_⟩; have n0_ := Aside0.mk (Kd.R_elder' (by (with_reducible repeat (first | apply Kd.R_alloc | apply Kd.R_drewN | apply Kd.R_drew)); exact HO705.out) (Kd.R_base ho0) hb); have n1_ := Aside0.mk (Kd.R_elder' (by (with_reducible repeat (first | apply Kd.R_alloc | apply Kd.R_drewN | apply Kd.R_drew)); exact HO709.out) (Kd.R_base ho0) hb); have n2_ := Aside0.mk (Kd.R_elder' (by (with_reducible repeat (first | apply Kd.R_alloc | apply Kd.R_drewN | apply Kd.R_drew)); exact HO712.out) (Kd.R_base ho0) hb); have n3_ := Aside0.mk (Kd.R_lower (Kd.R_new' (Kd.R_new' (Kd.R_new' ho0 (Kd.R_lt (by (with_reducible repeat (first | apply Kd.R_alloc | apply Kd.R_drewN | apply Kd.R_drew)); exact HO705.out))) (Kd.R_lt (by (with_reducible repeat (first | apply Kd.R_alloc | apply Kd.R_drewN | apply Kd.R_drew)); exact HO709.out))) (Kd.R_lt (by (with_reducible repeat (first | apply Kd.R_alloc | apply Kd.R_drewN | apply Kd.R_drew)); exact HO712.out))) (below_size (by repeat (first | (with_reducible first | exact HB.out | apply below_alloc | apply pw_below_drewN | apply below_drew1) | exact HB.out)))); have n4_ := Aside0.mk (below_step (by repeat (first | (with_reducible first | exact HB.out | apply below_alloc | apply pw_below_drewN | apply below_drew1) | exact HB.out)) hb); clear HO705; clear HO709; clear HO712; clear HB; have HO705 := n0_; have HO709 := n1_; have HO712 := n2_; have HO716 := n3_; have HB := n4_; clear n0_ n1_ n2_ n3_ n4_; (try clear hb); (try clear hb2); (try clear hk); (try clear hi); (try clear ho0)))
    (try simp only [Act.put, List.setIfInBounds_toArray, List.set_cons_zero, List.set_cons_succ])
    go_cut [44] (fun v44 wc => ∃ (kq : Nat) (x44_8 : Bool), v44 = .bool x44_8 ∧ Aside0 (laws_FnExactTurnTower.j0 kq l0 a1 t706 t707 t710 t713 t714 x44_8 = some r) ∧ Aside0 (kq ≤ k) ∧ Aside0 (Kd.R k40 40 wc w.heap.size (fun k_ => some k_ ≠ ((.slice Ao14 t710.length co14) : Value).ownBlock ∧ some k_ ≠ (v715 : Value).ownBlock) v708 t706) ∧ Aside0 (Kd.R k40 40 wc w.heap.size (fun k_ => some k_ ≠ (v708 : Value).ownBlock ∧ some k_ ≠ (v715 : Value).ownBlock) (.slice Ao14 t710.length co14) t710) ∧ Aside0 (Kd.R k40 40 wc w.heap.size (fun k_ => some k_ ≠ (v708 : Value).ownBlock ∧ some k_ ≠ ((.slice Ao14 t710.length co14) : Value).ownBlock) v715 t713) ∧ Aside0 (Below w.heap.size w wc))
    case first =>
      have H := HC9.out
      clear HC9
      replace H := Option.bind_eq_some_iff.mp H
      obtain ⟨t717, A160, H⟩ := H
      replace H : (if t717 = true then (laws_FnExactTurnTower.j0 k l0 a1 t706 t707 t710 t713 t714 (t714 != t707)) else (laws_FnExactTurnTower.j0 k l0 a1 t706 t707 t710 t713 t714 true)) = some r := H
      have A16 := Aside0.mk A160
      clear A160
      by_cases c17 : t717 = true
      · subst c17
        have H1 : (laws_FnExactTurnTower.j0 k l0 a1 t706 t707 t710 t713 t714 (t714 != t707)) = some r := by rw [if_pos rfl] at H; exact H
        clear H
        have H := H1
        clear H1
        have H' := Aside0.mk H
        clear H
        obtain ⟨Ao18, co18, eo18⟩ := Kd.R_slice HO716.out
        subst eo18
        obtain ⟨Ao19, co19, eo19⟩ := Kd.R_slice HO709.out
        subst eo19
        go_wp2_with (first | ((with_reducible refine gate_callee (f := 40) rfl ?_); refine goesL_ (some 38) rfl rfl Try.func40 (by kernel_rfl) rfl #[.slice Ao18 t713.length co18, .slice Ao19 t706.length co19] rfl (by (try simp only [List.map_toArray, List.map_cons, List.map_nil]); first | done | rfl | (simp only [List.length_drop, List.length_take]; rfl)) ?_; (with_reducible refine (laws_eqDieS.calls k _ _ t713 _ _ t706 true _ ?side1 ?side2 ?side3 ?side4 A16.out).mono ?_); (case side1 => repeat (first | exact (Kd.R_reads' HO716.out).2.2 | (with_reducible refine Kd.C_alloc ?_ _) | (with_reducible refine Kd.C_drewN ?_ _) | (with_reducible refine Kd.C_drew ?_))); (case side2 => exact (Kd.R_reads' HO716.out).2.1); (case side3 => repeat (first | exact (Kd.R_reads' HO709.out).2.2 | (with_reducible refine Kd.C_alloc ?_ _) | (with_reducible refine Kd.C_drewN ?_ _) | (with_reducible refine Kd.C_drew ?_))); (case side4 => exact (Kd.R_reads' HO709.out).2.1); rintro e w20 ⟨rfl, hb⟩; refine ⟨_, rfl, ?_⟩; have n0_ := Aside0.mk (Kd.R_below (by (with_reducible repeat (first | apply Kd.R_alloc | apply Kd.R_drewN | apply Kd.R_drew)); exact HO705.out) hb); have n1_ := Aside0.mk (Kd.R_below (by (with_reducible repeat (first | apply Kd.R_alloc | apply Kd.R_drewN | apply Kd.R_drew)); exact HO709.out) hb); have n2_ := Aside0.mk (Kd.R_below (by (with_reducible repeat (first | apply Kd.R_alloc | apply Kd.R_drewN | apply Kd.R_drew)); exact HO712.out) hb); have n3_ := Aside0.mk (Kd.R_below (by (with_reducible repeat (first | apply Kd.R_alloc | apply Kd.R_drewN | apply Kd.R_drew)); exact HO716.out) hb); have n4_ := Aside0.mk (below_step (by repeat (first | (with_reducible first | exact HB.out | apply below_alloc | apply pw_below_drewN | apply below_drew1) | exact HB.out)) hb); clear HO705; clear HO709; clear HO712; clear HO716; clear HB; have HO705 := n0_; have HO709 := n1_; have HO712 := n2_; have HO716 := n3_; have HB := n4_; clear n0_ n1_ n2_ n3_ n4_; (try clear hb); (try clear hb2); (try clear hk); (try clear hi)))
        go_meet
        case rel => exact ⟨_, ((t714 != t707)), (by first | rfl | (simp; done) | (simp [*]; done)), H', ⟨by first | omega | exact Nat.le_refl _⟩, ⟨by (with_reducible repeat (first | apply Kd.R_alloc | apply Kd.R_drewN | apply Kd.R_drew)); exact Kd.R_mono HO709.out (fun _ hk => ⟨hk.1.2, hk.2⟩)⟩, ⟨by (with_reducible repeat (first | apply Kd.R_alloc | apply Kd.R_drewN | apply Kd.R_drew)); exact Kd.R_mono HO712.out (fun _ hk => ⟨hk.1.2, hk.2⟩)⟩, ⟨by (with_reducible repeat (first | apply Kd.R_alloc | apply Kd.R_drewN | apply Kd.R_drew)); exact Kd.R_mono HO716.out (fun _ hk => ⟨hk.1.2, hk.2⟩)⟩, ⟨by repeat (first | (with_reducible first | exact HB.out | apply below_alloc | apply pw_below_drewN | apply below_drew1) | exact HB.out)⟩⟩
      · replace c17 := Bool.eq_false_iff.mpr c17
        subst c17
        have H1 : (laws_FnExactTurnTower.j0 k l0 a1 t706 t707 t710 t713 t714 true) = some r := by rw [if_neg (show ¬ (false = true) by decide)] at H; exact H
        clear H
        have H := H1
        clear H1
        have H' := Aside0.mk H
        clear H
        obtain ⟨Ao21, co21, eo21⟩ := Kd.R_slice HO716.out
        subst eo21
        obtain ⟨Ao22, co22, eo22⟩ := Kd.R_slice HO709.out
        subst eo22
        go_wp2_with (first | ((with_reducible refine gate_callee (f := 40) rfl ?_); refine goesL_ (some 38) rfl rfl Try.func40 (by kernel_rfl) rfl #[.slice Ao21 t713.length co21, .slice Ao22 t706.length co22] rfl (by (try simp only [List.map_toArray, List.map_cons, List.map_nil]); first | done | rfl | (simp only [List.length_drop, List.length_take]; rfl)) ?_; (with_reducible refine (laws_eqDieS.calls k _ _ t713 _ _ t706 false _ ?side1 ?side2 ?side3 ?side4 A16.out).mono ?_); (case side1 => repeat (first | exact (Kd.R_reads' HO716.out).2.2 | (with_reducible refine Kd.C_alloc ?_ _) | (with_reducible refine Kd.C_drewN ?_ _) | (with_reducible refine Kd.C_drew ?_))); (case side2 => exact (Kd.R_reads' HO716.out).2.1); (case side3 => repeat (first | exact (Kd.R_reads' HO709.out).2.2 | (with_reducible refine Kd.C_alloc ?_ _) | (with_reducible refine Kd.C_drewN ?_ _) | (with_reducible refine Kd.C_drew ?_))); (case side4 => exact (Kd.R_reads' HO709.out).2.1); rintro e w23 ⟨rfl, hb⟩; refine ⟨_, rfl, ?_⟩; have n0_ := Aside0.mk (Kd.R_below (by (with_reducible repeat (first | apply Kd.R_alloc | apply Kd.R_drewN | apply Kd.R_drew)); exact HO705.out) hb); have n1_ := Aside0.mk (Kd.R_below (by (with_reducible repeat (first | apply Kd.R_alloc | apply Kd.R_drewN | apply Kd.R_drew)); exact HO709.out) hb); have n2_ := Aside0.mk (Kd.R_below (by (with_reducible repeat (first | apply Kd.R_alloc | apply Kd.R_drewN | apply Kd.R_drew)); exact HO712.out) hb); have n3_ := Aside0.mk (Kd.R_below (by (with_reducible repeat (first | apply Kd.R_alloc | apply Kd.R_drewN | apply Kd.R_drew)); exact HO716.out) hb); have n4_ := Aside0.mk (below_step (by repeat (first | (with_reducible first | exact HB.out | apply below_alloc | apply pw_below_drewN | apply below_drew1) | exact HB.out)) hb); clear HO705; clear HO709; clear HO712; clear HO716; clear HB; have HO705 := n0_; have HO709 := n1_; have HO712 := n2_; have HO716 := n3_; have HB := n4_; clear n0_ n1_ n2_ n3_ n4_; (try clear hb); (try clear hb2); (try clear hk); (try clear hi)))
        go_meet
        case rel => exact ⟨_, (true), (by first | rfl | (simp; done) | (simp [*]; done)), H', ⟨by first | omega | exact Nat.le_refl _⟩, ⟨by (with_reducible repeat (first | apply Kd.R_alloc | apply Kd.R_drewN | apply Kd.R_drew)); exact Kd.R_mono HO709.out (fun _ hk => ⟨hk.1.2, hk.2⟩)⟩, ⟨by (with_reducible repeat (first | apply Kd.R_alloc | apply Kd.R_drewN | apply Kd.R_drew)); exact Kd.R_mono HO712.out (fun _ hk => ⟨hk.1.2, hk.2⟩)⟩, ⟨by (with_reducible repeat (first | apply Kd.R_alloc | apply Kd.R_drewN | apply Kd.R_drew)); exact Kd.R_mono HO716.out (fun _ hk => ⟨hk.1.2, hk.2⟩)⟩, ⟨by repeat (first | (with_reducible first | exact HB.out | apply below_alloc | apply pw_below_drewN | apply below_drew1) | exact HB.out)⟩⟩
    case rest =>
      clear HC9
      try clear c1
      try clear p2
      try clear c3
      try clear c4
      try clear c4b0
      try clear c11
      try clear c17
      obtain ⟨kq, x44_8, rfl, HA, HJ8, HO_6, HO_8, HO_9, HB⟩ := hcut
      cases kq with
      | zero => exact absurd HA.out (by simp [laws_FnExactTurnTower.j0])
      | succ kj8 =>
        have H := HA.out
        clear HA
        simp only [laws_FnExactTurnTower.j0] at H
        by_cases c24 : x44_8 = true
        · subst c24
          have H1 : (some false) = some r := by rw [if_pos rfl] at H; exact H
          clear H
          have H := H1
          clear H1
          obtain rfl := Option.some.inj H
          go_wp2
          go_ret
          exact ⟨by first | rfl | (simp [errW_none, errW_some] <;> rfl) | (simp [*, errW_none, errW_some] <;> rfl), by repeat (first | (with_reducible first | exact HB.out | apply below_alloc | apply pw_below_drewN | apply below_drew1) | exact HB.out)⟩
        · replace c24 := Bool.eq_false_iff.mpr c24
          subst c24
          have H1 : ((laws_toDieS.f kj8 l0).bind fun t718 => ((laws_eqDieS.f kj8 t710 t718).bind fun t721 => (if t721 = true then ((laws_markDieS.f kj8 t710 1).bind fun bt722 => (if bt722.1 < 0 then (laws_FnExactTurnTower.j1 kj8 l0 a1 t706 t707 t713 true) else ((laws_eqDieS.f kj8 t713 t706).bind fun t724 => (if t724 = true then (laws_FnExactTurnTower.j1 kj8 l0 a1 t706 t707 t713 (t714 != t707)) else (laws_FnExactTurnTower.j1 kj8 l0 a1 t706 t707 t713 true))))) else (some false)))) = some r := by rw [if_neg (show ¬ (false = true) by decide)] at H; exact H
          clear H
          have H := H1
          clear H1
          replace H := Option.bind_eq_some_iff.mp H
          obtain ⟨t718, A250, H⟩ := H
          replace H : ((laws_eqDieS.f kj8 t710 t718).bind fun t721 => (if t721 = true then ((laws_markDieS.f kj8 t710 1).bind fun bt722 => (if bt722.1 < 0 then (laws_FnExactTurnTower.j1 kj8 l0 a1 t706 t707 t713 true) else ((laws_eqDieS.f kj8 t713 t706).bind fun t724 => (if t724 = true then (laws_FnExactTurnTower.j1 kj8 l0 a1 t706 t707 t713 (t714 != t707)) else (laws_FnExactTurnTower.j1 kj8 l0 a1 t706 t707 t713 true))))) else (some false))) = some r := H
          have A25 := Aside0.mk A250
          clear A250
          replace H := Option.bind_eq_some_iff.mp H
          obtain ⟨t721, A260, H⟩ := H
          replace H : (if t721 = true then ((laws_markDieS.f kj8 t710 1).bind fun bt722 => (if bt722.1 < 0 then (laws_FnExactTurnTower.j1 kj8 l0 a1 t706 t707 t713 true) else ((laws_eqDieS.f kj8 t713 t706).bind fun t724 => (if t724 = true then (laws_FnExactTurnTower.j1 kj8 l0 a1 t706 t707 t713 (t714 != t707)) else (laws_FnExactTurnTower.j1 kj8 l0 a1 t706 t707 t713 true))))) else (some false)) = some r := H
          have A26 := Aside0.mk A260
          clear A260
          by_cases c27 : t721 = true
          · subst c27
            have H1 : ((laws_markDieS.f kj8 t710 1).bind fun bt722 => (if bt722.1 < 0 then (laws_FnExactTurnTower.j1 kj8 l0 a1 t706 t707 t713 true) else ((laws_eqDieS.f kj8 t713 t706).bind fun t724 => (if t724 = true then (laws_FnExactTurnTower.j1 kj8 l0 a1 t706 t707 t713 (t714 != t707)) else (laws_FnExactTurnTower.j1 kj8 l0 a1 t706 t707 t713 true))))) = some r := by rw [if_pos rfl] at H; exact H
            clear H
            have H := H1
            clear H1
            replace H := Option.bind_eq_some_iff.mp H
            obtain ⟨⟨t722, t723⟩, A280, H⟩ := H
            replace H : (if t722 < 0 then (laws_FnExactTurnTower.j1 kj8 l0 a1 t706 t707 t713 true) else ((laws_eqDieS.f kj8 t713 t706).bind fun t724 => (if t724 = true then (laws_FnExactTurnTower.j1 kj8 l0 a1 t706 t707 t713 (t714 != t707)) else (laws_FnExactTurnTower.j1 kj8 l0 a1 t706 t707 t713 true)))) = some r := H
            have A28 := Aside0.mk A280
            clear A280
            have HC29 := Aside0.mk H
            clear H
            go_upto_region 14 with (first | ((with_reducible refine gate_callee (f := 38) rfl ?_); refine goesL_ (some 47) rfl rfl Try.func38 (by kernel_rfl) rfl #[.slice A0 l0.length c0] rfl (by (try simp only [List.map_toArray, List.map_cons, List.map_nil]); first | done | rfl | (simp only [List.length_drop, List.length_take]; rfl)) ?_; (with_reducible refine (laws_toDieS.calls kj8 _ _ l0 t718 _ ?side1 ?side2 A25.out).mono ?_); (case side1 => repeat (first | exact (Kd.C_below HR0.out HB.out) | (with_reducible refine Kd.C_alloc ?_ _) | (with_reducible refine Kd.C_drewN ?_ _) | (with_reducible refine Kd.C_drew ?_))); (case side2 => exact HC0.out); rintro e w30 ⟨v719, rfl, ho0, hb⟩; refine ⟨_, rfl, ?_⟩; have n0_ := Aside0.mk (Kd.R_elder' (by (with_reducible repeat (first | apply Kd.R_alloc | apply Kd.R_drewN | apply Kd.R_drew)); exact HO_6.out) (Kd.R_base ho0) hb); have n1_ := Aside0.mk (Kd.R_elder' (by (with_reducible repeat (first | apply Kd.R_alloc | apply Kd.R_drewN | apply Kd.R_drew)); exact HO_8.out) (Kd.R_base ho0) hb); have n2_ := Aside0.mk (Kd.R_elder' (by (with_reducible repeat (first | apply Kd.R_alloc | apply Kd.R_drewN | apply Kd.R_drew)); exact HO_9.out) (Kd.R_base ho0) hb); have n3_ := Aside0.mk (Kd.R_lower (Kd.R_new' (Kd.R_new' (Kd.R_new' ho0 (Kd.R_lt (by (with_reducible repeat (first | apply Kd.R_alloc | apply Kd.R_drewN | apply Kd.R_drew)); exact HO_6.out))) (Kd.R_lt (by (with_reducible repeat (first | apply Kd.R_alloc | apply Kd.R_drewN | apply Kd.R_drew)); exact HO_8.out))) (Kd.R_lt (by (with_reducible repeat (first | apply Kd.R_alloc | apply Kd.R_drewN | apply Kd.R_drew)); exact HO_9.out))) (below_size (by repeat (first | (with_reducible first | exact HB.out | apply below_alloc | apply pw_below_drewN | apply below_drew1) | exact HB.out)))); have n4_ := Aside0.mk (below_step (by repeat (first | (with_reducible first | exact HB.out | apply below_alloc | apply pw_below_drewN | apply below_drew1) | exact HB.out)) hb); clear HO_6; clear HO_8; clear HO_9; clear HB; have HO_6 := n0_; have HO_8 := n1_; have HO_9 := n2_; have HO720 := n3_; have HB := n4_; clear n0_ n1_ n2_ n3_ n4_; (try clear hb); (try clear hb2); (try clear hk); (try clear hi); (try clear ho0); obtain ⟨Ao31, co31, eo31⟩ := Kd.R_slice HO720.out; subst eo31) | ((with_reducible refine gate_callee (f := 40) rfl ?_); refine goesL_ (some 48) rfl rfl Try.func40 (by kernel_rfl) rfl #[.slice Ao14 t710.length co14, .slice Ao31 t718.length co31] rfl (by (try simp only [List.map_toArray, List.map_cons, List.map_nil]); first | done | rfl | (simp only [List.length_drop, List.length_take]; rfl)) ?_; (with_reducible refine (laws_eqDieS.calls kj8 _ _ t710 _ _ t718 true _ ?side1 ?side2 ?side3 ?side4 A26.out).mono ?_); (case side1 => repeat (first | exact (Kd.R_reads' HO_8.out).2.2 | (with_reducible refine Kd.C_alloc ?_ _) | (with_reducible refine Kd.C_drewN ?_ _) | (with_reducible refine Kd.C_drew ?_))); (case side2 => exact (Kd.R_reads' HO_8.out).2.1); (case side3 => repeat (first | exact (Kd.R_reads' HO720.out).2.2 | (with_reducible refine Kd.C_alloc ?_ _) | (with_reducible refine Kd.C_drewN ?_ _) | (with_reducible refine Kd.C_drew ?_))); (case side4 => exact (Kd.R_reads' HO720.out).2.1); rintro e w32 ⟨rfl, hb⟩; refine ⟨_, rfl, ?_⟩; have n0_ := Aside0.mk (Kd.R_below (by (with_reducible repeat (first | apply Kd.R_alloc | apply Kd.R_drewN | apply Kd.R_drew)); exact HO_6.out) hb); have n1_ := Aside0.mk (Kd.R_below (by (with_reducible repeat (first | apply Kd.R_alloc | apply Kd.R_drewN | apply Kd.R_drew)); exact HO_8.out) hb); have n2_ := Aside0.mk (Kd.R_below (by (with_reducible repeat (first | apply Kd.R_alloc | apply Kd.R_drewN | apply Kd.R_drew)); exact HO_9.out) hb); have n3_ := Aside0.mk (Kd.R_below (by (with_reducible repeat (first | apply Kd.R_alloc | apply Kd.R_drewN | apply Kd.R_drew)); exact HO720.out) hb); have n4_ := Aside0.mk (below_step (by repeat (first | (with_reducible first | exact HB.out | apply below_alloc | apply pw_below_drewN | apply below_drew1) | exact HB.out)) hb); clear HO_6; clear HO_8; clear HO_9; clear HO720; clear HB; have HO_6 := n0_; have HO_8 := n1_; have HO_9 := n2_; have HO720 := n3_; have HB := n4_; clear n0_ n1_ n2_ n3_ n4_; (try clear hb); (try clear hb2); (try clear hk); (try clear hi)) | ((with_reducible refine gate_callee (f := 43) rfl ?_); refine goesL_ (some 52) rfl rfl Try.func43 (by kernel_rfl) rfl #[.slice Ao14 t710.length co14, .int .i64 1] rfl (by (try simp only [List.map_toArray, List.map_cons, List.map_nil]); first | done | rfl | (simp only [List.length_drop, List.length_take]; rfl)) ?_; (with_reducible refine (laws_markDieS.calls kj8 (fun k_ => some k_ = (.slice Ao14 t710.length co14 : Value).ownBlock) (.slice Ao14 t710.length co14) t710 1 t722 t723 w _ ?side1 ?side2 A28.out).mono ?_); (case side1 => repeat (first | (with_reducible first | exact HB.out | apply below_alloc | apply pw_below_drewN | apply below_drew1) | exact HB.out)); (case side2 => exact Kd.R_tight rfl HO_8.out); rintro e w33 ⟨rfl, hy0, hb, hkp⟩; refine ⟨_, rfl, ?_⟩; have n0_ := Aside0.mk (Kd.R_mono (ok' := fun k_ => some k_ ≠ (.slice Ao14 t710.length co14 : Value).ownBlock ∧ some k_ ≠ (v715 : Value).ownBlock ∧ some k_ ≠ (.slice Ao31 t718.length co31 : Value).ownBlock) (Kd.R_keptB (HO_6.out) hkp (fun k_ hk_ hs_ => (hk_.1.1) hs_)) (fun k_ hk_ => ⟨hk_.1.1.1, hk_.1.1.2, hk_.1.2⟩)); have n1_ := Aside0.mk (Kd.R_reok rfl hy0 (fun k_ e_ => HO_8.out.1 k_ e_)); have n2_ := Aside0.mk (Kd.R_mono (ok' := fun k_ => some k_ ≠ (v708 : Value).ownBlock ∧ some k_ ≠ (.slice Ao14 t710.length co14 : Value).ownBlock ∧ some k_ ≠ (.slice Ao31 t718.length co31 : Value).ownBlock) (Kd.R_keptB (HO_9.out) hkp (fun k_ hk_ hs_ => (hk_.1.2) hs_)) (fun k_ hk_ => ⟨hk_.1.1.1, hk_.1.1.2, hk_.1.2⟩)); have n3_ := Aside0.mk (Kd.R_mono (ok' := fun k_ => some k_ ≠ (v708 : Value).ownBlock ∧ some k_ ≠ (.slice Ao14 t710.length co14 : Value).ownBlock ∧ some k_ ≠ (v715 : Value).ownBlock) (Kd.R_keptB (HO720.out) hkp (fun k_ hk_ hs_ => (hk_.1.2) hs_)) (fun k_ hk_ => ⟨hk_.1.1.1.2, hk_.1.1.2, hk_.1.2⟩)); have n4_ := Aside0.mk (hb); clear HO_6; clear HO_8; clear HO_9; clear HO720; clear HB; have HO_6 := n0_; have HO_8 := n1_; have HO_9 := n2_; have HO720 := n3_; have HB := n4_; clear n0_ n1_ n2_ n3_ n4_; (try clear hb); (try clear hkp); (try clear hy0)))
            (try simp only [Act.put, List.setIfInBounds_toArray, List.set_cons_zero, List.set_cons_succ])
            go_cut [65] (fun v65 wc => ∃ (kq : Nat) (x65_28 : Bool), v65 = .bool x65_28 ∧ Aside0 (laws_FnExactTurnTower.j1 kq l0 a1 t706 t707 t713 x65_28 = some r) ∧ Aside0 (kq ≤ kj8) ∧ Aside0 (Kd.R k40 40 wc w.heap.size (fun k_ => some k_ ≠ (v715 : Value).ownBlock) v708 t706) ∧ Aside0 (Kd.R k40 40 wc w.heap.size (fun k_ => some k_ ≠ (v708 : Value).ownBlock) v715 t713) ∧ Aside0 (Below w.heap.size w wc))
            case first =>
              have H := HC29.out
              clear HC29
              by_cases c34 : t722 < 0
              · rw [if_pos c34] at H
                have c34b0 : decide (t722 < 0) = true := decide_eq_true c34
                clear c34
                (first | rw [c34b0] | (simp only [i64_w, i32_w]; rw [c34b0]) | skip)
                have H' := Aside0.mk H
                clear H
                go_wp2
                go_meet
                case rel => exact ⟨_, (true), (by first | rfl | (simp; done) | (simp [*]; done)), H', ⟨by have := HJ8.out; first | omega | exact Nat.le_refl _⟩, ⟨by (with_reducible repeat (first | apply Kd.R_alloc | apply Kd.R_drewN | apply Kd.R_drew)); exact Kd.R_mono HO_6.out (fun _ hk => hk.2.1)⟩, ⟨by (with_reducible repeat (first | apply Kd.R_alloc | apply Kd.R_drewN | apply Kd.R_drew)); exact Kd.R_mono HO_9.out (fun _ hk => hk.1)⟩, ⟨by repeat (first | (with_reducible first | exact HB.out | apply below_alloc | apply pw_below_drewN | apply below_drew1) | exact HB.out)⟩⟩
              · rw [if_neg c34] at H
                have c34b0 : decide (t722 < 0) = false := decide_eq_false c34
                clear c34
                (first | rw [c34b0] | (simp only [i64_w, i32_w]; rw [c34b0]) | skip)
                replace H := Option.bind_eq_some_iff.mp H
                obtain ⟨t724, A350, H⟩ := H
                replace H : (if t724 = true then (laws_FnExactTurnTower.j1 kj8 l0 a1 t706 t707 t713 (t714 != t707)) else (laws_FnExactTurnTower.j1 kj8 l0 a1 t706 t707 t713 true)) = some r := H
                have A35 := Aside0.mk A350
                clear A350
                by_cases c36 : t724 = true
                · subst c36
                  have H1 : (laws_FnExactTurnTower.j1 kj8 l0 a1 t706 t707 t713 (t714 != t707)) = some r := by rw [if_pos rfl] at H; exact H
                  clear H
                  have H := H1
                  clear H1
                  have H' := Aside0.mk H
                  clear H
                  obtain ⟨Ao37, co37, eo37⟩ := Kd.R_slice HO_9.out
                  subst eo37
                  obtain ⟨Ao38, co38, eo38⟩ := Kd.R_slice HO_6.out
                  subst eo38
                  go_wp2_with (first | (go_at_call 40; (with_reducible refine (laws_eqDieS.calls kj8 _ _ t713 _ _ t706 true _ ?side1 ?side2 ?side3 ?side4 A35.out).mono ?_); (case side1 => repeat (first | exact (Kd.R_reads' HO_9.out).2.2 | (with_reducible refine Kd.C_alloc ?_ _) | (with_reducible refine Kd.C_drewN ?_ _) | (with_reducible refine Kd.C_drew ?_))); (case side2 => exact (Kd.R_reads' HO_9.out).2.1); (case side3 => repeat (first | exact (Kd.R_reads' HO_6.out).2.2 | (with_reducible refine Kd.C_alloc ?_ _) | (with_reducible refine Kd.C_drewN ?_ _) | (with_reducible refine Kd.C_drew ?_))); (case side4 => exact (Kd.R_reads' HO_6.out).2.1); rintro e w39 ⟨rfl, hb⟩; have n0_ := Aside0.mk (Kd.R_below (by (with_reducible repeat (first | apply Kd.R_alloc | apply Kd.R_drewN | apply Kd.R_drew)); exact HO_6.out) hb); have n1_ := Aside0.mk (Kd.R_below (by (with_reducible repeat (first | apply Kd.R_alloc | apply Kd.R_drewN | apply Kd.R_drew)); exact HO_8.out) hb); have n2_ := Aside0.mk (Kd.R_below (by (with_reducible repeat (first | apply Kd.R_alloc | apply Kd.R_drewN | apply Kd.R_drew)); exact HO_9.out) hb); have n3_ := Aside0.mk (Kd.R_below (by (with_reducible repeat (first | apply Kd.R_alloc | apply Kd.R_drewN | apply Kd.R_drew)); exact HO720.out) hb); have n4_ := Aside0.mk (below_step (by repeat (first | (with_reducible first | exact HB.out | apply below_alloc | apply pw_below_drewN | apply below_drew1) | exact HB.out)) hb); clear HO_6; clear HO_8; clear HO_9; clear HO720; clear HB; have HO_6 := n0_; have HO_8 := n1_; have HO_9 := n2_; have HO720 := n3_; have HB := n4_; clear n0_ n1_ n2_ n3_ n4_; (try clear hb); (try clear hb2); (try clear hk); (try clear hi)))
                  go_meet
                  case rel => exact ⟨_, ((t714 != t707)), (by first | rfl | (simp; done) | (simp [*]; done)), H', ⟨by have := HJ8.out; first | omega | exact Nat.le_refl _⟩, ⟨by (with_reducible repeat (first | apply Kd.R_alloc | apply Kd.R_drewN | apply Kd.R_drew)); exact Kd.R_mono HO_6.out (fun _ hk => hk.2.1)⟩, ⟨by (with_reducible repeat (first | apply Kd.R_alloc | apply Kd.R_drewN | apply Kd.R_drew)); exact Kd.R_mono HO_9.out (fun _ hk => hk.1)⟩, ⟨by repeat (first | (with_reducible first | exact HB.out | apply below_alloc | apply pw_below_drewN | apply below_drew1) | exact HB.out)⟩⟩
                · replace c36 := Bool.eq_false_iff.mpr c36
                  subst c36
                  have H1 : (laws_FnExactTurnTower.j1 kj8 l0 a1 t706 t707 t713 true) = some r := by rw [if_neg (show ¬ (false = true) by decide)] at H; exact H
                  clear H
                  have H := H1
                  clear H1
                  have H' := Aside0.mk H
                  clear H
                  obtain ⟨Ao40, co40, eo40⟩ := Kd.R_slice HO_9.out
                  subst eo40
                  obtain ⟨Ao41, co41, eo41⟩ := Kd.R_slice HO_6.out
                  subst eo41
                  go_wp2_with (first | (go_at_call 40; (with_reducible refine (laws_eqDieS.calls kj8 _ _ t713 _ _ t706 false _ ?side1 ?side2 ?side3 ?side4 A35.out).mono ?_); (case side1 => repeat (first | exact (Kd.R_reads' HO_9.out).2.2 | (with_reducible refine Kd.C_alloc ?_ _) | (with_reducible refine Kd.C_drewN ?_ _) | (with_reducible refine Kd.C_drew ?_))); (case side2 => exact (Kd.R_reads' HO_9.out).2.1); (case side3 => repeat (first | exact (Kd.R_reads' HO_6.out).2.2 | (with_reducible refine Kd.C_alloc ?_ _) | (with_reducible refine Kd.C_drewN ?_ _) | (with_reducible refine Kd.C_drew ?_))); (case side4 => exact (Kd.R_reads' HO_6.out).2.1); rintro e w42 ⟨rfl, hb⟩; have n0_ := Aside0.mk (Kd.R_below (by (with_reducible repeat (first | apply Kd.R_alloc | apply Kd.R_drewN | apply Kd.R_drew)); exact HO_6.out) hb); have n1_ := Aside0.mk (Kd.R_below (by (with_reducible repeat (first | apply Kd.R_alloc | apply Kd.R_drewN | apply Kd.R_drew)); exact HO_8.out) hb); have n2_ := Aside0.mk (Kd.R_below (by (with_reducible repeat (first | apply Kd.R_alloc | apply Kd.R_drewN | apply Kd.R_drew)); exact HO_9.out) hb); have n3_ := Aside0.mk (Kd.R_below (by (with_reducible repeat (first | apply Kd.R_alloc | apply Kd.R_drewN | apply Kd.R_drew)); exact HO720.out) hb); have n4_ := Aside0.mk (below_step (by repeat (first | (with_reducible first | exact HB.out | apply below_alloc | apply pw_below_drewN | apply below_drew1) | exact HB.out)) hb); clear HO_6; clear HO_8; clear HO_9; clear HO720; clear HB; have HO_6 := n0_; have HO_8 := n1_; have HO_9 := n2_; have HO720 := n3_; have HB := n4_; clear n0_ n1_ n2_ n3_ n4_; (try clear hb); (try clear hb2); (try clear hk); (try clear hi)))
                  go_meet
                  case rel => exact ⟨_, (true), (by first | rfl | (simp; done) | (simp [*]; done)), H', ⟨by have := HJ8.out; first | omega | exact Nat.le_refl _⟩, ⟨by (with_reducible repeat (first | apply Kd.R_alloc | apply Kd.R_drewN | apply Kd.R_drew)); exact Kd.R_mono HO_6.out (fun _ hk => hk.2.1)⟩, ⟨by (with_reducible repeat (first | apply Kd.R_alloc | apply Kd.R_drewN | apply Kd.R_drew)); exact Kd.R_mono HO_9.out (fun _ hk => hk.1)⟩, ⟨by repeat (first | (with_reducible first | exact HB.out | apply below_alloc | apply pw_below_drewN | apply below_drew1) | exact HB.out)⟩⟩
            case rest =>
              clear HC29
              try clear c1
              try clear c2
              try clear p2
              try clear c3
              try clear c4
              try clear c4b0
              try clear c11
              try clear c17
              try clear c24
              try clear c27
              try clear c34
              try clear c34b0
              try clear c36
              try clear c38
              try clear c40
              try clear c41
              try clear c42
              try clear p2
              obtain ⟨kq, x65_28, rfl, HA, HJ28, HO_6, HO_9, HB⟩ := hcut
              cases kq with
              | zero => exact absurd HA.out (by simp [laws_FnExactTurnTower.j1])
              | succ kj28 =>
                have H := HA.out
                clear HA
                simp only [laws_FnExactTurnTower.j1] at H
                by_cases c43 : x65_28 = true
                · subst c43
                  have H1 : (some false) = some r := by rw [if_pos rfl] at H; exact H
                  clear H
                  have H := H1
                  clear H1
                  obtain rfl := Option.some.inj H
                  go_wp2
                  go_ret
                  exact ⟨by first | rfl | (simp [errW_none, errW_some] <;> rfl) | (simp [*, errW_none, errW_some] <;> rfl), by repeat (first | (with_reducible first | exact HB.out | apply below_alloc | apply pw_below_drewN | apply below_drew1) | exact HB.out)⟩
                · replace c43 := Bool.eq_false_iff.mpr c43
                  subst c43
                  have H1 : ((laws_markDieS.f kj28 t713 1).bind fun bt725 => ((laws_heldDieS.f kj28 bt725.2 1).bind fun t727 => (if t727 < 0 then (some false) else (if t727 = bt725.1 then ((laws_toDieS.f kj28 l0).bind fun t728 => ((impl_TurnTower.f kj28 t728 a1).bind fun bt731 => ((laws_eqDieS.f kj28 bt731.1 t706).bind fun t735 => (if t735 = true then (laws_FnExactTurnTower.j2 kj28 bt725.2 bt725.1 (bt731.2 != t707)) else (laws_FnExactTurnTower.j2 kj28 bt725.2 bt725.1 true))))) else (some false))))) = some r := by rw [if_neg (show ¬ (false = true) by decide)] at H; exact H
                  clear H
                  have H := H1
                  clear H1
                  replace H := Option.bind_eq_some_iff.mp H
                  obtain ⟨⟨t725, t726⟩, A440, H⟩ := H
                  replace H : ((laws_heldDieS.f kj28 t726 1).bind fun t727 => (if t727 < 0 then (some false) else (if t727 = t725 then ((laws_toDieS.f kj28 l0).bind fun t728 => ((impl_TurnTower.f kj28 t728 a1).bind fun bt731 => ((laws_eqDieS.f kj28 bt731.1 t706).bind fun t735 => (if t735 = true then (laws_FnExactTurnTower.j2 kj28 t726 t725 (bt731.2 != t707)) else (laws_FnExactTurnTower.j2 kj28 t726 t725 true))))) else (some false)))) = some r := H
                  have A44 := Aside0.mk A440
                  clear A440
                  replace H := Option.bind_eq_some_iff.mp H
                  obtain ⟨t727, A450, H⟩ := H
                  replace H : (if t727 < 0 then (some false) else (if t727 = t725 then ((laws_toDieS.f kj28 l0).bind fun t728 => ((impl_TurnTower.f kj28 t728 a1).bind fun bt731 => ((laws_eqDieS.f kj28 bt731.1 t706).bind fun t735 => (if t735 = true then (laws_FnExactTurnTower.j2 kj28 t726 t725 (bt731.2 != t707)) else (laws_FnExactTurnTower.j2 kj28 t726 t725 true))))) else (some false))) = some r := H
                  have A45 := Aside0.mk A450
                  clear A450
                  by_cases c46 : t727 < 0
                  · rw [if_pos c46] at H
                    have c46b0 : decide (t727 < 0) = true := decide_eq_true c46
                    clear c46
                    obtain rfl := Option.some.inj H
                    obtain ⟨Ao47, co47, eo47⟩ := Kd.R_slice HO_9.out
                    subst eo47
                    go_wp2_with (first | ((with_reducible refine gate_callee (f := 43) rfl ?_); refine goesL_ (some 68) rfl rfl Try.func43 (by kernel_rfl) rfl #[.slice Ao47 t713.length co47, .int .i64 1] rfl (by (try simp only [List.map_toArray, List.map_cons, List.map_nil]); first | done | rfl | (simp only [List.length_drop, List.length_take]; rfl)) ?_; (with_reducible refine (laws_markDieS.calls kj28 (fun k_ => some k_ = (.slice Ao47 t713.length co47 : Value).ownBlock) (.slice Ao47 t713.length co47) t713 1 t725 t726 w _ ?side1 ?side2 A44.out).mono ?_); (case side1 => repeat (first | (with_reducible first | exact HB.out | apply below_alloc | apply pw_below_drewN | apply below_drew1) | exact HB.out)); (case side2 => exact Kd.R_tight rfl HO_9.out); rintro e w48 ⟨rfl, hy0, hb, hkp⟩; refine ⟨_, rfl, ?_⟩; have n0_ := Aside0.mk (Kd.R_mono (ok' := fun k_ => some k_ ≠ (.slice Ao47 t713.length co47 : Value).ownBlock) (Kd.R_keptB (HO_6.out) hkp (fun k_ hk_ hs_ => (hk_) hs_)) (fun k_ hk_ => hk_.1)); have n1_ := Aside0.mk (Kd.R_reok rfl hy0 (fun k_ e_ => HO_9.out.1 k_ e_)); have n2_ := Aside0.mk (hb); clear HO_6; clear HO_9; clear HB; have HO_6 := n0_; have HO_9 := n1_; have HB := n2_; clear n0_ n1_ n2_; (try clear hb); (try clear hkp); (try clear hy0)) | ((with_reducible refine gate_callee (f := 44) rfl ?_); refine goesL_ (some 71) rfl rfl Try.func44 (by kernel_rfl) rfl #[.slice Ao47 t726.length co47, .int .i64 1] rfl (by (try simp only [List.map_toArray, List.map_cons, List.map_nil]); first | done | (rw [show t726.length = t713.length from (Kd.R_reads' HO_9.out).1.symm] <;> rfl) | rfl | (simp only [List.length_drop, List.length_take]; rfl)) ?_; (with_reducible refine (laws_heldDieS.calls kj28 _ _ t726 1 t727 _ ?side1 ?side2 A45.out).mono ?_); (case side1 => repeat (first | exact (Kd.R_reads' HO_9.out).2.2 | (with_reducible refine Kd.C_alloc ?_ _) | (with_reducible refine Kd.C_drewN ?_ _) | (with_reducible refine Kd.C_drew ?_))); (case side2 => rw [show t726.length = t713.length from (Kd.R_reads' HO_9.out).1.symm]; exact (Kd.R_reads' HO_9.out).2.1); rintro e w' ⟨rfl, ⟨nd, rfl⟩⟩; refine ⟨_, rfl, ?_⟩))
                    go_ret
                    exact ⟨by first | rfl | (simp [errW_none, errW_some] <;> rfl) | (simp [*, errW_none, errW_some] <;> rfl), by repeat (first | (with_reducible first | exact HB.out | apply below_alloc | apply pw_below_drewN | apply below_drew1) | exact HB.out)⟩
                  · rw [if_neg c46] at H
                    have c46b0 : decide (t727 < 0) = false := decide_eq_false c46
                    clear c46
                    by_cases c49 : t727 = t725
                    · rw [if_pos c49] at H
                      have c49b0 : (t727 == t725) = true := beq_iff_eq.mpr c49
                      have c49b1 : (t727 != t725) = false := bne_eq_false_iff_eq.mpr c49
                      clear c49
                      replace H := Option.bind_eq_some_iff.mp H
                      obtain ⟨t728, A500, H⟩ := H
                      replace H : ((impl_TurnTower.f kj28 t728 a1).bind fun bt731 => ((laws_eqDieS.f kj28 bt731.1 t706).bind fun t735 => (if t735 = true then (laws_FnExactTurnTower.j2 kj28 t726 t725 (bt731.2 != t707)) else (laws_FnExactTurnTower.j2 kj28 t726 t725 true)))) = some r := H
                      have A50 := Aside0.mk A500
                      clear A500
                      replace H := Option.bind_eq_some_iff.mp H
                      obtain ⟨⟨t731, t732⟩, A510, H⟩ := H
                      replace H : ((laws_eqDieS.f kj28 t731 t706).bind fun t735 => (if t735 = true then (laws_FnExactTurnTower.j2 kj28 t726 t725 (t732 != t707)) else (laws_FnExactTurnTower.j2 kj28 t726 t725 true))) = some r := H
                      have A51 := Aside0.mk A510
                      clear A510
                      have HC52 := Aside0.mk H
                      clear H
                      obtain ⟨Ao53, co53, eo53⟩ := Kd.R_slice HO_9.out
                      subst eo53
                      go_upto_region 25 with (first | ((with_reducible refine gate_callee (f := 43) rfl ?_); refine goesL_ (some 68) rfl rfl Try.func43 (by kernel_rfl) rfl #[.slice Ao53 t713.length co53, .int .i64 1] rfl (by (try simp only [List.map_toArray, List.map_cons, List.map_nil]); first | done | rfl | (simp only [List.length_drop, List.length_take]; rfl)) ?_; (with_reducible refine (laws_markDieS.calls kj28 (fun k_ => some k_ = (.slice Ao53 t713.length co53 : Value).ownBlock) (.slice Ao53 t713.length co53) t713 1 t725 t726 w _ ?side1 ?side2 A44.out).mono ?_); (case side1 => repeat (first | (with_reducible first | exact HB.out | apply below_alloc | apply pw_below_drewN | apply below_drew1) | exact HB.out)); (case side2 => exact Kd.R_tight rfl HO_9.out); rintro e w54 ⟨rfl, hy0, hb, hkp⟩; refine ⟨_, rfl, ?_⟩; have n0_ := Aside0.mk (Kd.R_mono (ok' := fun k_ => some k_ ≠ (.slice Ao53 t713.length co53 : Value).ownBlock) (Kd.R_keptB (HO_6.out) hkp (fun k_ hk_ hs_ => (hk_) hs_)) (fun k_ hk_ => hk_.1)); have n1_ := Aside0.mk (Kd.R_reok rfl hy0 (fun k_ e_ => HO_9.out.1 k_ e_)); have n2_ := Aside0.mk (hb); clear HO_6; clear HO_9; clear HB; have HO_6 := n0_; have HO_9 := n1_; have HB := n2_; clear n0_ n1_ n2_; (try clear hb); (try clear hkp); (try clear hy0)) | ((with_reducible refine gate_callee (f := 44) rfl ?_); refine goesL_ (some 71) rfl rfl Try.func44 (by kernel_rfl) rfl #[.slice Ao53 t726.length co53, .int .i64 1] rfl (by (try simp only [List.map_toArray, List.map_cons, List.map_nil]); first | done | (rw [show t726.length = t713.length from (Kd.R_reads' HO_9.out).1.symm] <;> rfl) | rfl | (simp only [List.length_drop, List.length_take]; rfl)) ?_; (with_reducible refine (laws_heldDieS.calls kj28 _ _ t726 1 t727 _ ?side1 ?side2 A45.out).mono ?_); (case side1 => repeat (first | exact (Kd.R_reads' HO_9.out).2.2 | (with_reducible refine Kd.C_alloc ?_ _) | (with_reducible refine Kd.C_drewN ?_ _) | (with_reducible refine Kd.C_drew ?_))); (case side2 => rw [show t726.length = t713.length from (Kd.R_reads' HO_9.out).1.symm]; exact (Kd.R_reads' HO_9.out).2.1); rintro e w' ⟨rfl, ⟨nd, rfl⟩⟩; refine ⟨_, rfl, ?_⟩) | ((with_reducible refine gate_callee (f := 38) rfl ?_); refine goesL_ (some 79) rfl rfl Try.func38 (by kernel_rfl) rfl #[.slice A0 l0.length c0] rfl (by (try simp only [List.map_toArray, List.map_cons, List.map_nil]); first | done | rfl | (simp only [List.length_drop, List.length_take]; rfl)) ?_; (with_reducible refine (laws_toDieS.calls kj28 _ _ l0 t728 _ ?side1 ?side2 A50.out).mono ?_); (case side1 => repeat (first | exact (Kd.C_below HR0.out (by repeat (first | (with_reducible first | exact HB.out | apply below_alloc | apply pw_below_drewN | apply below_drew1) | exact HB.out))) | (with_reducible refine Kd.C_alloc ?_ _) | (with_reducible refine Kd.C_drewN ?_ _) | (with_reducible refine Kd.C_drew ?_))); (case side2 => exact HC0.out); rintro e w55 ⟨v729, rfl, ho0, hb⟩; refine ⟨_, rfl, ?_⟩; have n0_ := Aside0.mk (Kd.R_elder' (by (with_reducible repeat (first | apply Kd.R_alloc | apply Kd.R_drewN | apply Kd.R_drew)); exact HO_6.out) (Kd.R_base ho0) hb); have n1_ := Aside0.mk (Kd.R_elder' (by (with_reducible repeat (first | apply Kd.R_alloc | apply Kd.R_drewN | apply Kd.R_drew)); exact HO_9.out) (Kd.R_base ho0) hb); have n2_ := Aside0.mk (Kd.R_lower (Kd.R_new' (Kd.R_new' ho0 (Kd.R_lt (by (with_reducible repeat (first | apply Kd.R_alloc | apply Kd.R_drewN | apply Kd.R_drew)); exact HO_6.out))) (Kd.R_lt (by (with_reducible repeat (first | apply Kd.R_alloc | apply Kd.R_drewN | apply Kd.R_drew)); exact HO_9.out))) (below_size (by repeat (first | (with_reducible first | exact HB.out | apply below_alloc | apply pw_below_drewN | apply below_drew1) | exact HB.out)))); have n3_ := Aside0.mk (below_step (by repeat (first | (with_reducible first | exact HB.out | apply below_alloc | apply pw_below_drewN | apply below_drew1) | exact HB.out)) hb); clear HO_6; clear HO_9; clear HB; have HO_6 := n0_; have HO_9 := n1_; have HO730 := n2_; have HB := n3_; clear n0_ n1_ n2_ n3_; (try clear hb); (try clear hb2); (try clear hk); (try clear hi); (try clear ho0); obtain ⟨Ao56, co56, eo56⟩ := Kd.R_slice HO730.out; subst eo56) | ((with_reducible refine gate_callee (f := 42) rfl ?_); refine goesL_ (some 81) rfl rfl Try.func42 (by kernel_rfl) rfl #[.slice Ao56 t728.length co56, .int .i64 a1] rfl (by (try simp only [List.map_toArray, List.map_cons, List.map_nil]); first | done | rfl | (simp only [List.length_drop, List.length_take]; rfl)) ?_; (with_reducible refine (impl_TurnTower.calls kj28 _ _ t728 a1 t731 t732 _ ?side1 ?side2 A51.out).mono ?_); (case side1 => repeat (first | exact (Kd.R_reads' HO730.out).2.2 | (with_reducible refine Kd.C_alloc ?_ _) | (with_reducible refine Kd.C_drewN ?_ _) | (with_reducible refine Kd.C_drew ?_))); (case side2 => exact (Kd.R_reads' HO730.out).2.1); rintro e w57 ⟨v733, rfl, ho0, hb⟩; refine ⟨_, rfl, ?_⟩; have n0_ := Aside0.mk (Kd.R_elder' (by (with_reducible repeat (first | apply Kd.R_alloc | apply Kd.R_drewN | apply Kd.R_drew)); exact HO_6.out) (Kd.R_base ho0) hb); have n1_ := Aside0.mk (Kd.R_elder' (by (with_reducible repeat (first | apply Kd.R_alloc | apply Kd.R_drewN | apply Kd.R_drew)); exact HO_9.out) (Kd.R_base ho0) hb); have n2_ := Aside0.mk (Kd.R_elder' (by (with_reducible repeat (first | apply Kd.R_alloc | apply Kd.R_drewN | apply Kd.R_drew)); exact HO730.out) (Kd.R_base ho0) hb); have n3_ := Aside0.mk (Kd.R_lower (Kd.R_new' (Kd.R_new' (Kd.R_new' ho0 (Kd.R_lt (by (with_reducible repeat (first | apply Kd.R_alloc | apply Kd.R_drewN | apply Kd.R_drew)); exact HO_6.out))) (Kd.R_lt (by (with_reducible repeat (first | apply Kd.R_alloc | apply Kd.R_drewN | apply Kd.R_drew)); exact HO_9.out))) (Kd.R_lt (by (with_reducible repeat (first | apply Kd.R_alloc | apply Kd.R_drewN | apply Kd.R_drew)); exact HO730.out))) (below_size (by repeat (first | (with_reducible first | exact HB.out | apply below_alloc | apply pw_below_drewN | apply below_drew1) | exact HB.out)))); have n4_ := Aside0.mk (below_step (by repeat (first | (with_reducible first | exact HB.out | apply below_alloc | apply pw_below_drewN | apply below_drew1) | exact HB.out)) hb); clear HO_6; clear HO_9; clear HO730; clear HB; have HO_6 := n0_; have HO_9 := n1_; have HO730 := n2_; have HO734 := n3_; have HB := n4_; clear n0_ n1_ n2_ n3_ n4_; (try clear hb); (try clear hb2); (try clear hk); (try clear hi); (try clear ho0)))
                      (try simp only [Act.put, List.setIfInBounds_toArray, List.set_cons_zero, List.set_cons_succ])
                      go_cut [92] (fun v92 wc => ∃ (kq : Nat) (x92_51 : Bool), v92 = .bool x92_51 ∧ Aside0 (laws_FnExactTurnTower.j2 kq t726 t725 x92_51 = some r) ∧ Aside0 (kq ≤ kj28) ∧ Aside0 (Kd.R k40 40 wc w.heap.size (fun _ => True) (.slice Ao53 t713.length co53) t726) ∧ Aside0 (Below w.heap.size w wc))
                      case first =>
                        have H := HC52.out
                        clear HC52
                        replace H := Option.bind_eq_some_iff.mp H
                        obtain ⟨t735, A580, H⟩ := H
                        replace H : (if t735 = true then (laws_FnExactTurnTower.j2 kj28 t726 t725 (t732 != t707)) else (laws_FnExactTurnTower.j2 kj28 t726 t725 true)) = some r := H
                        have A58 := Aside0.mk A580
                        clear A580
                        by_cases c59 : t735 = true
                        · subst c59
                          have H1 : (laws_FnExactTurnTower.j2 kj28 t726 t725 (t732 != t707)) = some r := by rw [if_pos rfl] at H; exact H
                          clear H
                          have H := H1
                          clear H1
                          have H' := Aside0.mk H
                          clear H
                          obtain ⟨Ao60, co60, eo60⟩ := Kd.R_slice HO734.out
                          subst eo60
                          obtain ⟨Ao61, co61, eo61⟩ := Kd.R_slice HO_6.out
                          subst eo61
                          go_wp2_with (first | ((with_reducible refine gate_callee (f := 40) rfl ?_); refine goesL_ (some 86) rfl rfl Try.func40 (by kernel_rfl) rfl #[.slice Ao60 t731.length co60, .slice Ao61 t706.length co61] rfl (by (try simp only [List.map_toArray, List.map_cons, List.map_nil]); first | done | rfl | (simp only [List.length_drop, List.length_take]; rfl)) ?_; (with_reducible refine (laws_eqDieS.calls kj28 _ _ t731 _ _ t706 true _ ?side1 ?side2 ?side3 ?side4 A58.out).mono ?_); (case side1 => repeat (first | exact (Kd.R_reads' HO734.out).2.2 | (with_reducible refine Kd.C_alloc ?_ _) | (with_reducible refine Kd.C_drewN ?_ _) | (with_reducible refine Kd.C_drew ?_))); (case side2 => exact (Kd.R_reads' HO734.out).2.1); (case side3 => repeat (first | exact (Kd.R_reads' HO_6.out).2.2 | (with_reducible refine Kd.C_alloc ?_ _) | (with_reducible refine Kd.C_drewN ?_ _) | (with_reducible refine Kd.C_drew ?_))); (case side4 => exact (Kd.R_reads' HO_6.out).2.1); rintro e w62 ⟨rfl, hb⟩; refine ⟨_, rfl, ?_⟩; have n0_ := Aside0.mk (Kd.R_below (by (with_reducible repeat (first | apply Kd.R_alloc | apply Kd.R_drewN | apply Kd.R_drew)); exact HO_6.out) hb); have n1_ := Aside0.mk (Kd.R_below (by (with_reducible repeat (first | apply Kd.R_alloc | apply Kd.R_drewN | apply Kd.R_drew)); exact HO_9.out) hb); have n2_ := Aside0.mk (Kd.R_below (by (with_reducible repeat (first | apply Kd.R_alloc | apply Kd.R_drewN | apply Kd.R_drew)); exact HO730.out) hb); have n3_ := Aside0.mk (Kd.R_below (by (with_reducible repeat (first | apply Kd.R_alloc | apply Kd.R_drewN | apply Kd.R_drew)); exact HO734.out) hb); have n4_ := Aside0.mk (below_step (by repeat (first | (with_reducible first | exact HB.out | apply below_alloc | apply pw_below_drewN | apply below_drew1) | exact HB.out)) hb); clear HO_6; clear HO_9; clear HO730; clear HO734; clear HB; have HO_6 := n0_; have HO_9 := n1_; have HO730 := n2_; have HO734 := n3_; have HB := n4_; clear n0_ n1_ n2_ n3_ n4_; (try clear hb); (try clear hb2); (try clear hk); (try clear hi)))
                          go_meet
                          case rel => exact ⟨_, ((t732 != t707)), (by first | rfl | (simp; done) | (simp [*]; done)), H', ⟨by have := HJ8.out; have := HJ28.out; first | omega | exact Nat.le_refl _⟩, ⟨by (with_reducible repeat (first | apply Kd.R_alloc | apply Kd.R_drewN | apply Kd.R_drew)); exact Kd.R_mono HO_9.out (fun _ hk => trivial)⟩, ⟨by repeat (first | (with_reducible first | exact HB.out | apply below_alloc | apply pw_below_drewN | apply below_drew1) | exact HB.out)⟩⟩
                        · replace c59 := Bool.eq_false_iff.mpr c59
                          subst c59
                          have H1 : (laws_FnExactTurnTower.j2 kj28 t726 t725 true) = some r := by rw [if_neg (show ¬ (false = true) by decide)] at H; exact H
                          clear H
                          have H := H1
                          clear H1
                          have H' := Aside0.mk H
                          clear H
                          obtain ⟨Ao63, co63, eo63⟩ := Kd.R_slice HO734.out
                          subst eo63
                          obtain ⟨Ao64, co64, eo64⟩ := Kd.R_slice HO_6.out
                          subst eo64
                          go_wp2_with (first | ((with_reducible refine gate_callee (f := 40) rfl ?_); refine goesL_ (some 86) rfl rfl Try.func40 (by kernel_rfl) rfl #[.slice Ao63 t731.length co63, .slice Ao64 t706.length co64] rfl (by (try simp only [List.map_toArray, List.map_cons, List.map_nil]); first | done | rfl | (simp only [List.length_drop, List.length_take]; rfl)) ?_; (with_reducible refine (laws_eqDieS.calls kj28 _ _ t731 _ _ t706 false _ ?side1 ?side2 ?side3 ?side4 A58.out).mono ?_); (case side1 => repeat (first | exact (Kd.R_reads' HO734.out).2.2 | (with_reducible refine Kd.C_alloc ?_ _) | (with_reducible refine Kd.C_drewN ?_ _) | (with_reducible refine Kd.C_drew ?_))); (case side2 => exact (Kd.R_reads' HO734.out).2.1); (case side3 => repeat (first | exact (Kd.R_reads' HO_6.out).2.2 | (with_reducible refine Kd.C_alloc ?_ _) | (with_reducible refine Kd.C_drewN ?_ _) | (with_reducible refine Kd.C_drew ?_))); (case side4 => exact (Kd.R_reads' HO_6.out).2.1); rintro e w65 ⟨rfl, hb⟩; refine ⟨_, rfl, ?_⟩; have n0_ := Aside0.mk (Kd.R_below (by (with_reducible repeat (first | apply Kd.R_alloc | apply Kd.R_drewN | apply Kd.R_drew)); exact HO_6.out) hb); have n1_ := Aside0.mk (Kd.R_below (by (with_reducible repeat (first | apply Kd.R_alloc | apply Kd.R_drewN | apply Kd.R_drew)); exact HO_9.out) hb); have n2_ := Aside0.mk (Kd.R_below (by (with_reducible repeat (first | apply Kd.R_alloc | apply Kd.R_drewN | apply Kd.R_drew)); exact HO730.out) hb); have n3_ := Aside0.mk (Kd.R_below (by (with_reducible repeat (first | apply Kd.R_alloc | apply Kd.R_drewN | apply Kd.R_drew)); exact HO734.out) hb); have n4_ := Aside0.mk (below_step (by repeat (first | (with_reducible first | exact HB.out | apply below_alloc | apply pw_below_drewN | apply below_drew1) | exact HB.out)) hb); clear HO_6; clear HO_9; clear HO730; clear HO734; clear HB; have HO_6 := n0_; have HO_9 := n1_; have HO730 := n2_; have HO734 := n3_; have HB := n4_; clear n0_ n1_ n2_ n3_ n4_; (try clear hb); (try clear hb2); (try clear hk); (try clear hi)))
                          go_meet
                          case rel => exact ⟨_, (true), (by first | rfl | (simp; done) | (simp [*]; done)), H', ⟨by have := HJ8.out; have := HJ28.out; first | omega | exact Nat.le_refl _⟩, ⟨by (with_reducible repeat (first | apply Kd.R_alloc | apply Kd.R_drewN | apply Kd.R_drew)); exact Kd.R_mono HO_9.out (fun _ hk => trivial)⟩, ⟨by repeat (first | (with_reducible first | exact HB.out | apply below_alloc | apply pw_below_drewN | apply below_drew1) | exact HB.out)⟩⟩
                      case rest =>
                        clear HC52
                        try clear c1
                        try clear c2
                        try clear p2
                        try clear c3
                        try clear c4
                        try clear c4b0
                        try clear c5
                        try clear c11
                        try clear c17
                        try clear c24
                        try clear c27
                        try clear c34
                        try clear c34b0
                        try clear c36
                        try clear c38
                        try clear c40
                        try clear c41
                        try clear c42
                        try clear c43
                        try clear c44
                        try clear c46
                        try clear c46b0
                        try clear c49
                        try clear c49b0
                        try clear c49b1
                        try clear c59
                        try clear p2
                        obtain ⟨kq, x92_51, rfl, HA, HJ51, HO_9, HB⟩ := hcut
                        have hl9_51 := (Kd.R_reads' HO_9.out).1
                        rw [hl9_51] at HO_9
                        (try simp only [hl9_51])
                        cases kq with
                        | zero => exact absurd HA.out (by simp [laws_FnExactTurnTower.j2])
                        | succ kj51 =>
                          have H := HA.out
                          clear HA
                          simp only [laws_FnExactTurnTower.j2] at H
                          by_cases c66 : x92_51 = true
                          · subst c66
                            have H1 : (some false) = some r := by rw [if_pos rfl] at H; exact H
                            clear H
                            have H := H1
                            clear H1
                            obtain rfl := Option.some.inj H
                            go_wp2
                            go_ret
                            exact ⟨by first | rfl | (simp [errW_none, errW_some] <;> rfl) | (simp [*, errW_none, errW_some] <;> rfl), by repeat (first | (with_reducible first | exact HB.out | apply below_alloc | apply pw_below_drewN | apply below_drew1) | exact HB.out)⟩
                          · replace c66 := Bool.eq_false_iff.mpr c66
                            subst c66
                            have H1 : ((laws_heldDieS.f kj51 t726 1).bind fun t736 => (if t736 < 0 then (some false) else (if t736 = t725 then (some true) else (some false)))) = some r := by rw [if_neg (show ¬ (false = true) by decide)] at H; exact H
                            clear H
                            have H := H1
                            clear H1
                            replace H := Option.bind_eq_some_iff.mp H
                            obtain ⟨t736, A670, H⟩ := H
                            replace H : (if t736 < 0 then (some false) else (if t736 = t725 then (some true) else (some false))) = some r := H
                            have A67 := Aside0.mk A670
                            clear A670
                            by_cases c68 : t736 < 0
                            · rw [if_pos c68] at H
                              have c68b0 : decide (t736 < 0) = true := decide_eq_true c68
                              clear c68
                              obtain rfl := Option.some.inj H
                              go_wp2_with (first | ((with_reducible refine gate_callee (f := 44) rfl ?_); refine goesL_ (some 95) rfl rfl Try.func44 (by kernel_rfl) rfl #[.slice Ao53 t726.length co53, .int .i64 1] rfl (by (try simp only [List.map_toArray, List.map_cons, List.map_nil]); first | done | rfl | (simp only [List.length_drop, List.length_take]; rfl)) ?_; (with_reducible refine (laws_heldDieS.calls kj51 _ _ t726 1 t736 _ ?side1 ?side2 A67.out).mono ?_); (case side1 => repeat (first | exact (Kd.R_reads' HO_9.out).2.2 | (with_reducible refine Kd.C_alloc ?_ _) | (with_reducible refine Kd.C_drewN ?_ _) | (with_reducible refine Kd.C_drew ?_))); (case side2 => exact (Kd.R_reads' HO_9.out).2.1); rintro e w' ⟨rfl, ⟨nd, rfl⟩⟩; refine ⟨_, rfl, ?_⟩))
                              go_ret
                              exact ⟨by first | rfl | (simp [errW_none, errW_some] <;> rfl) | (simp [*, errW_none, errW_some] <;> rfl), by repeat (first | (with_reducible first | exact HB.out | apply below_alloc | apply pw_below_drewN | apply below_drew1) | exact HB.out)⟩
                            · rw [if_neg c68] at H
                              have c68b0 : decide (t736 < 0) = false := decide_eq_false c68
                              clear c68
                              by_cases c69 : t736 = t725
                              · rw [if_pos c69] at H
                                have c69b0 : (t736 == t725) = true := beq_iff_eq.mpr c69
                                have c69b1 : (t736 != t725) = false := bne_eq_false_iff_eq.mpr c69
                                clear c69
                                obtain rfl := Option.some.inj H
                                go_wp2_with (first | ((with_reducible refine gate_callee (f := 44) rfl ?_); refine goesL_ (some 95) rfl rfl Try.func44 (by kernel_rfl) rfl #[.slice Ao53 t726.length co53, .int .i64 1] rfl (by (try simp only [List.map_toArray, List.map_cons, List.map_nil]); first | done | rfl | (simp only [List.length_drop, List.length_take]; rfl)) ?_; (with_reducible refine (laws_heldDieS.calls kj51 _ _ t726 1 t736 _ ?side1 ?side2 A67.out).mono ?_); (case side1 => repeat (first | exact (Kd.R_reads' HO_9.out).2.2 | (with_reducible refine Kd.C_alloc ?_ _) | (with_reducible refine Kd.C_drewN ?_ _) | (with_reducible refine Kd.C_drew ?_))); (case side2 => exact (Kd.R_reads' HO_9.out).2.1); rintro e w' ⟨rfl, ⟨nd, rfl⟩⟩; refine ⟨_, rfl, ?_⟩))
                                go_ret
                                exact ⟨by first | rfl | (simp [errW_none, errW_some] <;> rfl) | (simp [*, errW_none, errW_some] <;> rfl), by repeat (first | (with_reducible first | exact HB.out | apply below_alloc | apply pw_below_drewN | apply below_drew1) | exact HB.out)⟩
                              · rw [if_neg c69] at H
                                have c69b0 : (t736 == t725) = false := beq_eq_false_iff_ne.mpr c69
                                have c69b1 : (t736 != t725) = true := bne_iff_ne.mpr c69
                                obtain rfl := Option.some.inj H
                                go_wp2_with (first | ((with_reducible refine gate_callee (f := 44) rfl ?_); refine goesL_ (some 95) rfl rfl Try.func44 (by kernel_rfl) rfl #[.slice Ao53 t726.length co53, .int .i64 1] rfl (by (try simp only [List.map_toArray, List.map_cons, List.map_nil]); first | done | rfl | (simp only [List.length_drop, List.length_take]; rfl)) ?_; (with_reducible refine (laws_heldDieS.calls kj51 _ _ t726 1 t736 _ ?side1 ?side2 A67.out).mono ?_); (case side1 => repeat (first | exact (Kd.R_reads' HO_9.out).2.2 | (with_reducible refine Kd.C_alloc ?_ _) | (with_reducible refine Kd.C_drewN ?_ _) | (with_reducible refine Kd.C_drew ?_))); (case side2 => exact (Kd.R_reads' HO_9.out).2.1); rintro e w' ⟨rfl, ⟨nd, rfl⟩⟩; refine ⟨_, rfl, ?_⟩))
                                go_ret
                                exact ⟨by first | rfl | (simp [errW_none, errW_some] <;> rfl) | (simp [*, errW_none, errW_some] <;> rfl), by repeat (first | (with_reducible first | exact HB.out | apply below_alloc | apply pw_below_drewN | apply below_drew1) | exact HB.out)⟩
                    · rw [if_neg c49] at H
                      have c49b0 : (t727 == t725) = false := beq_eq_false_iff_ne.mpr c49
                      have c49b1 : (t727 != t725) = true := bne_iff_ne.mpr c49
                      obtain rfl := Option.some.inj H
                      obtain ⟨Ao70, co70, eo70⟩ := Kd.R_slice HO_9.out
                      subst eo70
                      go_wp2_with (first | ((with_reducible refine gate_callee (f := 43) rfl ?_); refine goesL_ (some 68) rfl rfl Try.func43 (by kernel_rfl) rfl #[.slice Ao70 t713.length co70, .int .i64 1] rfl (by (try simp only [List.map_toArray, List.map_cons, List.map_nil]); first | done | rfl | (simp only [List.length_drop, List.length_take]; rfl)) ?_; (with_reducible refine (laws_markDieS.calls kj28 (fun k_ => some k_ = (.slice Ao70 t713.length co70 : Value).ownBlock) (.slice Ao70 t713.length co70) t713 1 t725 t726 w _ ?side1 ?side2 A44.out).mono ?_); (case side1 => repeat (first | (with_reducible first | exact HB.out | apply below_alloc | apply pw_below_drewN | apply below_drew1) | exact HB.out)); (case side2 => exact Kd.R_tight rfl HO_9.out); rintro e w71 ⟨rfl, hy0, hb, hkp⟩; refine ⟨_, rfl, ?_⟩; have n0_ := Aside0.mk (Kd.R_mono (ok' := fun k_ => some k_ ≠ (.slice Ao70 t713.length co70 : Value).ownBlock) (Kd.R_keptB (HO_6.out) hkp (fun k_ hk_ hs_ => (hk_) hs_)) (fun k_ hk_ => hk_.1)); have n1_ := Aside0.mk (Kd.R_reok rfl hy0 (fun k_ e_ => HO_9.out.1 k_ e_)); have n2_ := Aside0.mk (hb); clear HO_6; clear HO_9; clear HB; have HO_6 := n0_; have HO_9 := n1_; have HB := n2_; clear n0_ n1_ n2_; (try clear hb); (try clear hkp); (try clear hy0)) | ((with_reducible refine gate_callee (f := 44) rfl ?_); refine goesL_ (some 71) rfl rfl Try.func44 (by kernel_rfl) rfl #[.slice Ao70 t726.length co70, .int .i64 1] rfl (by (try simp only [List.map_toArray, List.map_cons, List.map_nil]); first | done | (rw [show t726.length = t713.length from (Kd.R_reads' HO_9.out).1.symm] <;> rfl) | rfl | (simp only [List.length_drop, List.length_take]; rfl)) ?_; (with_reducible refine (laws_heldDieS.calls kj28 _ _ t726 1 t727 _ ?side1 ?side2 A45.out).mono ?_); (case side1 => repeat (first | exact (Kd.R_reads' HO_9.out).2.2 | (with_reducible refine Kd.C_alloc ?_ _) | (with_reducible refine Kd.C_drewN ?_ _) | (with_reducible refine Kd.C_drew ?_))); (case side2 => rw [show t726.length = t713.length from (Kd.R_reads' HO_9.out).1.symm]; exact (Kd.R_reads' HO_9.out).2.1); rintro e w' ⟨rfl, ⟨nd, rfl⟩⟩; refine ⟨_, rfl, ?_⟩))
                      go_ret
                      exact ⟨by first | rfl | (simp [errW_none, errW_some] <;> rfl) | (simp [*, errW_none, errW_some] <;> rfl), by repeat (first | (with_reducible first | exact HB.out | apply below_alloc | apply pw_below_drewN | apply below_drew1) | exact HB.out)⟩
          · replace c27 := Bool.eq_false_iff.mpr c27
            subst c27
            have H1 : (some false) = some r := by rw [if_neg (show ¬ (false = true) by decide)] at H; exact H
            clear H
            have H := H1
            clear H1
            obtain rfl := Option.some.inj H
            go_wp2_with (first | ((with_reducible refine gate_callee (f := 38) rfl ?_); refine goesL_ (some 47) rfl rfl Try.func38 (by kernel_rfl) rfl #[.slice A0 l0.length c0] rfl (by (try simp only [List.map_toArray, List.map_cons, List.map_nil]); first | done | rfl | (simp only [List.length_drop, List.length_take]; rfl)) ?_; (with_reducible refine (laws_toDieS.calls kj8 _ _ l0 t718 _ ?side1 ?side2 A25.out).mono ?_); (case side1 => repeat (first | exact (Kd.C_below HR0.out HB.out) | (with_reducible refine Kd.C_alloc ?_ _) | (with_reducible refine Kd.C_drewN ?_ _) | (with_reducible refine Kd.C_drew ?_))); (case side2 => exact HC0.out); rintro e w72 ⟨v719, rfl, ho0, hb⟩; refine ⟨_, rfl, ?_⟩; have n0_ := Aside0.mk (Kd.R_elder' (by (with_reducible repeat (first | apply Kd.R_alloc | apply Kd.R_drewN | apply Kd.R_drew)); exact HO_6.out) (Kd.R_base ho0) hb); have n1_ := Aside0.mk (Kd.R_elder' (by (with_reducible repeat (first | apply Kd.R_alloc | apply Kd.R_drewN | apply Kd.R_drew)); exact HO_8.out) (Kd.R_base ho0) hb); have n2_ := Aside0.mk (Kd.R_elder' (by (with_reducible repeat (first | apply Kd.R_alloc | apply Kd.R_drewN | apply Kd.R_drew)); exact HO_9.out) (Kd.R_base ho0) hb); have n3_ := Aside0.mk (Kd.R_lower (Kd.R_new' (Kd.R_new' (Kd.R_new' ho0 (Kd.R_lt (by (with_reducible repeat (first | apply Kd.R_alloc | apply Kd.R_drewN | apply Kd.R_drew)); exact HO_6.out))) (Kd.R_lt (by (with_reducible repeat (first | apply Kd.R_alloc | apply Kd.R_drewN | apply Kd.R_drew)); exact HO_8.out))) (Kd.R_lt (by (with_reducible repeat (first | apply Kd.R_alloc | apply Kd.R_drewN | apply Kd.R_drew)); exact HO_9.out))) (below_size (by repeat (first | (with_reducible first | exact HB.out | apply below_alloc | apply pw_below_drewN | apply below_drew1) | exact HB.out)))); have n4_ := Aside0.mk (below_step (by repeat (first | (with_reducible first | exact HB.out | apply below_alloc | apply pw_below_drewN | apply below_drew1) | exact HB.out)) hb); clear HO_6; clear HO_8; clear HO_9; clear HB; have HO_6 := n0_; have HO_8 := n1_; have HO_9 := n2_; have HO720 := n3_; have HB := n4_; clear n0_ n1_ n2_ n3_ n4_; (try clear hb); (try clear hb2); (try clear hk); (try clear hi); (try clear ho0); obtain ⟨Ao73, co73, eo73⟩ := Kd.R_slice HO720.out; subst eo73) | ((with_reducible refine gate_callee (f := 40) rfl ?_); refine goesL_ (some 48) rfl rfl Try.func40 (by kernel_rfl) rfl #[.slice Ao14 t710.length co14, .slice Ao73 t718.length co73] rfl (by (try simp only [List.map_toArray, List.map_cons, List.map_nil]); first | done | rfl | (simp only [List.length_drop, List.length_take]; rfl)) ?_; (with_reducible refine (laws_eqDieS.calls kj8 _ _ t710 _ _ t718 false _ ?side1 ?side2 ?side3 ?side4 A26.out).mono ?_); (case side1 => repeat (first | exact (Kd.R_reads' HO_8.out).2.2 | (with_reducible refine Kd.C_alloc ?_ _) | (with_reducible refine Kd.C_drewN ?_ _) | (with_reducible refine Kd.C_drew ?_))); (case side2 => exact (Kd.R_reads' HO_8.out).2.1); (case side3 => repeat (first | exact (Kd.R_reads' HO720.out).2.2 | (with_reducible refine Kd.C_alloc ?_ _) | (with_reducible refine Kd.C_drewN ?_ _) | (with_reducible refine Kd.C_drew ?_))); (case side4 => exact (Kd.R_reads' HO720.out).2.1); rintro e w74 ⟨rfl, hb⟩; refine ⟨_, rfl, ?_⟩; have n0_ := Aside0.mk (Kd.R_below (by (with_reducible repeat (first | apply Kd.R_alloc | apply Kd.R_drewN | apply Kd.R_drew)); exact HO_6.out) hb); have n1_ := Aside0.mk (Kd.R_below (by (with_reducible repeat (first | apply Kd.R_alloc | apply Kd.R_drewN | apply Kd.R_drew)); exact HO_8.out) hb); have n2_ := Aside0.mk (Kd.R_below (by (with_reducible repeat (first | apply Kd.R_alloc | apply Kd.R_drewN | apply Kd.R_drew)); exact HO_9.out) hb); have n3_ := Aside0.mk (Kd.R_below (by (with_reducible repeat (first | apply Kd.R_alloc | apply Kd.R_drewN | apply Kd.R_drew)); exact HO720.out) hb); have n4_ := Aside0.mk (below_step (by repeat (first | (with_reducible first | exact HB.out | apply below_alloc | apply pw_below_drewN | apply below_drew1) | exact HB.out)) hb); clear HO_6; clear HO_8; clear HO_9; clear HO720; clear HB; have HO_6 := n0_; have HO_8 := n1_; have HO_9 := n2_; have HO720 := n3_; have HB := n4_; clear n0_ n1_ n2_ n3_ n4_; (try clear hb); (try clear hb2); (try clear hk); (try clear hi)))
            go_ret
            exact ⟨by first | rfl | (simp [errW_none, errW_some] <;> rfl) | (simp [*, errW_none, errW_some] <;> rfl), by repeat (first | (with_reducible first | exact HB.out | apply below_alloc | apply pw_below_drewN | apply below_drew1) | exact HB.out)⟩

def laws_FnExactTurnTower.Pure : Prop := ∀ (l0 : List (S38)) (a1 : Int), l0.length * 48 ≤ 140737488351232 → (Lit.int .i64 a1).wf = true → ∃ k, laws_FnExactTurnTower.f k l0 a1 = some true

end Go.Proofs.Ythnheffndhbebaa.P

namespace Go.Proofs.Ythnheffndhbebaa
open Go.ChangeShapes Go.WideShapes Go.Deep Go.RowKit Go.Proofs.YthnheffndhbebaaW.PrintWords
set_option linter.unusedVariables false
set_option linter.unusedSimpArgs false

theorem list_of_1 : ∀ zs : List Int, zs.length = 1 → ∃ x0 : Int, zs = [x0]
  | [x0], _ => ⟨x0, rfl⟩
theorem list_of_2 : ∀ zs : List Int, zs.length = 2 → ∃ x0 x1 : Int, zs = [x0, x1]
  | [x0, x1], _ => ⟨x0, x1, rfl⟩
theorem list_of_3 : ∀ zs : List Int, zs.length = 3 → ∃ x0 x1 x2 : Int, zs = [x0, x1, x2]
  | [x0, x1, x2], _ => ⟨x0, x1, x2, rfl⟩
theorem list_of_4 : ∀ zs : List Int, zs.length = 4 → ∃ x0 x1 x2 x3 : Int, zs = [x0, x1, x2, x3]
  | [x0, x1, x2, x3], _ => ⟨x0, x1, x2, x3, rfl⟩
theorem list_of_5 : ∀ zs : List Int, zs.length = 5 → ∃ x0 x1 x2 x3 x4 : Int, zs = [x0, x1, x2, x3, x4]
  | [x0, x1, x2, x3, x4], _ => ⟨x0, x1, x2, x3, x4, rfl⟩
theorem list_of_6 : ∀ zs : List Int, zs.length = 6 → ∃ x0 x1 x2 x3 x4 x5 : Int, zs = [x0, x1, x2, x3, x4, x5]
  | [x0, x1, x2, x3, x4, x5], _ => ⟨x0, x1, x2, x3, x4, x5, rfl⟩
theorem list_of_7 : ∀ zs : List Int, zs.length = 7 → ∃ x0 x1 x2 x3 x4 x5 x6 : Int, zs = [x0, x1, x2, x3, x4, x5, x6]
  | [x0, x1, x2, x3, x4, x5, x6], _ => ⟨x0, x1, x2, x3, x4, x5, x6, rfl⟩
theorem list_of_8 : ∀ zs : List Int, zs.length = 8 → ∃ x0 x1 x2 x3 x4 x5 x6 x7 : Int, zs = [x0, x1, x2, x3, x4, x5, x6, x7]
  | [x0, x1, x2, x3, x4, x5, x6, x7], _ => ⟨x0, x1, x2, x3, x4, x5, x6, x7, rfl⟩
theorem list_of_9 : ∀ zs : List Int, zs.length = 9 → ∃ x0 x1 x2 x3 x4 x5 x6 x7 x8 : Int, zs = [x0, x1, x2, x3, x4, x5, x6, x7, x8]
  | [x0, x1, x2, x3, x4, x5, x6, x7, x8], _ => ⟨x0, x1, x2, x3, x4, x5, x6, x7, x8, rfl⟩
/-- The fields lie one behind the other, from cell o on, up to cell n. -/
def laidB (P : Program) : List Field → Nat → Nat → Bool
  | [], o, n => decide (o = n)
  | f :: fs, o, n => decide (f.offset = o) && laidB P fs (o + P.cellsOf f.type) n
/-- All cells of a value of this type are int. -/
def flatB (P : Program) : Nat → TypeId → Bool
  | 0, _ => false
  | m + 1, t => match P.underlying t with
    | some (.int .i64) => decide (P.cellsOf t = 1)
    | some (.struct fs) => laidB P fs.toList 0 (P.cellsOf t) && fs.toList.all fun f => flatB P m f.type
    | _ => false

section
variable {H : Type} {enc : TypeId × Value → H} {P : Program} {w : World} {base : Nat} {spare : Nat → Bool} {held : Bool}
theorem fields_flat {n : Nat} (cs : List Value) (rd : TypeId → List Value → Option (DataW H × List MemPlace)) :
    ∀ (fs : List Field) (o : Nat) (xs : List (DataW H × List MemPlace)), laidB P fs o n = true → xs.length = fs.length →
      (∀ (i : Nat) (f : Field), fs[i]? = some f → rd f.type ((cs.drop f.offset).take (P.cellsOf f.type)) = xs[i]?) →
      (∀ f ∈ fs, ∀ cs' x, rd f.type cs' = some x → cs'.length = P.cellsOf f.type ∧ ∃ zs : List Int, cs' = zs.map (Value.int .i64) ∧ ∀ z ∈ zs, (Lit.int .i64 z).wf = true) →
      o ≤ n ∧ ∃ zs : List Int, (cs.drop o).take (n - o) = zs.map (Value.int .i64) ∧ ∀ z ∈ zs, (Lit.int .i64 z).wf = true
  | [], o, xs, hl, hx, hr, hi => by
    have : o = n := by simpa [laidB] using hl
    subst this
    exact ⟨Nat.le_refl _, [], by simp, by simp⟩
  | f :: fs, o, xs, hl, hx, hr, hi => by
    simp only [laidB, Bool.and_eq_true, decide_eq_true_eq] at hl
    obtain ⟨ho, hl⟩ := hl
    match xs, hx with
    | x :: xs, hx =>
      have h0 := hr 0 f rfl
      rw [ho] at h0
      obtain ⟨hlen, zs, hz, hw⟩ := hi f (by simp) _ x h0
      obtain ⟨hle, ws, hw2, hw3⟩ := fields_flat cs rd fs (o + P.cellsOf f.type) xs hl (by simpa using hx) (fun i g hg => by have := hr (i + 1) g (by simpa using hg); simpa using this) (fun g hg => hi g (by simp [hg]))
      refine ⟨by omega, zs ++ ws, ?_, fun z hz' => ?_⟩
      · rw [List.map_append, ← hz, ← hw2, ← List.drop_drop, show n - o = P.cellsOf f.type + (n - (o + P.cellsOf f.type)) by omega, List.take_add]
      · rcases List.mem_append.1 hz' with h | h
        · exact hw z h
        · exact hw3 z h

theorem trod_flat (m : Nat) : ∀ {t : TypeId} {fuel : Nat} {cs : List Value} {x : DataW H × List MemPlace}, flatB P m t = true → DataW.trod enc P w base spare held fuel t cs = some x → (∃ k, P.underlying t = some (.int k)) → cs.length = 1 ∧ ∃ zs : List Int, cs = zs.map (Value.int .i64) ∧ ∀ z ∈ zs, (Lit.int .i64 z).wf = true := by
  intro t fuel cs x hf h ⟨k, hk⟩
  cases m with
  | zero => simp [flatB] at hf
  | succ m =>
    unfold flatB at hf
    rw [hk] at hf
    have : k = .i64 := by
      cases k <;> first | rfl | (simp at hf)
    subst this
    obtain ⟨n, rfl, _, hw⟩ := DataW.trod_int hk h
    exact ⟨rfl, [n], rfl, by simpa using hw⟩

theorem trod_flat_all (m : Nat) : ∀ {t : TypeId} {fuel : Nat} {cs : List Value} {x : DataW H × List MemPlace}, flatB P m t = true → DataW.trod enc P w base spare held fuel t cs = some x →
    cs.length = P.cellsOf t ∧ ∃ zs : List Int, cs = zs.map (Value.int .i64) ∧ ∀ z ∈ zs, (Lit.int .i64 z).wf = true := by
  induction m with
  | zero => intro t fuel cs x hf h; simp [flatB] at hf
  | succ m ih =>
    intro t fuel cs x hf h
    have hf0 := hf
    unfold flatB at hf
    split at hf
    · rename_i hu
      obtain ⟨hl, hz⟩ := trod_flat (m + 1) hf0 h ⟨_, hu⟩
      exact ⟨by rw [hl, of_decide_eq_true hf], hz⟩
    · rename_i fs hu
      rw [Bool.and_eq_true, List.all_eq_true] at hf
      obtain ⟨hl, ha⟩ := hf
      obtain ⟨xs, n, _, _, hlen, hxl, hg⟩ := DataW.trod_struct hu h
      obtain ⟨_, zs, hz, hw⟩ := fields_flat (n := P.cellsOf t) cs (fun t cs => DataW.trod enc P w base spare held n t cs) fs.toList 0 xs hl (by simpa using hxl)
        (fun i f hf => hg i f (by simpa using hf)) (fun f hf cs' x hx => ih (ha f hf) hx)
      refine ⟨hlen, zs, ?_, hw⟩
      rw [← hz, List.drop_zero, Nat.sub_zero, ← hlen, List.take_length]
    · cases hf

/-- A struct of whole numbers, by value. -/
theorem open_flat {r : Reach} {b0 m : Nat} {t : TypeId} {fs : Array Field} {v : Value} {d : DataW H} {p : List MemPlace} (hu : P.underlying t = some (.struct fs)) (hf : flatB P m t = true)
    (hv : Value.okWide P w r b0 t v) (h : DataW.Trod enc P w base spare held t v d p) : ∃ zs : List Int, v = .agg (zs.map (Value.int .i64)).toArray ∧ zs.length = P.cellsOf t ∧ ∀ z ∈ zs, (Lit.int .i64 z).wf = true := by
  obtain ⟨cs, rfl, hsz⟩ := okWide_struct hu hv
  obtain ⟨fuel, hf'⟩ := h
  obtain ⟨hl, zs, hz, hw⟩ := trod_flat_all m hf hf'
  simp only [Value.cells] at hz hl
  refine ⟨zs, ?_, by rw [← hl, hz, List.length_map], hw⟩
  rw [← hz]

/-- A slice of such structs. -/
theorem open_flats {r : Reach} {b0 m : Nat} {t e : TypeId} {a : Option Addr} {len cap : Nat} {d : DataW H} {p : List MemPlace} (hu : P.underlying t = some (.slice e)) (hf : flatB P m e = true)
    (h : DataW.Trod enc P w base spare held t (.slice a len cap) d p) : len ≤ cap ∧ cap ≤ maxLen ∧ ∃ L : List (List Int), L.length = len ∧ (∀ zs ∈ L, zs.length = P.cellsOf e) ∧
      (0 < len → ∃ ad, a = some ad ∧ ∀ (j : Nat) (zs : List Int), L[j]? = some zs → ∀ (i : Nat) (u : Value), (zs.map (Value.int .i64))[i]? = some u → w.cell? (ad.add (j * P.cellsOf e + i)) = some u) := by
  obtain ⟨fuel, h⟩ := h
  rcases DataW.trod_slice hu h with ⟨hcs, _⟩ | ⟨x, l, c, elems, rest, n, _, hcs, _, _, hl, hm, hlen, hel, _, _⟩
  · simp [Value.cells] at hcs
    obtain ⟨rfl, rfl, rfl⟩ := hcs
    exact ⟨Nat.le_refl _, by simp [maxLen], [], rfl, by simp, fun h => absurd h (by omega)⟩
  · simp [Value.cells] at hcs
    obtain ⟨rfl, rfl, rfl⟩ := hcs
    refine ⟨hl, hm, ?_⟩
    have each : ∀ i, i < len → ∃ zs : List Int, zs.length = P.cellsOf e ∧ ∀ (j : Nat) (u : Value), (zs.map (Value.int .i64))[j]? = some u → w.cell? (x.add (i * P.cellsOf e + j)) = some u := by
      intro i hi
      have h1 := hel i hi
      have h2 : elems[i]? = some (elems[i]'(by omega)) := List.getElem?_eq_getElem (by omega)
      rw [h2, Option.bind_eq_some_iff] at h1
      obtain ⟨cs', hcs', ht⟩ := h1
      obtain ⟨_, hcl, hat⟩ := World.cells?_some hcs'
      obtain ⟨hl', zs, hz, _⟩ := trod_flat_all m hf ht
      have hzl : zs.length = P.cellsOf e := by
        have := congrArg List.length hz
        rw [List.length_map] at this
        omega
      refine ⟨zs, hzl, fun j u hu => ?_⟩
      have hj : j < P.cellsOf e := by
        have := (List.getElem?_eq_some_iff.1 hu).1
        rw [List.length_map] at this
        omega
      rw [← Go.Deep.add_add, hat j hj, hz, hu]
    have mk : ∀ n, n ≤ len → ∃ L : List (List Int), L.length = n ∧ (∀ zs ∈ L, zs.length = P.cellsOf e) ∧ ∀ (j : Nat) (zs : List Int), L[j]? = some zs → ∀ (i : Nat) (u : Value), (zs.map (Value.int .i64))[i]? = some u → w.cell? (x.add (j * P.cellsOf e + i)) = some u := by
      intro n
      induction n with
      | zero => exact fun _ => ⟨[], rfl, by simp, fun j zs h => by simp at h⟩
      | succ n ih =>
        intro hn
        obtain ⟨L, h1, h2, h3⟩ := ih (by omega)
        obtain ⟨zs, hz1, hz2⟩ := each n (by omega)
        refine ⟨L ++ [zs], by simp [h1], fun y hy => ?_, fun j y hj => ?_⟩
        · rcases List.mem_append.1 hy with h | h
          · exact h2 y h
          · rw [List.mem_singleton.1 h]; exact hz1
        · rcases Nat.lt_or_ge j L.length with h | h
          · rw [List.getElem?_append_left h] at hj
            exact h3 j y hj
          · have : j = L.length := by
              have := (List.getElem?_eq_some_iff.1 hj).1
              simp at this
              omega
            subst this
            have : zs = y := by simpa using hj
            subst this
            rw [h1]
            exact hz2
    obtain ⟨L, h1, h2, h3⟩ := mk len (Nat.le_refl _)
    exact ⟨L, h1, h2, fun _ => ⟨x, rfl, h3⟩⟩
end
theorem sized_flats {H : Type} {enc : TypeId × Value → H} {P : Program} {W : World} {base : Nat} {spare : Nat → Bool} {held : Bool} {t e : TypeId} {a : Option Addr} {len cap : Nat} {d : DataW H} {ps : List MemPlace} {ts : List TypeId} {ds : List (DataW H)} {j : Nat}
    (hsz : (DataW.weightsEach P ts ds).all (· ≤ reachBytes) = true) (ht : ts[j]? = some t) (hd : ds[j]? = some d) (hu : P.underlying t = some (.slice e)) {B : Nat} (hB : P.bytesOf e = B)
    (h : DataW.Trod enc P W base spare held t (.slice a len cap) d ps) : len * B ≤ 140737488351232 := by
  obtain ⟨fuel, h⟩ := h
  rcases DataW.trod_slice hu h with ⟨hcs, _⟩ | ⟨x, l, c, elems, rest, n, _, hcs, hx, _, hl, hm, hlen, hel, _, _⟩
  · simp [Value.cells] at hcs
    obtain ⟨rfl, rfl, rfl⟩ := hcs
    simp
  · simp [Value.cells] at hcs
    obtain ⟨rfl, rfl, rfl⟩ := hcs
    obtain ⟨rfl, _⟩ := Prod.mk.inj hx
    have z := sized_slice hsz ht hd hu
    rw [hB] at z
    refine Nat.le_trans (Nat.mul_le_mul_right _ ?_) z
    rw [List.length_map, hlen]
    exact Nat.le_add_right _ _
end Go.Proofs.Ythnheffndhbebaa

namespace Go.Proofs.Ythnheffndhbebaa
open Go.RowKit Go.Proofs.YthnheffndhbebaaW.PrintWords Go.Proofs.YthnheffndhbebaaW.PrintLast
set_option linter.unusedVariables false
set_option linter.unusedSimpArgs false

theorem Ev.at_ {α : Type} {g : Nat → Option α} {r : α} (n : Nat) (h : ∀ k, g (k + n) = some r) : Ev g r := ⟨n, fun k hk => by
  obtain ⟨m, rfl⟩ : ∃ m, k = m + n := ⟨k - n, by omega⟩
  exact h m⟩
theorem Ev.pos {α : Type} {c : Prop} [Decidable c] {g f : Nat → Option α} {r : α} (hc : c) (h : Ev g r) : Ev (fun k => if c then g k else f k) r := h.congr fun k => if_pos hc
theorem Ev.neg {α : Type} {c : Prop} [Decidable c] {g f : Nat → Option α} {r : α} (hc : ¬ c) (h : Ev f r) : Ev (fun k => if c then g k else f k) r := h.congr fun k => if_neg hc
theorem Ev.some_ {α : Type} {a r : α} (h : a = r) : Ev (fun _ => some a) r := ⟨0, fun _ _ => by rw [h]⟩
theorem Ev.bindc {α β : Type} {o : Option α} {f : Nat → α → Option β} {a : α} {r : β} (h : o = some a) (k : Ev (fun n => f n a) r) : Ev (fun n => o.bind (f n)) r := k.congr fun n => by rw [h]; rfl
theorem w64 {i : Int} (h0 : -9223372036854775808 ≤ i) (h1 : i ≤ 9223372036854775807) : wrap64 i = i := by unfold wrap64; omega

end Go.Proofs.Ythnheffndhbebaa

namespace Go.Proofs.Ythnheffndhbebaa
open Go.RowKit Go.Proofs.Ythnheffndhbebaa.P Go.Proofs.YthnheffndhbebaaW.PrintWords Go.Proofs.YthnheffndhbebaaW.PrintLast
set_option linter.unusedVariables false
set_option linter.unusedSimpArgs false

def inFace (n : Int) : Bool := decide (0 ≤ n) && decide (n ≤ 9)
def dieB (a b c d e f : Int) : Bool := [a, b, c, d, e, f].all inFace
theorem rdn (l : List Int) (i : Nat) (h : i < l.length) : rd l (i : Int) = l[i] := by
  unfold rd
  rw [Int.toNat_natCast, List.getD_eq_getElem?_getD, List.getElem?_eq_getElem h]; rfl
theorem spec_l1In_eq (n a b : Int) : spec_l1In.f n a b = some (decide (a ≤ n) && decide (n ≤ b)) := by
  unfold spec_l1In.f
  by_cases h : n ≥ a
  · rw [if_pos h, decide_eq_true (show a ≤ n from h), Bool.true_and]
  · rw [if_neg h, decide_eq_false (show ¬ a ≤ n from h), Bool.false_and]
theorem impl_in_eq (n a b : Int) : impl_in.f n a b = some (decide (a ≤ n) && decide (n ≤ b)) := by
  unfold impl_in.f
  by_cases h : a ≤ n
  · rw [if_pos h, decide_eq_true h, Bool.true_and]
  · rw [if_neg h, decide_eq_false h, Bool.false_and]
theorem l1All_loop (l : List Int) (a b : Int) (hl : l.length ≤ 140737488355328) (d : Nat) : ∀ i : Nat, i ≤ l.length → l.length - i = d →
    Ev (fun k => spec_l1All.l0 k a b l (l.length : Int) (i : Int)) ((l.drop i).all fun n => decide (a ≤ n) && decide (n ≤ b)) := by
  induction d with
  | zero =>
    intro i hi hd
    refine Ev.step (f := fun k => _) (fun k => by rw [spec_l1All.l0]) (Ev.neg (by omega) (Ev.some_ ?_))
    rw [List.drop_eq_nil_of_le (by omega)]; rfl
  | succ d ih =>
    intro i hi hd
    have h : i < l.length := by omega
    refine Ev.step (f := fun k => _) (fun k => by rw [spec_l1All.l0]) (Ev.pos (by omega) (Ev.pos (by omega) (Ev.pos (by omega) (Ev.bindc (spec_l1In_eq _ _ _) ?_))))
    rw [rdn l i h, List.drop_eq_getElem_cons h, List.all_cons, show wrap64 ((i : Int) + 1) = ((i + 1 : Nat) : Int) by unfold wrap64; omega]
    cases hb : (decide (a ≤ l[i]) && decide (l[i] ≤ b)) with
    | true => exact Ev.pos rfl (ih (i + 1) (by omega) (by omega))
    | false => exact Ev.neg (by decide) (Ev.some_ rfl)
theorem spec_l1All_ev (l : List Int) (a b : Int) (hl : l.length ≤ 140737488355328) : Ev (fun k => spec_l1All.f k l a b) (l.all fun n => decide (a ≤ n) && decide (n ≤ b)) := by
  have := l1All_loop l a b hl l.length 0 (by omega) (by omega)
  simpa [spec_l1All.f] using this
theorem spec_diGood_ev (a b c d e f : Int) : Ev (fun k => spec_diGood.f k a b c d e f) (dieB a b c d e f) := by
  unfold spec_diGood.f
  exact Ev.bindc rfl (Ev.bind (spec_l1All_ev [a, b, c, d, e, f] 0 9 (by simp)) (Ev.some_ rfl))

theorem isDie1_eq (n : Int) : impl_IsDie_1.f n = some (!inFace n) := by
  unfold impl_IsDie_1.f
  rw [impl_in_eq]; rfl
theorem idxDie_loop (l : List Int) (hl : l.length ≤ 140737488355328) (d : Nat) : ∀ i : Nat, i ≤ l.length → l.length - i = d →
    ∃ r : Int, Ev (fun k => slices_IndexFunc_Sint_int_at_impl_IsDie_1.l0 k l (l.length : Int) (i : Int)) r ∧ decide (r ≥ 0) = !((l.drop i).all inFace) := by
  induction d with
  | zero =>
    intro i hi hd
    refine ⟨-1, Ev.step (f := fun k => _) (fun k => by rw [slices_IndexFunc_Sint_int_at_impl_IsDie_1.l0]) (Ev.neg (by omega) (Ev.some_ rfl)), ?_⟩
    rw [List.drop_eq_nil_of_le (by omega)]; rfl
  | succ d ih =>
    intro i hi hd
    have h : i < l.length := by omega
    rw [List.drop_eq_getElem_cons h, List.all_cons]
    cases hb : inFace l[i] with
    | true =>
      obtain ⟨r, h1, h2⟩ := ih (i + 1) (by omega) (by omega)
      refine ⟨r, Ev.step (f := fun k => _) (fun k => by rw [slices_IndexFunc_Sint_int_at_impl_IsDie_1.l0]) (Ev.pos (by omega) (Ev.pos (by omega) (Ev.pos (by omega) (Ev.bindc (isDie1_eq _) ?_)))), by rw [Bool.true_and]; exact h2⟩
      rw [rdn l i h, hb, show wrap64 ((i : Int) + 1) = ((i + 1 : Nat) : Int) by unfold wrap64; omega]
      exact Ev.neg (by decide) h1
    | false =>
      refine ⟨(i : Int), Ev.step (f := fun k => _) (fun k => by rw [slices_IndexFunc_Sint_int_at_impl_IsDie_1.l0]) (Ev.pos (by omega) (Ev.pos (by omega) (Ev.pos (by omega) (Ev.bindc (isDie1_eq _) ?_)))), ?_⟩
      · rw [rdn l i h, hb]
        exact Ev.pos rfl (Ev.now _)
      · rw [Bool.false_and]; exact decide_eq_true (by omega)
theorem impl_IsDie_ev (a b c d e f : Int) : Ev (fun k => impl_IsDie.f k a b c d e f) (dieB a b c d e f) := by
  obtain ⟨r, h1, h2⟩ := idxDie_loop [a, b, c, d, e, f] (by simp) 6 0 (by simp) (by simp)
  unfold impl_IsDie.f slices_ContainsFunc_Sint_int_at_impl_IsDie_1.f slices_IndexFunc_Sint_int_at_impl_IsDie_1.f
  refine Ev.bindc rfl (Ev.bind (a := decide (r ≥ 0)) (Ev.bind h1 (Ev.now _)) (Ev.some_ ?_))
  rw [h2]
  simp [dieB]
theorem dieB_face {a b c d e f : Int} (h : dieB a b c d e f = true) : ∀ n ∈ [a, b, c, d, e, f], 0 ≤ n ∧ n ≤ 9 := by
  intro n hn
  have := List.all_eq_true.1 h n hn
  simpa [inFace] using this
end Go.Proofs.Ythnheffndhbebaa

namespace Go.Proofs.Ythnheffndhbebaa
open Go.RowKit Go.Proofs.Ythnheffndhbebaa.P Go.Proofs.YthnheffndhbebaaW.PrintWords Go.Proofs.YthnheffndhbebaaW.PrintLast
set_option linter.unusedVariables false
set_option linter.unusedSimpArgs false

abbrev D := S40
theorem rdD (l : List D) (i : Nat) (h : i < l.length) : rd_T40 l (i : Int) = l[i] := by
  unfold rd_T40
  rw [Int.toNat_natCast, List.getD_eq_getElem?_getD, List.getElem?_eq_getElem h]; rfl
theorem rdD_set (l : List D) (i : Nat) (v : D) (h : i < l.length) : rd_T40 (l.set i v) (i : Int) = v := by
  rw [rdD _ i (by rw [List.length_set]; exact h), List.getElem_set_self]
theorem eqDie_refl (a b c d e f : Int) : laws_eqDie.f a b c d e f a b c d e f = some true := by
  unfold laws_eqDie.f
  simp
theorem eqDieS_loop (a : List D) (ha : a.length ≤ 140737488355328) (d : Nat) : ∀ i : Nat, i ≤ a.length → a.length - i = d → Ev (fun k => laws_eqDieS.l0 k a a (i : Int)) true := by
  induction d with
  | zero =>
    intro i hi hd
    exact Ev.step (f := fun k => _) (fun k => by rw [laws_eqDieS.l0]) (Ev.neg (by omega) (Ev.now _))
  | succ d ih =>
    intro i hi hd
    refine Ev.step (f := fun k => _) (fun k => by rw [laws_eqDieS.l0]) (Ev.pos (by omega) (Ev.pos (by omega) (Ev.pos (by omega) (Ev.bindc (eqDie_refl _ _ _ _ _ _) (Ev.pos rfl ?_)))))
    rw [show wrap64 ((i : Int) + 1) = ((i + 1 : Nat) : Int) by unfold wrap64; omega]
    exact ih (i + 1) (by omega) (by omega)
theorem eqDieS_refl (a : List D) (ha : a.length ≤ 140737488355328) : Ev (fun k => laws_eqDieS.f k a a) true := by
  unfold laws_eqDieS.f
  exact Ev.pos rfl (eqDieS_loop a ha a.length 0 (by omega) (by omega))

def markD (j : Nat) : D := ⟨1 + 6 * (j : Int), 2 + 6 * (j : Int), 3 + 6 * (j : Int), 4 + 6 * (j : Int), 5 + 6 * (j : Int), 6 + 6 * (j : Int)⟩
def marksD (n : Nat) : List D := (List.range n).map markD
theorem marksD_length (n : Nat) : (marksD n).length = n := by simp [marksD]
theorem marksD_succ (n : Nat) : marksD (n + 1) = marksD n ++ [markD n] := by simp [marksD, List.range_succ]
theorem markDieS_loop (l : List D) (ha : l.length ≤ 2000000) (d : Nat) : ∀ i : Nat, i ≤ l.length → l.length - i = d →
    Ev (fun k => laws_markDieS.l0 k (marksD i ++ l.drop i) (1 + 6 * (i : Int)) (i : Int)) (1 + 6 * (l.length : Int), marksD l.length) := by
  induction d with
  | zero =>
    intro i hi hd
    obtain rfl : i = l.length := by omega
    refine Ev.step (f := fun k => _) (fun k => by rw [laws_markDieS.l0]) (Ev.neg ?_ (Ev.some_ ?_))
    · simp [marksD_length]
    · simp
  | succ d ih =>
    intro i hi hd
    refine Ev.step (f := fun k => _) (fun k => by rw [laws_markDieS.l0]) (Ev.pos ?_ (Ev.pos (by omega) ?_))
    · simp [marksD_length]; omega
    · have hl : i < (marksD i ++ l.drop i).length := by simp [marksD_length]; omega
      have w0 : wrap64 ((i : Int) + 1) = ((i + 1 : Nat) : Int) := by unfold wrap64; omega
      have w1 : wrap64 (1 + 6 * (i : Int) + 1) = 2 + 6 * (i : Int) := by unfold wrap64; omega
      have w2 : wrap64 (2 + 6 * (i : Int) + 1) = 3 + 6 * (i : Int) := by unfold wrap64; omega
      have w3 : wrap64 (3 + 6 * (i : Int) + 1) = 4 + 6 * (i : Int) := by unfold wrap64; omega
      have w4 : wrap64 (4 + 6 * (i : Int) + 1) = 5 + 6 * (i : Int) := by unfold wrap64; omega
      have w5 : wrap64 (5 + 6 * (i : Int) + 1) = 6 + 6 * (i : Int) := by unfold wrap64; omega
      have w6 : wrap64 (6 + 6 * (i : Int) + 1) = 1 + 6 * ((i + 1 : Nat) : Int) := by unfold wrap64; omega
      have e : (marksD i ++ l.drop i).set i (markD i) = marksD (i + 1) ++ l.drop (i + 1) := by
        rw [List.set_append_right _ _ (by rw [marksD_length]; omega), marksD_length, Nat.sub_self, List.drop_eq_getElem_cons (show i < l.length by omega), List.set_cons_zero, marksD_succ, List.append_assoc]
        rfl
      simp only [Option.bind_some, Int.toNat_natCast, w0, w1, w2, w3, w4, w5, w6]
      simp only [rdD_set _ _ _ hl, List.set_set]
      have := ih (i + 1) (by omega) (by omega)
      rw [← e] at this
      exact this
theorem markDieS_ev (l : List D) (ha : l.length ≤ 2000000) : Ev (fun k => laws_markDieS.f k l 1) (1 + 6 * (l.length : Int), marksD l.length) := by
  have := markDieS_loop l ha l.length 0 (by omega) (by omega)
  simpa [marksD, laws_markDieS.f] using this
theorem heldDieS_loop (n : Nat) (hn : n ≤ 2000000) (d : Nat) : ∀ i : Nat, i ≤ n → n - i = d → Ev (fun k => laws_heldDieS.l0 k (marksD n) (1 + 6 * (i : Int)) (i : Int)) (1 + 6 * (n : Int)) := by
  induction d with
  | zero =>
    intro i hi hd
    obtain rfl : i = n := by omega
    exact Ev.step (f := fun k => _) (fun k => by rw [laws_heldDieS.l0]) (Ev.neg (by rw [marksD_length]; omega) (Ev.now _))
  | succ d ih =>
    intro i hi hd
    have w0 : wrap64 ((i : Int) + 1) = ((i + 1 : Nat) : Int) := by unfold wrap64; omega
    have w1 : wrap64 (1 + 6 * (i : Int) + 1) = 2 + 6 * (i : Int) := by unfold wrap64; omega
    have w2 : wrap64 (2 + 6 * (i : Int) + 1) = 3 + 6 * (i : Int) := by unfold wrap64; omega
    have w3 : wrap64 (3 + 6 * (i : Int) + 1) = 4 + 6 * (i : Int) := by unfold wrap64; omega
    have w4 : wrap64 (4 + 6 * (i : Int) + 1) = 5 + 6 * (i : Int) := by unfold wrap64; omega
    have w5 : wrap64 (5 + 6 * (i : Int) + 1) = 6 + 6 * (i : Int) := by unfold wrap64; omega
    have w6 : wrap64 (6 + 6 * (i : Int) + 1) = 1 + 6 * ((i + 1 : Nat) : Int) := by unfold wrap64; omega
    have hr : rd_T40 (marksD n) (i : Int) = markD i := by
      rw [rdD _ i (by rw [marksD_length]; omega)]
      unfold marksD
      rw [List.getElem_map, List.getElem_range]
    refine Ev.step (f := fun k => _) (fun k => by rw [laws_heldDieS.l0]) (Ev.pos (by rw [marksD_length]; omega) (Ev.pos (by omega) ?_))
    simp only [w0, w1, w2, w3, w4, w5, w6, hr]
    exact Ev.pos rfl (Ev.pos rfl (Ev.pos rfl (Ev.pos rfl (Ev.pos rfl (Ev.pos rfl (ih (i + 1) (by omega) (by omega)))))))
theorem heldDieS_ev (n : Nat) (hn : n ≤ 2000000) : Ev (fun k => laws_heldDieS.f k (marksD n) 1) (1 + 6 * (n : Int)) := by
  have := heldDieS_loop n hn n 0 (by omega) (by omega)
  simpa [laws_heldDieS.f] using this
end Go.Proofs.Ythnheffndhbebaa

namespace Go.Proofs.Ythnheffndhbebaa
open Go.RowKit Go.Proofs.Ythnheffndhbebaa.P Go.Proofs.YthnheffndhbebaaW.PrintWords Go.Proofs.YthnheffndhbebaaW.PrintLast
set_option linter.unusedVariables false
set_option linter.unusedSimpArgs false
def dieOk (x : D) : Bool := dieB x.f0 x.f1 x.f2 x.f3 x.f4 x.f5
def towB (l : List D) : Bool := decide (1 ≤ l.length) && decide (l.length ≤ 4) && l.all dieOk
theorem clDice_loop (l : List D) (hl : l.length ≤ 4) (d : Nat) : ∀ i : Nat, i ≤ l.length → l.length - i = d → Ev (fun k => spec_clDice.l0 k l (l.length : Int) (i : Int)) ((l.drop i).all dieOk) := by
  induction d with
  | zero =>
    intro i hi hd
    refine Ev.step (f := fun k => _) (fun k => by rw [spec_clDice.l0]) (Ev.neg (by omega) (Ev.some_ ?_))
    rw [List.drop_eq_nil_of_le (by omega)]; rfl
  | succ d ih =>
    intro i hi hd
    have h : i < l.length := by omega
    refine Ev.step (f := fun k => _) (fun k => by rw [spec_clDice.l0]) (Ev.pos (by omega) (Ev.pos (by omega) (Ev.pos (by omega) (Ev.bind (spec_diGood_ev _ _ _ _ _ _) ?_))))
    rw [rdD l i h, List.drop_eq_getElem_cons h, List.all_cons, show wrap64 ((i : Int) + 1) = ((i + 1 : Nat) : Int) by unfold wrap64; omega]
    show Ev (fun n => if dieOk l[i] = true then _ else _) _
    cases hb : dieOk l[i] with
    | true => exact Ev.pos rfl (ih (i + 1) (by omega) (by omega))
    | false => exact Ev.neg (by decide) (Ev.some_ rfl)
theorem spec_clDice_ev (l : List D) : Ev (fun k => spec_clDice.f k l) (towB l) := by
  unfold spec_clDice.f towB
  refine Ev.bindc (spec_l1In_eq _ _ _) ?_
  by_cases h : 1 ≤ l.length ∧ l.length ≤ 4
  · rw [decide_eq_true h.1, decide_eq_true h.2]
    have := clDice_loop l h.2 l.length 0 (by omega) (by omega)
    exact Ev.pos (by rw [decide_eq_true (by omega), decide_eq_true (by omega)]; rfl) (by simpa using this)
  · have e : (decide (1 ≤ l.length) && decide (l.length ≤ 4)) = false := by
      simp only [Bool.and_eq_false_iff, decide_eq_false_iff_not]; omega
    rw [e]
    exact Ev.neg (by simp only [Bool.and_eq_true, decide_eq_true_eq]; omega) (Ev.some_ rfl)
theorem idxTow_loop (l : List D) (hl : l.length ≤ 4) (d : Nat) : ∀ i : Nat, i ≤ l.length → l.length - i = d →
    ∃ r : Int, Ev (fun k => slices_IndexFunc_Simpl_Die_impl_Die_at_impl_areTower_1.l0 k l (l.length : Int) (i : Int)) r ∧ decide (r ≥ 0) = !((l.drop i).all dieOk) := by
  induction d with
  | zero =>
    intro i hi hd
    refine ⟨-1, Ev.step (f := fun k => _) (fun k => by rw [slices_IndexFunc_Simpl_Die_impl_Die_at_impl_areTower_1.l0]) (Ev.neg (by omega) (Ev.some_ rfl)), ?_⟩
    rw [List.drop_eq_nil_of_le (by omega)]; rfl
  | succ d ih =>
    intro i hi hd
    have h : i < l.length := by omega
    have e1 : Ev (fun k => impl_areTower_1.f k l[i].f0 l[i].f1 l[i].f2 l[i].f3 l[i].f4 l[i].f5) (!dieOk l[i]) := by
      unfold impl_areTower_1.f
      exact Ev.bind (impl_IsDie_ev _ _ _ _ _ _) (Ev.now _)
    rw [List.drop_eq_getElem_cons h, List.all_cons]
    cases hb : dieOk l[i] with
    | true =>
      obtain ⟨r, h1, h2⟩ := ih (i + 1) (by omega) (by omega)
      refine ⟨r, Ev.step (f := fun k => _) (fun k => by rw [slices_IndexFunc_Simpl_Die_impl_Die_at_impl_areTower_1.l0]) (Ev.pos (by omega) (Ev.pos (by omega) (Ev.pos (by omega) ?_))), by rw [Bool.true_and]; exact h2⟩
      rw [rdD l i h, show wrap64 ((i : Int) + 1) = ((i + 1 : Nat) : Int) by unfold wrap64; omega]
      exact Ev.bind e1 (Ev.neg (by rw [hb]; decide) h1)
    | false =>
      refine ⟨(i : Int), Ev.step (f := fun k => _) (fun k => by rw [slices_IndexFunc_Simpl_Die_impl_Die_at_impl_areTower_1.l0]) (Ev.pos (by omega) (Ev.pos (by omega) (Ev.pos (by omega) ?_))), ?_⟩
      · rw [rdD l i h]
        exact Ev.bind e1 (Ev.pos (by rw [hb]; rfl) (Ev.now _))
      · rw [Bool.false_and]; exact decide_eq_true (by omega)
theorem impl_areTower_ev (l : List D) : Ev (fun k => impl_areTower.f k l) (towB l) := by
  unfold impl_areTower.f towB
  refine Ev.bindc (impl_in_eq _ _ _) ?_
  by_cases h : 1 ≤ l.length ∧ l.length ≤ 4
  · rw [decide_eq_true h.1, decide_eq_true h.2]
    obtain ⟨r, h1, h2⟩ := idxTow_loop l h.2 l.length 0 (by omega) (by omega)
    unfold slices_ContainsFunc_Simpl_Die_impl_Die_at_impl_areTower_1.f slices_IndexFunc_Simpl_Die_impl_Die_at_impl_areTower_1.f
    refine Ev.pos (by rw [decide_eq_true (by omega), decide_eq_true (by omega)]; rfl) (Ev.bind (a := decide (r ≥ 0)) (Ev.bind h1 (Ev.now _)) (Ev.some_ ?_))
    rw [h2]; simp
  · have e : (decide (1 ≤ l.length) && decide (l.length ≤ 4)) = false := by
      simp only [Bool.and_eq_false_iff, decide_eq_false_iff_not]; omega
    rw [e]
    exact Ev.neg (by simp only [Bool.and_eq_true, decide_eq_true_eq]; omega) (Ev.some_ rfl)
theorem towB_len {l : List D} (h : towB l = true) : 1 ≤ l.length ∧ l.length ≤ 4 := by
  unfold towB at h
  simp only [Bool.and_eq_true, decide_eq_true_eq] at h
  exact ⟨h.1.1, h.1.2⟩
theorem towB_all {l : List D} (h : towB l = true) : ∀ x ∈ l, dieOk x = true := by
  unfold towB at h
  simp only [Bool.and_eq_true] at h
  exact List.all_eq_true.1 h.2
end Go.Proofs.Ythnheffndhbebaa

namespace Go.Proofs.Ythnheffndhbebaa
open Go.RowKit Go.Proofs.Ythnheffndhbebaa.P Go.Proofs.YthnheffndhbebaaW.PrintWords Go.Proofs.YthnheffndhbebaaW.PrintLast
set_option linter.unusedVariables false
set_option linter.unusedSimpArgs false
abbrev LD := S38
def convD (x : LD) : D := ⟨x.f0, x.f1, x.f2, x.f3, x.f4, x.f5⟩
theorem rdLD (l : List LD) (i : Nat) (h : i < l.length) : rd_T38 l (i : Int) = l[i] := by
  unfold rd_T38
  rw [Int.toNat_natCast, List.getD_eq_getElem?_getD, List.getElem?_eq_getElem h]; rfl
theorem toDieS_loop (l : List LD) (ha : l.length ≤ 2000000) (d : Nat) : ∀ (i : Nat) (t : List D), i ≤ l.length → l.length - i = d → t.length = l.length - i →
    Ev (fun k => laws_toDieS.l0 k l (i : Int) ((l.take i).map convD ++ t)) (l.map convD) := by
  induction d with
  | zero =>
    intro i t hi hd ht
    obtain rfl : i = l.length := by omega
    obtain rfl : t = [] := List.eq_nil_of_length_eq_zero (by omega)
    exact Ev.step (f := fun k => _) (fun k => by rw [laws_toDieS.l0]) (Ev.neg (by omega) (Ev.some_ (by simp)))
  | succ d ih =>
    intro i t hi hd ht
    have h : i < l.length := by omega
    cases t with
    | nil => simp at ht; omega
    | cons t0 t =>
      refine Ev.step (f := fun k => _) (fun k => by rw [laws_toDieS.l0]) (Ev.pos (by omega) (Ev.pos (by omega) (Ev.bindc (show laws_toDie.f _ _ _ _ _ _ = some _ from rfl) (Ev.pos ?_ ?_))))
      · simp; omega
      · rw [show wrap64 ((i : Int) + 1) = ((i + 1 : Nat) : Int) by unfold wrap64; omega, rdLD l i h]
        have := ih (i + 1) t (by omega) (by omega) (by simp at ht; omega)
        rw [List.take_succ_eq_append_getElem h, List.map_append, List.append_assoc] at this
        have e : ((l.take i).map convD ++ t0 :: t).set ((i : Int).toNat) (convD l[i]) = (l.take i).map convD ++ ([l[i]].map convD ++ t) := by
          rw [Int.toNat_natCast, List.set_append_right _ _ (by simp; omega)]
          simp [show i - min i l.length = 0 by omega]
        rw [← e] at this
        exact this
theorem toDieS_ev (l : List LD) (ha : l.length ≤ 2000000) : Ev (fun k => laws_toDieS.f k l) (l.map convD) := by
  unfold laws_toDieS.f
  refine Ev.pos (by omega) (Ev.pos (by omega) ?_)
  have := toDieS_loop l ha l.length 0 (List.replicate l.length z40) (by omega) (by omega) (by simp)
  simpa using this
theorem szDieS_eq (l : List LD) (h : l.length * 48 ≤ 140737488351232) : laws_szDieS.f l 1048576 = some (if l.length ≤ 1048576 then 1048576 - (l.length : Int) else -1) := by
  unfold laws_szDieS.f
  have w : wrap64 (1048576 - (l.length : Int)) = 1048576 - (l.length : Int) := by unfold wrap64; omega
  rw [w]
  by_cases h : l.length ≤ 1048576
  · rw [if_neg (by omega), if_pos h]
  · rw [if_pos (by omega), if_neg h]
end Go.Proofs.Ythnheffndhbebaa

namespace Go.Proofs.Ythnheffndhbebaa.Pure
open Go.RowKit Go.Proofs.Ythnheffndhbebaa.P Go.Proofs.YthnheffndhbebaaW.PrintWords Go.Proofs.YthnheffndhbebaaW.PrintLast

def turn1 (x : D) : D := ⟨x.f0, x.f4, x.f1, x.f2, x.f3, x.f5⟩
def turnN : Nat → D → D
  | 0, x => x
  | n + 1, x => turnN n (turn1 x)
theorem spec_l1 (q : Nat) (hq : q ≤ 3) (x18 : List D) (x19 x20 : Int) (d : Nat) : ∀ (j : Nat) (out : List D) (x : D) (r : List D × Bool), out.length ≤ 1000 → j ≤ q → q - j = d →
    Ev (fun k => spec_TurnTower.l0 k (q : Int) (out ++ [turnN d x]) x18 x19 (wrap64 (x20 + 1))) r →
    Ev (fun k => spec_TurnTower.l1 k (q : Int) out (j : Int) x18 x19 x20 x.f0 x.f1 x.f2 x.f3 x.f4 x.f5) r := by
  induction d with
  | zero =>
    intro j out x r ho hj hd h
    refine Ev.step (f := fun k => _) (fun k => by rw [spec_TurnTower.l1]) ?_
    exact Ev.neg (by omega) (Ev.pos (by omega) h)
  | succ d ih =>
    intro j out x r ho hj hd h
    refine Ev.step (f := fun k => _) (fun k => by rw [spec_TurnTower.l1]) (Ev.pos (by omega) (Ev.bindc (show spec_diTurn.f _ _ _ _ _ _ = some _ from rfl) ?_))
    rw [show wrap64 ((j : Int) + 1) = ((j + 1 : Nat) : Int) by unfold wrap64; omega]
    exact ih (j + 1) out (turn1 x) r ho (by omega) (by omega) h
theorem spec_l0 (q : Nat) (hq : q ≤ 3) (l : List D) (hl : l.length ≤ 4) (d : Nat) : ∀ (i : Nat) (out : List D), i ≤ l.length → l.length - i = d → out.length ≤ i →
    Ev (fun k => spec_TurnTower.l0 k (q : Int) out l (l.length : Int) (i : Int)) (out ++ (l.drop i).map (turnN q), true) := by
  induction d with
  | zero =>
    intro i out hi hd ho
    refine Ev.step (f := fun k => _) (fun k => by rw [spec_TurnTower.l0]) (Ev.neg (by omega) (Ev.some_ ?_))
    rw [List.drop_eq_nil_of_le (by omega)]; simp
  | succ d ih =>
    intro i out hi hd ho
    have h : i < l.length := by omega
    refine Ev.step (f := fun k => _) (fun k => by rw [spec_TurnTower.l0]) (Ev.pos (by omega) (Ev.pos (by omega) (Ev.pos (by omega) ?_)))
    rw [rdD l i h]
    refine spec_l1 q hq l _ _ q 0 out l[i] _ (by omega) (by omega) (by omega) ?_
    rw [show wrap64 ((i : Int) + 1) = ((i + 1 : Nat) : Int) by unfold wrap64; omega, List.drop_eq_getElem_cons h, List.map_cons]
    have := ih (i + 1) (out ++ [turnN q l[i]]) (by omega) (by omega) (by simp; omega)
    rwa [List.append_assoc] at this
theorem turnDie_l0 (q : Nat) (hq : q ≤ 3) (d : Nat) : ∀ (j : Nat) (x : D), j ≤ q → q - j = d →
    Ev (fun k => impl_TurnDie.l0 k (q : Int) (j : Int) x.f0 x.f1 x.f2 x.f3 x.f4 x.f5) ((turnN d x).f0, (turnN d x).f1, (turnN d x).f2, (turnN d x).f3, (turnN d x).f4, (turnN d x).f5, true) := by
  induction d with
  | zero =>
    intro j x hj hd
    refine Ev.step (f := fun k => _) (fun k => by rw [impl_TurnDie.l0]) ?_
    exact Ev.neg (by omega) (Ev.now _)
  | succ d ih =>
    intro j x hj hd
    refine Ev.step (f := fun k => _) (fun k => by rw [impl_TurnDie.l0]) (Ev.pos (by omega) (Ev.bindc (show impl_Die_turn.f _ _ _ _ _ _ = some _ from rfl) ?_))
    rw [show wrap64 ((j : Int) + 1) = ((j + 1 : Nat) : Int) by unfold wrap64; omega]
    exact ih (j + 1) (turn1 x) (by omega) (by omega)
theorem turnDie_ev (q : Nat) (hq : q ≤ 3) (x : D) (hx : dieOk x = true) : Ev (fun k => impl_TurnDie.f k x.f0 x.f1 x.f2 x.f3 x.f4 x.f5 (q : Int)) ((turnN q x).f0, (turnN q x).f1, (turnN q x).f2, (turnN q x).f3, (turnN q x).f4, (turnN q x).f5, true) := by
  unfold impl_TurnDie.f
  refine Ev.bind (impl_IsDie_ev _ _ _ _ _ _) (Ev.pos hx (Ev.bindc (impl_in_eq _ _ _) ?_))
  have e : (decide (0 ≤ (q : Int)) && decide ((q : Int) ≤ 3)) = true := by rw [decide_eq_true (by omega), decide_eq_true (by omega)]; rfl
  rw [e]
  refine Ev.step (f := fun k => _) (fun k => by rw [impl_TurnDie.j0]) ?_
  exact Ev.neg (by decide) (turnDie_l0 q hq q 0 x (by omega) (by omega))
theorem impl_l0 (q : Nat) (hq : q ≤ 3) (l : List D) (hl : l.length ≤ 4) (hx : ∀ x ∈ l, dieOk x = true) (d : Nat) : ∀ (i : Nat) (out : List D), i ≤ l.length → l.length - i = d → out.length ≤ i →
    Ev (fun k => impl_TurnTower.l0 k (q : Int) out l (l.length : Int) (i : Int)) (out ++ (l.drop i).map (turnN q), true) := by
  induction d with
  | zero =>
    intro i out hi hd ho
    refine Ev.step (f := fun k => _) (fun k => by rw [impl_TurnTower.l0]) (Ev.neg (by omega) (Ev.some_ ?_))
    rw [List.drop_eq_nil_of_le (by omega)]; simp
  | succ d ih =>
    intro i out hi hd ho
    have h : i < l.length := by omega
    refine Ev.step (f := fun k => _) (fun k => by rw [impl_TurnTower.l0]) (Ev.pos (by omega) (Ev.pos (by omega) (Ev.pos (by omega) ?_)))
    rw [rdD l i h]
    refine Ev.bind (turnDie_ev q hq l[i] (hx _ (List.getElem_mem h))) (Ev.pos (by omega) ?_)
    rw [show wrap64 ((i : Int) + 1) = ((i + 1 : Nat) : Int) by unfold wrap64; omega, List.drop_eq_getElem_cons h, List.map_cons]
    have := ih (i + 1) (out ++ [turnN q l[i]]) (by omega) (by omega) (by simp; omega)
    rwa [List.append_assoc] at this
theorem both (l : List D) (a : Int) : ∃ r : List D × Bool, r.1.length ≤ 4 ∧ Ev (fun k => spec_TurnTower.f k l a) r ∧ Ev (fun k => impl_TurnTower.f k l a) r := by
  have no : ∀ k, spec_TurnTower.j0 (k + 1) l a true = some ([], false) ∧ impl_TurnTower.j0 (k + 1) l a true = some ([], false) := fun k => ⟨by rw [spec_TurnTower.j0, if_pos rfl], by rw [impl_TurnTower.j0, if_pos rfl]⟩
  cases ht : towB l with
  | true =>
    obtain ⟨_, h4⟩ := towB_len ht
    by_cases ha : 0 ≤ a ∧ a ≤ 3
    · obtain ⟨q, rfl⟩ := Int.eq_ofNat_of_zero_le ha.1
      have hq : q ≤ 3 := by omega
      have e : (decide (0 ≤ (q : Int)) && decide ((q : Int) ≤ 3)) = true := by rw [decide_eq_true (by omega), decide_eq_true (by omega)]; rfl
      refine ⟨(l.map (turnN q), true), by simpa using h4, ?_, ?_⟩
      · unfold spec_TurnTower.f
        refine Ev.bind (spec_clDice_ev l) (Ev.pos ht (Ev.bindc (spec_l1In_eq _ _ _) ?_))
        rw [e]
        have := spec_l0 q hq l h4 l.length 0 [] (by omega) (by omega) (by simp)
        refine Ev.step (f := fun k => _) (fun k => by rw [spec_TurnTower.j0]) ?_
        exact Ev.neg (by decide) (by simpa using this)
      · unfold impl_TurnTower.f
        refine Ev.bind (impl_areTower_ev l) (Ev.pos ht (Ev.bindc (impl_in_eq _ _ _) ?_))
        rw [e]
        have := impl_l0 q hq l h4 (towB_all ht) l.length 0 [] (by omega) (by omega) (by simp)
        refine Ev.step (f := fun k => _) (fun k => by rw [impl_TurnTower.j0]) ?_
        exact Ev.neg (by decide) (by simpa using this)
    · have e : (decide (0 ≤ a) && decide (a ≤ 3)) = false := by
        simp only [Bool.and_eq_false_iff, decide_eq_false_iff_not]; omega
      refine ⟨([], false), by simp, ?_, ?_⟩
      · unfold spec_TurnTower.f
        refine Ev.bind (spec_clDice_ev l) (Ev.pos ht (Ev.bindc (spec_l1In_eq _ _ _) ?_))
        rw [e]
        exact Ev.at_ 1 fun k => (no k).1
      · unfold impl_TurnTower.f
        refine Ev.bind (impl_areTower_ev l) (Ev.pos ht (Ev.bindc (impl_in_eq _ _ _) ?_))
        rw [e]
        exact Ev.at_ 1 fun k => (no k).2
  | false =>
    refine ⟨([], false), by simp, ?_, ?_⟩
    · unfold spec_TurnTower.f
      exact Ev.bind (spec_clDice_ev l) (Ev.neg (by rw [ht]; decide) (Ev.at_ 1 fun k => (no k).1))
    · unfold impl_TurnTower.f
      exact Ev.bind (impl_areTower_ev l) (Ev.neg (by rw [ht]; decide) (Ev.at_ 1 fun k => (no k).2))
theorem FnExactTurnTower : laws_FnExactTurnTower.Pure := by
  intro l a hl _
  refine Ev.rounds (r := true) ?_
  unfold laws_FnExactTurnTower.f
  refine Ev.bindc (szDieS_eq l hl) ?_
  by_cases hn : l.length ≤ 1048576
  · rw [if_pos hn]
    have hc : l.length ≤ 2000000 := by omega
    have ht := toDieS_ev l hc
    obtain ⟨r, hr, hs, hi⟩ := both (l.map convD) a
    have h1 : r.1.length ≤ 140737488355328 := by omega
    have h2 : r.1.length ≤ 2000000 := by omega
    have h3 : (l.map convD).length ≤ 140737488355328 := by simp; omega
    have h4 : (l.map convD).length ≤ 2000000 := by simp; omega
    refine Ev.neg (by omega) (Ev.bind ht (Ev.bind hs (Ev.bind ht (Ev.bind hi (Ev.bind (eqDieS_refl _ h1) (Ev.pos rfl ?_))))))
    refine Ev.step (f := fun k => _) (fun k => by rw [laws_FnExactTurnTower.j0]) (Ev.neg (by simp) ?_)
    refine Ev.bind ht (Ev.bind (eqDieS_refl _ h3) (Ev.pos rfl (Ev.bind (markDieS_ev _ h4) (Ev.neg (by omega) (Ev.bind (eqDieS_refl _ h1) (Ev.pos rfl ?_))))))
    refine Ev.step (f := fun k => _) (fun k => by rw [laws_FnExactTurnTower.j1]) (Ev.neg (by simp) ?_)
    refine Ev.bind (markDieS_ev _ h2) (Ev.bind (heldDieS_ev _ h2) (Ev.neg (by omega) (Ev.pos rfl (Ev.bind ht (Ev.bind hi (Ev.bind (eqDieS_refl _ h1) (Ev.pos rfl ?_)))))))
    refine Ev.step (f := fun k => _) (fun k => by rw [laws_FnExactTurnTower.j2]) (Ev.neg (by simp) ?_)
    exact Ev.bind (heldDieS_ev _ h2) (Ev.neg (by omega) (Ev.pos rfl (Ev.now _)))
  · rw [if_neg hn]
    exact Ev.pos (by decide) (Ev.now _)

end Go.Proofs.Ythnheffndhbebaa.Pure
