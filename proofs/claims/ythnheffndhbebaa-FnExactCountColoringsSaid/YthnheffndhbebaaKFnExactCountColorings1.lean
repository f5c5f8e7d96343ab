/- The program's CountColorings returns what the reference's returns, for all numbers. No further condition. -/
import Derived.Test.YthnheffndhbebaaKFnExactCountColorings0

namespace Go.Proofs.Ythnheffndhbebaa.P
open Go.RowKit Go.Proofs.YthnheffndhbebaaW.PrintWords Go.Proofs.YthnheffndhbebaaW.PrintLast Go.Proofs.YthnheffndhbebaaW.PrintMore
attribute [local go_sem] max2_int min2_int max_two min_two max_three min_three max_four min_four   -- for this text's walks alone
set_option linter.unusedVariables false
set_option linter.unusedSimpArgs false

/-! ### spec_diWays: function 67 -/
mutual
def spec_diWays.l0 : Nat → List (S40) → List (S40) → Int → Int → Option ((List (S40)))
  | 0, _, _, _, _ => none
  | k + 1, x5, x13, x16, x17 => if x17 < x16 then (if 0 ≤ x17 then (if x17 < (x13.length : Int) then (spec_diWays.l1 k x5 0 x13 x16 x17 ((rd_T40 x13 x17).f0) ((rd_T40 x13 x17).f1) ((rd_T40 x13 x17).f2) ((rd_T40 x13 x17).f3) ((rd_T40 x13 x17).f4) ((rd_T40 x13 x17).f5)) else (none)) else (none)) else (some x5)
def spec_diWays.l1 : Nat → List (S40) → Int → List (S40) → Int → Int → Int → Int → Int → Int → Int → Int → Option ((List (S40)))
  | 0, _, _, _, _, _, _, _, _, _, _, _ => none
  | k + 1, x5, x8, x13, x16, x17, x382000, x382001, x382002, x382003, x382004, x382005 => if x8 < (x5.length : Int) then (if 0 ≤ x8 then ((spec_diLess.f k ((rd_T40 x5 x8).f0) ((rd_T40 x5 x8).f1) ((rd_T40 x5 x8).f2) ((rd_T40 x5 x8).f3) ((rd_T40 x5 x8).f4) ((rd_T40 x5 x8).f5) x382000 x382001 x382002 x382003 x382004 x382005).bind fun t383 => (if t383 = true then (spec_diWays.l1 k x5 (wrap64 (x8 + 1)) x13 x16 x17 x382000 x382001 x382002 x382003 x382004 x382005) else ((some (([] : List (S40)) : List (S40))).bind fun y384 => (if x8 ≤ (x5.length : Int) then ((some (x5.take (x8 : Int).toNat : List (S40))).bind fun y387 => (if y384.length + y387.length < 2932031007402 then ((some (y384 ++ y387 : List (S40))).bind fun y391 => ((some (([(⟨x382000, x382001, x382002, x382003, x382004, x382005⟩ : S40)] : List (S40)) : List (S40))).bind fun y394 => (if y391.length + y394.length < 2932031007402 then ((some (y391 ++ y394 : List (S40))).bind fun y397 => ((some (x5.drop (x8 : Int).toNat : List (S40))).bind fun y400 => (if y397.length + y400.length < 2932031007402 then (spec_diWays.l0 k (y397 ++ y400) x13 x16 (wrap64 (x17 + 1))) else (none)))) else (none)))) else (none))) else (none))))) else (none)) else ((some (([] : List (S40)) : List (S40))).bind fun y407 => (if 0 ≤ x8 then (if x8 ≤ (x5.length : Int) then ((some (x5.take (x8 : Int).toNat : List (S40))).bind fun y410 => (if y407.length + y410.length < 2932031007402 then ((some (y407 ++ y410 : List (S40))).bind fun y414 => ((some (([(⟨x382000, x382001, x382002, x382003, x382004, x382005⟩ : S40)] : List (S40)) : List (S40))).bind fun y417 => (if y414.length + y417.length < 2932031007402 then ((some (y414 ++ y417 : List (S40))).bind fun y420 => ((some (x5.drop (x8 : Int).toNat : List (S40))).bind fun y423 => (if y420.length + y423.length < 2932031007402 then (spec_diWays.l0 k (y420 ++ y423) x13 x16 (wrap64 (x17 + 1))) else (none)))) else (none)))) else (none))) else (none)) else (none)))
end
def spec_diWays.f (k : Nat) (a0_0 : Int) (a0_1 : Int) (a0_2 : Int) (a0_3 : Int) (a0_4 : Int) (a0_5 : Int) : Option ((List (S40))) := (spec_diSearch.f k a0_0 a0_1 a0_2 a0_3 a0_4 a0_5).bind fun bt374 => (spec_diWays.l0 k ([] : List (S40)) bt374.1 (bt374.1.length : Int) 0)
theorem spec_diWays.mono_l : ∀ k, (∀ y0 y1 y2 y3, LeO (spec_diWays.l0 k y0 y1 y2 y3) (spec_diWays.l0 (k + 1) y0 y1 y2 y3)) ∧ (∀ y0 y1 y2 y3 y4 y5 y6 y7 y8 y9 y10, LeO (spec_diWays.l1 k y0 y1 y2 y3 y4 y5 y6 y7 y8 y9 y10) (spec_diWays.l1 (k + 1) y0 y1 y2 y3 y4 y5 y6 y7 y8 y9 y10))
  | 0 => ⟨fun _ _ _ _ r h => by simp [spec_diWays.l0] at h, fun _ _ _ _ _ _ _ _ _ _ _ r h => by simp [spec_diWays.l1] at h⟩
  | k + 1 => by
    obtain ⟨ih0, ih1⟩ := spec_diWays.mono_l k
    refine ⟨?_, ?_⟩
    · intro y0 y1 y2 y3
      unfold spec_diWays.l0
      repeat' first
      | (with_reducible exact ih0 _ _ _ _)
      | (with_reducible exact ih1 _ _ _ _ _ _ _ _ _ _ _)
      | (with_reducible exact spec_diLess.mono _ _ _ _ _ _ _ _ _ _ _ _ _)
      | (with_reducible exact spec_diSearch.mono _ _ _ _ _ _ _)
      | (with_reducible exact LeO.refl _)
      | (with_reducible exact LeO.none _)
      | (with_reducible refine LeO.ite ?_ ?_)
      | (with_reducible refine LeO.bind ?_ (fun _ => ?_))
      | exact ih0 _ _ _ _
      | exact ih1 _ _ _ _ _ _ _ _ _ _ _
      | exact spec_diLess.mono _ _ _ _ _ _ _ _ _ _ _ _ _
      | exact spec_diSearch.mono _ _ _ _ _ _ _
      | exact LeO.none _
      | refine LeO.ite ?_ ?_
      | refine LeO.bind ?_ (fun _ => ?_)
    · intro y0 y1 y2 y3 y4 y5 y6 y7 y8 y9 y10
      unfold spec_diWays.l1
      repeat' first
      | (with_reducible exact ih0 _ _ _ _)
      | (with_reducible exact ih1 _ _ _ _ _ _ _ _ _ _ _)
      | (with_reducible exact spec_diLess.mono _ _ _ _ _ _ _ _ _ _ _ _ _)
      | (with_reducible exact spec_diSearch.mono _ _ _ _ _ _ _)
      | (with_reducible exact LeO.refl _)
      | (with_reducible exact LeO.none _)
      | (with_reducible refine LeO.ite ?_ ?_)
      | (with_reducible refine LeO.bind ?_ (fun _ => ?_))
      | exact ih0 _ _ _ _
      | exact ih1 _ _ _ _ _ _ _ _ _ _ _
      | exact spec_diLess.mono _ _ _ _ _ _ _ _ _ _ _ _ _
      | exact spec_diSearch.mono _ _ _ _ _ _ _
      | exact LeO.none _
      | refine LeO.ite ?_ ?_
      | refine LeO.bind ?_ (fun _ => ?_)
theorem spec_diWays.mono : ∀ a0 a1 a2 a3 a4 a5 k, LeO (spec_diWays.f k a0 a1 a2 a3 a4 a5) (spec_diWays.f (k + 1) a0 a1 a2 a3 a4 a5) := by
  intro a0 a1 a2 a3 a4 a5 k
  obtain ⟨ih0, ih1⟩ := spec_diWays.mono_l k
  unfold spec_diWays.f
  repeat' first
      | (with_reducible exact ih0 _ _ _ _)
      | (with_reducible exact ih1 _ _ _ _ _ _ _ _ _ _ _)
      | (with_reducible exact spec_diLess.mono _ _ _ _ _ _ _ _ _ _ _ _ _)
      | (with_reducible exact spec_diSearch.mono _ _ _ _ _ _ _)
      | (with_reducible exact LeO.refl _)
      | (with_reducible exact LeO.none _)
      | (with_reducible refine LeO.ite ?_ ?_)
      | (with_reducible refine LeO.bind ?_ (fun _ => ?_))
      | exact ih0 _ _ _ _
      | exact ih1 _ _ _ _ _ _ _ _ _ _ _
      | exact spec_diLess.mono _ _ _ _ _ _ _ _ _ _ _ _ _
      | exact spec_diSearch.mono _ _ _ _ _ _ _
      | exact LeO.none _
      | refine LeO.ite ?_ ?_
      | refine LeO.bind ?_ (fun _ => ?_)
def spec_diWays.T7 : Bool × List (List Nat × List Nat) := (true, [([], []), ([], []), ([1], [1]), ([0, 2], [0, 2]), ([3], [3]), ([4], [4]), ([4], [4]), ([5, 6, 4], [4, 5, 6]), ([7, 4], [4, 7]), ([4], [4]), ([8, 9, 4, 4], [4, 8, 9]), ([4, 10], [4, 10])])
def spec_diWays.B7 : List Nat := [0, 0, 2, 7, 15, 31, 31, 127, 255, 31, 1023, 2047]
theorem spec_diWays.tab7 : rtab .any (opsOf Try.f67 7) = spec_diWays.T7 := by kernel_rfl
theorem spec_diWays.bits7 : waitsOk spec_diWays.T7.2 spec_diWays.B7 = true := by kernel_rfl
def spec_diWays.T9 : Bool × List (List Nat × List Nat) := (true, [([], []), ([], []), ([], []), ([1, 2], [1, 2]), ([0, 3], [0, 3]), ([], []), ([5], [5]), ([4, 6, 4], [4, 6]), ([7, 7, 0, 1, 2, 3, 4, 5, 6, 7], [7])])
def spec_diWays.B9 : List Nat := [0, 0, 0, 6, 15, 0, 32, 127, 255]
theorem spec_diWays.tab9 : rtab .any (opsOf Try.f67 9) = spec_diWays.T9 := by kernel_rfl
theorem spec_diWays.bits9 : waitsOk spec_diWays.T9.2 spec_diWays.B9 = true := by kernel_rfl
set_option maxHeartbeats 8000000 in
set_option maxRecDepth 100000 in
theorem spec_diWays.calls (k : Nat) (a0_0 : Int) (a0_1 : Int) (a0_2 : Int) (a0_3 : Int) (a0_4 : Int) (a0_5 : Int) (r : List (S40)) (w : World) (h : spec_diWays.f k a0_0 a0_1 a0_2 a0_3 a0_4 a0_5 = some r) :
    Calls Try.prog 67 #[.agg #[.int .i64 a0_0, .int .i64 a0_1, .int .i64 a0_2, .int .i64 a0_3, .int .i64 a0_4, .int .i64 a0_5]] w fun e w' => ∃ v0_ : Value, e = .returned (v0_) ∧ Kd.R k40 40 w' w.heap.size (fun _ => True) v0_ r ∧ Below w.heap.size w w' := by
  have hu40 := Try.underlying40
  have HB := Aside0.mk (Below.refl w.heap.size w)
  have H : ((spec_diSearch.f k a0_0 a0_1 a0_2 a0_3 a0_4 a0_5).bind fun bt374 => (spec_diWays.l0 k ([] : List (S40)) bt374.1 (bt374.1.length : Int) 0)) = some r := h
  clear h
  replace H := Option.bind_eq_some_iff.mp H
  obtain ⟨⟨t374, t377⟩, A20, H⟩ := H
  replace H : (spec_diWays.l0 k ([] : List (S40)) t374 (t374.length : Int) 0) = some r := H
  have A2 := Aside0.mk A20
  clear A20
  have H' := Aside0.mk H
  clear H
  go_enter Try.func67, Try.ntmps67
  go_wp2_with (first | ((with_reducible refine gate_dst (N := 1) rfl ?_); refine box_event ?hg (N := 1) ?hd (cs := #[.int .i64 a0_0, .int .i64 a0_1, .int .i64 a0_2, .int .i64 a0_3, .int .i64 a0_4, .int .i64 a0_5]) (t := 40) ?hr ?_; (case hd => rfl); (case hg => rfl); (case hr => first | (go_simp; done) | (go_simp; rfl)); intro gb373 hg w3 hbox hb; have n0_ := Aside0.mk (below_step (by repeat (first | (with_reducible first | exact HB.out | apply below_alloc | apply pw_below_drewN | apply below_drew1) | exact HB.out)) hb); have n1_ := Aside0.mk (hbox); have n2_ := Aside0.mk ((by rw [hg]; exact (below_size (by repeat (first | (with_reducible first | exact HB.out | apply below_alloc | apply pw_below_drewN | apply below_drew1) | exact HB.out))) : w.heap.size ≤ gb373)); have n3_ := Aside0.mk ((by rw [hg]; exact (below_size (by repeat (first | (with_reducible first | exact HB.out | apply below_alloc | apply pw_below_drewN | apply below_drew1) | exact HB.out))) : w.heap.size ≤ gb373)); clear HB; have HB := n0_; have BK373 := n1_; have GW373 := n2_; have GE373 := n3_; clear n0_ n1_ n2_ n3_; clear hb hbox hg; have hcz4_0 : w3.cell? ⟨gb373, 0, none⟩ = some (.int .i64 a0_0) := (blk_cell BK373.out 0).trans rfl; have hcz4_1 : w3.cell? ⟨gb373, 1, none⟩ = some (.int .i64 a0_1) := (blk_cell BK373.out 1).trans rfl; have hcz4_2 : w3.cell? ⟨gb373, 2, none⟩ = some (.int .i64 a0_2) := (blk_cell BK373.out 2).trans rfl; have hcz4_3 : w3.cell? ⟨gb373, 3, none⟩ = some (.int .i64 a0_3) := (blk_cell BK373.out 3).trans rfl; have hcz4_4 : w3.cell? ⟨gb373, 4, none⟩ = some (.int .i64 a0_4) := (blk_cell BK373.out 4).trans rfl; have hcz4_5 : w3.cell? ⟨gb373, 5, none⟩ = some (.int .i64 a0_5) := (blk_cell BK373.out 5).trans rfl; have hfz4_0 := blk_frozen BK373.out 0; have hfz4_1 := blk_frozen BK373.out 1; have hfz4_2 := blk_frozen BK373.out 2; have hfz4_3 := blk_frozen BK373.out 3; have hfz4_4 := blk_frozen BK373.out 4; have hfz4_5 := blk_frozen BK373.out 5) | ((with_reducible refine gate_callee (f := 96) rfl ?_); refine goesL_ (some 12) rfl rfl Try.func96 (by kernel_rfl) rfl #[.agg #[.int .i64 a0_0, .int .i64 a0_1, .int .i64 a0_2, .int .i64 a0_3, .int .i64 a0_4, .int .i64 a0_5]] rfl (by (try simp only [List.map_toArray, List.map_cons, List.map_nil]); first | done | rfl | (simp only [List.length_drop, List.length_take]; rfl)) ?_; (with_reducible refine (spec_diSearch.calls k a0_0 a0_1 a0_2 a0_3 a0_4 a0_5 t374 t377 _ A2.out).mono ?_); rintro e w5 ⟨v375, v378, rfl, ho0, ho1, hb⟩; refine ⟨_, rfl, ?_⟩; have n0_ := Aside0.mk (Kd.R_lower (Kd.R_newB ho0 (g := gb373) (o := .cells #[.int .i64 a0_0, .int .i64 a0_1, .int .i64 a0_2, .int .i64 a0_3, .int .i64 a0_4, .int .i64 a0_5] 40 (0, 0)) (by (with_reducible repeat (first | refine blk_drewN ?_ _ | refine blk_drew ?_ | refine blk_alloc ?_ _)); exact BK373.out)) (below_size (by repeat (first | (with_reducible first | exact HB.out | apply below_alloc | apply pw_below_drewN | apply below_drew1 | refine below_set ?_ GE373.out) | exact HB.out)))); have n1_ := Aside0.mk (Kd.R_lower ho1 (below_size (by repeat (first | (with_reducible first | exact HB.out | apply below_alloc | apply pw_below_drewN | apply below_drew1 | refine below_set ?_ GE373.out) | exact HB.out)))); have n2_ := Aside0.mk (blk_below (g := gb373) (o := .cells #[.int .i64 a0_0, .int .i64 a0_1, .int .i64 a0_2, .int .i64 a0_3, .int .i64 a0_4, .int .i64 a0_5] 40 (0, 0)) (by (with_reducible repeat (first | refine blk_drewN ?_ _ | refine blk_drew ?_ | refine blk_alloc ?_ _)); exact BK373.out) hb); have n3_ := Aside0.mk (below_step (by repeat (first | (with_reducible first | exact HB.out | apply below_alloc | apply pw_below_drewN | apply below_drew1 | refine below_set ?_ GE373.out) | exact HB.out)) hb); clear BK373; clear HB; have HO376 := n0_; have HO379 := n1_; have BK373 := n2_; have HB := n3_; clear n0_ n1_ n2_ n3_; (try clear hb); (try clear hb2); (try clear hk); (try clear hi); (try clear ho0); (try clear ho1); obtain ⟨Ao6, co6, eo6⟩ := Kd.R_slice HO376.out; subst eo6))
  go_loopg [5, 17] k (fun kq v5 v17 w' => ∃ (x5_1 : List (S40)) (x17_1 : Int), v17 = .int .i64 x17_1 ∧ Aside0 (spec_diWays.l0 kq x5_1 t374 (t374.length : Int) x17_1 = some r) ∧ Aside0 (kq ≤ k) ∧ Aside0 (Kd.R k40 40 w' w.heap.size (fun k_ => some k_ ≠ ((.slice Ao6 t374.length co6) : Value).ownBlock ∧ k_ ≠ gb373) v5 x5_1) ∧ Aside0 (Kd.R k40 40 w' w.heap.size (fun k_ => some k_ ≠ (v5 : Value).ownBlock ∧ k_ ≠ gb373) (.slice Ao6 t374.length co6) t374) ∧ Aside0 (w'.heap[gb373]? = some (.cells #[.int .i64 a0_0, .int .i64 a0_1, .int .i64 a0_2, .int .i64 a0_3, .int .i64 a0_4, .int .i64 a0_5] 40 (0, 0))) ∧ Aside0 (Below w.heap.size w w'))
  case atStart => exact ⟨(([] : List (S40))), (0), (by first | rfl | (simp; done) | (simp [*]; done)), H', ⟨Nat.le_refl _⟩, ⟨by first | exact Kd.R_nil _ _ _ _ _ | exact Kd.N_nil _ _ _ _ _ | exact Kd.V_nil _ _ _ _ _ | exact Kd.Q_nil _ _ _ _ _ | exact Kd.S_nil _ _ _ _ _⟩, ⟨by (with_reducible repeat (first | apply Kd.R_alloc | apply Kd.R_drewN | apply Kd.R_drew)); exact Kd.R_mono HO376.out (fun _ hk => ⟨(by simp [Value.ownBlock]), hk.2⟩)⟩, ⟨by (with_reducible repeat (first | refine blk_drewN ?_ _ | refine blk_drew ?_ | refine blk_alloc ?_ _)); exact BK373.out⟩, ⟨by repeat (first | (with_reducible first | exact HB.out | apply below_alloc | apply pw_below_drewN | apply below_drew1 | refine below_set ?_ GE373.out) | exact HB.out)⟩⟩
  case round =>
    clear H'
    try clear p2
    try clear c6
    try clear hcz4_0
    try clear hcz4_1
    try clear hcz4_2
    try clear hcz4_3
    try clear hcz4_4
    try clear hcz4_5
    try clear hfz4_0
    try clear hfz4_1
    try clear hfz4_2
    try clear hfz4_3
    try clear hfz4_4
    try clear hfz4_5
    obtain ⟨x5_1, x17_1, rfl, HA, HK1, HO_5, HO_13, BK373, HB⟩ := hrel
    cases gk with
    | zero => exact absurd HA.out (by simp [spec_diWays.l0])
    | succ k1 =>
      have H := HA.out
      clear HA
      simp only [spec_diWays.l0] at H
      by_cases c7 : x17_1 < (t374.length : Int)
      · rw [if_pos c7] at H
        have c7b0 : decide (x17_1 < (t374.length : Int)) = true := decide_eq_true c7
        clear c7
        by_cases c8 : 0 ≤ x17_1
        · rw [if_pos c8] at H
          have c8b0 : decide (0 ≤ x17_1) = true := decide_eq_true c8
          clear c8
          by_cases c9 : x17_1 < (t374.length : Int)
          · rw [if_pos c9] at H
            have c9b0 : decide (x17_1 < (t374.length : Int)) = true := decide_eq_true c9
            clear c9
            have H' := Aside0.mk H
            clear H
            have p380 : 0 ≤ (x17_1 : Int) := of_decide_eq_true (by first | (with_reducible assumption) | assumption)
            have q380 : x17_1 < (t374.length : Int) := of_decide_eq_true (by first | (with_reducible assumption) | assumption)
            obtain ⟨ad380, e380, hx380_0, hx380_1, hx380_2, hx380_3, hx380_4, hx380_5⟩ := at_T40 (Kd.R_reads' HO_13.out).2.2 x17_1 p380 q380
            cases e380
            replace p380 := eq_true p380
            replace q380 := eq_true q380
            go_wp2_with (first | ((with_reducible refine gate_dst (N := 7) rfl ?_); refine box_event ?hg (N := 7) ?hd (cs := #[.int .i64 0, .int .i64 0, .int .i64 0, .int .i64 0, .int .i64 0, .int .i64 0]) (t := 40) ?hr ?_; (case hd => rfl); (case hg => rfl); (case hr => first | (go_simp; done) | (go_simp; rfl)); intro gb381 hg w10 hbox hb; have n0_ := Aside0.mk (Kd.R_below (Kd.R_elderB (by (with_reducible repeat (first | apply Kd.R_alloc | apply Kd.R_drewN | apply Kd.R_drew)); exact HO_5.out) gb381 (Nat.le_of_eq hg.symm)) hb); have n1_ := Aside0.mk (Kd.R_below (Kd.R_elderB (by (with_reducible repeat (first | apply Kd.R_alloc | apply Kd.R_drewN | apply Kd.R_drew)); exact HO_13.out) gb381 (Nat.le_of_eq hg.symm)) hb); have n2_ := Aside0.mk (blk_below (g := gb373) (o := .cells #[.int .i64 a0_0, .int .i64 a0_1, .int .i64 a0_2, .int .i64 a0_3, .int .i64 a0_4, .int .i64 a0_5] 40 (0, 0)) (by (with_reducible repeat (first | refine blk_drewN ?_ _ | refine blk_drew ?_ | refine blk_alloc ?_ _)); exact BK373.out) hb); have n3_ := Aside0.mk (below_step (by repeat (first | (with_reducible first | exact HB.out | apply below_alloc | apply pw_below_drewN | apply below_drew1 | refine below_set ?_ GE373.out) | exact HB.out)) hb); have n4_ := Aside0.mk (hbox); have n5_ := Aside0.mk ((by rw [hg]; exact (below_size (by repeat (first | (with_reducible first | exact HB.out | apply below_alloc | apply pw_below_drewN | apply below_drew1 | refine below_set ?_ GE373.out) | exact HB.out))) : w.heap.size ≤ gb381)); have n6_ := Aside0.mk ((by rw [hg]; exact (below_size (by repeat (first | (with_reducible first | exact HB.out | apply below_alloc | apply pw_below_drewN | apply below_drew1 | refine below_set ?_ GE373.out) | exact HB.out))) : w.heap.size ≤ gb381)); have n7_ := Aside0.mk ((by rw [hg]; exact Nat.ne_of_lt (blk_lt (g := gb373) (o := .cells #[.int .i64 a0_0, .int .i64 a0_1, .int .i64 a0_2, .int .i64 a0_3, .int .i64 a0_4, .int .i64 a0_5] 40 (0, 0)) (by (with_reducible repeat (first | refine blk_drewN ?_ _ | refine blk_drew ?_ | refine blk_alloc ?_ _)); exact BK373.out)) : gb373 ≠ gb381)); have n8_ := Aside0.mk ((by rw [hg]; exact Nat.ne_of_gt (blk_lt (g := gb373) (o := .cells #[.int .i64 a0_0, .int .i64 a0_1, .int .i64 a0_2, .int .i64 a0_3, .int .i64 a0_4, .int .i64 a0_5] 40 (0, 0)) (by (with_reducible repeat (first | refine blk_drewN ?_ _ | refine blk_drew ?_ | refine blk_alloc ?_ _)); exact BK373.out)) : gb381 ≠ gb373)); clear HO_5; clear HO_13; clear BK373; clear HB; have HO_5 := n0_; have HO_13 := n1_; have BK373 := n2_; have HB := n3_; have BK381 := n4_; have GW381 := n5_; have GE381 := n6_; have NB373_381 := n7_; have NB381_373 := n8_; clear n0_ n1_ n2_ n3_ n4_ n5_ n6_ n7_ n8_; clear hb hbox hg; have hnb11 := NB381_373.out; have hnc11 := NB373_381.out; have hcz12_0 : w10.cell? ⟨gb381, 0, none⟩ = some (.int .i64 0) := (blk_cell BK381.out 0).trans rfl; have hcz12_1 : w10.cell? ⟨gb381, 1, none⟩ = some (.int .i64 0) := (blk_cell BK381.out 1).trans rfl; have hcz12_2 : w10.cell? ⟨gb381, 2, none⟩ = some (.int .i64 0) := (blk_cell BK381.out 2).trans rfl; have hcz12_3 : w10.cell? ⟨gb381, 3, none⟩ = some (.int .i64 0) := (blk_cell BK381.out 3).trans rfl; have hcz12_4 : w10.cell? ⟨gb381, 4, none⟩ = some (.int .i64 0) := (blk_cell BK381.out 4).trans rfl; have hcz12_5 : w10.cell? ⟨gb381, 5, none⟩ = some (.int .i64 0) := (blk_cell BK381.out 5).trans rfl; have hfz12_0 := blk_frozen BK381.out 0; have hfz12_1 := blk_frozen BK381.out 1; have hfz12_2 := blk_frozen BK381.out 2; have hfz12_3 := blk_frozen BK381.out 3; have hfz12_4 := blk_frozen BK381.out 4; have hfz12_5 := blk_frozen BK381.out 5))
            go_loopg [8] k1 (fun kq v8 w' => ∃ (x8_2 : Int), v8 = .int .i64 x8_2 ∧ Aside0 (spec_diWays.l1 kq x5_1 x8_2 t374 (t374.length : Int) x17_1 ((rd_T40 t374 x17_1).f0) ((rd_T40 t374 x17_1).f1) ((rd_T40 t374 x17_1).f2) ((rd_T40 t374 x17_1).f3) ((rd_T40 t374 x17_1).f4) ((rd_T40 t374 x17_1).f5) = some r) ∧ Aside0 (kq ≤ k1) ∧ Aside0 (Kd.R k40 40 w' w.heap.size (fun k_ => some k_ ≠ ((.slice (some ad380) t374.length co6) : Value).ownBlock ∧ k_ ≠ gb373 ∧ k_ ≠ gb381) u5 x5_1) ∧ Aside0 (Kd.R k40 40 w' w.heap.size (fun k_ => some k_ ≠ (u5 : Value).ownBlock ∧ k_ ≠ gb373 ∧ k_ ≠ gb381) (.slice (some ad380) t374.length co6) t374) ∧ Aside0 (w'.heap[gb373]? = some (.cells #[.int .i64 a0_0, .int .i64 a0_1, .int .i64 a0_2, .int .i64 a0_3, .int .i64 a0_4, .int .i64 a0_5] 40 (0, 0))) ∧ Aside0 (w'.heap[gb381]? = some (.cells #[.int .i64 ((rd_T40 t374 x17_1).f0), .int .i64 ((rd_T40 t374 x17_1).f1), .int .i64 ((rd_T40 t374 x17_1).f2), .int .i64 ((rd_T40 t374 x17_1).f3), .int .i64 ((rd_T40 t374 x17_1).f4), .int .i64 ((rd_T40 t374 x17_1).f5)] 40 (0, 0))) ∧ Aside0 (Below w.heap.size w w'))
            case atStart => exact ⟨(0), (by first | rfl | (simp; done) | (simp [*]; done)), H', ⟨Nat.le_refl _⟩, ⟨by (with_reducible repeat (first | apply Kd.R_alloc | apply Kd.R_drewN | apply Kd.R_drew)); exact Kd.R_mono (Kd.R_far (p := ⟨gb381, 5, none⟩) (Kd.R_far (p := ⟨gb381, 4, none⟩) (Kd.R_far (p := ⟨gb381, 3, none⟩) (Kd.R_far (p := ⟨gb381, 2, none⟩) (Kd.R_far (p := ⟨gb381, 1, none⟩) (Kd.R_far (p := ⟨gb381, 0, none⟩) (Kd.R_mono HO_5.out (fun k_ hk => (⟨hk, hk.2⟩ : _ ∧ k_ ≠ gb381))) (fun _ hk => hk.2) (.int .i64 ((rd_T40 t374 x17_1).f0))) (fun _ hk => hk.2) (.int .i64 ((rd_T40 t374 x17_1).f1))) (fun _ hk => hk.2) (.int .i64 ((rd_T40 t374 x17_1).f2))) (fun _ hk => hk.2) (.int .i64 ((rd_T40 t374 x17_1).f3))) (fun _ hk => hk.2) (.int .i64 ((rd_T40 t374 x17_1).f4))) (fun _ hk => hk.2) (.int .i64 ((rd_T40 t374 x17_1).f5))) (fun _ hk => ⟨hk.1.1.1, ⟨hk.1.1.2, hk.1.2⟩⟩)⟩, ⟨by (with_reducible repeat (first | apply Kd.R_alloc | apply Kd.R_drewN | apply Kd.R_drew)); exact Kd.R_mono (Kd.R_far (p := ⟨gb381, 5, none⟩) (Kd.R_far (p := ⟨gb381, 4, none⟩) (Kd.R_far (p := ⟨gb381, 3, none⟩) (Kd.R_far (p := ⟨gb381, 2, none⟩) (Kd.R_far (p := ⟨gb381, 1, none⟩) (Kd.R_far (p := ⟨gb381, 0, none⟩) (Kd.R_mono HO_13.out (fun k_ hk => (⟨hk, hk.2⟩ : _ ∧ k_ ≠ gb381))) (fun _ hk => hk.2) (.int .i64 ((rd_T40 t374 x17_1).f0))) (fun _ hk => hk.2) (.int .i64 ((rd_T40 t374 x17_1).f1))) (fun _ hk => hk.2) (.int .i64 ((rd_T40 t374 x17_1).f2))) (fun _ hk => hk.2) (.int .i64 ((rd_T40 t374 x17_1).f3))) (fun _ hk => hk.2) (.int .i64 ((rd_T40 t374 x17_1).f4))) (fun _ hk => hk.2) (.int .i64 ((rd_T40 t374 x17_1).f5))) (fun _ hk => ⟨hk.1.1.1, ⟨hk.1.1.2, hk.1.2⟩⟩)⟩, ⟨by (with_reducible repeat (first | refine blk_drewN ?_ _ | refine blk_drew ?_ | refine blk_alloc ?_ _)); refine blk_far ?_ NB373_381.out _; (with_reducible repeat (first | refine blk_drewN ?_ _ | refine blk_drew ?_ | refine blk_alloc ?_ _)); refine blk_far ?_ NB373_381.out _; (with_reducible repeat (first | refine blk_drewN ?_ _ | refine blk_drew ?_ | refine blk_alloc ?_ _)); refine blk_far ?_ NB373_381.out _; (with_reducible repeat (first | refine blk_drewN ?_ _ | refine blk_drew ?_ | refine blk_alloc ?_ _)); refine blk_far ?_ NB373_381.out _; (with_reducible repeat (first | refine blk_drewN ?_ _ | refine blk_drew ?_ | refine blk_alloc ?_ _)); refine blk_far ?_ NB373_381.out _; (with_reducible repeat (first | refine blk_drewN ?_ _ | refine blk_drew ?_ | refine blk_alloc ?_ _)); refine blk_far ?_ NB373_381.out _; (with_reducible repeat (first | refine blk_drewN ?_ _ | refine blk_drew ?_ | refine blk_alloc ?_ _)); exact BK373.out⟩, ⟨by (with_reducible repeat (first | refine blk_drewN ?_ _ | refine blk_drew ?_ | refine blk_alloc ?_ _)); refine blk_put (cs := #[.int .i64 ((rd_T40 t374 x17_1).f0), .int .i64 ((rd_T40 t374 x17_1).f1), .int .i64 ((rd_T40 t374 x17_1).f2), .int .i64 ((rd_T40 t374 x17_1).f3), .int .i64 ((rd_T40 t374 x17_1).f4), .int .i64 0]) ?_ 5 _ rfl; (with_reducible repeat (first | refine blk_drewN ?_ _ | refine blk_drew ?_ | refine blk_alloc ?_ _)); refine blk_put (cs := #[.int .i64 ((rd_T40 t374 x17_1).f0), .int .i64 ((rd_T40 t374 x17_1).f1), .int .i64 ((rd_T40 t374 x17_1).f2), .int .i64 ((rd_T40 t374 x17_1).f3), .int .i64 0, .int .i64 0]) ?_ 4 _ rfl; (with_reducible repeat (first | refine blk_drewN ?_ _ | refine blk_drew ?_ | refine blk_alloc ?_ _)); refine blk_put (cs := #[.int .i64 ((rd_T40 t374 x17_1).f0), .int .i64 ((rd_T40 t374 x17_1).f1), .int .i64 ((rd_T40 t374 x17_1).f2), .int .i64 0, .int .i64 0, .int .i64 0]) ?_ 3 _ rfl; (with_reducible repeat (first | refine blk_drewN ?_ _ | refine blk_drew ?_ | refine blk_alloc ?_ _)); refine blk_put (cs := #[.int .i64 ((rd_T40 t374 x17_1).f0), .int .i64 ((rd_T40 t374 x17_1).f1), .int .i64 0, .int .i64 0, .int .i64 0, .int .i64 0]) ?_ 2 _ rfl; (with_reducible repeat (first | refine blk_drewN ?_ _ | refine blk_drew ?_ | refine blk_alloc ?_ _)); refine blk_put (cs := #[.int .i64 ((rd_T40 t374 x17_1).f0), .int .i64 0, .int .i64 0, .int .i64 0, .int .i64 0, .int .i64 0]) ?_ 1 _ rfl; (with_reducible repeat (first | refine blk_drewN ?_ _ | refine blk_drew ?_ | refine blk_alloc ?_ _)); refine blk_put (cs := #[.int .i64 0, .int .i64 0, .int .i64 0, .int .i64 0, .int .i64 0, .int .i64 0]) ?_ 0 _ rfl; (with_reducible repeat (first | refine blk_drewN ?_ _ | refine blk_drew ?_ | refine blk_alloc ?_ _)); exact BK381.out⟩, ⟨by repeat (first | (with_reducible first | exact HB.out | apply below_alloc | apply pw_below_drewN | apply below_drew1 | refine below_set ?_ GE373.out | refine below_set ?_ GE381.out) | exact HB.out)⟩⟩
            case round =>
              clear H'
              try clear c1
              try clear p2
              try clear p3
              try clear q3
              try clear hx3
              try clear c6
              try clear c7
              try clear c7b0
              try clear c8
              try clear c8b0
              try clear c9
              try clear c9b0
              try clear c11
              try clear hcz12_0
              try clear hcz12_1
              try clear hcz12_2
              try clear hcz12_3
              try clear hcz12_4
              try clear hcz12_5
              try clear hcz4_0
              try clear hcz4_1
              try clear hcz4_2
              try clear hcz4_3
              try clear hcz4_4
              try clear hcz4_5
              try clear hfz12_0
              try clear hfz12_1
              try clear hfz12_2
              try clear hfz12_3
              try clear hfz12_4
              try clear hfz12_5
              try clear hfz4_0
              try clear hfz4_1
              try clear hfz4_2
              try clear hfz4_3
              try clear hfz4_4
              try clear hfz4_5
              try clear hx380_0
              try clear hx380_1
              try clear hx380_2
              try clear hx380_3
              try clear hx380_4
              try clear hx380_5
              try clear p2
              try clear p380
              try clear q380
              obtain ⟨x8_2, rfl, HA, HK2, HO_5, HO_13, BK373, BK381, HB⟩ := hrel
              cases gk with
              | zero => exact absurd HA.out (by simp [spec_diWays.l1])
              | succ k2 =>
                have H := HA.out
                clear HA
                simp only [spec_diWays.l1] at H
                by_cases c13 : x8_2 < (x5_1.length : Int)
                · rw [if_pos c13] at H
                  have c13b0 : decide (x8_2 < (x5_1.length : Int)) = true := decide_eq_true c13
                  clear c13
                  by_cases c14 : 0 ≤ x8_2
                  · rw [if_pos c14] at H
                    have c14b0 : decide (0 ≤ x8_2) = true := decide_eq_true c14
                    clear c14
                    replace H := Option.bind_eq_some_iff.mp H
                    obtain ⟨t383, A150, H⟩ := H
                    replace H : (if t383 = true then (spec_diWays.l1 k2 x5_1 (wrap64 (x8_2 + 1)) t374 (t374.length : Int) x17_1 ((rd_T40 t374 x17_1).f0) ((rd_T40 t374 x17_1).f1) ((rd_T40 t374 x17_1).f2) ((rd_T40 t374 x17_1).f3) ((rd_T40 t374 x17_1).f4) ((rd_T40 t374 x17_1).f5)) else ((some (([] : List (S40)) : List (S40))).bind fun y384 => (if x8_2 ≤ (x5_1.length : Int) then ((some (x5_1.take (x8_2 : Int).toNat : List (S40))).bind fun y387 => (if y384.length + y387.length < 2932031007402 then ((some (y384 ++ y387 : List (S40))).bind fun y391 => ((some (([(⟨((rd_T40 t374 x17_1).f0), ((rd_T40 t374 x17_1).f1), ((rd_T40 t374 x17_1).f2), ((rd_T40 t374 x17_1).f3), ((rd_T40 t374 x17_1).f4), ((rd_T40 t374 x17_1).f5)⟩ : S40)] : List (S40)) : List (S40))).bind fun y394 => (if y391.length + y394.length < 2932031007402 then ((some (y391 ++ y394 : List (S40))).bind fun y397 => ((some (x5_1.drop (x8_2 : Int).toNat : List (S40))).bind fun y400 => (if y397.length + y400.length < 2932031007402 then (spec_diWays.l0 k2 (y397 ++ y400) t374 (t374.length : Int) (wrap64 (x17_1 + 1))) else (none)))) else (none)))) else (none))) else (none)))) = some r := H
                    have A15 := Aside0.mk A150
                    clear A150
                    by_cases c16 : t383 = true
                    · subst c16
                      have H1 : (spec_diWays.l1 k2 x5_1 (wrap64 (x8_2 + 1)) t374 (t374.length : Int) x17_1 ((rd_T40 t374 x17_1).f0) ((rd_T40 t374 x17_1).f1) ((rd_T40 t374 x17_1).f2) ((rd_T40 t374 x17_1).f3) ((rd_T40 t374 x17_1).f4) ((rd_T40 t374 x17_1).f5)) = some r := by rw [if_pos rfl] at H; exact H
                      clear H
                      have H := H1
                      clear H1
                      have H' := Aside0.mk H
                      clear H
                      try go_wp2
                      have n0_ := Aside0.mk (Kd.R_drew HO_5.out)
                      have n1_ := Aside0.mk (Kd.R_drew HO_13.out)
                      have n2_ := Aside0.mk (blk_drew BK373.out)
                      have n3_ := Aside0.mk (blk_drew BK381.out)
                      have n4_ := Aside0.mk (below_drew1 HB.out)
                      clear HO_5
                      clear HO_13
                      clear BK373
                      clear BK381
                      clear HB
                      have HO_5 := n0_
                      have HO_13 := n1_
                      have BK373 := n2_
                      have BK381 := n3_
                      have HB := n4_
                      clear n0_ n1_ n2_ n3_ n4_
                      obtain ⟨Ao18, co18, eo18⟩ := Kd.R_slice HO_5.out
                      (first | subst eo18 | (injection eo18 with f1_ f2_ f3_; have f4_ := f1_.symm; have f5_ := f3_.symm; clear f1_ f2_ f3_; subst f4_; subst f5_))
                      have p382 : 0 ≤ (x8_2 : Int) := of_decide_eq_true (by first | (with_reducible assumption) | assumption)
                      have q382 : x8_2 < (x5_1.length : Int) := of_decide_eq_true (by first | (with_reducible assumption) | assumption)
                      obtain ⟨ad382, e382, hx382_0, hx382_1, hx382_2, hx382_3, hx382_4, hx382_5⟩ := at_T40 (Kd.R_reads' HO_5.out).2.2 x8_2 p382 q382
                      cases e382
                      replace p382 := eq_true p382
                      replace q382 := eq_true q382
                      refine start_ (n := 12) (S := fun w' => w'.cell? ⟨gb381, 0, none⟩ = some (.int .i64 ((rd_T40 t374 x17_1).f0)) ∧ w'.cell? ⟨gb381, 1, none⟩ = some (.int .i64 ((rd_T40 t374 x17_1).f1)) ∧ w'.cell? ⟨gb381, 2, none⟩ = some (.int .i64 ((rd_T40 t374 x17_1).f2)) ∧ w'.cell? ⟨gb381, 3, none⟩ = some (.int .i64 ((rd_T40 t374 x17_1).f3)) ∧ w'.cell? ⟨gb381, 4, none⟩ = some (.int .i64 ((rd_T40 t374 x17_1).f4)) ∧ w'.cell? ⟨gb381, 5, none⟩ = some (.int .i64 ((rd_T40 t374 x17_1).f5)) ∧ w'.cell? (ad382.add ((x8_2).toNat * 6)) = some (.int .i64 ((rd_T40 x5_1 x8_2).f0)) ∧ w'.cell? ⟨(ad382.add ((x8_2).toNat * 6)).block, (ad382.add ((x8_2).toNat * 6)).off + 1, none⟩ = some (.int .i64 ((rd_T40 x5_1 x8_2).f1)) ∧ w'.cell? ⟨(ad382.add ((x8_2).toNat * 6)).block, (ad382.add ((x8_2).toNat * 6)).off + 2, none⟩ = some (.int .i64 ((rd_T40 x5_1 x8_2).f2)) ∧ w'.cell? ⟨(ad382.add ((x8_2).toNat * 6)).block, (ad382.add ((x8_2).toNat * 6)).off + 3, none⟩ = some (.int .i64 ((rd_T40 x5_1 x8_2).f3)) ∧ w'.cell? ⟨(ad382.add ((x8_2).toNat * 6)).block, (ad382.add ((x8_2).toNat * 6)).off + 4, none⟩ = some (.int .i64 ((rd_T40 x5_1 x8_2).f4)) ∧ w'.cell? ⟨(ad382.add ((x8_2).toNat * 6)).block, (ad382.add ((x8_2).toNat * 6)).off + 5, none⟩ = some (.int .i64 ((rd_T40 x5_1 x8_2).f5))) (ds := []) #[false, false, false, false, false, false, false, false, false, false, false, false] (by kernel_rfl) rfl rfl ⟨(blk_cell BK381.out 0).trans rfl, (blk_cell BK381.out 1).trans rfl, (blk_cell BK381.out 2).trans rfl, (blk_cell BK381.out 3).trans rfl, (blk_cell BK381.out 4).trans rfl, (blk_cell BK381.out 5).trans rfl, hx382_0, hx382_1, hx382_2, hx382_3, hx382_4, hx382_5⟩ (fun hHeld => ?_); refine with_tabW spec_diWays.tab7 spec_diWays.bits7 (fun HT_ HW_ => ?_)
                      generalize wr.drew = w17 at HO_5 HO_13 BK373 BK381 HB hx382_0 hx382_1 hx382_2 hx382_3 hx382_4 hx382_5 hHeld ⊢
                      refine pure_ (i := 0) (N := some 21) (v := ?_) (a' := ?_) #[true, false, false, false, false, false, false, false, false, false, false, false] rfl rfl (any_of HT_.out (by kernel_rfl)) (fun _ _ _ h => h) (Or.inl ⟨by rfl, ?_⟩) ?_ ?_
                      rotate_left
                      · intro w'
                        go_simp
                        first | (with_reducible rfl) | (rw [if_neg (by simp only [ByteArray.size_extract, ByteArray.size_append] at * <;> omega)]; try with_reducible rfl)
                      rotate_left
                      · simp only [Act.put, List.setIfInBounds_toArray, List.set_cons_zero, List.set_cons_succ, i64_w, i32_w]
                        rfl
                      refine pure_ (i := 1) (N := some 22) (v := ?_) (a' := ?_) #[true, true, false, false, false, false, false, false, false, false, false, false] rfl rfl (any_of HT_.out (by kernel_rfl)) (fun _ _ _ h => h) (Or.inl ⟨by rfl, ?_⟩) ?_ ?_
                      rotate_left
                      · intro w'
                        go_simp
                        first | (with_reducible rfl) | (rw [if_neg (by simp only [ByteArray.size_extract, ByteArray.size_append] at * <;> omega)]; try with_reducible rfl)
                      rotate_left
                      · simp only [Act.put, List.setIfInBounds_toArray, List.set_cons_zero, List.set_cons_succ, i64_w, i32_w]
                        rfl
                      refine pure_ (i := 2) (N := some 23) (v := ?_) (a' := ?_) #[true, true, true, false, false, false, false, false, false, false, false, false] rfl rfl (any_of HT_.out (by kernel_rfl)) (fun _ _ _ h => h) (Or.inl ⟨by rfl, ?_⟩) ?_ ?_
                      rotate_left
                      · intro w'
                        go_simp
                        first | (with_reducible rfl) | (rw [if_neg (by simp only [ByteArray.size_extract, ByteArray.size_append] at * <;> omega)]; try with_reducible rfl)
                      rotate_left
                      · simp only [Act.put, List.setIfInBounds_toArray, List.set_cons_zero, List.set_cons_succ, i64_w, i32_w]
                        rfl
                      refine pure_ (i := 3) (N := some 24) (v := ?_) (a' := ?_) #[true, true, true, true, false, false, false, false, false, false, false, false] rfl rfl (any_of HT_.out (by kernel_rfl)) (fun _ _ _ h => h) (Or.inl ⟨by rfl, ?_⟩) ?_ ?_
                      rotate_left
                      · intro w'
                        go_simp
                        first | (with_reducible rfl) | (rw [if_neg (by simp only [ByteArray.size_extract, ByteArray.size_append] at * <;> omega)]; try with_reducible rfl)
                      rotate_left
                      · simp only [Act.put, List.setIfInBounds_toArray, List.set_cons_zero, List.set_cons_succ, i64_w, i32_w]
                        rfl
                      refine pure_ (i := 4) (N := some 25) (v := ?_) (a' := ?_) #[true, true, true, true, true, false, false, false, false, false, false, false] rfl rfl (any_of HT_.out (by kernel_rfl)) (fun _ _ _ h => h) (Or.inl ⟨by rfl, ?_⟩) ?_ ?_
                      rotate_left
                      · intro w'
                        go_simp
                        first | (with_reducible rfl) | (rw [if_neg (by simp only [ByteArray.size_extract, ByteArray.size_append] at * <;> omega)]; try with_reducible rfl)
                      rotate_left
                      · simp only [Act.put, List.setIfInBounds_toArray, List.set_cons_zero, List.set_cons_succ, i64_w, i32_w]
                        rfl
                      refine pure_ (i := 5) (N := some 26) (v := ?_) (a' := ?_) #[true, true, true, true, true, true, false, false, false, false, false, false] rfl rfl (any_of HT_.out (by kernel_rfl)) (fun _ _ _ h => h) (Or.inl ⟨by rfl, ?_⟩) ?_ ?_
                      rotate_left
                      · intro w'
                        go_simp
                        first | (with_reducible rfl) | (rw [if_neg (by simp only [ByteArray.size_extract, ByteArray.size_append] at * <;> omega)]; try with_reducible rfl)
                      rotate_left
                      · simp only [Act.put, List.setIfInBounds_toArray, List.set_cons_zero, List.set_cons_succ, i64_w, i32_w]
                        rfl
                      refine pure_ (i := 6) (N := some 27) (v := ?_) (a' := ?_) #[true, true, true, true, true, true, true, false, false, false, false, false] rfl rfl (any_of HT_.out (by kernel_rfl)) (fun _ _ _ h => h) (Or.inl ⟨by rfl, ?_⟩) ?_ ?_
                      rotate_left
                      · intro w'
                        go_simp
                        first | (with_reducible rfl) | (rw [if_neg (by simp only [ByteArray.size_extract, ByteArray.size_append] at * <;> omega)]; try with_reducible rfl)
                      rotate_left
                      · simp only [Act.put, List.setIfInBounds_toArray, List.set_cons_zero, List.set_cons_succ, i64_w, i32_w]
                        rfl
                      refine pure_ (i := 7) (N := some 28) (v := ?_) (a' := ?_) #[true, true, true, true, true, true, true, true, false, false, false, false] rfl rfl (any_of HT_.out (by kernel_rfl)) (fun _ _ _ h => h) (Or.inl ⟨by rfl, ?_⟩) ?_ ?_
                      rotate_left
                      · intro w'
                        go_simp
                        first | (with_reducible rfl) | (rw [if_neg (by simp only [ByteArray.size_extract, ByteArray.size_append] at * <;> omega)]; try with_reducible rfl)
                      rotate_left
                      · simp only [Act.put, List.setIfInBounds_toArray, List.set_cons_zero, List.set_cons_succ, i64_w, i32_w]
                        rfl
                      refine take_ (i := 8) (N := some 29) (v := ?_) (a' := ?_) #[true, true, true, true, true, true, true, true, true, false, false, false] rfl rfl (take_ofW HT_.out HW_.out (by kernel_rfl)) (fun _ _ _ h => h) (Or.inl ⟨by rfl, ?_⟩) hHeld ?_ ?_
                      rotate_left
                      · rintro w' ⟨s0, s1, s2, s3, s4, s5, s6, s7, s8, s9, s10, s11⟩
                        go_simp
                        first | (with_reducible rfl) | (rw [if_neg (by simp only [ByteArray.size_extract, ByteArray.size_append] at * <;> omega)]; try with_reducible rfl)
                      rotate_left
                      · simp only [Act.put, List.setIfInBounds_toArray, List.set_cons_zero, List.set_cons_succ, i64_w, i32_w]
                        rfl
                      refine take_ (i := 9) (N := some 30) (v := ?_) (a' := ?_) #[true, true, true, true, true, true, true, true, true, true, false, false] rfl rfl (take_ofW HT_.out HW_.out (by kernel_rfl)) (fun _ _ _ h => h) (Or.inl ⟨by rfl, ?_⟩) hHeld ?_ ?_
                      rotate_left
                      · rintro w' ⟨s0, s1, s2, s3, s4, s5, s6, s7, s8, s9, s10, s11⟩
                        go_simp
                        first | (with_reducible rfl) | (rw [if_neg (by simp only [ByteArray.size_extract, ByteArray.size_append] at * <;> omega)]; try with_reducible rfl)
                      rotate_left
                      · simp only [Act.put, List.setIfInBounds_toArray, List.set_cons_zero, List.set_cons_succ, i64_w, i32_w]
                        rfl
                      refine one_ (i := 10) (N := some 31) #[true, true, true, true, true, true, true, true, true, true, true, false] rfl rfl (one_of HT_.out (by kernel_rfl)) (by decide) (fun K hK => ?_)
                      refine goes_ Try.func97 (by kernel_rfl) rfl #[.agg #[.int .i64 ((rd_T40 x5_1 x8_2).f0), .int .i64 ((rd_T40 x5_1 x8_2).f1), .int .i64 ((rd_T40 x5_1 x8_2).f2), .int .i64 ((rd_T40 x5_1 x8_2).f3), .int .i64 ((rd_T40 x5_1 x8_2).f4), .int .i64 ((rd_T40 x5_1 x8_2).f5)], .agg #[.int .i64 ((rd_T40 t374 x17_1).f0), .int .i64 ((rd_T40 t374 x17_1).f1), .int .i64 ((rd_T40 t374 x17_1).f2), .int .i64 ((rd_T40 t374 x17_1).f3), .int .i64 ((rd_T40 t374 x17_1).f4), .int .i64 ((rd_T40 t374 x17_1).f5)]] (by rfl) rfl rfl (by (try simp only [List.map_toArray, List.map_cons, List.map_nil]); first | done | rfl | (simp only [List.length_drop, List.length_take]; rfl)) ?_
                      with_reducible refine (spec_diLess.calls k2 ((rd_T40 x5_1 x8_2).f0) ((rd_T40 x5_1 x8_2).f1) ((rd_T40 x5_1 x8_2).f2) ((rd_T40 x5_1 x8_2).f3) ((rd_T40 x5_1 x8_2).f4) ((rd_T40 x5_1 x8_2).f5) ((rd_T40 t374 x17_1).f0) ((rd_T40 t374 x17_1).f1) ((rd_T40 t374 x17_1).f2) ((rd_T40 t374 x17_1).f3) ((rd_T40 t374 x17_1).f4) ((rd_T40 t374 x17_1).f5) true _ A15.out).mono ?_
                      rintro e w19 ⟨rfl, hb⟩
                      have HS6_ := (hb.cell (World.block_lt_of_cell? _ _ (hHeld.2.2.2.2.2.2.1))).trans (hHeld.2.2.2.2.2.2.1)
                      have HS7_ := (hb.cell (World.block_lt_of_cell? _ _ (hHeld.2.2.2.2.2.2.2.1))).trans (hHeld.2.2.2.2.2.2.2.1)
                      have HS8_ := (hb.cell (World.block_lt_of_cell? _ _ (hHeld.2.2.2.2.2.2.2.2.1))).trans (hHeld.2.2.2.2.2.2.2.2.1)
                      have HS9_ := (hb.cell (World.block_lt_of_cell? _ _ (hHeld.2.2.2.2.2.2.2.2.2.1))).trans (hHeld.2.2.2.2.2.2.2.2.2.1)
                      have HS10_ := (hb.cell (World.block_lt_of_cell? _ _ (hHeld.2.2.2.2.2.2.2.2.2.2.1))).trans (hHeld.2.2.2.2.2.2.2.2.2.2.1)
                      have HS11_ := (hb.cell (World.block_lt_of_cell? _ _ (hHeld.2.2.2.2.2.2.2.2.2.2.2))).trans (hHeld.2.2.2.2.2.2.2.2.2.2.2)
                      refine ⟨_, rfl, ?_⟩
                      have n0_ := Aside0.mk (Kd.R_below (by (with_reducible repeat (first | apply Kd.R_alloc | apply Kd.R_drewN | apply Kd.R_drew)); exact HO_5.out) hb)
                      have n1_ := Aside0.mk (Kd.R_below (by (with_reducible repeat (first | apply Kd.R_alloc | apply Kd.R_drewN | apply Kd.R_drew)); exact HO_13.out) hb)
                      have n2_ := Aside0.mk (blk_below (g := gb373) (o := .cells #[.int .i64 a0_0, .int .i64 a0_1, .int .i64 a0_2, .int .i64 a0_3, .int .i64 a0_4, .int .i64 a0_5] 40 (0, 0)) (by (with_reducible repeat (first | refine blk_drewN ?_ _ | refine blk_drew ?_ | refine blk_alloc ?_ _)); exact BK373.out) hb)
                      have n3_ := Aside0.mk (blk_below (g := gb381) (o := .cells #[.int .i64 ((rd_T40 t374 x17_1).f0), .int .i64 ((rd_T40 t374 x17_1).f1), .int .i64 ((rd_T40 t374 x17_1).f2), .int .i64 ((rd_T40 t374 x17_1).f3), .int .i64 ((rd_T40 t374 x17_1).f4), .int .i64 ((rd_T40 t374 x17_1).f5)] 40 (0, 0)) (by (with_reducible repeat (first | refine blk_drewN ?_ _ | refine blk_drew ?_ | refine blk_alloc ?_ _)); exact BK381.out) hb)
                      have n4_ := Aside0.mk (below_step (by repeat (first | (with_reducible first | exact HB.out | apply below_alloc | apply pw_below_drewN | apply below_drew1 | refine below_set ?_ GE373.out | refine below_set ?_ GE381.out) | exact HB.out)) hb)
                      clear HO_5
                      clear HO_13
                      clear BK373
                      clear BK381
                      clear HB
                      have HO_5 := n0_
                      have HO_13 := n1_
                      have BK373 := n2_
                      have BK381 := n3_
                      have HB := n4_
                      clear n0_ n1_ n2_ n3_ n4_
                      (try clear hb)
                      (try clear hb2)
                      (try clear hk)
                      (try clear hi)
                      refine hK.out _ _ ⟨(blk_cell BK381.out 0).trans rfl, (blk_cell BK381.out 1).trans rfl, (blk_cell BK381.out 2).trans rfl, (blk_cell BK381.out 3).trans rfl, (blk_cell BK381.out 4).trans rfl, (blk_cell BK381.out 5).trans rfl, HS6_, HS7_, HS8_, HS9_, HS10_, HS11_⟩ (fun hHeld => ?_)
                      clear hK K
                      refine norm_ (a' := ?_) ?_ ?_
                      rotate_left
                      · show Act.put _ (some 31) _ = _
                        simp only [Act.put, List.setIfInBounds_toArray, List.set_cons_zero, List.set_cons_succ, i64_w, i32_w]
                        rfl
                      refine pure_ (i := 11) (N := some 32) (v := ?_) (a' := ?_) #[true, true, true, true, true, true, true, true, true, true, true, true] rfl rfl (any_of HT_.out (by kernel_rfl)) (fun _ _ _ h => h) (Or.inl ⟨by rfl, ?_⟩) ?_ ?_
                      rotate_left
                      · intro w'
                        go_simp
                        first | (with_reducible rfl) | (rw [if_neg (by simp only [ByteArray.size_extract, ByteArray.size_append] at * <;> omega)]; try with_reducible rfl)
                      rotate_left
                      · simp only [Act.put, List.setIfInBounds_toArray, List.set_cons_zero, List.set_cons_succ, i64_w, i32_w]
                        rfl
                      refine done_ (done_of HT_.out (by kernel_rfl)) ?_
                      try go_wp2
                      go_roundg k2
                      case measure => have := HK1.out; have := HK2.out; omega
                      case rel => exact ⟨(wrap64 (x8_2 + 1)), (by first | rfl | (simp; done) | (simp [*]; done)), H', ⟨by have := HK1.out; have := HK2.out; omega⟩, ⟨by (with_reducible repeat (first | apply Kd.R_alloc | apply Kd.R_drewN | apply Kd.R_drew)); exact HO_5.out⟩, ⟨by (with_reducible repeat (first | apply Kd.R_alloc | apply Kd.R_drewN | apply Kd.R_drew)); exact HO_13.out⟩, ⟨by (with_reducible repeat (first | refine blk_drewN ?_ _ | refine blk_drew ?_ | refine blk_alloc ?_ _)); exact BK373.out⟩, ⟨by (with_reducible repeat (first | refine blk_drewN ?_ _ | refine blk_drew ?_ | refine blk_alloc ?_ _)); exact BK381.out⟩, ⟨by repeat (first | (with_reducible first | exact HB.out | apply below_alloc | apply pw_below_drewN | apply below_drew1 | refine below_set ?_ GE373.out | refine below_set ?_ GE381.out) | exact HB.out)⟩⟩
                    · replace c16 := Bool.eq_false_iff.mpr c16
                      subst c16
                      have H1 : ((some (([] : List (S40)) : List (S40))).bind fun y384 => (if x8_2 ≤ (x5_1.length : Int) then ((some (x5_1.take (x8_2 : Int).toNat : List (S40))).bind fun y387 => (if y384.length + y387.length < 2932031007402 then ((some (y384 ++ y387 : List (S40))).bind fun y391 => ((some (([(⟨((rd_T40 t374 x17_1).f0), ((rd_T40 t374 x17_1).f1), ((rd_T40 t374 x17_1).f2), ((rd_T40 t374 x17_1).f3), ((rd_T40 t374 x17_1).f4), ((rd_T40 t374 x17_1).f5)⟩ : S40)] : List (S40)) : List (S40))).bind fun y394 => (if y391.length + y394.length < 2932031007402 then ((some (y391 ++ y394 : List (S40))).bind fun y397 => ((some (x5_1.drop (x8_2 : Int).toNat : List (S40))).bind fun y400 => (if y397.length + y400.length < 2932031007402 then (spec_diWays.l0 k2 (y397 ++ y400) t374 (t374.length : Int) (wrap64 (x17_1 + 1))) else (none)))) else (none)))) else (none))) else (none))) = some r := by rw [if_neg (show ¬ (false = true) by decide)] at H; exact H
                      clear H
                      have H := H1
                      clear H1
                      obtain ⟨y384, hy384⟩ : ∃ y_ : List (S40), y_ = (([] : List (S40))) := ⟨_, rfl⟩
                      replace H : (if x8_2 ≤ (x5_1.length : Int) then ((some (x5_1.take (x8_2 : Int).toNat : List (S40))).bind fun y387 => (if y384.length + y387.length < 2932031007402 then ((some (y384 ++ y387 : List (S40))).bind fun y391 => ((some (([(⟨((rd_T40 t374 x17_1).f0), ((rd_T40 t374 x17_1).f1), ((rd_T40 t374 x17_1).f2), ((rd_T40 t374 x17_1).f3), ((rd_T40 t374 x17_1).f4), ((rd_T40 t374 x17_1).f5)⟩ : S40)] : List (S40)) : List (S40))).bind fun y394 => (if y391.length + y394.length < 2932031007402 then ((some (y391 ++ y394 : List (S40))).bind fun y397 => ((some (x5_1.drop (x8_2 : Int).toNat : List (S40))).bind fun y400 => (if y397.length + y400.length < 2932031007402 then (spec_diWays.l0 k2 (y397 ++ y400) t374 (t374.length : Int) (wrap64 (x17_1 + 1))) else (none)))) else (none)))) else (none))) else (none)) = some r := by first | (rw [hy384]; with_reducible exact H) | (have H2_ := (Option.bind_some _ _).symm.trans H; rw [hy384]; with_reducible exact H2_) | (have H2_ := (Option.bind_some _ _).symm.trans H; with_reducible exact H2_) | with_reducible exact H | (rw [hy384]; exact H) | exact H
                      have Ny384 := Aside0.mk hy384
                      clear hy384
                      have c20b0 := eq_true (of_decide_eq_true (by first | (with_reducible assumption) | assumption) : 0 ≤ x8_2)
                      by_cases c21 : x8_2 ≤ (x5_1.length : Int)
                      · rw [if_pos c21] at H
                        have c21b0 := eq_true c21
                        have c21b1 : decide (x8_2 ≤ (x5_1.length : Int)) = true := decide_eq_true c21
                        clear c21
                        obtain ⟨y387, hy387⟩ : ∃ y_ : List (S40), y_ = (x5_1.take (x8_2 : Int).toNat) := ⟨_, rfl⟩
                        replace H : (if y384.length + y387.length < 2932031007402 then ((some (y384 ++ y387 : List (S40))).bind fun y391 => ((some (([(⟨((rd_T40 t374 x17_1).f0), ((rd_T40 t374 x17_1).f1), ((rd_T40 t374 x17_1).f2), ((rd_T40 t374 x17_1).f3), ((rd_T40 t374 x17_1).f4), ((rd_T40 t374 x17_1).f5)⟩ : S40)] : List (S40)) : List (S40))).bind fun y394 => (if y391.length + y394.length < 2932031007402 then ((some (y391 ++ y394 : List (S40))).bind fun y397 => ((some (x5_1.drop (x8_2 : Int).toNat : List (S40))).bind fun y400 => (if y397.length + y400.length < 2932031007402 then (spec_diWays.l0 k2 (y397 ++ y400) t374 (t374.length : Int) (wrap64 (x17_1 + 1))) else (none)))) else (none)))) else (none)) = some r := by first | (rw [hy387]; with_reducible exact H) | (have H2_ := (Option.bind_some _ _).symm.trans H; rw [hy387]; with_reducible exact H2_) | (have H2_ := (Option.bind_some _ _).symm.trans H; with_reducible exact H2_) | with_reducible exact H | (rw [hy387]; exact H) | exact H
                        have Ny387 := Aside0.mk hy387
                        clear hy387
                        by_cases c22 : y384.length + y387.length < 2932031007402
                        · rw [if_pos c22] at H
                          have LMc22 := Aside0.mk c22
                          clear c22
                          obtain ⟨y391, hy391⟩ : ∃ y_ : List (S40), y_ = (y384 ++ y387) := ⟨_, rfl⟩
                          replace H : ((some (([(⟨((rd_T40 t374 x17_1).f0), ((rd_T40 t374 x17_1).f1), ((rd_T40 t374 x17_1).f2), ((rd_T40 t374 x17_1).f3), ((rd_T40 t374 x17_1).f4), ((rd_T40 t374 x17_1).f5)⟩ : S40)] : List (S40)) : List (S40))).bind fun y394 => (if y391.length + y394.length < 2932031007402 then ((some (y391 ++ y394 : List (S40))).bind fun y397 => ((some (x5_1.drop (x8_2 : Int).toNat : List (S40))).bind fun y400 => (if y397.length + y400.length < 2932031007402 then (spec_diWays.l0 k2 (y397 ++ y400) t374 (t374.length : Int) (wrap64 (x17_1 + 1))) else (none)))) else (none))) = some r := by first | (rw [hy391]; with_reducible exact H) | (have H2_ := (Option.bind_some _ _).symm.trans H; rw [hy391]; with_reducible exact H2_) | (have H2_ := (Option.bind_some _ _).symm.trans H; with_reducible exact H2_) | with_reducible exact H | (rw [hy391]; exact H) | exact H
                          have Ny391 := Aside0.mk hy391
                          clear hy391
                          obtain ⟨y394, hy394⟩ : ∃ y_ : List (S40), y_ = (([(⟨((rd_T40 t374 x17_1).f0), ((rd_T40 t374 x17_1).f1), ((rd_T40 t374 x17_1).f2), ((rd_T40 t374 x17_1).f3), ((rd_T40 t374 x17_1).f4), ((rd_T40 t374 x17_1).f5)⟩ : S40)] : List (S40))) := ⟨_, rfl⟩
                          replace H : (if y391.length + y394.length < 2932031007402 then ((some (y391 ++ y394 : List (S40))).bind fun y397 => ((some (x5_1.drop (x8_2 : Int).toNat : List (S40))).bind fun y400 => (if y397.length + y400.length < 2932031007402 then (spec_diWays.l0 k2 (y397 ++ y400) t374 (t374.length : Int) (wrap64 (x17_1 + 1))) else (none)))) else (none)) = some r := by first | (rw [hy394]; with_reducible exact H) | (have H2_ := (Option.bind_some _ _).symm.trans H; rw [hy394]; with_reducible exact H2_) | (have H2_ := (Option.bind_some _ _).symm.trans H; with_reducible exact H2_) | with_reducible exact H | (rw [hy394]; exact H) | exact H
                          have Ny394 := Aside0.mk hy394
                          clear hy394
                          by_cases c23 : y391.length + y394.length < 2932031007402
                          · rw [if_pos c23] at H
                            have LMc23 := Aside0.mk c23
                            clear c23
                            obtain ⟨y397, hy397⟩ : ∃ y_ : List (S40), y_ = (y391 ++ y394) := ⟨_, rfl⟩
                            replace H : ((some (x5_1.drop (x8_2 : Int).toNat : List (S40))).bind fun y400 => (if y397.length + y400.length < 2932031007402 then (spec_diWays.l0 k2 (y397 ++ y400) t374 (t374.length : Int) (wrap64 (x17_1 + 1))) else (none))) = some r := by first | (rw [hy397]; with_reducible exact H) | (have H2_ := (Option.bind_some _ _).symm.trans H; rw [hy397]; with_reducible exact H2_) | (have H2_ := (Option.bind_some _ _).symm.trans H; with_reducible exact H2_) | with_reducible exact H | (rw [hy397]; exact H) | exact H
                            have Ny397 := Aside0.mk hy397
                            clear hy397
                            have c24b0 := eq_true (of_decide_eq_true (by first | (with_reducible assumption) | assumption) : 0 ≤ x8_2)
                            have c25b0 := eq_true (of_decide_eq_true (by first | (with_reducible assumption) | assumption) : x8_2 ≤ (x5_1.length : Int))
                            obtain ⟨y400, hy400⟩ : ∃ y_ : List (S40), y_ = (x5_1.drop (x8_2 : Int).toNat) := ⟨_, rfl⟩
                            replace H : (if y397.length + y400.length < 2932031007402 then (spec_diWays.l0 k2 (y397 ++ y400) t374 (t374.length : Int) (wrap64 (x17_1 + 1))) else (none)) = some r := by first | (rw [hy400]; with_reducible exact H) | (have H2_ := (Option.bind_some _ _).symm.trans H; rw [hy400]; with_reducible exact H2_) | (have H2_ := (Option.bind_some _ _).symm.trans H; with_reducible exact H2_) | with_reducible exact H | (rw [hy400]; exact H) | exact H
                            have Ny400 := Aside0.mk hy400
                            clear hy400
                            by_cases c26 : y397.length + y400.length < 2932031007402
                            · rw [if_pos c26] at H
                              have LMc26 := Aside0.mk c26
                              clear c26
                              obtain ⟨y404, hy404⟩ : ∃ y_ : List (S40), y_ = (y397 ++ y400) := ⟨_, rfl⟩
                              replace H : (spec_diWays.l0 k2 y404 t374 (t374.length : Int) (wrap64 (x17_1 + 1))) = some r := by first | (rw [hy404]; with_reducible exact H) | (have H2_ := (Option.bind_some _ _).symm.trans H; rw [hy404]; with_reducible exact H2_) | (have H2_ := (Option.bind_some _ _).symm.trans H; with_reducible exact H2_) | with_reducible exact H | (rw [hy404]; exact H) | exact H
                              have Ny404 := Aside0.mk hy404
                              clear hy404
                              have H' := Aside0.mk H
                              clear H
                              try go_wp2
                              have n0_ := Aside0.mk (Kd.R_drew HO_5.out)
                              have n1_ := Aside0.mk (Kd.R_drew HO_13.out)
                              have n2_ := Aside0.mk (blk_drew BK373.out)
                              have n3_ := Aside0.mk (blk_drew BK381.out)
                              have n4_ := Aside0.mk (below_drew1 HB.out)
                              clear HO_5
                              clear HO_13
                              clear BK373
                              clear BK381
                              clear HB
                              have HO_5 := n0_
                              have HO_13 := n1_
                              have BK373 := n2_
                              have BK381 := n3_
                              have HB := n4_
                              clear n0_ n1_ n2_ n3_ n4_
                              obtain ⟨Ao28, co28, eo28⟩ := Kd.R_slice HO_5.out
                              (first | subst eo28 | (injection eo28 with f1_ f2_ f3_; have f4_ := f1_.symm; have f5_ := f3_.symm; clear f1_ f2_ f3_; subst f4_; subst f5_))
                              have p382 : 0 ≤ (x8_2 : Int) := of_decide_eq_true (by first | (with_reducible assumption) | assumption)
                              have q382 : x8_2 < (x5_1.length : Int) := of_decide_eq_true (by first | (with_reducible assumption) | assumption)
                              obtain ⟨ad382, e382, hx382_0, hx382_1, hx382_2, hx382_3, hx382_4, hx382_5⟩ := at_T40 (Kd.R_reads' HO_5.out).2.2 x8_2 p382 q382
                              cases e382
                              replace p382 := eq_true p382
                              replace q382 := eq_true q382
                              refine start_ (n := 12) (S := fun w' => w'.cell? ⟨gb381, 0, none⟩ = some (.int .i64 ((rd_T40 t374 x17_1).f0)) ∧ w'.cell? ⟨gb381, 1, none⟩ = some (.int .i64 ((rd_T40 t374 x17_1).f1)) ∧ w'.cell? ⟨gb381, 2, none⟩ = some (.int .i64 ((rd_T40 t374 x17_1).f2)) ∧ w'.cell? ⟨gb381, 3, none⟩ = some (.int .i64 ((rd_T40 t374 x17_1).f3)) ∧ w'.cell? ⟨gb381, 4, none⟩ = some (.int .i64 ((rd_T40 t374 x17_1).f4)) ∧ w'.cell? ⟨gb381, 5, none⟩ = some (.int .i64 ((rd_T40 t374 x17_1).f5)) ∧ w'.cell? (ad382.add ((x8_2).toNat * 6)) = some (.int .i64 ((rd_T40 x5_1 x8_2).f0)) ∧ w'.cell? ⟨(ad382.add ((x8_2).toNat * 6)).block, (ad382.add ((x8_2).toNat * 6)).off + 1, none⟩ = some (.int .i64 ((rd_T40 x5_1 x8_2).f1)) ∧ w'.cell? ⟨(ad382.add ((x8_2).toNat * 6)).block, (ad382.add ((x8_2).toNat * 6)).off + 2, none⟩ = some (.int .i64 ((rd_T40 x5_1 x8_2).f2)) ∧ w'.cell? ⟨(ad382.add ((x8_2).toNat * 6)).block, (ad382.add ((x8_2).toNat * 6)).off + 3, none⟩ = some (.int .i64 ((rd_T40 x5_1 x8_2).f3)) ∧ w'.cell? ⟨(ad382.add ((x8_2).toNat * 6)).block, (ad382.add ((x8_2).toNat * 6)).off + 4, none⟩ = some (.int .i64 ((rd_T40 x5_1 x8_2).f4)) ∧ w'.cell? ⟨(ad382.add ((x8_2).toNat * 6)).block, (ad382.add ((x8_2).toNat * 6)).off + 5, none⟩ = some (.int .i64 ((rd_T40 x5_1 x8_2).f5))) (ds := []) #[false, false, false, false, false, false, false, false, false, false, false, false] (by kernel_rfl) rfl rfl ⟨(blk_cell BK381.out 0).trans rfl, (blk_cell BK381.out 1).trans rfl, (blk_cell BK381.out 2).trans rfl, (blk_cell BK381.out 3).trans rfl, (blk_cell BK381.out 4).trans rfl, (blk_cell BK381.out 5).trans rfl, hx382_0, hx382_1, hx382_2, hx382_3, hx382_4, hx382_5⟩ (fun hHeld => ?_); refine with_tabW spec_diWays.tab7 spec_diWays.bits7 (fun HT_ HW_ => ?_)
                              generalize wr.drew = w27 at HO_5 HO_13 BK373 BK381 HB hx382_0 hx382_1 hx382_2 hx382_3 hx382_4 hx382_5 hHeld ⊢
                              refine pure_ (i := 0) (N := some 21) (v := ?_) (a' := ?_) #[true, false, false, false, false, false, false, false, false, false, false, false] rfl rfl (any_of HT_.out (by kernel_rfl)) (fun _ _ _ h => h) (Or.inl ⟨by rfl, ?_⟩) ?_ ?_
                              rotate_left
                              · intro w'
                                go_simp
                                first | (with_reducible rfl) | (rw [if_neg (by simp only [ByteArray.size_extract, ByteArray.size_append] at * <;> omega)]; try with_reducible rfl)
                              rotate_left
                              · simp only [Act.put, List.setIfInBounds_toArray, List.set_cons_zero, List.set_cons_succ, i64_w, i32_w]
                                rfl
                              refine pure_ (i := 1) (N := some 22) (v := ?_) (a' := ?_) #[true, true, false, false, false, false, false, false, false, false, false, false] rfl rfl (any_of HT_.out (by kernel_rfl)) (fun _ _ _ h => h) (Or.inl ⟨by rfl, ?_⟩) ?_ ?_
                              rotate_left
                              · intro w'
                                go_simp
                                first | (with_reducible rfl) | (rw [if_neg (by simp only [ByteArray.size_extract, ByteArray.size_append] at * <;> omega)]; try with_reducible rfl)
                              rotate_left
                              · simp only [Act.put, List.setIfInBounds_toArray, List.set_cons_zero, List.set_cons_succ, i64_w, i32_w]
                                rfl
                              refine pure_ (i := 2) (N := some 23) (v := ?_) (a' := ?_) #[true, true, true, false, false, false, false, false, false, false, false, false] rfl rfl (any_of HT_.out (by kernel_rfl)) (fun _ _ _ h => h) (Or.inl ⟨by rfl, ?_⟩) ?_ ?_
                              rotate_left
                              · intro w'
                                go_simp
                                first | (with_reducible rfl) | (rw [if_neg (by simp only [ByteArray.size_extract, ByteArray.size_append] at * <;> omega)]; try with_reducible rfl)
                              rotate_left
                              · simp only [Act.put, List.setIfInBounds_toArray, List.set_cons_zero, List.set_cons_succ, i64_w, i32_w]
                                rfl
                              refine pure_ (i := 3) (N := some 24) (v := ?_) (a' := ?_) #[true, true, true, true, false, false, false, false, false, false, false, false] rfl rfl (any_of HT_.out (by kernel_rfl)) (fun _ _ _ h => h) (Or.inl ⟨by rfl, ?_⟩) ?_ ?_
                              rotate_left
                              · intro w'
                                go_simp
                                first | (with_reducible rfl) | (rw [if_neg (by simp only [ByteArray.size_extract, ByteArray.size_append] at * <;> omega)]; try with_reducible rfl)
                              rotate_left
                              · simp only [Act.put, List.setIfInBounds_toArray, List.set_cons_zero, List.set_cons_succ, i64_w, i32_w]
                                rfl
                              refine pure_ (i := 4) (N := some 25) (v := ?_) (a' := ?_) #[true, true, true, true, true, false, false, false, false, false, false, false] rfl rfl (any_of HT_.out (by kernel_rfl)) (fun _ _ _ h => h) (Or.inl ⟨by rfl, ?_⟩) ?_ ?_
                              rotate_left
                              · intro w'
                                go_simp
                                first | (with_reducible rfl) | (rw [if_neg (by simp only [ByteArray.size_extract, ByteArray.size_append] at * <;> omega)]; try with_reducible rfl)
                              rotate_left
                              · simp only [Act.put, List.setIfInBounds_toArray, List.set_cons_zero, List.set_cons_succ, i64_w, i32_w]
                                rfl
                              refine pure_ (i := 5) (N := some 26) (v := ?_) (a' := ?_) #[true, true, true, true, true, true, false, false, false, false, false, false] rfl rfl (any_of HT_.out (by kernel_rfl)) (fun _ _ _ h => h) (Or.inl ⟨by rfl, ?_⟩) ?_ ?_
                              rotate_left
                              · intro w'
                                go_simp
                                first | (with_reducible rfl) | (rw [if_neg (by simp only [ByteArray.size_extract, ByteArray.size_append] at * <;> omega)]; try with_reducible rfl)
                              rotate_left
                              · simp only [Act.put, List.setIfInBounds_toArray, List.set_cons_zero, List.set_cons_succ, i64_w, i32_w]
                                rfl
                              refine pure_ (i := 6) (N := some 27) (v := ?_) (a' := ?_) #[true, true, true, true, true, true, true, false, false, false, false, false] rfl rfl (any_of HT_.out (by kernel_rfl)) (fun _ _ _ h => h) (Or.inl ⟨by rfl, ?_⟩) ?_ ?_
                              rotate_left
                              · intro w'
                                go_simp
                                first | (with_reducible rfl) | (rw [if_neg (by simp only [ByteArray.size_extract, ByteArray.size_append] at * <;> omega)]; try with_reducible rfl)
                              rotate_left
                              · simp only [Act.put, List.setIfInBounds_toArray, List.set_cons_zero, List.set_cons_succ, i64_w, i32_w]
                                rfl
                              refine pure_ (i := 7) (N := some 28) (v := ?_) (a' := ?_) #[true, true, true, true, true, true, true, true, false, false, false, false] rfl rfl (any_of HT_.out (by kernel_rfl)) (fun _ _ _ h => h) (Or.inl ⟨by rfl, ?_⟩) ?_ ?_
                              rotate_left
                              · intro w'
                                go_simp
                                first | (with_reducible rfl) | (rw [if_neg (by simp only [ByteArray.size_extract, ByteArray.size_append] at * <;> omega)]; try with_reducible rfl)
                              rotate_left
                              · simp only [Act.put, List.setIfInBounds_toArray, List.set_cons_zero, List.set_cons_succ, i64_w, i32_w]
                                rfl
                              refine take_ (i := 8) (N := some 29) (v := ?_) (a' := ?_) #[true, true, true, true, true, true, true, true, true, false, false, false] rfl rfl (take_ofW HT_.out HW_.out (by kernel_rfl)) (fun _ _ _ h => h) (Or.inl ⟨by rfl, ?_⟩) hHeld ?_ ?_
                              rotate_left
                              · rintro w' ⟨s0, s1, s2, s3, s4, s5, s6, s7, s8, s9, s10, s11⟩
                                go_simp
                                first | (with_reducible rfl) | (rw [if_neg (by simp only [ByteArray.size_extract, ByteArray.size_append] at * <;> omega)]; try with_reducible rfl)
                              rotate_left
                              · simp only [Act.put, List.setIfInBounds_toArray, List.set_cons_zero, List.set_cons_succ, i64_w, i32_w]
                                rfl
                              refine take_ (i := 9) (N := some 30) (v := ?_) (a' := ?_) #[true, true, true, true, true, true, true, true, true, true, false, false] rfl rfl (take_ofW HT_.out HW_.out (by kernel_rfl)) (fun _ _ _ h => h) (Or.inl ⟨by rfl, ?_⟩) hHeld ?_ ?_
                              rotate_left
                              · rintro w' ⟨s0, s1, s2, s3, s4, s5, s6, s7, s8, s9, s10, s11⟩
                                go_simp
                                first | (with_reducible rfl) | (rw [if_neg (by simp only [ByteArray.size_extract, ByteArray.size_append] at * <;> omega)]; try with_reducible rfl)
                              rotate_left
                              · simp only [Act.put, List.setIfInBounds_toArray, List.set_cons_zero, List.set_cons_succ, i64_w, i32_w]
                                rfl
                              refine one_ (i := 10) (N := some 31) #[true, true, true, true, true, true, true, true, true, true, true, false] rfl rfl (one_of HT_.out (by kernel_rfl)) (by decide) (fun K hK => ?_)
                              refine goes_ Try.func97 (by kernel_rfl) rfl #[.agg #[.int .i64 ((rd_T40 x5_1 x8_2).f0), .int .i64 ((rd_T40 x5_1 x8_2).f1), .int .i64 ((rd_T40 x5_1 x8_2).f2), .int .i64 ((rd_T40 x5_1 x8_2).f3), .int .i64 ((rd_T40 x5_1 x8_2).f4), .int .i64 ((rd_T40 x5_1 x8_2).f5)], .agg #[.int .i64 ((rd_T40 t374 x17_1).f0), .int .i64 ((rd_T40 t374 x17_1).f1), .int .i64 ((rd_T40 t374 x17_1).f2), .int .i64 ((rd_T40 t374 x17_1).f3), .int .i64 ((rd_T40 t374 x17_1).f4), .int .i64 ((rd_T40 t374 x17_1).f5)]] (by rfl) rfl rfl (by (try simp only [List.map_toArray, List.map_cons, List.map_nil]); first | done | rfl | (simp only [List.length_drop, List.length_take]; rfl)) ?_
                              with_reducible refine (spec_diLess.calls k2 ((rd_T40 x5_1 x8_2).f0) ((rd_T40 x5_1 x8_2).f1) ((rd_T40 x5_1 x8_2).f2) ((rd_T40 x5_1 x8_2).f3) ((rd_T40 x5_1 x8_2).f4) ((rd_T40 x5_1 x8_2).f5) ((rd_T40 t374 x17_1).f0) ((rd_T40 t374 x17_1).f1) ((rd_T40 t374 x17_1).f2) ((rd_T40 t374 x17_1).f3) ((rd_T40 t374 x17_1).f4) ((rd_T40 t374 x17_1).f5) false _ A15.out).mono ?_
                              rintro e w29 ⟨rfl, hb⟩
                              have HS6_ := (hb.cell (World.block_lt_of_cell? _ _ (hHeld.2.2.2.2.2.2.1))).trans (hHeld.2.2.2.2.2.2.1)
                              have HS7_ := (hb.cell (World.block_lt_of_cell? _ _ (hHeld.2.2.2.2.2.2.2.1))).trans (hHeld.2.2.2.2.2.2.2.1)
                              have HS8_ := (hb.cell (World.block_lt_of_cell? _ _ (hHeld.2.2.2.2.2.2.2.2.1))).trans (hHeld.2.2.2.2.2.2.2.2.1)
                              have HS9_ := (hb.cell (World.block_lt_of_cell? _ _ (hHeld.2.2.2.2.2.2.2.2.2.1))).trans (hHeld.2.2.2.2.2.2.2.2.2.1)
                              have HS10_ := (hb.cell (World.block_lt_of_cell? _ _ (hHeld.2.2.2.2.2.2.2.2.2.2.1))).trans (hHeld.2.2.2.2.2.2.2.2.2.2.1)
                              have HS11_ := (hb.cell (World.block_lt_of_cell? _ _ (hHeld.2.2.2.2.2.2.2.2.2.2.2))).trans (hHeld.2.2.2.2.2.2.2.2.2.2.2)
                              refine ⟨_, rfl, ?_⟩
                              have n0_ := Aside0.mk (Kd.R_below (by (with_reducible repeat (first | apply Kd.R_alloc | apply Kd.R_drewN | apply Kd.R_drew)); exact HO_5.out) hb)
                              have n1_ := Aside0.mk (Kd.R_below (by (with_reducible repeat (first | apply Kd.R_alloc | apply Kd.R_drewN | apply Kd.R_drew)); exact HO_13.out) hb)
                              have n2_ := Aside0.mk (blk_below (g := gb373) (o := .cells #[.int .i64 a0_0, .int .i64 a0_1, .int .i64 a0_2, .int .i64 a0_3, .int .i64 a0_4, .int .i64 a0_5] 40 (0, 0)) (by (with_reducible repeat (first | refine blk_drewN ?_ _ | refine blk_drew ?_ | refine blk_alloc ?_ _)); exact BK373.out) hb)
                              have n3_ := Aside0.mk (blk_below (g := gb381) (o := .cells #[.int .i64 ((rd_T40 t374 x17_1).f0), .int .i64 ((rd_T40 t374 x17_1).f1), .int .i64 ((rd_T40 t374 x17_1).f2), .int .i64 ((rd_T40 t374 x17_1).f3), .int .i64 ((rd_T40 t374 x17_1).f4), .int .i64 ((rd_T40 t374 x17_1).f5)] 40 (0, 0)) (by (with_reducible repeat (first | refine blk_drewN ?_ _ | refine blk_drew ?_ | refine blk_alloc ?_ _)); exact BK381.out) hb)
                              have n4_ := Aside0.mk (below_step (by repeat (first | (with_reducible first | exact HB.out | apply below_alloc | apply pw_below_drewN | apply below_drew1 | refine below_set ?_ GE373.out | refine below_set ?_ GE381.out) | exact HB.out)) hb)
                              clear HO_5
                              clear HO_13
                              clear BK373
                              clear BK381
                              clear HB
                              have HO_5 := n0_
                              have HO_13 := n1_
                              have BK373 := n2_
                              have BK381 := n3_
                              have HB := n4_
                              clear n0_ n1_ n2_ n3_ n4_
                              (try clear hb)
                              (try clear hb2)
                              (try clear hk)
                              (try clear hi)
                              refine hK.out _ _ ⟨(blk_cell BK381.out 0).trans rfl, (blk_cell BK381.out 1).trans rfl, (blk_cell BK381.out 2).trans rfl, (blk_cell BK381.out 3).trans rfl, (blk_cell BK381.out 4).trans rfl, (blk_cell BK381.out 5).trans rfl, HS6_, HS7_, HS8_, HS9_, HS10_, HS11_⟩ (fun hHeld => ?_)
                              clear hK K
                              refine norm_ (a' := ?_) ?_ ?_
                              rotate_left
                              · show Act.put _ (some 31) _ = _
                                simp only [Act.put, List.setIfInBounds_toArray, List.set_cons_zero, List.set_cons_succ, i64_w, i32_w]
                                rfl
                              refine pure_ (i := 11) (N := some 32) (v := ?_) (a' := ?_) #[true, true, true, true, true, true, true, true, true, true, true, true] rfl rfl (any_of HT_.out (by kernel_rfl)) (fun _ _ _ h => h) (Or.inl ⟨by rfl, ?_⟩) ?_ ?_
                              rotate_left
                              · intro w'
                                go_simp
                                first | (with_reducible rfl) | (rw [if_neg (by simp only [ByteArray.size_extract, ByteArray.size_append] at * <;> omega)]; try with_reducible rfl)
                              rotate_left
                              · simp only [Act.put, List.setIfInBounds_toArray, List.set_cons_zero, List.set_cons_succ, i64_w, i32_w]
                                rfl
                              refine done_ (done_of HT_.out (by kernel_rfl)) ?_
                              try go_wp2
                              have n0_ := Aside0.mk (Kd.R_drew HO_5.out)
                              have n1_ := Aside0.mk (Kd.R_drew HO_13.out)
                              have n2_ := Aside0.mk (blk_drew BK373.out)
                              have n3_ := Aside0.mk (blk_drew BK381.out)
                              have n4_ := Aside0.mk (below_drew1 HB.out)
                              clear HO_5
                              clear HO_13
                              clear BK373
                              clear BK381
                              clear HB
                              have HO_5 := n0_
                              have HO_13 := n1_
                              have BK373 := n2_
                              have BK381 := n3_
                              have HB := n4_
                              clear n0_ n1_ n2_ n3_ n4_
                              have q31 : (x8_2 : Int) ≤ ((x5_1.length : Int) : Int) := of_decide_eq_true (by first | (with_reducible assumption) | assumption)
                              obtain ⟨i031, hi031, _, hsz31, _⟩ := info_parts info40
                              have hroom31 : x5_1.length ≤ co28 := (Kd.R_reads' HO_5.out).2.1
                              have hC31 : Kd.C k40 _ (some ad382) x5_1.length x5_1 := (Kd.R_reads' HO_5.out).2.2
                              have hcut31 := cut_to (P := Try.prog) 55 40 .i64 Try.underlying55 hi031 (some ad382) x5_1.length co28 x8_2 (of_decide_eq_true (by first | (with_reducible assumption) | assumption)) q31 hroom31
                              have hr31 := Kd.C_take (m := (x8_2 : Int).toNat) hC31 (by omega)
                              have hy31 : y387.length = (x8_2 : Int).toNat := (by rw [Ny387.out, List.length_take]; omega)
                              rw [← Ny387.out] at hr31
                              rw [← hy31] at hcut31
                              have HR390 := Aside0.mk hr31
                              have HC390 := Aside0.mk (show y387.length ≤ co28 from by omega)
                              clear hr31 hC31 hroom31 hi031 hsz31
                              have KY31 := Aside0.mk hy31
                              clear hy31
                              have KL31 := Aside0.mk (show (x8_2 : Int).toNat ≤ x5_1.length from by omega)
                              replace q31 := eq_true q31
                              refine start_ (n := 9) (S := fun w' => w'.cell? ⟨gb381, 0, none⟩ = some (.int .i64 ((rd_T40 t374 x17_1).f0)) ∧ w'.cell? ⟨gb381, 1, none⟩ = some (.int .i64 ((rd_T40 t374 x17_1).f1)) ∧ w'.cell? ⟨gb381, 2, none⟩ = some (.int .i64 ((rd_T40 t374 x17_1).f2)) ∧ w'.cell? ⟨gb381, 3, none⟩ = some (.int .i64 ((rd_T40 t374 x17_1).f3)) ∧ w'.cell? ⟨gb381, 4, none⟩ = some (.int .i64 ((rd_T40 t374 x17_1).f4)) ∧ w'.cell? ⟨gb381, 5, none⟩ = some (.int .i64 ((rd_T40 t374 x17_1).f5))) (ds := []) #[false, false, false, false, false, false, false, false, false] (by kernel_rfl) rfl rfl ⟨(blk_cell BK381.out 0).trans rfl, (blk_cell BK381.out 1).trans rfl, (blk_cell BK381.out 2).trans rfl, (blk_cell BK381.out 3).trans rfl, (blk_cell BK381.out 4).trans rfl, (blk_cell BK381.out 5).trans rfl⟩ (fun hHeld => ?_); refine with_tabW spec_diWays.tab9 spec_diWays.bits9 (fun HT_ HW_ => ?_)
                              generalize w29.drew = w30 at HO_5 HO_13 BK373 BK381 HB HR390 hHeld ⊢
                              refine pure_ (i := 1) (N := some 36) (v := ?_) (a' := ?_) #[false, true, false, false, false, false, false, false, false] rfl rfl (any_of HT_.out (by kernel_rfl)) (fun _ _ _ h => h) (Or.inl ⟨by rfl, ?_⟩) ?_ ?_
                              rotate_left
                              · intro w'
                                go_simp
                                first | (with_reducible rfl) | (rw [if_neg (by simp only [ByteArray.size_extract, ByteArray.size_append] at * <;> omega)]; try with_reducible rfl)
                              rotate_left
                              · simp only [Act.put, List.setIfInBounds_toArray, List.set_cons_zero, List.set_cons_succ, i64_w, i32_w]
                                rfl
                              refine pure_ (i := 2) (N := some 37) (v := ?_) (a' := ?_) #[false, true, true, false, false, false, false, false, false] rfl rfl (any_of HT_.out (by kernel_rfl)) (fun _ _ _ h => h) (Or.inl ⟨by rfl, ?_⟩) ?_ ?_
                              rotate_left
                              · intro w'
                                go_simp
                                first | (with_reducible rfl) | (rw [if_neg (by simp only [ByteArray.size_extract, ByteArray.size_append] at * <;> omega)]; try with_reducible rfl)
                              rotate_left
                              · simp only [Act.put, List.setIfInBounds_toArray, List.set_cons_zero, List.set_cons_succ, i64_w, i32_w]
                                rfl
                              refine pure_ (i := 3) (N := some 38) (v := ?_) (a' := ?_) #[false, true, true, true, false, false, false, false, false] rfl rfl (any_of HT_.out (by kernel_rfl)) (fun _ _ _ h => h) (Or.inl ⟨by rfl, ?_⟩) ?_ ?_
                              rotate_left
                              · intro w'
                                go_simp
                                first | (with_reducible rfl) | (rw [if_neg (by simp only [ByteArray.size_extract, ByteArray.size_append] at * <;> omega)]; try with_reducible rfl)
                              rotate_left
                              · simp only [Act.put, List.setIfInBounds_toArray, List.set_cons_zero, List.set_cons_succ, i64_w, i32_w]
                                rfl
                              refine take_ (i := 5) (N := some 40) (v := ?_) (a' := ?_) #[false, true, true, true, false, true, false, false, false] rfl rfl (take_ofW HT_.out HW_.out (by kernel_rfl)) (fun _ _ _ h => h) (Or.inl ⟨by rfl, ?_⟩) hHeld ?_ ?_
                              rotate_left
                              · rintro w' ⟨s0, s1, s2, s3, s4, s5⟩
                                go_simp
                                first | (with_reducible rfl) | (rw [if_neg (by simp only [ByteArray.size_extract, ByteArray.size_append] at * <;> omega)]; try with_reducible rfl)
                              rotate_left
                              · simp only [Act.put, List.setIfInBounds_toArray, List.set_cons_zero, List.set_cons_succ, i64_w, i32_w]
                                rfl
                              refine join_ (σ := Value × Value × Value) 2 #[true, true, true, true, true, true, true, false, false] (fun s_ => [(35, s_.1), (39, s_.2.1), (41, s_.2.2)]) (fun s_ w' => (w'.cell? ⟨gb381, 0, none⟩ = some (.int .i64 ((rd_T40 t374 x17_1).f0)) ∧ w'.cell? ⟨gb381, 1, none⟩ = some (.int .i64 ((rd_T40 t374 x17_1).f1)) ∧ w'.cell? ⟨gb381, 2, none⟩ = some (.int .i64 ((rd_T40 t374 x17_1).f2)) ∧ w'.cell? ⟨gb381, 3, none⟩ = some (.int .i64 ((rd_T40 t374 x17_1).f3)) ∧ w'.cell? ⟨gb381, 4, none⟩ = some (.int .i64 ((rd_T40 t374 x17_1).f4)) ∧ w'.cell? ⟨gb381, 5, none⟩ = some (.int .i64 ((rd_T40 t374 x17_1).f5))) ∧ (Kd.R k40 40 w' w.heap.size (fun k_ => some k_ ≠ (s_.2.2 : Value).ownBlock ∧ some k_ ≠ (.slice (some ad380) t374.length co6 : Value).ownBlock ∧ some k_ ≠ (.slice (some ad382) x5_1.length co28 : Value).ownBlock ∧ k_ ≠ gb373 ∧ k_ ≠ gb381) s_.2.1 y391) ∧ (Kd.R k40 40 w' w.heap.size (fun k_ => some k_ ≠ (s_.2.1 : Value).ownBlock ∧ some k_ ≠ (.slice (some ad380) t374.length co6 : Value).ownBlock ∧ some k_ ≠ (.slice (some ad382) x5_1.length co28 : Value).ownBlock ∧ k_ ≠ gb373 ∧ k_ ≠ gb381) s_.2.2 y394) ∧ (Kd.R k40 40 w' w.heap.size (fun k_ => some k_ ≠ (s_.2.1 : Value).ownBlock ∧ some k_ ≠ (s_.2.2 : Value).ownBlock ∧ some k_ ≠ (.slice (some ad382) x5_1.length co28 : Value).ownBlock ∧ k_ ≠ gb373 ∧ k_ ≠ gb381) (.slice (some ad380) t374.length co6) t374) ∧ (Kd.R k40 40 w' w.heap.size (fun k_ => some k_ ≠ (s_.2.1 : Value).ownBlock ∧ some k_ ≠ (s_.2.2 : Value).ownBlock ∧ some k_ ≠ (.slice (some ad380) t374.length co6 : Value).ownBlock ∧ k_ ≠ gb373 ∧ k_ ≠ gb381) (.slice (some ad382) x5_1.length co28) x5_1) ∧ (w'.heap[gb373]? = some (.cells #[.int .i64 a0_0, .int .i64 a0_1, .int .i64 a0_2, .int .i64 a0_3, .int .i64 a0_4, .int .i64 a0_5] 40 (0, 0))) ∧ (w'.heap[gb381]? = some (.cells #[.int .i64 ((rd_T40 t374 x17_1).f0), .int .i64 ((rd_T40 t374 x17_1).f1), .int .i64 ((rd_T40 t374 x17_1).f2), .int .i64 ((rd_T40 t374 x17_1).f3), .int .i64 ((rd_T40 t374 x17_1).f4), .int .i64 ((rd_T40 t374 x17_1).f5)] 40 (0, 0))) ∧ (Below w.heap.size w w')) ?_ ?_
                              rotate_left
                              · intro hCont
                                refine two_ (i := 0) (j := 6) (Ni := some 35) (Nj := some 41) #[true, true, true, true, false, true, false, false, false] #[false, true, true, true, false, true, true, false, false] rfl rfl rfl rfl (two_of HT_.out (by kernel_rfl)) (by decide) (by decide) (fun K hK => ?_) (fun K hK => ?_)
                                · skip
                                  refine Kd.R_lit_step k40 _ 40 ?hg (N := 35) ?hd (xs := ([] : List (S40))) (inner := []) (ok := fun _ => True) (okp := fun _ => True) ?hr ?hp (fun _ hk => hk) trivial (Below.refl _ _) (Nat.le_refl _) (by simp) ?_; (case hd => rfl); (case hg => rfl); (case hr => first | (go_simp; done) | (go_simp; rfl)); (case hp => exact (Reps.none _ _))
                                  intro v385 w32 ho33 hb hg_ hnew_
                                  clear hg_ hnew_
                                  (first | rw [← Ny384.out] at ho33 | (simp only [Int.reduceToNat] at ho33; rw [← Ny384.out] at ho33))
                                  have n0_ := Aside0.mk (Kd.R_elder' (by (with_reducible repeat (first | apply Kd.R_alloc | apply Kd.R_drewN | apply Kd.R_drew)); exact HO_5.out) (Kd.R_base ho33) hb)
                                  have n1_ := Aside0.mk (Kd.R_elder' (by (with_reducible repeat (first | apply Kd.R_alloc | apply Kd.R_drewN | apply Kd.R_drew)); exact HO_13.out) (Kd.R_base ho33) hb)
                                  have n2_ := Aside0.mk (Kd.R_lower (Kd.R_newB (Kd.R_newB (Kd.R_new' (Kd.R_new' ho33 (Kd.R_lt (by (with_reducible repeat (first | apply Kd.R_alloc | apply Kd.R_drewN | apply Kd.R_drew)); exact HO_5.out))) (Kd.R_lt (by (with_reducible repeat (first | apply Kd.R_alloc | apply Kd.R_drewN | apply Kd.R_drew)); exact HO_13.out))) (g := gb373) (o := .cells #[.int .i64 a0_0, .int .i64 a0_1, .int .i64 a0_2, .int .i64 a0_3, .int .i64 a0_4, .int .i64 a0_5] 40 (0, 0)) (by (with_reducible repeat (first | refine blk_drewN ?_ _ | refine blk_drew ?_ | refine blk_alloc ?_ _)); exact BK373.out)) (g := gb381) (o := .cells #[.int .i64 ((rd_T40 t374 x17_1).f0), .int .i64 ((rd_T40 t374 x17_1).f1), .int .i64 ((rd_T40 t374 x17_1).f2), .int .i64 ((rd_T40 t374 x17_1).f3), .int .i64 ((rd_T40 t374 x17_1).f4), .int .i64 ((rd_T40 t374 x17_1).f5)] 40 (0, 0)) (by (with_reducible repeat (first | refine blk_drewN ?_ _ | refine blk_drew ?_ | refine blk_alloc ?_ _)); exact BK381.out)) (below_size (by repeat (first | (with_reducible first | exact HB.out | apply below_alloc | apply pw_below_drewN | apply below_drew1 | refine below_set ?_ GE373.out | refine below_set ?_ GE381.out) | exact HB.out))))
                                  have n3_ := Aside0.mk (blk_below (g := gb373) (o := .cells #[.int .i64 a0_0, .int .i64 a0_1, .int .i64 a0_2, .int .i64 a0_3, .int .i64 a0_4, .int .i64 a0_5] 40 (0, 0)) (by (with_reducible repeat (first | refine blk_drewN ?_ _ | refine blk_drew ?_ | refine blk_alloc ?_ _)); exact BK373.out) hb)
                                  have n4_ := Aside0.mk (blk_below (g := gb381) (o := .cells #[.int .i64 ((rd_T40 t374 x17_1).f0), .int .i64 ((rd_T40 t374 x17_1).f1), .int .i64 ((rd_T40 t374 x17_1).f2), .int .i64 ((rd_T40 t374 x17_1).f3), .int .i64 ((rd_T40 t374 x17_1).f4), .int .i64 ((rd_T40 t374 x17_1).f5)] 40 (0, 0)) (by (with_reducible repeat (first | refine blk_drewN ?_ _ | refine blk_drew ?_ | refine blk_alloc ?_ _)); exact BK381.out) hb)
                                  have n5_ := Aside0.mk (Kd.C_below (by repeat (first | (with_reducible exact HR390.out) | (with_reducible refine Kd.C_alloc ?_ _) | (with_reducible refine Kd.C_drewN ?_ _) | (with_reducible refine Kd.C_drew ?_) | exact HR390.out)) hb)
                                  have n6_ := Aside0.mk (below_step (by repeat (first | (with_reducible first | exact HB.out | apply below_alloc | apply pw_below_drewN | apply below_drew1 | refine below_set ?_ GE373.out | refine below_set ?_ GE381.out) | exact HB.out)) hb)
                                  clear HO_5
                                  clear HO_13
                                  clear BK373
                                  clear BK381
                                  clear HR390
                                  clear HB
                                  have HO_5 := n0_
                                  have HO_13 := n1_
                                  have HO386 := n2_
                                  have BK373 := n3_
                                  have BK381 := n4_
                                  have HR390 := n5_
                                  have HB := n6_
                                  clear n0_ n1_ n2_ n3_ n4_ n5_ n6_
                                  clear hb ho33
                                  refine hK.out _ _ ⟨(blk_cell BK381.out 0).trans rfl, (blk_cell BK381.out 1).trans rfl, (blk_cell BK381.out 2).trans rfl, (blk_cell BK381.out 3).trans rfl, (blk_cell BK381.out 4).trans rfl, (blk_cell BK381.out 5).trans rfl⟩ (fun hHeld => ?_)
                                  clear hK K
                                  refine norm_ (a' := ?_) ?_ ?_
                                  rotate_left
                                  · show Act.put _ (some 35) _ = _
                                    simp only [Act.put, List.setIfInBounds_toArray, List.set_cons_zero, List.set_cons_succ, i64_w, i32_w]
                                    rfl
                                  refine two_ (i := 4) (j := 6) (Ni := some 39) (Nj := some 41) #[true, true, true, true, true, true, false, false, false] #[true, true, true, true, false, true, true, false, false] rfl rfl rfl rfl (two_of HT_.out (by kernel_rfl)) (by decide) (by decide) (fun K hK => ?_) (fun K hK => ?_)
                                  · skip
                                    refine Kd.R_append_rows_step k40 (w0 := w) w.heap.size (by rfl) (.tmp 35) (.tmp 38) 55 40 (.agg #[(.int .i64 0), (.int .i64 0), (.int .i64 0), (.int .i64 0), (.int .i64 0), (.int .i64 0)]) 48 rfl Try.underlying55 info40 rfl (by decide) (by omega) v385 y384 y387 _ _ _ (fun k_ => some k_ ≠ (.slice (some ad382) x5_1.length co28 : Value).ownBlock ∧ some k_ ≠ (.slice (some ad380) t374.length co6 : Value).ownBlock ∧ k_ ≠ gb373 ∧ k_ ≠ gb381) (fun _ => False) rfl rfl ?aO ?aR (fun _ _ h => h) (fun _ h => h.elim) ?aF ?aB ?aS ?aL ?_
                                    (case aR => repeat (first | exact (by repeat (first | (with_reducible exact HR390.out) | (with_reducible refine Kd.C_alloc ?_ _) | (with_reducible refine Kd.C_drewN ?_ _) | (with_reducible refine Kd.C_drew ?_) | exact HR390.out)) | (with_reducible refine Kd.C_alloc ?_ _) | (with_reducible refine Kd.C_drewN ?_ _) | (with_reducible refine Kd.C_drew ?_)))
                                    (case aB => exact (by repeat (first | (with_reducible first | exact HB.out | apply below_alloc | apply pw_below_drewN | apply below_drew1 | refine below_set ?_ GE373.out | refine below_set ?_ GE381.out) | exact HB.out)))
                                    (case aF => exact (fun k_ hk => ⟨Kd.fresh' (Kd.R_lt (by (with_reducible repeat (first | apply Kd.R_alloc | apply Kd.R_drewN | apply Kd.R_drew)); exact HO_5.out)) k_ hk, Kd.fresh' (Kd.R_lt (by (with_reducible repeat (first | apply Kd.R_alloc | apply Kd.R_drewN | apply Kd.R_drew)); exact HO_13.out)) k_ hk, Kd.freshB (g := gb373) (o := .cells #[.int .i64 a0_0, .int .i64 a0_1, .int .i64 a0_2, .int .i64 a0_3, .int .i64 a0_4, .int .i64 a0_5] 40 (0, 0)) (by (with_reducible repeat (first | refine blk_drewN ?_ _ | refine blk_drew ?_ | refine blk_alloc ?_ _)); exact BK373.out) k_ hk, Kd.freshB (g := gb381) (o := .cells #[.int .i64 ((rd_T40 t374 x17_1).f0), .int .i64 ((rd_T40 t374 x17_1).f1), .int .i64 ((rd_T40 t374 x17_1).f2), .int .i64 ((rd_T40 t374 x17_1).f3), .int .i64 ((rd_T40 t374 x17_1).f4), .int .i64 ((rd_T40 t374 x17_1).f5)] 40 (0, 0)) (by (with_reducible repeat (first | refine blk_drewN ?_ _ | refine blk_drew ?_ | refine blk_alloc ?_ _)); exact BK381.out) k_ hk⟩))
                                    (case aO => exact (by (with_reducible repeat (first | apply Kd.R_alloc | apply Kd.R_drewN | apply Kd.R_drew)); exact Kd.R_mono HO386.out (fun _ hk => ⟨hk.1.1.1.2, ⟨hk.1.1.2, ⟨hk.1.2, hk.2⟩⟩⟩)))
                                    (case aS => exact (below_size (by repeat (first | (with_reducible first | exact HB.out | apply below_alloc | apply pw_below_drewN | apply below_drew1 | refine below_set ?_ GE373.out | refine below_set ?_ GE381.out) | exact HB.out))))
                                    (case aL => have := LMc22.out; omega)
                                    intro v392 w34 ho hb hg hat
                                    rw [← Ny391.out] at ho
                                    have n0_ := Aside0.mk (Kd.R_after (ok := (fun k_ => some k_ ≠ (.slice (some ad380) t374.length co6 : Value).ownBlock ∧ k_ ≠ gb373 ∧ k_ ≠ gb381)) (by (with_reducible repeat (first | apply Kd.R_alloc | apply Kd.R_drewN | apply Kd.R_drew)); exact HO_5.out) hg hat)
                                    have n1_ := Aside0.mk (Kd.R_after (ok := (fun k_ => some k_ ≠ (.slice (some ad382) x5_1.length co28 : Value).ownBlock ∧ k_ ≠ gb373 ∧ k_ ≠ gb381)) (by (with_reducible repeat (first | apply Kd.R_alloc | apply Kd.R_drewN | apply Kd.R_drew)); exact HO_13.out) hg hat)
                                    have n2_ := Aside0.mk (blk_grown (g := gb373) (o := .cells #[.int .i64 a0_0, .int .i64 a0_1, .int .i64 a0_2, .int .i64 a0_3, .int .i64 a0_4, .int .i64 a0_5] 40 (0, 0)) (by (with_reducible repeat (first | refine blk_drewN ?_ _ | refine blk_drew ?_ | refine blk_alloc ?_ _)); exact BK373.out) hg (Kd.R_away HO386.out (fun _ hk => hk.1.2)))
                                    have n3_ := Aside0.mk (blk_grown (g := gb381) (o := .cells #[.int .i64 ((rd_T40 t374 x17_1).f0), .int .i64 ((rd_T40 t374 x17_1).f1), .int .i64 ((rd_T40 t374 x17_1).f2), .int .i64 ((rd_T40 t374 x17_1).f3), .int .i64 ((rd_T40 t374 x17_1).f4), .int .i64 ((rd_T40 t374 x17_1).f5)] 40 (0, 0)) (by (with_reducible repeat (first | refine blk_drewN ?_ _ | refine blk_drew ?_ | refine blk_alloc ?_ _)); exact BK381.out) hg (Kd.R_away HO386.out (fun _ hk => hk.2)))
                                    have n4_ := Aside0.mk (hb)
                                    have n5_ := Aside0.mk ((show Kd.C k40 w34 (some ad382) y387.length y387 from by rw [Ny387.out]; exact Kd.C_take (m := (x8_2 : Int).toNat) ((Kd.R_reads' (Kd.R_after (ok := (fun k_ => some k_ ≠ (.slice (some ad380) t374.length co6 : Value).ownBlock ∧ k_ ≠ gb373 ∧ k_ ≠ gb381)) (by (with_reducible repeat (first | apply Kd.R_alloc | apply Kd.R_drewN | apply Kd.R_drew)); exact HO_5.out) hg hat)).2.2) KL31.out))
                                    have n6_ := Aside0.mk (ho)
                                    clear HO_5
                                    clear HO_13
                                    clear BK373
                                    clear BK381
                                    clear HB
                                    clear HR390
                                    clear HO386
                                    have HO_5 := n0_
                                    have HO_13 := n1_
                                    have BK373 := n2_
                                    have BK381 := n3_
                                    have HB := n4_
                                    have HR390 := n5_
                                    have HO393 := n6_
                                    clear n0_ n1_ n2_ n3_ n4_ n5_ n6_
                                    clear ho hb hg hat
                                    refine hK.out _ _ ⟨(blk_cell BK381.out 0).trans rfl, (blk_cell BK381.out 1).trans rfl, (blk_cell BK381.out 2).trans rfl, (blk_cell BK381.out 3).trans rfl, (blk_cell BK381.out 4).trans rfl, (blk_cell BK381.out 5).trans rfl⟩ (fun hHeld => ?_)
                                    clear hK K
                                    refine norm_ (a' := ?_) ?_ ?_
                                    rotate_left
                                    · show Act.put _ (some 39) _ = _
                                      simp only [Act.put, List.setIfInBounds_toArray, List.set_cons_zero, List.set_cons_succ, i64_w, i32_w]
                                      rfl
                                    refine one_ (i := 6) (N := some 41) #[true, true, true, true, true, true, true, false, false] rfl rfl (one_of HT_.out (by kernel_rfl)) (by decide) (fun K hK => ?_)
                                    refine Kd.R_lit_step k40 _ 40 ?hg (N := 41) ?hd (xs := ([(⟨((rd_T40 t374 x17_1).f0), ((rd_T40 t374 x17_1).f1), ((rd_T40 t374 x17_1).f2), ((rd_T40 t374 x17_1).f3), ((rd_T40 t374 x17_1).f4), ((rd_T40 t374 x17_1).f5)⟩ : S40)] : List (S40))) (inner := [.int .i64 ((rd_T40 t374 x17_1).f0), .int .i64 ((rd_T40 t374 x17_1).f1), .int .i64 ((rd_T40 t374 x17_1).f2), .int .i64 ((rd_T40 t374 x17_1).f3), .int .i64 ((rd_T40 t374 x17_1).f4), .int .i64 ((rd_T40 t374 x17_1).f5)]) (ok := fun _ => True) (okp := fun _ => True) ?hr ?hp (fun _ hk => hk) trivial (Below.refl _ _) (Nat.le_refl _) (by simp) ?_; (case hd => rfl); (case hg => rfl); (case hr => first | (go_simp; done) | (go_simp; rfl)); (case hp => exact (Reps.c6 (show Kd.M k40 _ _ _ (⟨((rd_T40 t374 x17_1).f0), ((rd_T40 t374 x17_1).f1), ((rd_T40 t374 x17_1).f2), ((rd_T40 t374 x17_1).f3), ((rd_T40 t374 x17_1).f4), ((rd_T40 t374 x17_1).f5)⟩ : S40) [.int .i64 ((rd_T40 t374 x17_1).f0), .int .i64 ((rd_T40 t374 x17_1).f1), .int .i64 ((rd_T40 t374 x17_1).f2), .int .i64 ((rd_T40 t374 x17_1).f3), .int .i64 ((rd_T40 t374 x17_1).f4), .int .i64 ((rd_T40 t374 x17_1).f5)] from (k40_mkM _ _ _ (⟨((rd_T40 t374 x17_1).f0), ((rd_T40 t374 x17_1).f1), ((rd_T40 t374 x17_1).f2), ((rd_T40 t374 x17_1).f3), ((rd_T40 t374 x17_1).f4), ((rd_T40 t374 x17_1).f5)⟩ : S40) )) (Reps.none _ _)))
                                    intro v395 w35 ho36 hb hg_ hnew_
                                    clear hg_ hnew_
                                    (first | rw [← Ny394.out] at ho36 | (simp only [Int.reduceToNat] at ho36; rw [← Ny394.out] at ho36))
                                    have n0_ := Aside0.mk (Kd.R_elder' (by (with_reducible repeat (first | apply Kd.R_alloc | apply Kd.R_drewN | apply Kd.R_drew)); exact HO_5.out) (Kd.R_base ho36) hb)
                                    have n1_ := Aside0.mk (Kd.R_elder' (by (with_reducible repeat (first | apply Kd.R_alloc | apply Kd.R_drewN | apply Kd.R_drew)); exact HO_13.out) (Kd.R_base ho36) hb)
                                    have n2_ := Aside0.mk (Kd.R_elder' (by (with_reducible repeat (first | apply Kd.R_alloc | apply Kd.R_drewN | apply Kd.R_drew)); exact HO393.out) (Kd.R_base ho36) hb)
                                    have n3_ := Aside0.mk (Kd.R_lower (Kd.R_newB (Kd.R_newB (Kd.R_new' (Kd.R_new' (Kd.R_new' ho36 (Kd.R_lt (by (with_reducible repeat (first | apply Kd.R_alloc | apply Kd.R_drewN | apply Kd.R_drew)); exact HO_5.out))) (Kd.R_lt (by (with_reducible repeat (first | apply Kd.R_alloc | apply Kd.R_drewN | apply Kd.R_drew)); exact HO_13.out))) (Kd.R_lt (by (with_reducible repeat (first | apply Kd.R_alloc | apply Kd.R_drewN | apply Kd.R_drew)); exact HO393.out))) (g := gb373) (o := .cells #[.int .i64 a0_0, .int .i64 a0_1, .int .i64 a0_2, .int .i64 a0_3, .int .i64 a0_4, .int .i64 a0_5] 40 (0, 0)) (by (with_reducible repeat (first | refine blk_drewN ?_ _ | refine blk_drew ?_ | refine blk_alloc ?_ _)); exact BK373.out)) (g := gb381) (o := .cells #[.int .i64 ((rd_T40 t374 x17_1).f0), .int .i64 ((rd_T40 t374 x17_1).f1), .int .i64 ((rd_T40 t374 x17_1).f2), .int .i64 ((rd_T40 t374 x17_1).f3), .int .i64 ((rd_T40 t374 x17_1).f4), .int .i64 ((rd_T40 t374 x17_1).f5)] 40 (0, 0)) (by (with_reducible repeat (first | refine blk_drewN ?_ _ | refine blk_drew ?_ | refine blk_alloc ?_ _)); exact BK381.out)) (below_size (by repeat (first | (with_reducible first | exact HB.out | apply below_alloc | apply pw_below_drewN | apply below_drew1 | refine below_set ?_ GE373.out | refine below_set ?_ GE381.out) | exact HB.out))))
                                    have n4_ := Aside0.mk (blk_below (g := gb373) (o := .cells #[.int .i64 a0_0, .int .i64 a0_1, .int .i64 a0_2, .int .i64 a0_3, .int .i64 a0_4, .int .i64 a0_5] 40 (0, 0)) (by (with_reducible repeat (first | refine blk_drewN ?_ _ | refine blk_drew ?_ | refine blk_alloc ?_ _)); exact BK373.out) hb)
                                    have n5_ := Aside0.mk (blk_below (g := gb381) (o := .cells #[.int .i64 ((rd_T40 t374 x17_1).f0), .int .i64 ((rd_T40 t374 x17_1).f1), .int .i64 ((rd_T40 t374 x17_1).f2), .int .i64 ((rd_T40 t374 x17_1).f3), .int .i64 ((rd_T40 t374 x17_1).f4), .int .i64 ((rd_T40 t374 x17_1).f5)] 40 (0, 0)) (by (with_reducible repeat (first | refine blk_drewN ?_ _ | refine blk_drew ?_ | refine blk_alloc ?_ _)); exact BK381.out) hb)
                                    have n6_ := Aside0.mk (Kd.C_below (by repeat (first | (with_reducible exact HR390.out) | (with_reducible refine Kd.C_alloc ?_ _) | (with_reducible refine Kd.C_drewN ?_ _) | (with_reducible refine Kd.C_drew ?_) | exact HR390.out)) hb)
                                    have n7_ := Aside0.mk (below_step (by repeat (first | (with_reducible first | exact HB.out | apply below_alloc | apply pw_below_drewN | apply below_drew1 | refine below_set ?_ GE373.out | refine below_set ?_ GE381.out) | exact HB.out)) hb)
                                    clear HO_5
                                    clear HO_13
                                    clear HO393
                                    clear BK373
                                    clear BK381
                                    clear HR390
                                    clear HB
                                    have HO_5 := n0_
                                    have HO_13 := n1_
                                    have HO393 := n2_
                                    have HO396 := n3_
                                    have BK373 := n4_
                                    have BK381 := n5_
                                    have HR390 := n6_
                                    have HB := n7_
                                    clear n0_ n1_ n2_ n3_ n4_ n5_ n6_ n7_
                                    clear hb ho36
                                    refine hK.out _ _ ⟨(blk_cell BK381.out 0).trans rfl, (blk_cell BK381.out 1).trans rfl, (blk_cell BK381.out 2).trans rfl, (blk_cell BK381.out 3).trans rfl, (blk_cell BK381.out 4).trans rfl, (blk_cell BK381.out 5).trans rfl⟩ (fun hHeld => ?_)
                                    clear hK K
                                    refine norm_ (a' := ?_) ?_ ?_
                                    rotate_left
                                    · show Act.put _ (some 41) _ = _
                                      simp only [Act.put, List.setIfInBounds_toArray, List.set_cons_zero, List.set_cons_succ, i64_w, i32_w]
                                      rfl
                                    exact norm_ (by simp only [putAll, Act.put, List.setIfInBounds_toArray, List.set_cons_zero, List.set_cons_succ]) (hCont (v385, v392, v395) _ ⟨hHeld, (by (with_reducible repeat (first | apply Kd.R_alloc | apply Kd.R_drewN | apply Kd.R_drew)); exact Kd.R_mono HO393.out (fun _ hk => ⟨hk.2, ⟨hk.1.2.1, ⟨hk.1.1, ⟨hk.1.2.2.1, hk.1.2.2.2⟩⟩⟩⟩)), (by (with_reducible repeat (first | apply Kd.R_alloc | apply Kd.R_drewN | apply Kd.R_drew)); exact Kd.R_mono HO396.out (fun _ hk => ⟨hk.1.1.2, ⟨hk.1.1.1.2, ⟨hk.1.1.1.1.2, ⟨hk.1.2, hk.2⟩⟩⟩⟩)), (by (with_reducible repeat (first | apply Kd.R_alloc | apply Kd.R_drewN | apply Kd.R_drew)); exact Kd.R_mono HO_13.out (fun _ hk => ⟨hk.1.2, ⟨hk.2, ⟨hk.1.1.1, ⟨hk.1.1.2.1, hk.1.1.2.2⟩⟩⟩⟩)), (by (with_reducible repeat (first | apply Kd.R_alloc | apply Kd.R_drewN | apply Kd.R_drew)); exact Kd.R_mono HO_5.out (fun _ hk => ⟨hk.1.2, ⟨hk.2, ⟨hk.1.1.1, ⟨hk.1.1.2.1, hk.1.1.2.2⟩⟩⟩⟩)), (by (with_reducible repeat (first | refine blk_drewN ?_ _ | refine blk_drew ?_ | refine blk_alloc ?_ _)); exact BK373.out), (by (with_reducible repeat (first | refine blk_drewN ?_ _ | refine blk_drew ?_ | refine blk_alloc ?_ _)); exact BK381.out), (by repeat (first | (with_reducible first | exact HB.out | apply below_alloc | apply pw_below_drewN | apply below_drew1 | refine below_set ?_ GE373.out | refine below_set ?_ GE381.out) | exact HB.out))⟩)
                                  · skip
                                    refine Kd.R_lit_step k40 _ 40 ?hg (N := 41) ?hd (xs := ([(⟨((rd_T40 t374 x17_1).f0), ((rd_T40 t374 x17_1).f1), ((rd_T40 t374 x17_1).f2), ((rd_T40 t374 x17_1).f3), ((rd_T40 t374 x17_1).f4), ((rd_T40 t374 x17_1).f5)⟩ : S40)] : List (S40))) (inner := [.int .i64 ((rd_T40 t374 x17_1).f0), .int .i64 ((rd_T40 t374 x17_1).f1), .int .i64 ((rd_T40 t374 x17_1).f2), .int .i64 ((rd_T40 t374 x17_1).f3), .int .i64 ((rd_T40 t374 x17_1).f4), .int .i64 ((rd_T40 t374 x17_1).f5)]) (ok := fun _ => True) (okp := fun _ => True) ?hr ?hp (fun _ hk => hk) trivial (Below.refl _ _) (Nat.le_refl _) (by simp) ?_; (case hd => rfl); (case hg => rfl); (case hr => first | (go_simp; done) | (go_simp; rfl)); (case hp => exact (Reps.c6 (show Kd.M k40 _ _ _ (⟨((rd_T40 t374 x17_1).f0), ((rd_T40 t374 x17_1).f1), ((rd_T40 t374 x17_1).f2), ((rd_T40 t374 x17_1).f3), ((rd_T40 t374 x17_1).f4), ((rd_T40 t374 x17_1).f5)⟩ : S40) [.int .i64 ((rd_T40 t374 x17_1).f0), .int .i64 ((rd_T40 t374 x17_1).f1), .int .i64 ((rd_T40 t374 x17_1).f2), .int .i64 ((rd_T40 t374 x17_1).f3), .int .i64 ((rd_T40 t374 x17_1).f4), .int .i64 ((rd_T40 t374 x17_1).f5)] from (k40_mkM _ _ _ (⟨((rd_T40 t374 x17_1).f0), ((rd_T40 t374 x17_1).f1), ((rd_T40 t374 x17_1).f2), ((rd_T40 t374 x17_1).f3), ((rd_T40 t374 x17_1).f4), ((rd_T40 t374 x17_1).f5)⟩ : S40) )) (Reps.none _ _)))
                                    intro v395 w34 ho35 hb hg_ hnew_
                                    clear hg_ hnew_
                                    (first | rw [← Ny394.out] at ho35 | (simp only [Int.reduceToNat] at ho35; rw [← Ny394.out] at ho35))
                                    have n0_ := Aside0.mk (Kd.R_elder' (by (with_reducible repeat (first | apply Kd.R_alloc | apply Kd.R_drewN | apply Kd.R_drew)); exact HO_5.out) (Kd.R_base ho35) hb)
                                    have n1_ := Aside0.mk (Kd.R_elder' (by (with_reducible repeat (first | apply Kd.R_alloc | apply Kd.R_drewN | apply Kd.R_drew)); exact HO_13.out) (Kd.R_base ho35) hb)
                                    have n2_ := Aside0.mk (Kd.R_elder' (by (with_reducible repeat (first | apply Kd.R_alloc | apply Kd.R_drewN | apply Kd.R_drew)); exact HO386.out) (Kd.R_base ho35) hb)
                                    have n3_ := Aside0.mk (Kd.R_lower (Kd.R_newB (Kd.R_newB (Kd.R_new' (Kd.R_new' (Kd.R_new' ho35 (Kd.R_lt (by (with_reducible repeat (first | apply Kd.R_alloc | apply Kd.R_drewN | apply Kd.R_drew)); exact HO_5.out))) (Kd.R_lt (by (with_reducible repeat (first | apply Kd.R_alloc | apply Kd.R_drewN | apply Kd.R_drew)); exact HO_13.out))) (Kd.R_lt (by (with_reducible repeat (first | apply Kd.R_alloc | apply Kd.R_drewN | apply Kd.R_drew)); exact HO386.out))) (g := gb373) (o := .cells #[.int .i64 a0_0, .int .i64 a0_1, .int .i64 a0_2, .int .i64 a0_3, .int .i64 a0_4, .int .i64 a0_5] 40 (0, 0)) (by (with_reducible repeat (first | refine blk_drewN ?_ _ | refine blk_drew ?_ | refine blk_alloc ?_ _)); exact BK373.out)) (g := gb381) (o := .cells #[.int .i64 ((rd_T40 t374 x17_1).f0), .int .i64 ((rd_T40 t374 x17_1).f1), .int .i64 ((rd_T40 t374 x17_1).f2), .int .i64 ((rd_T40 t374 x17_1).f3), .int .i64 ((rd_T40 t374 x17_1).f4), .int .i64 ((rd_T40 t374 x17_1).f5)] 40 (0, 0)) (by (with_reducible repeat (first | refine blk_drewN ?_ _ | refine blk_drew ?_ | refine blk_alloc ?_ _)); exact BK381.out)) (below_size (by repeat (first | (with_reducible first | exact HB.out | apply below_alloc | apply pw_below_drewN | apply below_drew1 | refine below_set ?_ GE373.out | refine below_set ?_ GE381.out) | exact HB.out))))
                                    have n4_ := Aside0.mk (blk_below (g := gb373) (o := .cells #[.int .i64 a0_0, .int .i64 a0_1, .int .i64 a0_2, .int .i64 a0_3, .int .i64 a0_4, .int .i64 a0_5] 40 (0, 0)) (by (with_reducible repeat (first | refine blk_drewN ?_ _ | refine blk_drew ?_ | refine blk_alloc ?_ _)); exact BK373.out) hb)
                                    have n5_ := Aside0.mk (blk_below (g := gb381) (o := .cells #[.int .i64 ((rd_T40 t374 x17_1).f0), .int .i64 ((rd_T40 t374 x17_1).f1), .int .i64 ((rd_T40 t374 x17_1).f2), .int .i64 ((rd_T40 t374 x17_1).f3), .int .i64 ((rd_T40 t374 x17_1).f4), .int .i64 ((rd_T40 t374 x17_1).f5)] 40 (0, 0)) (by (with_reducible repeat (first | refine blk_drewN ?_ _ | refine blk_drew ?_ | refine blk_alloc ?_ _)); exact BK381.out) hb)
                                    have n6_ := Aside0.mk (Kd.C_below (by repeat (first | (with_reducible exact HR390.out) | (with_reducible refine Kd.C_alloc ?_ _) | (with_reducible refine Kd.C_drewN ?_ _) | (with_reducible refine Kd.C_drew ?_) | exact HR390.out)) hb)
                                    have n7_ := Aside0.mk (below_step (by repeat (first | (with_reducible first | exact HB.out | apply below_alloc | apply pw_below_drewN | apply below_drew1 | refine below_set ?_ GE373.out | refine below_set ?_ GE381.out) | exact HB.out)) hb)
                                    clear HO_5
                                    clear HO_13
                                    clear HO386
                                    clear BK373
                                    clear BK381
                                    clear HR390
                                    clear HB
                                    have HO_5 := n0_
                                    have HO_13 := n1_
                                    have HO386 := n2_
                                    have HO396 := n3_
                                    have BK373 := n4_
                                    have BK381 := n5_
                                    have HR390 := n6_
                                    have HB := n7_
                                    clear n0_ n1_ n2_ n3_ n4_ n5_ n6_ n7_
                                    clear hb ho35
                                    refine hK.out _ _ ⟨(blk_cell BK381.out 0).trans rfl, (blk_cell BK381.out 1).trans rfl, (blk_cell BK381.out 2).trans rfl, (blk_cell BK381.out 3).trans rfl, (blk_cell BK381.out 4).trans rfl, (blk_cell BK381.out 5).trans rfl⟩ (fun hHeld => ?_)
                                    clear hK K
                                    refine norm_ (a' := ?_) ?_ ?_
                                    rotate_left
                                    · show Act.put _ (some 41) _ = _
                                      simp only [Act.put, List.setIfInBounds_toArray, List.set_cons_zero, List.set_cons_succ, i64_w, i32_w]
                                      rfl
                                    refine one_ (i := 4) (N := some 39) #[true, true, true, true, true, true, true, false, false] rfl rfl (one_of HT_.out (by kernel_rfl)) (by decide) (fun K hK => ?_)
                                    refine Kd.R_append_rows_step k40 (w0 := w) w.heap.size (by rfl) (.tmp 35) (.tmp 38) 55 40 (.agg #[(.int .i64 0), (.int .i64 0), (.int .i64 0), (.int .i64 0), (.int .i64 0), (.int .i64 0)]) 48 rfl Try.underlying55 info40 rfl (by decide) (by omega) v385 y384 y387 _ _ _ (fun k_ => some k_ ≠ (.slice (some ad382) x5_1.length co28 : Value).ownBlock ∧ some k_ ≠ (.slice (some ad380) t374.length co6 : Value).ownBlock ∧ some k_ ≠ (v395 : Value).ownBlock ∧ k_ ≠ gb373 ∧ k_ ≠ gb381) (fun _ => False) rfl rfl ?aO ?aR (fun _ _ h => h) (fun _ h => h.elim) ?aF ?aB ?aS ?aL ?_
                                    (case aR => repeat (first | exact (by repeat (first | (with_reducible exact HR390.out) | (with_reducible refine Kd.C_alloc ?_ _) | (with_reducible refine Kd.C_drewN ?_ _) | (with_reducible refine Kd.C_drew ?_) | exact HR390.out)) | (with_reducible refine Kd.C_alloc ?_ _) | (with_reducible refine Kd.C_drewN ?_ _) | (with_reducible refine Kd.C_drew ?_)))
                                    (case aB => exact (by repeat (first | (with_reducible first | exact HB.out | apply below_alloc | apply pw_below_drewN | apply below_drew1 | refine below_set ?_ GE373.out | refine below_set ?_ GE381.out) | exact HB.out)))
                                    (case aF => exact (fun k_ hk => ⟨Kd.fresh' (Kd.R_lt (by (with_reducible repeat (first | apply Kd.R_alloc | apply Kd.R_drewN | apply Kd.R_drew)); exact HO_5.out)) k_ hk, Kd.fresh' (Kd.R_lt (by (with_reducible repeat (first | apply Kd.R_alloc | apply Kd.R_drewN | apply Kd.R_drew)); exact HO_13.out)) k_ hk, Kd.fresh' (Kd.R_lt (by (with_reducible repeat (first | apply Kd.R_alloc | apply Kd.R_drewN | apply Kd.R_drew)); exact HO396.out)) k_ hk, Kd.freshB (g := gb373) (o := .cells #[.int .i64 a0_0, .int .i64 a0_1, .int .i64 a0_2, .int .i64 a0_3, .int .i64 a0_4, .int .i64 a0_5] 40 (0, 0)) (by (with_reducible repeat (first | refine blk_drewN ?_ _ | refine blk_drew ?_ | refine blk_alloc ?_ _)); exact BK373.out) k_ hk, Kd.freshB (g := gb381) (o := .cells #[.int .i64 ((rd_T40 t374 x17_1).f0), .int .i64 ((rd_T40 t374 x17_1).f1), .int .i64 ((rd_T40 t374 x17_1).f2), .int .i64 ((rd_T40 t374 x17_1).f3), .int .i64 ((rd_T40 t374 x17_1).f4), .int .i64 ((rd_T40 t374 x17_1).f5)] 40 (0, 0)) (by (with_reducible repeat (first | refine blk_drewN ?_ _ | refine blk_drew ?_ | refine blk_alloc ?_ _)); exact BK381.out) k_ hk⟩))
                                    (case aO => exact (by (with_reducible repeat (first | apply Kd.R_alloc | apply Kd.R_drewN | apply Kd.R_drew)); exact Kd.R_mono HO386.out (fun _ hk => ⟨hk.1.1.1.1.2, ⟨hk.1.1.1.2, ⟨hk.2, ⟨hk.1.1.2, hk.1.2⟩⟩⟩⟩)))
                                    (case aS => exact (below_size (by repeat (first | (with_reducible first | exact HB.out | apply below_alloc | apply pw_below_drewN | apply below_drew1 | refine below_set ?_ GE373.out | refine below_set ?_ GE381.out) | exact HB.out))))
                                    (case aL => have := LMc22.out; omega)
                                    intro v392 w36 ho hb hg hat
                                    rw [← Ny391.out] at ho
                                    have n0_ := Aside0.mk (Kd.R_after (ok := (fun k_ => some k_ ≠ (.slice (some ad380) t374.length co6 : Value).ownBlock ∧ some k_ ≠ (v395 : Value).ownBlock ∧ k_ ≠ gb373 ∧ k_ ≠ gb381)) (by (with_reducible repeat (first | apply Kd.R_alloc | apply Kd.R_drewN | apply Kd.R_drew)); exact Kd.R_mono HO_5.out (fun _ hk => ⟨⟨hk.1.1.1, ⟨hk.2, ⟨hk.1.1.2.1, hk.1.1.2.2⟩⟩⟩, hk.1.2⟩)) hg hat)
                                    have n1_ := Aside0.mk (Kd.R_after (ok := (fun k_ => some k_ ≠ (.slice (some ad382) x5_1.length co28 : Value).ownBlock ∧ some k_ ≠ (v395 : Value).ownBlock ∧ k_ ≠ gb373 ∧ k_ ≠ gb381)) (by (with_reducible repeat (first | apply Kd.R_alloc | apply Kd.R_drewN | apply Kd.R_drew)); exact Kd.R_mono HO_13.out (fun _ hk => ⟨⟨hk.1.1.1, ⟨hk.2, ⟨hk.1.1.2.1, hk.1.1.2.2⟩⟩⟩, hk.1.2⟩)) hg hat)
                                    have n2_ := Aside0.mk (blk_grown (g := gb373) (o := .cells #[.int .i64 a0_0, .int .i64 a0_1, .int .i64 a0_2, .int .i64 a0_3, .int .i64 a0_4, .int .i64 a0_5] 40 (0, 0)) (by (with_reducible repeat (first | refine blk_drewN ?_ _ | refine blk_drew ?_ | refine blk_alloc ?_ _)); exact BK373.out) hg (Kd.R_away HO386.out (fun _ hk => hk.1.1.2)))
                                    have n3_ := Aside0.mk (blk_grown (g := gb381) (o := .cells #[.int .i64 ((rd_T40 t374 x17_1).f0), .int .i64 ((rd_T40 t374 x17_1).f1), .int .i64 ((rd_T40 t374 x17_1).f2), .int .i64 ((rd_T40 t374 x17_1).f3), .int .i64 ((rd_T40 t374 x17_1).f4), .int .i64 ((rd_T40 t374 x17_1).f5)] 40 (0, 0)) (by (with_reducible repeat (first | refine blk_drewN ?_ _ | refine blk_drew ?_ | refine blk_alloc ?_ _)); exact BK381.out) hg (Kd.R_away HO386.out (fun _ hk => hk.1.2)))
                                    have n4_ := Aside0.mk (Kd.R_after (ok := (fun k_ => some k_ ≠ (.slice (some ad382) x5_1.length co28 : Value).ownBlock ∧ some k_ ≠ (.slice (some ad380) t374.length co6 : Value).ownBlock ∧ k_ ≠ gb373 ∧ k_ ≠ gb381)) (by (with_reducible repeat (first | apply Kd.R_alloc | apply Kd.R_drewN | apply Kd.R_drew)); exact Kd.R_mono HO396.out (fun _ hk => ⟨⟨hk.1.1.1.1.2, ⟨hk.1.1.1.2, ⟨hk.1.2, hk.2⟩⟩⟩, hk.1.1.2⟩)) hg hat)
                                    have n5_ := Aside0.mk (hb)
                                    have n6_ := Aside0.mk ((show Kd.C k40 w36 (some ad382) y387.length y387 from by rw [Ny387.out]; exact Kd.C_take (m := (x8_2 : Int).toNat) ((Kd.R_reads' (Kd.R_after (ok := (fun k_ => some k_ ≠ (.slice (some ad380) t374.length co6 : Value).ownBlock ∧ some k_ ≠ (v395 : Value).ownBlock ∧ k_ ≠ gb373 ∧ k_ ≠ gb381)) (by (with_reducible repeat (first | apply Kd.R_alloc | apply Kd.R_drewN | apply Kd.R_drew)); exact Kd.R_mono HO_5.out (fun _ hk => ⟨⟨hk.1.1.1, ⟨hk.2, ⟨hk.1.1.2.1, hk.1.1.2.2⟩⟩⟩, hk.1.2⟩)) hg hat)).2.2) KL31.out))
                                    have n7_ := Aside0.mk (ho)
                                    clear HO_5
                                    clear HO_13
                                    clear BK373
                                    clear BK381
                                    clear HO396
                                    clear HB
                                    clear HR390
                                    clear HO386
                                    have HO_5 := n0_
                                    have HO_13 := n1_
                                    have BK373 := n2_
                                    have BK381 := n3_
                                    have HO396 := n4_
                                    have HB := n5_
                                    have HR390 := n6_
                                    have HO393 := n7_
                                    clear n0_ n1_ n2_ n3_ n4_ n5_ n6_ n7_
                                    clear ho hb hg hat
                                    refine hK.out _ _ ⟨(blk_cell BK381.out 0).trans rfl, (blk_cell BK381.out 1).trans rfl, (blk_cell BK381.out 2).trans rfl, (blk_cell BK381.out 3).trans rfl, (blk_cell BK381.out 4).trans rfl, (blk_cell BK381.out 5).trans rfl⟩ (fun hHeld => ?_)
                                    clear hK K
                                    refine norm_ (a' := ?_) ?_ ?_
                                    rotate_left
                                    · show Act.put _ (some 39) _ = _
                                      simp only [Act.put, List.setIfInBounds_toArray, List.set_cons_zero, List.set_cons_succ, i64_w, i32_w]
                                      rfl
                                    exact norm_ (by simp only [putAll, Act.put, List.setIfInBounds_toArray, List.set_cons_zero, List.set_cons_succ]) (hCont (v385, v392, v395) _ ⟨hHeld, (by (with_reducible repeat (first | apply Kd.R_alloc | apply Kd.R_drewN | apply Kd.R_drew)); exact Kd.R_mono HO393.out (fun _ hk => ⟨hk.2.2.1, ⟨hk.2.1, ⟨hk.1, ⟨hk.2.2.2.1, hk.2.2.2.2⟩⟩⟩⟩)), (by (with_reducible repeat (first | apply Kd.R_alloc | apply Kd.R_drewN | apply Kd.R_drew)); exact Kd.R_mono HO396.out (fun _ hk => ⟨hk.2, ⟨hk.1.2.1, ⟨hk.1.1, ⟨hk.1.2.2.1, hk.1.2.2.2⟩⟩⟩⟩)), (by (with_reducible repeat (first | apply Kd.R_alloc | apply Kd.R_drewN | apply Kd.R_drew)); exact Kd.R_mono HO_13.out (fun _ hk => ⟨hk.2, ⟨hk.1.2.1, ⟨hk.1.1, ⟨hk.1.2.2.1, hk.1.2.2.2⟩⟩⟩⟩)), (by (with_reducible repeat (first | apply Kd.R_alloc | apply Kd.R_drewN | apply Kd.R_drew)); exact Kd.R_mono HO_5.out (fun _ hk => ⟨hk.2, ⟨hk.1.2.1, ⟨hk.1.1, ⟨hk.1.2.2.1, hk.1.2.2.2⟩⟩⟩⟩)), (by (with_reducible repeat (first | refine blk_drewN ?_ _ | refine blk_drew ?_ | refine blk_alloc ?_ _)); exact BK373.out), (by (with_reducible repeat (first | refine blk_drewN ?_ _ | refine blk_drew ?_ | refine blk_alloc ?_ _)); exact BK381.out), (by repeat (first | (with_reducible first | exact HB.out | apply below_alloc | apply pw_below_drewN | apply below_drew1 | refine below_set ?_ GE373.out | refine below_set ?_ GE381.out) | exact HB.out))⟩)
                                · skip
                                  refine Kd.R_lit_step k40 _ 40 ?hg (N := 41) ?hd (xs := ([(⟨((rd_T40 t374 x17_1).f0), ((rd_T40 t374 x17_1).f1), ((rd_T40 t374 x17_1).f2), ((rd_T40 t374 x17_1).f3), ((rd_T40 t374 x17_1).f4), ((rd_T40 t374 x17_1).f5)⟩ : S40)] : List (S40))) (inner := [.int .i64 ((rd_T40 t374 x17_1).f0), .int .i64 ((rd_T40 t374 x17_1).f1), .int .i64 ((rd_T40 t374 x17_1).f2), .int .i64 ((rd_T40 t374 x17_1).f3), .int .i64 ((rd_T40 t374 x17_1).f4), .int .i64 ((rd_T40 t374 x17_1).f5)]) (ok := fun _ => True) (okp := fun _ => True) ?hr ?hp (fun _ hk => hk) trivial (Below.refl _ _) (Nat.le_refl _) (by simp) ?_; (case hd => rfl); (case hg => rfl); (case hr => first | (go_simp; done) | (go_simp; rfl)); (case hp => exact (Reps.c6 (show Kd.M k40 _ _ _ (⟨((rd_T40 t374 x17_1).f0), ((rd_T40 t374 x17_1).f1), ((rd_T40 t374 x17_1).f2), ((rd_T40 t374 x17_1).f3), ((rd_T40 t374 x17_1).f4), ((rd_T40 t374 x17_1).f5)⟩ : S40) [.int .i64 ((rd_T40 t374 x17_1).f0), .int .i64 ((rd_T40 t374 x17_1).f1), .int .i64 ((rd_T40 t374 x17_1).f2), .int .i64 ((rd_T40 t374 x17_1).f3), .int .i64 ((rd_T40 t374 x17_1).f4), .int .i64 ((rd_T40 t374 x17_1).f5)] from (k40_mkM _ _ _ (⟨((rd_T40 t374 x17_1).f0), ((rd_T40 t374 x17_1).f1), ((rd_T40 t374 x17_1).f2), ((rd_T40 t374 x17_1).f3), ((rd_T40 t374 x17_1).f4), ((rd_T40 t374 x17_1).f5)⟩ : S40) )) (Reps.none _ _)))
                                  intro v395 w32 ho33 hb hg_ hnew_
                                  clear hg_ hnew_
                                  (first | rw [← Ny394.out] at ho33 | (simp only [Int.reduceToNat] at ho33; rw [← Ny394.out] at ho33))
                                  have n0_ := Aside0.mk (Kd.R_elder' (by (with_reducible repeat (first | apply Kd.R_alloc | apply Kd.R_drewN | apply Kd.R_drew)); exact HO_5.out) (Kd.R_base ho33) hb)
                                  have n1_ := Aside0.mk (Kd.R_elder' (by (with_reducible repeat (first | apply Kd.R_alloc | apply Kd.R_drewN | apply Kd.R_drew)); exact HO_13.out) (Kd.R_base ho33) hb)
                                  have n2_ := Aside0.mk (Kd.R_lower (Kd.R_newB (Kd.R_newB (Kd.R_new' (Kd.R_new' ho33 (Kd.R_lt (by (with_reducible repeat (first | apply Kd.R_alloc | apply Kd.R_drewN | apply Kd.R_drew)); exact HO_5.out))) (Kd.R_lt (by (with_reducible repeat (first | apply Kd.R_alloc | apply Kd.R_drewN | apply Kd.R_drew)); exact HO_13.out))) (g := gb373) (o := .cells #[.int .i64 a0_0, .int .i64 a0_1, .int .i64 a0_2, .int .i64 a0_3, .int .i64 a0_4, .int .i64 a0_5] 40 (0, 0)) (by (with_reducible repeat (first | refine blk_drewN ?_ _ | refine blk_drew ?_ | refine blk_alloc ?_ _)); exact BK373.out)) (g := gb381) (o := .cells #[.int .i64 ((rd_T40 t374 x17_1).f0), .int .i64 ((rd_T40 t374 x17_1).f1), .int .i64 ((rd_T40 t374 x17_1).f2), .int .i64 ((rd_T40 t374 x17_1).f3), .int .i64 ((rd_T40 t374 x17_1).f4), .int .i64 ((rd_T40 t374 x17_1).f5)] 40 (0, 0)) (by (with_reducible repeat (first | refine blk_drewN ?_ _ | refine blk_drew ?_ | refine blk_alloc ?_ _)); exact BK381.out)) (below_size (by repeat (first | (with_reducible first | exact HB.out | apply below_alloc | apply pw_below_drewN | apply below_drew1 | refine below_set ?_ GE373.out | refine below_set ?_ GE381.out) | exact HB.out))))
                                  have n3_ := Aside0.mk (blk_below (g := gb373) (o := .cells #[.int .i64 a0_0, .int .i64 a0_1, .int .i64 a0_2, .int .i64 a0_3, .int .i64 a0_4, .int .i64 a0_5] 40 (0, 0)) (by (with_reducible repeat (first | refine blk_drewN ?_ _ | refine blk_drew ?_ | refine blk_alloc ?_ _)); exact BK373.out) hb)
                                  have n4_ := Aside0.mk (blk_below (g := gb381) (o := .cells #[.int .i64 ((rd_T40 t374 x17_1).f0), .int .i64 ((rd_T40 t374 x17_1).f1), .int .i64 ((rd_T40 t374 x17_1).f2), .int .i64 ((rd_T40 t374 x17_1).f3), .int .i64 ((rd_T40 t374 x17_1).f4), .int .i64 ((rd_T40 t374 x17_1).f5)] 40 (0, 0)) (by (with_reducible repeat (first | refine blk_drewN ?_ _ | refine blk_drew ?_ | refine blk_alloc ?_ _)); exact BK381.out) hb)
                                  have n5_ := Aside0.mk (Kd.C_below (by repeat (first | (with_reducible exact HR390.out) | (with_reducible refine Kd.C_alloc ?_ _) | (with_reducible refine Kd.C_drewN ?_ _) | (with_reducible refine Kd.C_drew ?_) | exact HR390.out)) hb)
                                  have n6_ := Aside0.mk (below_step (by repeat (first | (with_reducible first | exact HB.out | apply below_alloc | apply pw_below_drewN | apply below_drew1 | refine below_set ?_ GE373.out | refine below_set ?_ GE381.out) | exact HB.out)) hb)
                                  clear HO_5
                                  clear HO_13
                                  clear BK373
                                  clear BK381
                                  clear HR390
                                  clear HB
                                  have HO_5 := n0_
                                  have HO_13 := n1_
                                  have HO396 := n2_
                                  have BK373 := n3_
                                  have BK381 := n4_
                                  have HR390 := n5_
                                  have HB := n6_
                                  clear n0_ n1_ n2_ n3_ n4_ n5_ n6_
                                  clear hb ho33
                                  refine hK.out _ _ ⟨(blk_cell BK381.out 0).trans rfl, (blk_cell BK381.out 1).trans rfl, (blk_cell BK381.out 2).trans rfl, (blk_cell BK381.out 3).trans rfl, (blk_cell BK381.out 4).trans rfl, (blk_cell BK381.out 5).trans rfl⟩ (fun hHeld => ?_)
                                  clear hK K
                                  refine norm_ (a' := ?_) ?_ ?_
                                  rotate_left
                                  · show Act.put _ (some 41) _ = _
                                    simp only [Act.put, List.setIfInBounds_toArray, List.set_cons_zero, List.set_cons_succ, i64_w, i32_w]
                                    rfl
                                  refine one_ (i := 0) (N := some 35) #[true, true, true, true, false, true, true, false, false] rfl rfl (one_of HT_.out (by kernel_rfl)) (by decide) (fun K hK => ?_)
                                  refine Kd.R_lit_step k40 _ 40 ?hg (N := 35) ?hd (xs := ([] : List (S40))) (inner := []) (ok := fun _ => True) (okp := fun _ => True) ?hr ?hp (fun _ hk => hk) trivial (Below.refl _ _) (Nat.le_refl _) (by simp) ?_; (case hd => rfl); (case hg => rfl); (case hr => first | (go_simp; done) | (go_simp; rfl)); (case hp => exact (Reps.none _ _))
                                  intro v385 w34 ho35 hb hg_ hnew_
                                  clear hg_ hnew_
                                  (first | rw [← Ny384.out] at ho35 | (simp only [Int.reduceToNat] at ho35; rw [← Ny384.out] at ho35))
                                  have n0_ := Aside0.mk (Kd.R_elder' (by (with_reducible repeat (first | apply Kd.R_alloc | apply Kd.R_drewN | apply Kd.R_drew)); exact HO_5.out) (Kd.R_base ho35) hb)
                                  have n1_ := Aside0.mk (Kd.R_elder' (by (with_reducible repeat (first | apply Kd.R_alloc | apply Kd.R_drewN | apply Kd.R_drew)); exact HO_13.out) (Kd.R_base ho35) hb)
                                  have n2_ := Aside0.mk (Kd.R_elder' (by (with_reducible repeat (first | apply Kd.R_alloc | apply Kd.R_drewN | apply Kd.R_drew)); exact HO396.out) (Kd.R_base ho35) hb)
                                  have n3_ := Aside0.mk (Kd.R_lower (Kd.R_newB (Kd.R_newB (Kd.R_new' (Kd.R_new' (Kd.R_new' ho35 (Kd.R_lt (by (with_reducible repeat (first | apply Kd.R_alloc | apply Kd.R_drewN | apply Kd.R_drew)); exact HO_5.out))) (Kd.R_lt (by (with_reducible repeat (first | apply Kd.R_alloc | apply Kd.R_drewN | apply Kd.R_drew)); exact HO_13.out))) (Kd.R_lt (by (with_reducible repeat (first | apply Kd.R_alloc | apply Kd.R_drewN | apply Kd.R_drew)); exact HO396.out))) (g := gb373) (o := .cells #[.int .i64 a0_0, .int .i64 a0_1, .int .i64 a0_2, .int .i64 a0_3, .int .i64 a0_4, .int .i64 a0_5] 40 (0, 0)) (by (with_reducible repeat (first | refine blk_drewN ?_ _ | refine blk_drew ?_ | refine blk_alloc ?_ _)); exact BK373.out)) (g := gb381) (o := .cells #[.int .i64 ((rd_T40 t374 x17_1).f0), .int .i64 ((rd_T40 t374 x17_1).f1), .int .i64 ((rd_T40 t374 x17_1).f2), .int .i64 ((rd_T40 t374 x17_1).f3), .int .i64 ((rd_T40 t374 x17_1).f4), .int .i64 ((rd_T40 t374 x17_1).f5)] 40 (0, 0)) (by (with_reducible repeat (first | refine blk_drewN ?_ _ | refine blk_drew ?_ | refine blk_alloc ?_ _)); exact BK381.out)) (below_size (by repeat (first | (with_reducible first | exact HB.out | apply below_alloc | apply pw_below_drewN | apply below_drew1 | refine below_set ?_ GE373.out | refine below_set ?_ GE381.out) | exact HB.out))))
                                  have n4_ := Aside0.mk (blk_below (g := gb373) (o := .cells #[.int .i64 a0_0, .int .i64 a0_1, .int .i64 a0_2, .int .i64 a0_3, .int .i64 a0_4, .int .i64 a0_5] 40 (0, 0)) (by (with_reducible repeat (first | refine blk_drewN ?_ _ | refine blk_drew ?_ | refine blk_alloc ?_ _)); exact BK373.out) hb)
                                  have n5_ := Aside0.mk (blk_below (g := gb381) (o := .cells #[.int .i64 ((rd_T40 t374 x17_1).f0), .int .i64 ((rd_T40 t374 x17_1).f1), .int .i64 ((rd_T40 t374 x17_1).f2), .int .i64 ((rd_T40 t374 x17_1).f3), .int .i64 ((rd_T40 t374 x17_1).f4), .int .i64 ((rd_T40 t374 x17_1).f5)] 40 (0, 0)) (by (with_reducible repeat (first | refine blk_drewN ?_ _ | refine blk_drew ?_ | refine blk_alloc ?_ _)); exact BK381.out) hb)
                                  have n6_ := Aside0.mk (Kd.C_below (by repeat (first | (with_reducible exact HR390.out) | (with_reducible refine Kd.C_alloc ?_ _) | (with_reducible refine Kd.C_drewN ?_ _) | (with_reducible refine Kd.C_drew ?_) | exact HR390.out)) hb)
                                  have n7_ := Aside0.mk (below_step (by repeat (first | (with_reducible first | exact HB.out | apply below_alloc | apply pw_below_drewN | apply below_drew1 | refine below_set ?_ GE373.out | refine below_set ?_ GE381.out) | exact HB.out)) hb)
                                  clear HO_5
                                  clear HO_13
                                  clear HO396
                                  clear BK373
                                  clear BK381
                                  clear HR390
                                  clear HB
                                  have HO_5 := n0_
                                  have HO_13 := n1_
                                  have HO396 := n2_
                                  have HO386 := n3_
                                  have BK373 := n4_
                                  have BK381 := n5_
                                  have HR390 := n6_
                                  have HB := n7_
                                  clear n0_ n1_ n2_ n3_ n4_ n5_ n6_ n7_
                                  clear hb ho35
                                  refine hK.out _ _ ⟨(blk_cell BK381.out 0).trans rfl, (blk_cell BK381.out 1).trans rfl, (blk_cell BK381.out 2).trans rfl, (blk_cell BK381.out 3).trans rfl, (blk_cell BK381.out 4).trans rfl, (blk_cell BK381.out 5).trans rfl⟩ (fun hHeld => ?_)
                                  clear hK K
                                  refine norm_ (a' := ?_) ?_ ?_
                                  rotate_left
                                  · show Act.put _ (some 35) _ = _
                                    simp only [Act.put, List.setIfInBounds_toArray, List.set_cons_zero, List.set_cons_succ, i64_w, i32_w]
                                    rfl
                                  refine one_ (i := 4) (N := some 39) #[true, true, true, true, true, true, true, false, false] rfl rfl (one_of HT_.out (by kernel_rfl)) (by decide) (fun K hK => ?_)
                                  refine Kd.R_append_rows_step k40 (w0 := w) w.heap.size (by rfl) (.tmp 35) (.tmp 38) 55 40 (.agg #[(.int .i64 0), (.int .i64 0), (.int .i64 0), (.int .i64 0), (.int .i64 0), (.int .i64 0)]) 48 rfl Try.underlying55 info40 rfl (by decide) (by omega) v385 y384 y387 _ _ _ (fun k_ => some k_ ≠ (.slice (some ad382) x5_1.length co28 : Value).ownBlock ∧ some k_ ≠ (.slice (some ad380) t374.length co6 : Value).ownBlock ∧ some k_ ≠ (v395 : Value).ownBlock ∧ k_ ≠ gb373 ∧ k_ ≠ gb381) (fun _ => False) rfl rfl ?aO ?aR (fun _ _ h => h) (fun _ h => h.elim) ?aF ?aB ?aS ?aL ?_
                                  (case aR => repeat (first | exact (by repeat (first | (with_reducible exact HR390.out) | (with_reducible refine Kd.C_alloc ?_ _) | (with_reducible refine Kd.C_drewN ?_ _) | (with_reducible refine Kd.C_drew ?_) | exact HR390.out)) | (with_reducible refine Kd.C_alloc ?_ _) | (with_reducible refine Kd.C_drewN ?_ _) | (with_reducible refine Kd.C_drew ?_)))
                                  (case aB => exact (by repeat (first | (with_reducible first | exact HB.out | apply below_alloc | apply pw_below_drewN | apply below_drew1 | refine below_set ?_ GE373.out | refine below_set ?_ GE381.out) | exact HB.out)))
                                  (case aF => exact (fun k_ hk => ⟨Kd.fresh' (Kd.R_lt (by (with_reducible repeat (first | apply Kd.R_alloc | apply Kd.R_drewN | apply Kd.R_drew)); exact HO_5.out)) k_ hk, Kd.fresh' (Kd.R_lt (by (with_reducible repeat (first | apply Kd.R_alloc | apply Kd.R_drewN | apply Kd.R_drew)); exact HO_13.out)) k_ hk, Kd.fresh' (Kd.R_lt (by (with_reducible repeat (first | apply Kd.R_alloc | apply Kd.R_drewN | apply Kd.R_drew)); exact HO396.out)) k_ hk, Kd.freshB (g := gb373) (o := .cells #[.int .i64 a0_0, .int .i64 a0_1, .int .i64 a0_2, .int .i64 a0_3, .int .i64 a0_4, .int .i64 a0_5] 40 (0, 0)) (by (with_reducible repeat (first | refine blk_drewN ?_ _ | refine blk_drew ?_ | refine blk_alloc ?_ _)); exact BK373.out) k_ hk, Kd.freshB (g := gb381) (o := .cells #[.int .i64 ((rd_T40 t374 x17_1).f0), .int .i64 ((rd_T40 t374 x17_1).f1), .int .i64 ((rd_T40 t374 x17_1).f2), .int .i64 ((rd_T40 t374 x17_1).f3), .int .i64 ((rd_T40 t374 x17_1).f4), .int .i64 ((rd_T40 t374 x17_1).f5)] 40 (0, 0)) (by (with_reducible repeat (first | refine blk_drewN ?_ _ | refine blk_drew ?_ | refine blk_alloc ?_ _)); exact BK381.out) k_ hk⟩))
                                  (case aO => exact (by (with_reducible repeat (first | apply Kd.R_alloc | apply Kd.R_drewN | apply Kd.R_drew)); exact Kd.R_mono HO386.out (fun _ hk => ⟨hk.1.1.1.1.2, ⟨hk.1.1.1.2, ⟨hk.1.1.2, ⟨hk.1.2, hk.2⟩⟩⟩⟩)))
                                  (case aS => exact (below_size (by repeat (first | (with_reducible first | exact HB.out | apply below_alloc | apply pw_below_drewN | apply below_drew1 | refine below_set ?_ GE373.out | refine below_set ?_ GE381.out) | exact HB.out))))
                                  (case aL => have := LMc22.out; omega)
                                  intro v392 w36 ho hb hg hat
                                  rw [← Ny391.out] at ho
                                  have n0_ := Aside0.mk (Kd.R_after (ok := (fun k_ => some k_ ≠ (.slice (some ad380) t374.length co6 : Value).ownBlock ∧ some k_ ≠ (v395 : Value).ownBlock ∧ k_ ≠ gb373 ∧ k_ ≠ gb381)) (by (with_reducible repeat (first | apply Kd.R_alloc | apply Kd.R_drewN | apply Kd.R_drew)); exact Kd.R_mono HO_5.out (fun _ hk => ⟨⟨hk.1.1.1, ⟨hk.1.2, ⟨hk.1.1.2.1, hk.1.1.2.2⟩⟩⟩, hk.2⟩)) hg hat)
                                  have n1_ := Aside0.mk (Kd.R_after (ok := (fun k_ => some k_ ≠ (.slice (some ad382) x5_1.length co28 : Value).ownBlock ∧ some k_ ≠ (v395 : Value).ownBlock ∧ k_ ≠ gb373 ∧ k_ ≠ gb381)) (by (with_reducible repeat (first | apply Kd.R_alloc | apply Kd.R_drewN | apply Kd.R_drew)); exact Kd.R_mono HO_13.out (fun _ hk => ⟨⟨hk.1.1.1, ⟨hk.1.2, ⟨hk.1.1.2.1, hk.1.1.2.2⟩⟩⟩, hk.2⟩)) hg hat)
                                  have n2_ := Aside0.mk (blk_grown (g := gb373) (o := .cells #[.int .i64 a0_0, .int .i64 a0_1, .int .i64 a0_2, .int .i64 a0_3, .int .i64 a0_4, .int .i64 a0_5] 40 (0, 0)) (by (with_reducible repeat (first | refine blk_drewN ?_ _ | refine blk_drew ?_ | refine blk_alloc ?_ _)); exact BK373.out) hg (Kd.R_away HO386.out (fun _ hk => hk.1.2)))
                                  have n3_ := Aside0.mk (blk_grown (g := gb381) (o := .cells #[.int .i64 ((rd_T40 t374 x17_1).f0), .int .i64 ((rd_T40 t374 x17_1).f1), .int .i64 ((rd_T40 t374 x17_1).f2), .int .i64 ((rd_T40 t374 x17_1).f3), .int .i64 ((rd_T40 t374 x17_1).f4), .int .i64 ((rd_T40 t374 x17_1).f5)] 40 (0, 0)) (by (with_reducible repeat (first | refine blk_drewN ?_ _ | refine blk_drew ?_ | refine blk_alloc ?_ _)); exact BK381.out) hg (Kd.R_away HO386.out (fun _ hk => hk.2)))
                                  have n4_ := Aside0.mk (Kd.R_after (ok := (fun k_ => some k_ ≠ (.slice (some ad382) x5_1.length co28 : Value).ownBlock ∧ some k_ ≠ (.slice (some ad380) t374.length co6 : Value).ownBlock ∧ k_ ≠ gb373 ∧ k_ ≠ gb381)) (by (with_reducible repeat (first | apply Kd.R_alloc | apply Kd.R_drewN | apply Kd.R_drew)); exact Kd.R_mono HO396.out (fun _ hk => ⟨⟨hk.1.1.1.1.2, ⟨hk.1.1.1.2, ⟨hk.1.1.2, hk.1.2⟩⟩⟩, hk.2⟩)) hg hat)
                                  have n5_ := Aside0.mk (hb)
                                  have n6_ := Aside0.mk ((show Kd.C k40 w36 (some ad382) y387.length y387 from by rw [Ny387.out]; exact Kd.C_take (m := (x8_2 : Int).toNat) ((Kd.R_reads' (Kd.R_after (ok := (fun k_ => some k_ ≠ (.slice (some ad380) t374.length co6 : Value).ownBlock ∧ some k_ ≠ (v395 : Value).ownBlock ∧ k_ ≠ gb373 ∧ k_ ≠ gb381)) (by (with_reducible repeat (first | apply Kd.R_alloc | apply Kd.R_drewN | apply Kd.R_drew)); exact Kd.R_mono HO_5.out (fun _ hk => ⟨⟨hk.1.1.1, ⟨hk.1.2, ⟨hk.1.1.2.1, hk.1.1.2.2⟩⟩⟩, hk.2⟩)) hg hat)).2.2) KL31.out))
                                  have n7_ := Aside0.mk (ho)
                                  clear HO_5
                                  clear HO_13
                                  clear BK373
                                  clear BK381
                                  clear HO396
                                  clear HB
                                  clear HR390
                                  clear HO386
                                  have HO_5 := n0_
                                  have HO_13 := n1_
                                  have BK373 := n2_
                                  have BK381 := n3_
                                  have HO396 := n4_
                                  have HB := n5_
                                  have HR390 := n6_
                                  have HO393 := n7_
                                  clear n0_ n1_ n2_ n3_ n4_ n5_ n6_ n7_
                                  clear ho hb hg hat
                                  refine hK.out _ _ ⟨(blk_cell BK381.out 0).trans rfl, (blk_cell BK381.out 1).trans rfl, (blk_cell BK381.out 2).trans rfl, (blk_cell BK381.out 3).trans rfl, (blk_cell BK381.out 4).trans rfl, (blk_cell BK381.out 5).trans rfl⟩ (fun hHeld => ?_)
                                  clear hK K
                                  refine norm_ (a' := ?_) ?_ ?_
                                  rotate_left
                                  · show Act.put _ (some 39) _ = _
                                    simp only [Act.put, List.setIfInBounds_toArray, List.set_cons_zero, List.set_cons_succ, i64_w, i32_w]
                                    rfl
                                  exact norm_ (by simp only [putAll, Act.put, List.setIfInBounds_toArray, List.set_cons_zero, List.set_cons_succ]) (hCont (v385, v392, v395) _ ⟨hHeld, (by (with_reducible repeat (first | apply Kd.R_alloc | apply Kd.R_drewN | apply Kd.R_drew)); exact Kd.R_mono HO393.out (fun _ hk => ⟨hk.2.2.1, ⟨hk.2.1, ⟨hk.1, ⟨hk.2.2.2.1, hk.2.2.2.2⟩⟩⟩⟩)), (by (with_reducible repeat (first | apply Kd.R_alloc | apply Kd.R_drewN | apply Kd.R_drew)); exact Kd.R_mono HO396.out (fun _ hk => ⟨hk.2, ⟨hk.1.2.1, ⟨hk.1.1, ⟨hk.1.2.2.1, hk.1.2.2.2⟩⟩⟩⟩)), (by (with_reducible repeat (first | apply Kd.R_alloc | apply Kd.R_drewN | apply Kd.R_drew)); exact Kd.R_mono HO_13.out (fun _ hk => ⟨hk.2, ⟨hk.1.2.1, ⟨hk.1.1, ⟨hk.1.2.2.1, hk.1.2.2.2⟩⟩⟩⟩)), (by (with_reducible repeat (first | apply Kd.R_alloc | apply Kd.R_drewN | apply Kd.R_drew)); exact Kd.R_mono HO_5.out (fun _ hk => ⟨hk.2, ⟨hk.1.2.1, ⟨hk.1.1, ⟨hk.1.2.2.1, hk.1.2.2.2⟩⟩⟩⟩)), (by (with_reducible repeat (first | refine blk_drewN ?_ _ | refine blk_drew ?_ | refine blk_alloc ?_ _)); exact BK373.out), (by (with_reducible repeat (first | refine blk_drewN ?_ _ | refine blk_drew ?_ | refine blk_alloc ?_ _)); exact BK381.out), (by repeat (first | (with_reducible first | exact HB.out | apply below_alloc | apply pw_below_drewN | apply below_drew1 | refine below_set ?_ GE373.out | refine below_set ?_ GE381.out) | exact HB.out))⟩)
                              rintro ⟨v385, v392, v395⟩ w37 ⟨hS_, h0_, h1_, h2_, h3_, h4_, h5_, h6_⟩
                              have n0_ : Aside0 (Kd.R k40 40 w37 w.heap.size (fun k_ => some k_ ≠ (v395 : Value).ownBlock ∧ some k_ ≠ (.slice (some ad380) t374.length co6 : Value).ownBlock ∧ some k_ ≠ (.slice (some ad382) x5_1.length co28 : Value).ownBlock ∧ k_ ≠ gb373 ∧ k_ ≠ gb381) v392 y391) := ⟨h0_⟩
                              have n1_ : Aside0 (Kd.R k40 40 w37 w.heap.size (fun k_ => some k_ ≠ (v392 : Value).ownBlock ∧ some k_ ≠ (.slice (some ad380) t374.length co6 : Value).ownBlock ∧ some k_ ≠ (.slice (some ad382) x5_1.length co28 : Value).ownBlock ∧ k_ ≠ gb373 ∧ k_ ≠ gb381) v395 y394) := ⟨h1_⟩
                              have n2_ : Aside0 (Kd.R k40 40 w37 w.heap.size (fun k_ => some k_ ≠ (v392 : Value).ownBlock ∧ some k_ ≠ (v395 : Value).ownBlock ∧ some k_ ≠ (.slice (some ad382) x5_1.length co28 : Value).ownBlock ∧ k_ ≠ gb373 ∧ k_ ≠ gb381) (.slice (some ad380) t374.length co6) t374) := ⟨h2_⟩
                              have n3_ : Aside0 (Kd.R k40 40 w37 w.heap.size (fun k_ => some k_ ≠ (v392 : Value).ownBlock ∧ some k_ ≠ (v395 : Value).ownBlock ∧ some k_ ≠ (.slice (some ad380) t374.length co6 : Value).ownBlock ∧ k_ ≠ gb373 ∧ k_ ≠ gb381) (.slice (some ad382) x5_1.length co28) x5_1) := ⟨h3_⟩
                              have n4_ : Aside0 (w37.heap[gb373]? = some (.cells #[.int .i64 a0_0, .int .i64 a0_1, .int .i64 a0_2, .int .i64 a0_3, .int .i64 a0_4, .int .i64 a0_5] 40 (0, 0))) := ⟨h4_⟩
                              have n5_ : Aside0 (w37.heap[gb381]? = some (.cells #[.int .i64 ((rd_T40 t374 x17_1).f0), .int .i64 ((rd_T40 t374 x17_1).f1), .int .i64 ((rd_T40 t374 x17_1).f2), .int .i64 ((rd_T40 t374 x17_1).f3), .int .i64 ((rd_T40 t374 x17_1).f4), .int .i64 ((rd_T40 t374 x17_1).f5)] 40 (0, 0))) := ⟨h5_⟩
                              have n6_ : Aside0 (Below w.heap.size w w37) := ⟨h6_⟩
                              clear HO_5
                              clear HO_13
                              clear BK373
                              clear BK381
                              clear HB
                              clear h0_ h1_ h2_ h3_ h4_ h5_ h6_
                              have HO393 := n0_
                              have HO396 := n1_
                              have HO_13 := n2_
                              have HO_5 := n3_
                              have BK373 := n4_
                              have BK381 := n5_
                              have HB := n6_
                              clear n0_ n1_ n2_ n3_ n4_ n5_ n6_
                              have hHeld : w37.cell? ⟨gb381, 0, none⟩ = some (.int .i64 ((rd_T40 t374 x17_1).f0)) ∧ w37.cell? ⟨gb381, 1, none⟩ = some (.int .i64 ((rd_T40 t374 x17_1).f1)) ∧ w37.cell? ⟨gb381, 2, none⟩ = some (.int .i64 ((rd_T40 t374 x17_1).f2)) ∧ w37.cell? ⟨gb381, 3, none⟩ = some (.int .i64 ((rd_T40 t374 x17_1).f3)) ∧ w37.cell? ⟨gb381, 4, none⟩ = some (.int .i64 ((rd_T40 t374 x17_1).f4)) ∧ w37.cell? ⟨gb381, 5, none⟩ = some (.int .i64 ((rd_T40 t374 x17_1).f5)) := hS_
                              obtain ⟨Ao39, co39, eo39⟩ := Kd.R_slice HO396.out
                              (first | subst eo39 | (injection eo39 with f1_ f2_ f3_; have f4_ := f1_.symm; have f5_ := f3_.symm; clear f1_ f2_ f3_; subst f4_; subst f5_))
                              refine norm_ (a' := ?_) ?_ ?_
                              rotate_left
                              · simp only [putAll, Act.put, List.setIfInBounds_toArray, List.set_cons_zero, List.set_cons_succ]
                                rfl
                              refine one_ (i := 7) (N := some 42) #[true, true, true, true, true, true, true, true, false] rfl rfl (one_of HT_.out (by kernel_rfl)) (by decide) (fun K hK => ?_)
                              refine Kd.R_append_rows_step k40 (w0 := w) w.heap.size (by rfl) (.tmp 39) (.tmp 41) 55 40 (.agg #[(.int .i64 0), (.int .i64 0), (.int .i64 0), (.int .i64 0), (.int .i64 0), (.int .i64 0)]) 48 rfl Try.underlying55 info40 rfl (by decide) (by omega) v392 y391 y394 _ _ _ (fun k_ => some k_ ≠ (.slice (some ad382) x5_1.length co28 : Value).ownBlock ∧ some k_ ≠ (.slice (some ad380) t374.length co6 : Value).ownBlock ∧ some k_ ≠ (.slice Ao39 y394.length co39 : Value).ownBlock ∧ k_ ≠ gb373 ∧ k_ ≠ gb381) (fun _ => False) rfl rfl ?aO ?aR (fun _ _ h => h) (fun _ h => h.elim) ?aF ?aB ?aS ?aL ?_
                              (case aR => repeat (first | exact (Kd.R_reads' HO396.out).2.2 | (with_reducible refine Kd.C_alloc ?_ _) | (with_reducible refine Kd.C_drewN ?_ _) | (with_reducible refine Kd.C_drew ?_)))
                              (case aB => exact (by repeat (first | (with_reducible first | exact HB.out | apply below_alloc | apply pw_below_drewN | apply below_drew1 | refine below_set ?_ GE373.out | refine below_set ?_ GE381.out) | exact HB.out)))
                              (case aF => exact (fun k_ hk => ⟨Kd.fresh' (Kd.R_lt (by (with_reducible repeat (first | apply Kd.R_alloc | apply Kd.R_drewN | apply Kd.R_drew)); exact HO_5.out)) k_ hk, Kd.fresh' (Kd.R_lt (by (with_reducible repeat (first | apply Kd.R_alloc | apply Kd.R_drewN | apply Kd.R_drew)); exact HO_13.out)) k_ hk, Kd.fresh' (Kd.R_lt (by (with_reducible repeat (first | apply Kd.R_alloc | apply Kd.R_drewN | apply Kd.R_drew)); exact HO396.out)) k_ hk, Kd.freshB (g := gb373) (o := .cells #[.int .i64 a0_0, .int .i64 a0_1, .int .i64 a0_2, .int .i64 a0_3, .int .i64 a0_4, .int .i64 a0_5] 40 (0, 0)) (by (with_reducible repeat (first | refine blk_drewN ?_ _ | refine blk_drew ?_ | refine blk_alloc ?_ _)); exact BK373.out) k_ hk, Kd.freshB (g := gb381) (o := .cells #[.int .i64 ((rd_T40 t374 x17_1).f0), .int .i64 ((rd_T40 t374 x17_1).f1), .int .i64 ((rd_T40 t374 x17_1).f2), .int .i64 ((rd_T40 t374 x17_1).f3), .int .i64 ((rd_T40 t374 x17_1).f4), .int .i64 ((rd_T40 t374 x17_1).f5)] 40 (0, 0)) (by (with_reducible repeat (first | refine blk_drewN ?_ _ | refine blk_drew ?_ | refine blk_alloc ?_ _)); exact BK381.out) k_ hk⟩))
                              (case aO => exact (by (with_reducible repeat (first | apply Kd.R_alloc | apply Kd.R_drewN | apply Kd.R_drew)); exact Kd.R_mono HO393.out (fun _ hk => ⟨hk.2.2.1, ⟨hk.2.1, ⟨hk.1, ⟨hk.2.2.2.1, hk.2.2.2.2⟩⟩⟩⟩)))
                              (case aS => exact (below_size (by repeat (first | (with_reducible first | exact HB.out | apply below_alloc | apply pw_below_drewN | apply below_drew1 | refine below_set ?_ GE373.out | refine below_set ?_ GE381.out) | exact HB.out))))
                              (case aL => have := LMc23.out; omega)
                              intro v398 w38 ho hb hg hat
                              rw [← Ny397.out] at ho
                              have n0_ := Aside0.mk (Kd.R_after (ok := (fun k_ => some k_ ≠ (.slice (some ad380) t374.length co6 : Value).ownBlock ∧ some k_ ≠ (.slice Ao39 y394.length co39 : Value).ownBlock ∧ k_ ≠ gb373 ∧ k_ ≠ gb381)) (by (with_reducible repeat (first | apply Kd.R_alloc | apply Kd.R_drewN | apply Kd.R_drew)); exact Kd.R_mono HO_5.out (fun _ hk => ⟨⟨hk.2.2.1, ⟨hk.2.1, ⟨hk.2.2.2.1, hk.2.2.2.2⟩⟩⟩, hk.1⟩)) hg hat)
                              have n1_ := Aside0.mk (Kd.R_after (ok := (fun k_ => some k_ ≠ (.slice (some ad382) x5_1.length co28 : Value).ownBlock ∧ some k_ ≠ (.slice Ao39 y394.length co39 : Value).ownBlock ∧ k_ ≠ gb373 ∧ k_ ≠ gb381)) (by (with_reducible repeat (first | apply Kd.R_alloc | apply Kd.R_drewN | apply Kd.R_drew)); exact Kd.R_mono HO_13.out (fun _ hk => ⟨⟨hk.2.2.1, ⟨hk.2.1, ⟨hk.2.2.2.1, hk.2.2.2.2⟩⟩⟩, hk.1⟩)) hg hat)
                              have n2_ := Aside0.mk (blk_grown (g := gb373) (o := .cells #[.int .i64 a0_0, .int .i64 a0_1, .int .i64 a0_2, .int .i64 a0_3, .int .i64 a0_4, .int .i64 a0_5] 40 (0, 0)) (by (with_reducible repeat (first | refine blk_drewN ?_ _ | refine blk_drew ?_ | refine blk_alloc ?_ _)); exact BK373.out) hg (Kd.R_away HO393.out (fun _ hk => hk.2.2.2.1)))
                              have n3_ := Aside0.mk (blk_grown (g := gb381) (o := .cells #[.int .i64 ((rd_T40 t374 x17_1).f0), .int .i64 ((rd_T40 t374 x17_1).f1), .int .i64 ((rd_T40 t374 x17_1).f2), .int .i64 ((rd_T40 t374 x17_1).f3), .int .i64 ((rd_T40 t374 x17_1).f4), .int .i64 ((rd_T40 t374 x17_1).f5)] 40 (0, 0)) (by (with_reducible repeat (first | refine blk_drewN ?_ _ | refine blk_drew ?_ | refine blk_alloc ?_ _)); exact BK381.out) hg (Kd.R_away HO393.out (fun _ hk => hk.2.2.2.2)))
                              have n4_ := Aside0.mk (Kd.R_after (ok := (fun k_ => some k_ ≠ (.slice (some ad382) x5_1.length co28 : Value).ownBlock ∧ some k_ ≠ (.slice (some ad380) t374.length co6 : Value).ownBlock ∧ k_ ≠ gb373 ∧ k_ ≠ gb381)) (by (with_reducible repeat (first | apply Kd.R_alloc | apply Kd.R_drewN | apply Kd.R_drew)); exact Kd.R_mono HO396.out (fun _ hk => ⟨⟨hk.2.2.1, ⟨hk.2.1, ⟨hk.2.2.2.1, hk.2.2.2.2⟩⟩⟩, hk.1⟩)) hg hat)
                              have n5_ := Aside0.mk (hb)
                              have n6_ := Aside0.mk (ho)
                              clear HO_5
                              clear HO_13
                              clear BK373
                              clear BK381
                              clear HO396
                              clear HB
                              clear HO393
                              have HO_5 := n0_
                              have HO_13 := n1_
                              have BK373 := n2_
                              have BK381 := n3_
                              have HO396 := n4_
                              have HB := n5_
                              have HO399 := n6_
                              clear n0_ n1_ n2_ n3_ n4_ n5_ n6_
                              clear ho hb hg hat
                              refine hK.out _ _ ⟨(blk_cell BK381.out 0).trans rfl, (blk_cell BK381.out 1).trans rfl, (blk_cell BK381.out 2).trans rfl, (blk_cell BK381.out 3).trans rfl, (blk_cell BK381.out 4).trans rfl, (blk_cell BK381.out 5).trans rfl⟩ (fun hHeld => ?_)
                              clear hK K
                              refine norm_ (a' := ?_) ?_ ?_
                              rotate_left
                              · show Act.put _ (some 42) _ = _
                                simp only [Act.put, List.setIfInBounds_toArray, List.set_cons_zero, List.set_cons_succ, i64_w, i32_w]
                                rfl
                              refine pure_ (i := 8) (N := some 9) (v := ?_) (a' := ?_) #[true, true, true, true, true, true, true, true, true] rfl rfl (any_of HT_.out (by kernel_rfl)) (fun _ _ _ h => h) (Or.inl ⟨by rfl, ?_⟩) ?_ ?_
                              rotate_left
                              · intro w'
                                go_simp
                                first | (with_reducible rfl) | (rw [if_neg (by simp only [ByteArray.size_extract, ByteArray.size_append] at * <;> omega)]; try with_reducible rfl)
                              rotate_left
                              · simp only [Act.put, List.setIfInBounds_toArray, List.set_cons_zero, List.set_cons_succ, i64_w, i32_w]
                                rfl
                              refine done_ (done_of HT_.out (by kernel_rfl)) ?_
                              have q40 : (x8_2 : Int) ≤ ((x5_1.length : Int) : Int) := of_decide_eq_true (by first | (with_reducible assumption) | assumption)
                              obtain ⟨i040, hi040, _, hsz40, _⟩ := info_parts info40
                              have hroom40 : x5_1.length ≤ co28 := (Kd.R_reads' HO_5.out).2.1
                              have hC40 : Kd.C k40 _ (some ad382) x5_1.length x5_1 := (Kd.R_reads' HO_5.out).2.2
                              have q040 : (0 : Int) ≤ (x8_2 : Int) := of_decide_eq_true (by first | (with_reducible assumption) | assumption)
                              have hcut40 := cut_from (P := Try.prog) 55 40 .i64 Try.underlying55 hi040 6 hsz40 (some ad382) x5_1.length co28 x8_2 q040 q40
                              have hr40 := Kd.C_drop (m := (x8_2 : Int).toNat) (c := co28) hC40 (by omega) hroom40
                              obtain ⟨A40, hA40⟩ : ∃ A1, A1 = (if co28 = (x8_2 : Int).toNat then (some ad382) else ((some ad382) : Option Addr).map (·.add ((x8_2 : Int).toNat * 6))) := ⟨_, rfl⟩
                              obtain ⟨c40, hc40⟩ : ∃ c1, c1 = co28 - (x8_2 : Int).toNat := ⟨_, rfl⟩
                              have hy40 : y400.length = x5_1.length - (x8_2 : Int).toNat := (by rw [Ny400.out, List.length_drop] <;> omega)
                              rw [show (x5_1).drop (x8_2 : Int).toNat = y400 from Ny400.out.symm] at hr40
                              replace hr40 : Kd.C k40 _ A40 y400.length y400 := (by rw [hA40]; exact hr40)
                              rw [← hy40, ← hA40, ← hc40] at hcut40
                              have HR403 := Aside0.mk hr40
                              have HC403 := Aside0.mk (show y400.length ≤ c40 from by rw [hy40, hc40]; exact Nat.sub_le_sub_right hroom40 _)
                              clear hr40 hC40 hroom40 hi040 hsz40 hc40
                              have KY40 := Aside0.mk hy40
                              have KA40 := Aside0.mk hA40
                              clear hy40 hA40
                              have KL40 := Aside0.mk (show (x8_2 : Int).toNat ≤ x5_1.length from by omega)
                              replace q40 := eq_true q40
                              try go_wp2_with (first | ((with_reducible refine gate_builtin (b := .append) (xs := #[.tmp 43, .tmp 46]) rfl ?_); at_builtin; refine Kd.R_append_rows k40 (w0 := w) w.heap.size rfl (.tmp 43) (.tmp 46) 55 40 (.agg #[(.int .i64 0), (.int .i64 0), (.int .i64 0), (.int .i64 0), (.int .i64 0), (.int .i64 0)]) 48 rfl Try.underlying55 info40 rfl (by decide) (by omega) v398 y397 y400 _ _ _ (fun k_ => some k_ ≠ (.slice (some ad382) x5_1.length co28 : Value).ownBlock ∧ some k_ ≠ (.slice (some ad380) t374.length co6 : Value).ownBlock ∧ some k_ ≠ (.slice Ao39 y394.length co39 : Value).ownBlock ∧ k_ ≠ gb373 ∧ k_ ≠ gb381) (fun _ => False) rfl rfl ?aO ?aR (fun _ _ h => h) (fun _ h => h.elim) ?aF ?aB ?aS ?aL ?_; (case aR => repeat (first | exact (by repeat (first | (with_reducible exact HR403.out) | (with_reducible refine Kd.C_alloc ?_ _) | (with_reducible refine Kd.C_drewN ?_ _) | (with_reducible refine Kd.C_drew ?_) | exact HR403.out)) | (with_reducible refine Kd.C_alloc ?_ _) | (with_reducible refine Kd.C_drewN ?_ _) | (with_reducible refine Kd.C_drew ?_))); (case aB => exact (by repeat (first | (with_reducible first | exact HB.out | apply below_alloc | apply pw_below_drewN | apply below_drew1 | refine below_set ?_ GE373.out | refine below_set ?_ GE381.out) | exact HB.out))); (case aF => exact (fun k_ hk => ⟨Kd.fresh' (Kd.R_lt (by (with_reducible repeat (first | apply Kd.R_alloc | apply Kd.R_drewN | apply Kd.R_drew)); exact HO_5.out)) k_ hk, Kd.fresh' (Kd.R_lt (by (with_reducible repeat (first | apply Kd.R_alloc | apply Kd.R_drewN | apply Kd.R_drew)); exact HO_13.out)) k_ hk, Kd.fresh' (Kd.R_lt (by (with_reducible repeat (first | apply Kd.R_alloc | apply Kd.R_drewN | apply Kd.R_drew)); exact HO396.out)) k_ hk, Kd.freshB (g := gb373) (o := .cells #[.int .i64 a0_0, .int .i64 a0_1, .int .i64 a0_2, .int .i64 a0_3, .int .i64 a0_4, .int .i64 a0_5] 40 (0, 0)) (by (with_reducible repeat (first | refine blk_drewN ?_ _ | refine blk_drew ?_ | refine blk_alloc ?_ _)); exact BK373.out) k_ hk, Kd.freshB (g := gb381) (o := .cells #[.int .i64 ((rd_T40 t374 x17_1).f0), .int .i64 ((rd_T40 t374 x17_1).f1), .int .i64 ((rd_T40 t374 x17_1).f2), .int .i64 ((rd_T40 t374 x17_1).f3), .int .i64 ((rd_T40 t374 x17_1).f4), .int .i64 ((rd_T40 t374 x17_1).f5)] 40 (0, 0)) (by (with_reducible repeat (first | refine blk_drewN ?_ _ | refine blk_drew ?_ | refine blk_alloc ?_ _)); exact BK381.out) k_ hk⟩)); (case aO => exact (by (with_reducible repeat (first | apply Kd.R_alloc | apply Kd.R_drewN | apply Kd.R_drew)); exact HO399.out)); (case aS => exact (below_size (by repeat (first | (with_reducible first | exact HB.out | apply below_alloc | apply pw_below_drewN | apply below_drew1 | refine below_set ?_ GE373.out | refine below_set ?_ GE381.out) | exact HB.out)))); (case aL => have := LMc26.out; omega); intro v405 w41 ho hb hg hat; rw [← Ny404.out] at ho; have n0_ := Aside0.mk (Kd.R_after (ok := (fun k_ => some k_ ≠ (.slice (some ad380) t374.length co6 : Value).ownBlock ∧ some k_ ≠ (.slice Ao39 y394.length co39 : Value).ownBlock ∧ k_ ≠ gb373 ∧ k_ ≠ gb381)) (by (with_reducible repeat (first | apply Kd.R_alloc | apply Kd.R_drewN | apply Kd.R_drew)); exact HO_5.out) hg hat); have n1_ := Aside0.mk (Kd.R_after (ok := (fun k_ => some k_ ≠ (.slice (some ad382) x5_1.length co28 : Value).ownBlock ∧ some k_ ≠ (.slice Ao39 y394.length co39 : Value).ownBlock ∧ k_ ≠ gb373 ∧ k_ ≠ gb381)) (by (with_reducible repeat (first | apply Kd.R_alloc | apply Kd.R_drewN | apply Kd.R_drew)); exact HO_13.out) hg hat); have n2_ := Aside0.mk (blk_grown (g := gb373) (o := .cells #[.int .i64 a0_0, .int .i64 a0_1, .int .i64 a0_2, .int .i64 a0_3, .int .i64 a0_4, .int .i64 a0_5] 40 (0, 0)) (by (with_reducible repeat (first | refine blk_drewN ?_ _ | refine blk_drew ?_ | refine blk_alloc ?_ _)); exact BK373.out) hg (Kd.R_away HO399.out (fun _ hk => hk.2.2.2.1))); have n3_ := Aside0.mk (blk_grown (g := gb381) (o := .cells #[.int .i64 ((rd_T40 t374 x17_1).f0), .int .i64 ((rd_T40 t374 x17_1).f1), .int .i64 ((rd_T40 t374 x17_1).f2), .int .i64 ((rd_T40 t374 x17_1).f3), .int .i64 ((rd_T40 t374 x17_1).f4), .int .i64 ((rd_T40 t374 x17_1).f5)] 40 (0, 0)) (by (with_reducible repeat (first | refine blk_drewN ?_ _ | refine blk_drew ?_ | refine blk_alloc ?_ _)); exact BK381.out) hg (Kd.R_away HO399.out (fun _ hk => hk.2.2.2.2))); have n4_ := Aside0.mk (Kd.R_after (ok := (fun k_ => some k_ ≠ (.slice (some ad382) x5_1.length co28 : Value).ownBlock ∧ some k_ ≠ (.slice (some ad380) t374.length co6 : Value).ownBlock ∧ k_ ≠ gb373 ∧ k_ ≠ gb381)) (by (with_reducible repeat (first | apply Kd.R_alloc | apply Kd.R_drewN | apply Kd.R_drew)); exact HO396.out) hg hat); have n5_ := Aside0.mk (hb); have n6_ := Aside0.mk ((show Kd.C k40 w41 A40 y400.length y400 from by rw [Ny400.out, KA40.out]; exact Kd.C_drop (m := (x8_2 : Int).toNat) (c := co28) ((Kd.R_reads' (Kd.R_after (ok := (fun k_ => some k_ ≠ (.slice (some ad380) t374.length co6 : Value).ownBlock ∧ some k_ ≠ (.slice Ao39 y394.length co39 : Value).ownBlock ∧ k_ ≠ gb373 ∧ k_ ≠ gb381)) (by (with_reducible repeat (first | apply Kd.R_alloc | apply Kd.R_drewN | apply Kd.R_drew)); exact HO_5.out) hg hat)).2.2) KL40.out ((Kd.R_reads' (Kd.R_after (ok := (fun k_ => some k_ ≠ (.slice (some ad380) t374.length co6 : Value).ownBlock ∧ some k_ ≠ (.slice Ao39 y394.length co39 : Value).ownBlock ∧ k_ ≠ gb373 ∧ k_ ≠ gb381)) (by (with_reducible repeat (first | apply Kd.R_alloc | apply Kd.R_drewN | apply Kd.R_drew)); exact HO_5.out) hg hat)).2.1))); have n7_ := Aside0.mk (ho); clear HO_5; clear HO_13; clear BK373; clear BK381; clear HO396; clear HB; clear HR403; clear HO399; have HO_5 := n0_; have HO_13 := n1_; have BK373 := n2_; have BK381 := n3_; have HO396 := n4_; have HB := n5_; have HR403 := n6_; have HO406 := n7_; clear n0_ n1_ n2_ n3_ n4_ n5_ n6_ n7_; clear ho hb hg hat))
                              go_roundg k2
                              case measure => have := HK1.out; have := HK2.out; omega
                              case rel => exact ⟨(y404), (wrap64 (x17_1 + 1)), (by first | rfl | (simp; done) | (simp [*]; done)), H', ⟨by have := HK1.out; have := HK2.out; omega⟩, ⟨by (with_reducible repeat (first | apply Kd.R_alloc | apply Kd.R_drewN | apply Kd.R_drew)); exact Kd.R_mono HO406.out (fun _ hk => ⟨hk.2.1, hk.2.2.2.1⟩)⟩, ⟨by (with_reducible repeat (first | apply Kd.R_alloc | apply Kd.R_drewN | apply Kd.R_drew)); exact Kd.R_mono HO_13.out (fun _ hk => ⟨hk.2, hk.1.2.2.1⟩)⟩, ⟨by (with_reducible repeat (first | refine blk_drewN ?_ _ | refine blk_drew ?_ | refine blk_alloc ?_ _)); exact BK373.out⟩, ⟨by repeat (first | (with_reducible first | exact HB.out | apply below_alloc | apply pw_below_drewN | apply below_drew1 | refine below_set ?_ GE373.out | refine below_set ?_ GE381.out) | exact HB.out)⟩⟩
                            · rw [if_neg c26] at H
                              exact absurd H (by simp)
                          · rw [if_neg c23] at H
                            exact absurd H (by simp)
                        · rw [if_neg c22] at H
                          exact absurd H (by simp)
                      · rw [if_neg c21] at H
                        exact absurd H (by simp)
                  · rw [if_neg c14] at H
                    exact absurd H (by simp)
                · rw [if_neg c13] at H
                  have c13b0 : decide (x8_2 < (x5_1.length : Int)) = false := decide_eq_false c13
                  clear c13
                  obtain ⟨y407, hy407⟩ : ∃ y_ : List (S40), y_ = (([] : List (S40))) := ⟨_, rfl⟩
                  replace H : (if 0 ≤ x8_2 then (if x8_2 ≤ (x5_1.length : Int) then ((some (x5_1.take (x8_2 : Int).toNat : List (S40))).bind fun y410 => (if y407.length + y410.length < 2932031007402 then ((some (y407 ++ y410 : List (S40))).bind fun y414 => ((some (([(⟨((rd_T40 t374 x17_1).f0), ((rd_T40 t374 x17_1).f1), ((rd_T40 t374 x17_1).f2), ((rd_T40 t374 x17_1).f3), ((rd_T40 t374 x17_1).f4), ((rd_T40 t374 x17_1).f5)⟩ : S40)] : List (S40)) : List (S40))).bind fun y417 => (if y414.length + y417.length < 2932031007402 then ((some (y414 ++ y417 : List (S40))).bind fun y420 => ((some (x5_1.drop (x8_2 : Int).toNat : List (S40))).bind fun y423 => (if y420.length + y423.length < 2932031007402 then (spec_diWays.l0 k2 (y420 ++ y423) t374 (t374.length : Int) (wrap64 (x17_1 + 1))) else (none)))) else (none)))) else (none))) else (none)) else (none)) = some r := by first | (rw [hy407]; with_reducible exact H) | (have H2_ := (Option.bind_some _ _).symm.trans H; rw [hy407]; with_reducible exact H2_) | (have H2_ := (Option.bind_some _ _).symm.trans H; with_reducible exact H2_) | with_reducible exact H | (rw [hy407]; exact H) | exact H
                  have Ny407 := Aside0.mk hy407
                  clear hy407
                  by_cases c42 : 0 ≤ x8_2
                  · rw [if_pos c42] at H
                    have c42b0 := eq_true c42
                    have c42b1 : decide (0 ≤ x8_2) = true := decide_eq_true c42
                    clear c42
                    by_cases c43 : x8_2 ≤ (x5_1.length : Int)
                    · rw [if_pos c43] at H
                      have c43b0 := eq_true c43
                      have c43b1 : decide (x8_2 ≤ (x5_1.length : Int)) = true := decide_eq_true c43
                      clear c43
                      obtain ⟨y410, hy410⟩ : ∃ y_ : List (S40), y_ = (x5_1.take (x8_2 : Int).toNat) := ⟨_, rfl⟩
                      replace H : (if y407.length + y410.length < 2932031007402 then ((some (y407 ++ y410 : List (S40))).bind fun y414 => ((some (([(⟨((rd_T40 t374 x17_1).f0), ((rd_T40 t374 x17_1).f1), ((rd_T40 t374 x17_1).f2), ((rd_T40 t374 x17_1).f3), ((rd_T40 t374 x17_1).f4), ((rd_T40 t374 x17_1).f5)⟩ : S40)] : List (S40)) : List (S40))).bind fun y417 => (if y414.length + y417.length < 2932031007402 then ((some (y414 ++ y417 : List (S40))).bind fun y420 => ((some (x5_1.drop (x8_2 : Int).toNat : List (S40))).bind fun y423 => (if y420.length + y423.length < 2932031007402 then (spec_diWays.l0 k2 (y420 ++ y423) t374 (t374.length : Int) (wrap64 (x17_1 + 1))) else (none)))) else (none)))) else (none)) = some r := by first | (rw [hy410]; with_reducible exact H) | (have H2_ := (Option.bind_some _ _).symm.trans H; rw [hy410]; with_reducible exact H2_) | (have H2_ := (Option.bind_some _ _).symm.trans H; with_reducible exact H2_) | with_reducible exact H | (rw [hy410]; exact H) | exact H
                      have Ny410 := Aside0.mk hy410
                      clear hy410
                      by_cases c44 : y407.length + y410.length < 2932031007402
                      · rw [if_pos c44] at H
                        have LMc44 := Aside0.mk c44
                        clear c44
                        obtain ⟨y414, hy414⟩ : ∃ y_ : List (S40), y_ = (y407 ++ y410) := ⟨_, rfl⟩
                        replace H : ((some (([(⟨((rd_T40 t374 x17_1).f0), ((rd_T40 t374 x17_1).f1), ((rd_T40 t374 x17_1).f2), ((rd_T40 t374 x17_1).f3), ((rd_T40 t374 x17_1).f4), ((rd_T40 t374 x17_1).f5)⟩ : S40)] : List (S40)) : List (S40))).bind fun y417 => (if y414.length + y417.length < 2932031007402 then ((some (y414 ++ y417 : List (S40))).bind fun y420 => ((some (x5_1.drop (x8_2 : Int).toNat : List (S40))).bind fun y423 => (if y420.length + y423.length < 2932031007402 then (spec_diWays.l0 k2 (y420 ++ y423) t374 (t374.length : Int) (wrap64 (x17_1 + 1))) else (none)))) else (none))) = some r := by first | (rw [hy414]; with_reducible exact H) | (have H2_ := (Option.bind_some _ _).symm.trans H; rw [hy414]; with_reducible exact H2_) | (have H2_ := (Option.bind_some _ _).symm.trans H; with_reducible exact H2_) | with_reducible exact H | (rw [hy414]; exact H) | exact H
                        have Ny414 := Aside0.mk hy414
                        clear hy414
                        obtain ⟨y417, hy417⟩ : ∃ y_ : List (S40), y_ = (([(⟨((rd_T40 t374 x17_1).f0), ((rd_T40 t374 x17_1).f1), ((rd_T40 t374 x17_1).f2), ((rd_T40 t374 x17_1).f3), ((rd_T40 t374 x17_1).f4), ((rd_T40 t374 x17_1).f5)⟩ : S40)] : List (S40))) := ⟨_, rfl⟩
                        replace H : (if y414.length + y417.length < 2932031007402 then ((some (y414 ++ y417 : List (S40))).bind fun y420 => ((some (x5_1.drop (x8_2 : Int).toNat : List (S40))).bind fun y423 => (if y420.length + y423.length < 2932031007402 then (spec_diWays.l0 k2 (y420 ++ y423) t374 (t374.length : Int) (wrap64 (x17_1 + 1))) else (none)))) else (none)) = some r := by first | (rw [hy417]; with_reducible exact H) | (have H2_ := (Option.bind_some _ _).symm.trans H; rw [hy417]; with_reducible exact H2_) | (have H2_ := (Option.bind_some _ _).symm.trans H; with_reducible exact H2_) | with_reducible exact H | (rw [hy417]; exact H) | exact H
                        have Ny417 := Aside0.mk hy417
                        clear hy417
                        by_cases c45 : y414.length + y417.length < 2932031007402
                        · rw [if_pos c45] at H
                          have LMc45 := Aside0.mk c45
                          clear c45
                          obtain ⟨y420, hy420⟩ : ∃ y_ : List (S40), y_ = (y414 ++ y417) := ⟨_, rfl⟩
                          replace H : ((some (x5_1.drop (x8_2 : Int).toNat : List (S40))).bind fun y423 => (if y420.length + y423.length < 2932031007402 then (spec_diWays.l0 k2 (y420 ++ y423) t374 (t374.length : Int) (wrap64 (x17_1 + 1))) else (none))) = some r := by first | (rw [hy420]; with_reducible exact H) | (have H2_ := (Option.bind_some _ _).symm.trans H; rw [hy420]; with_reducible exact H2_) | (have H2_ := (Option.bind_some _ _).symm.trans H; with_reducible exact H2_) | with_reducible exact H | (rw [hy420]; exact H) | exact H
                          have Ny420 := Aside0.mk hy420
                          clear hy420
                          have c46b0 := eq_true (of_decide_eq_true (by first | (with_reducible assumption) | assumption) : 0 ≤ x8_2)
                          have c47b0 := eq_true (of_decide_eq_true (by first | (with_reducible assumption) | assumption) : x8_2 ≤ (x5_1.length : Int))
                          obtain ⟨y423, hy423⟩ : ∃ y_ : List (S40), y_ = (x5_1.drop (x8_2 : Int).toNat) := ⟨_, rfl⟩
                          replace H : (if y420.length + y423.length < 2932031007402 then (spec_diWays.l0 k2 (y420 ++ y423) t374 (t374.length : Int) (wrap64 (x17_1 + 1))) else (none)) = some r := by first | (rw [hy423]; with_reducible exact H) | (have H2_ := (Option.bind_some _ _).symm.trans H; rw [hy423]; with_reducible exact H2_) | (have H2_ := (Option.bind_some _ _).symm.trans H; with_reducible exact H2_) | with_reducible exact H | (rw [hy423]; exact H) | exact H
                          have Ny423 := Aside0.mk hy423
                          clear hy423
                          by_cases c48 : y420.length + y423.length < 2932031007402
                          · rw [if_pos c48] at H
                            have LMc48 := Aside0.mk c48
                            clear c48
                            obtain ⟨y427, hy427⟩ : ∃ y_ : List (S40), y_ = (y420 ++ y423) := ⟨_, rfl⟩
                            replace H : (spec_diWays.l0 k2 y427 t374 (t374.length : Int) (wrap64 (x17_1 + 1))) = some r := by first | (rw [hy427]; with_reducible exact H) | (have H2_ := (Option.bind_some _ _).symm.trans H; rw [hy427]; with_reducible exact H2_) | (have H2_ := (Option.bind_some _ _).symm.trans H; with_reducible exact H2_) | with_reducible exact H | (rw [hy427]; exact H) | exact H
                            have Ny427 := Aside0.mk hy427
                            clear hy427
                            have H' := Aside0.mk H
                            clear H
                            try go_wp2
                            have n0_ := Aside0.mk (Kd.R_drew HO_5.out)
                            have n1_ := Aside0.mk (Kd.R_drew HO_13.out)
                            have n2_ := Aside0.mk (blk_drew BK373.out)
                            have n3_ := Aside0.mk (blk_drew BK381.out)
                            have n4_ := Aside0.mk (below_drew1 HB.out)
                            clear HO_5
                            clear HO_13
                            clear BK373
                            clear BK381
                            clear HB
                            have HO_5 := n0_
                            have HO_13 := n1_
                            have BK373 := n2_
                            have BK381 := n3_
                            have HB := n4_
                            clear n0_ n1_ n2_ n3_ n4_
                            obtain ⟨Ao50, co50, eo50⟩ := Kd.R_slice HO_5.out
                            (first | subst eo50 | (injection eo50 with f1_ f2_ f3_; have f4_ := f1_.symm; have f5_ := f3_.symm; clear f1_ f2_ f3_; subst f4_; subst f5_))
                            refine start_ (n := 12) (S := fun w' => True) (ds := []) #[false, false, false, false, false, false, false, false, false, false, false, false] (by kernel_rfl) rfl rfl trivial (fun hHeld => ?_); refine with_tabW spec_diWays.tab7 spec_diWays.bits7 (fun HT_ HW_ => ?_)
                            generalize wr.drew = w49 at HO_5 HO_13 BK373 BK381 HB hHeld ⊢
                            refine pure_ (i := 0) (N := some 21) (v := ?_) (a' := ?_) #[true, false, false, false, false, false, false, false, false, false, false, false] rfl rfl (any_of HT_.out (by kernel_rfl)) (fun _ _ _ h => h) (Or.inl ⟨by rfl, ?_⟩) ?_ ?_
                            rotate_left
                            · intro w'
                              go_simp
                              first | (with_reducible rfl) | (rw [if_neg (by simp only [ByteArray.size_extract, ByteArray.size_append] at * <;> omega)]; try with_reducible rfl)
                            rotate_left
                            · simp only [Act.put, List.setIfInBounds_toArray, List.set_cons_zero, List.set_cons_succ, i64_w, i32_w]
                              rfl
                            refine pure_ (i := 1) (N := some 22) (v := ?_) (a' := ?_) #[true, true, false, false, false, false, false, false, false, false, false, false] rfl rfl (any_of HT_.out (by kernel_rfl)) (fun _ _ _ h => h) (Or.inl ⟨by rfl, ?_⟩) ?_ ?_
                            rotate_left
                            · intro w'
                              go_simp
                              first | (with_reducible rfl) | (rw [if_neg (by simp only [ByteArray.size_extract, ByteArray.size_append] at * <;> omega)]; try with_reducible rfl)
                            rotate_left
                            · simp only [Act.put, List.setIfInBounds_toArray, List.set_cons_zero, List.set_cons_succ, i64_w, i32_w]
                              rfl
                            refine pure_ (i := 2) (N := some 23) (v := ?_) (a' := ?_) #[true, true, true, false, false, false, false, false, false, false, false, false] rfl rfl (any_of HT_.out (by kernel_rfl)) (fun _ _ _ h => h) (Or.inl ⟨by rfl, ?_⟩) ?_ ?_
                            rotate_left
                            · intro w'
                              go_simp
                              first | (with_reducible rfl) | (rw [if_neg (by simp only [ByteArray.size_extract, ByteArray.size_append] at * <;> omega)]; try with_reducible rfl)
                            rotate_left
                            · simp only [Act.put, List.setIfInBounds_toArray, List.set_cons_zero, List.set_cons_succ, i64_w, i32_w]
                              rfl
                            refine pure_ (i := 3) (N := some 24) (v := ?_) (a' := ?_) #[true, true, true, true, false, false, false, false, false, false, false, false] rfl rfl (any_of HT_.out (by kernel_rfl)) (fun _ _ _ h => h) (Or.inl ⟨by rfl, ?_⟩) ?_ ?_
                            rotate_left
                            · intro w'
                              go_simp
                              first | (with_reducible rfl) | (rw [if_neg (by simp only [ByteArray.size_extract, ByteArray.size_append] at * <;> omega)]; try with_reducible rfl)
                            rotate_left
                            · simp only [Act.put, List.setIfInBounds_toArray, List.set_cons_zero, List.set_cons_succ, i64_w, i32_w]
                              rfl
                            refine pure_ (i := 4) (N := some 25) (v := ?_) (a' := ?_) #[true, true, true, true, true, false, false, false, false, false, false, false] rfl rfl (any_of HT_.out (by kernel_rfl)) (fun _ _ _ h => h) (Or.inl ⟨by rfl, ?_⟩) ?_ ?_
                            rotate_left
                            · intro w'
                              go_simp
                              first | (with_reducible rfl) | (rw [if_neg (by simp only [ByteArray.size_extract, ByteArray.size_append] at * <;> omega)]; try with_reducible rfl)
                            rotate_left
                            · simp only [Act.put, List.setIfInBounds_toArray, List.set_cons_zero, List.set_cons_succ, i64_w, i32_w]
                              rfl
                            refine pure_ (i := 5) (N := some 26) (v := undef) (a' := ?_) #[true, true, true, true, true, true, false, false, false, false, false, false] rfl rfl (any_of HT_.out (by kernel_rfl)) (fun _ _ _ h => h) (Or.inr ⟨by rfl, rfl⟩) ?_ ?_
                            rotate_left
                            · simp only [Act.put, List.setIfInBounds_toArray, List.set_cons_zero, List.set_cons_succ, i64_w, i32_w]
                              rfl
                            refine pure_ (i := 6) (N := some 27) (v := undef) (a' := ?_) #[true, true, true, true, true, true, true, false, false, false, false, false] rfl rfl (any_of HT_.out (by kernel_rfl)) (fun _ _ _ h => h) (Or.inr ⟨by rfl, rfl⟩) ?_ ?_
                            rotate_left
                            · simp only [Act.put, List.setIfInBounds_toArray, List.set_cons_zero, List.set_cons_succ, i64_w, i32_w]
                              rfl
                            refine pure_ (i := 7) (N := some 28) (v := undef) (a' := ?_) #[true, true, true, true, true, true, true, true, false, false, false, false] rfl rfl (any_of HT_.out (by kernel_rfl)) (fun _ _ _ h => h) (Or.inr ⟨by rfl, rfl⟩) ?_ ?_
                            rotate_left
                            · simp only [Act.put, List.setIfInBounds_toArray, List.set_cons_zero, List.set_cons_succ, i64_w, i32_w]
                              rfl
                            refine pure_ (i := 8) (N := some 29) (v := undef) (a' := ?_) #[true, true, true, true, true, true, true, true, true, false, false, false] rfl rfl (any_of HT_.out (by kernel_rfl)) (fun _ _ _ h => h) (Or.inr ⟨by rfl, rfl⟩) ?_ ?_
                            rotate_left
                            · simp only [Act.put, List.setIfInBounds_toArray, List.set_cons_zero, List.set_cons_succ, i64_w, i32_w]
                              rfl
                            refine pure_ (i := 9) (N := some 30) (v := undef) (a' := ?_) #[true, true, true, true, true, true, true, true, true, true, false, false] rfl rfl (any_of HT_.out (by kernel_rfl)) (fun _ _ _ h => h) (Or.inr ⟨by rfl, rfl⟩) ?_ ?_
                            rotate_left
                            · simp only [Act.put, List.setIfInBounds_toArray, List.set_cons_zero, List.set_cons_succ, i64_w, i32_w]
                              rfl
                            refine pure_ (i := 10) (N := some 31) (v := undef) (a' := ?_) #[true, true, true, true, true, true, true, true, true, true, true, false] rfl rfl (any_of HT_.out (by kernel_rfl)) (fun _ _ _ h => h) (Or.inr ⟨by rfl, rfl⟩) ?_ ?_
                            rotate_left
                            · simp only [Act.put, List.setIfInBounds_toArray, List.set_cons_zero, List.set_cons_succ, i64_w, i32_w]
                              rfl
                            refine pure_ (i := 11) (N := some 32) (v := ?_) (a' := ?_) #[true, true, true, true, true, true, true, true, true, true, true, true] rfl rfl (any_of HT_.out (by kernel_rfl)) (fun _ _ _ h => h) (Or.inl ⟨by rfl, ?_⟩) ?_ ?_
                            rotate_left
                            · intro w'
                              go_simp
                              first | (with_reducible rfl) | (rw [if_neg (by simp only [ByteArray.size_extract, ByteArray.size_append] at * <;> omega)]; try with_reducible rfl)
                            rotate_left
                            · simp only [Act.put, List.setIfInBounds_toArray, List.set_cons_zero, List.set_cons_succ, i64_w, i32_w]
                              rfl
                            refine done_ (done_of HT_.out (by kernel_rfl)) ?_
                            try go_wp2
                            have n0_ := Aside0.mk (Kd.R_drew HO_5.out)
                            have n1_ := Aside0.mk (Kd.R_drew HO_13.out)
                            have n2_ := Aside0.mk (blk_drew BK373.out)
                            have n3_ := Aside0.mk (blk_drew BK381.out)
                            have n4_ := Aside0.mk (below_drew1 HB.out)
                            clear HO_5
                            clear HO_13
                            clear BK373
                            clear BK381
                            clear HB
                            have HO_5 := n0_
                            have HO_13 := n1_
                            have BK373 := n2_
                            have BK381 := n3_
                            have HB := n4_
                            clear n0_ n1_ n2_ n3_ n4_
                            have q52 : (x8_2 : Int) ≤ ((x5_1.length : Int) : Int) := of_decide_eq_true (by first | (with_reducible assumption) | assumption)
                            obtain ⟨i052, hi052, _, hsz52, _⟩ := info_parts info40
                            have hroom52 : x5_1.length ≤ co50 := (Kd.R_reads' HO_5.out).2.1
                            have hC52 : Kd.C k40 _ Ao50 x5_1.length x5_1 := (Kd.R_reads' HO_5.out).2.2
                            have hcut52 := cut_to (P := Try.prog) 55 40 .i64 Try.underlying55 hi052 Ao50 x5_1.length co50 x8_2 (of_decide_eq_true (by first | (with_reducible assumption) | assumption)) q52 hroom52
                            have hr52 := Kd.C_take (m := (x8_2 : Int).toNat) hC52 (by omega)
                            have hy52 : y410.length = (x8_2 : Int).toNat := (by rw [Ny410.out, List.length_take]; omega)
                            rw [← Ny410.out] at hr52
                            rw [← hy52] at hcut52
                            have HR413 := Aside0.mk hr52
                            have HC413 := Aside0.mk (show y410.length ≤ co50 from by omega)
                            clear hr52 hC52 hroom52 hi052 hsz52
                            have KY52 := Aside0.mk hy52
                            clear hy52
                            have KL52 := Aside0.mk (show (x8_2 : Int).toNat ≤ x5_1.length from by omega)
                            replace q52 := eq_true q52
                            refine start_ (n := 9) (S := fun w' => w'.cell? ⟨gb381, 0, none⟩ = some (.int .i64 ((rd_T40 t374 x17_1).f0)) ∧ w'.cell? ⟨gb381, 1, none⟩ = some (.int .i64 ((rd_T40 t374 x17_1).f1)) ∧ w'.cell? ⟨gb381, 2, none⟩ = some (.int .i64 ((rd_T40 t374 x17_1).f2)) ∧ w'.cell? ⟨gb381, 3, none⟩ = some (.int .i64 ((rd_T40 t374 x17_1).f3)) ∧ w'.cell? ⟨gb381, 4, none⟩ = some (.int .i64 ((rd_T40 t374 x17_1).f4)) ∧ w'.cell? ⟨gb381, 5, none⟩ = some (.int .i64 ((rd_T40 t374 x17_1).f5))) (ds := []) #[false, false, false, false, false, false, false, false, false] (by kernel_rfl) rfl rfl ⟨(blk_cell BK381.out 0).trans rfl, (blk_cell BK381.out 1).trans rfl, (blk_cell BK381.out 2).trans rfl, (blk_cell BK381.out 3).trans rfl, (blk_cell BK381.out 4).trans rfl, (blk_cell BK381.out 5).trans rfl⟩ (fun hHeld => ?_); refine with_tabW spec_diWays.tab9 spec_diWays.bits9 (fun HT_ HW_ => ?_)
                            generalize w49.drew = w51 at HO_5 HO_13 BK373 BK381 HB HR413 hHeld ⊢
                            refine pure_ (i := 1) (N := some 36) (v := ?_) (a' := ?_) #[false, true, false, false, false, false, false, false, false] rfl rfl (any_of HT_.out (by kernel_rfl)) (fun _ _ _ h => h) (Or.inl ⟨by rfl, ?_⟩) ?_ ?_
                            rotate_left
                            · intro w'
                              go_simp
                              first | (with_reducible rfl) | (rw [if_neg (by simp only [ByteArray.size_extract, ByteArray.size_append] at * <;> omega)]; try with_reducible rfl)
                            rotate_left
                            · simp only [Act.put, List.setIfInBounds_toArray, List.set_cons_zero, List.set_cons_succ, i64_w, i32_w]
                              rfl
                            refine pure_ (i := 2) (N := some 37) (v := ?_) (a' := ?_) #[false, true, true, false, false, false, false, false, false] rfl rfl (any_of HT_.out (by kernel_rfl)) (fun _ _ _ h => h) (Or.inl ⟨by rfl, ?_⟩) ?_ ?_
                            rotate_left
                            · intro w'
                              go_simp
                              first | (with_reducible rfl) | (rw [if_neg (by simp only [ByteArray.size_extract, ByteArray.size_append] at * <;> omega)]; try with_reducible rfl)
                            rotate_left
                            · simp only [Act.put, List.setIfInBounds_toArray, List.set_cons_zero, List.set_cons_succ, i64_w, i32_w]
                              rfl
                            refine pure_ (i := 3) (N := some 38) (v := ?_) (a' := ?_) #[false, true, true, true, false, false, false, false, false] rfl rfl (any_of HT_.out (by kernel_rfl)) (fun _ _ _ h => h) (Or.inl ⟨by rfl, ?_⟩) ?_ ?_
                            rotate_left
                            · intro w'
                              go_simp
                              first | (with_reducible rfl) | (rw [if_neg (by simp only [ByteArray.size_extract, ByteArray.size_append] at * <;> omega)]; try with_reducible rfl)
                            rotate_left
                            · simp only [Act.put, List.setIfInBounds_toArray, List.set_cons_zero, List.set_cons_succ, i64_w, i32_w]
                              rfl
                            refine take_ (i := 5) (N := some 40) (v := ?_) (a' := ?_) #[false, true, true, true, false, true, false, false, false] rfl rfl (take_ofW HT_.out HW_.out (by kernel_rfl)) (fun _ _ _ h => h) (Or.inl ⟨by rfl, ?_⟩) hHeld ?_ ?_
                            rotate_left
                            · rintro w' ⟨s0, s1, s2, s3, s4, s5⟩
                              go_simp
                              first | (with_reducible rfl) | (rw [if_neg (by simp only [ByteArray.size_extract, ByteArray.size_append] at * <;> omega)]; try with_reducible rfl)
                            rotate_left
                            · simp only [Act.put, List.setIfInBounds_toArray, List.set_cons_zero, List.set_cons_succ, i64_w, i32_w]
                              rfl
                            refine join_ (σ := Value × Value × Value) 2 #[true, true, true, true, true, true, true, false, false] (fun s_ => [(35, s_.1), (39, s_.2.1), (41, s_.2.2)]) (fun s_ w' => (w'.cell? ⟨gb381, 0, none⟩ = some (.int .i64 ((rd_T40 t374 x17_1).f0)) ∧ w'.cell? ⟨gb381, 1, none⟩ = some (.int .i64 ((rd_T40 t374 x17_1).f1)) ∧ w'.cell? ⟨gb381, 2, none⟩ = some (.int .i64 ((rd_T40 t374 x17_1).f2)) ∧ w'.cell? ⟨gb381, 3, none⟩ = some (.int .i64 ((rd_T40 t374 x17_1).f3)) ∧ w'.cell? ⟨gb381, 4, none⟩ = some (.int .i64 ((rd_T40 t374 x17_1).f4)) ∧ w'.cell? ⟨gb381, 5, none⟩ = some (.int .i64 ((rd_T40 t374 x17_1).f5))) ∧ (Kd.R k40 40 w' w.heap.size (fun k_ => some k_ ≠ (s_.2.2 : Value).ownBlock ∧ some k_ ≠ (.slice (some ad380) t374.length co6 : Value).ownBlock ∧ some k_ ≠ (.slice Ao50 x5_1.length co50 : Value).ownBlock ∧ k_ ≠ gb373 ∧ k_ ≠ gb381) s_.2.1 y414) ∧ (Kd.R k40 40 w' w.heap.size (fun k_ => some k_ ≠ (s_.2.1 : Value).ownBlock ∧ some k_ ≠ (.slice (some ad380) t374.length co6 : Value).ownBlock ∧ some k_ ≠ (.slice Ao50 x5_1.length co50 : Value).ownBlock ∧ k_ ≠ gb373 ∧ k_ ≠ gb381) s_.2.2 y417) ∧ (Kd.R k40 40 w' w.heap.size (fun k_ => some k_ ≠ (s_.2.1 : Value).ownBlock ∧ some k_ ≠ (s_.2.2 : Value).ownBlock ∧ some k_ ≠ (.slice Ao50 x5_1.length co50 : Value).ownBlock ∧ k_ ≠ gb373 ∧ k_ ≠ gb381) (.slice (some ad380) t374.length co6) t374) ∧ (Kd.R k40 40 w' w.heap.size (fun k_ => some k_ ≠ (s_.2.1 : Value).ownBlock ∧ some k_ ≠ (s_.2.2 : Value).ownBlock ∧ some k_ ≠ (.slice (some ad380) t374.length co6 : Value).ownBlock ∧ k_ ≠ gb373 ∧ k_ ≠ gb381) (.slice Ao50 x5_1.length co50) x5_1) ∧ (w'.heap[gb373]? = some (.cells #[.int .i64 a0_0, .int .i64 a0_1, .int .i64 a0_2, .int .i64 a0_3, .int .i64 a0_4, .int .i64 a0_5] 40 (0, 0))) ∧ (w'.heap[gb381]? = some (.cells #[.int .i64 ((rd_T40 t374 x17_1).f0), .int .i64 ((rd_T40 t374 x17_1).f1), .int .i64 ((rd_T40 t374 x17_1).f2), .int .i64 ((rd_T40 t374 x17_1).f3), .int .i64 ((rd_T40 t374 x17_1).f4), .int .i64 ((rd_T40 t374 x17_1).f5)] 40 (0, 0))) ∧ (Below w.heap.size w w')) ?_ ?_
                            rotate_left
                            · intro hCont
                              refine two_ (i := 0) (j := 6) (Ni := some 35) (Nj := some 41) #[true, true, true, true, false, true, false, false, false] #[false, true, true, true, false, true, true, false, false] rfl rfl rfl rfl (two_of HT_.out (by kernel_rfl)) (by decide) (by decide) (fun K hK => ?_) (fun K hK => ?_)
                              · skip
                                refine Kd.R_lit_step k40 _ 40 ?hg (N := 35) ?hd (xs := ([] : List (S40))) (inner := []) (ok := fun _ => True) (okp := fun _ => True) ?hr ?hp (fun _ hk => hk) trivial (Below.refl _ _) (Nat.le_refl _) (by simp) ?_; (case hd => rfl); (case hg => rfl); (case hr => first | (go_simp; done) | (go_simp; rfl)); (case hp => exact (Reps.none _ _))
                                intro v408 w53 ho54 hb hg_ hnew_
                                clear hg_ hnew_
                                (first | rw [← Ny407.out] at ho54 | (simp only [Int.reduceToNat] at ho54; rw [← Ny407.out] at ho54))
                                have n0_ := Aside0.mk (Kd.R_elder' (by (with_reducible repeat (first | apply Kd.R_alloc | apply Kd.R_drewN | apply Kd.R_drew)); exact HO_5.out) (Kd.R_base ho54) hb)
                                have n1_ := Aside0.mk (Kd.R_elder' (by (with_reducible repeat (first | apply Kd.R_alloc | apply Kd.R_drewN | apply Kd.R_drew)); exact HO_13.out) (Kd.R_base ho54) hb)
                                have n2_ := Aside0.mk (Kd.R_lower (Kd.R_newB (Kd.R_newB (Kd.R_new' (Kd.R_new' ho54 (Kd.R_lt (by (with_reducible repeat (first | apply Kd.R_alloc | apply Kd.R_drewN | apply Kd.R_drew)); exact HO_5.out))) (Kd.R_lt (by (with_reducible repeat (first | apply Kd.R_alloc | apply Kd.R_drewN | apply Kd.R_drew)); exact HO_13.out))) (g := gb373) (o := .cells #[.int .i64 a0_0, .int .i64 a0_1, .int .i64 a0_2, .int .i64 a0_3, .int .i64 a0_4, .int .i64 a0_5] 40 (0, 0)) (by (with_reducible repeat (first | refine blk_drewN ?_ _ | refine blk_drew ?_ | refine blk_alloc ?_ _)); exact BK373.out)) (g := gb381) (o := .cells #[.int .i64 ((rd_T40 t374 x17_1).f0), .int .i64 ((rd_T40 t374 x17_1).f1), .int .i64 ((rd_T40 t374 x17_1).f2), .int .i64 ((rd_T40 t374 x17_1).f3), .int .i64 ((rd_T40 t374 x17_1).f4), .int .i64 ((rd_T40 t374 x17_1).f5)] 40 (0, 0)) (by (with_reducible repeat (first | refine blk_drewN ?_ _ | refine blk_drew ?_ | refine blk_alloc ?_ _)); exact BK381.out)) (below_size (by repeat (first | (with_reducible first | exact HB.out | apply below_alloc | apply pw_below_drewN | apply below_drew1 | refine below_set ?_ GE373.out | refine below_set ?_ GE381.out) | exact HB.out))))
                                have n3_ := Aside0.mk (blk_below (g := gb373) (o := .cells #[.int .i64 a0_0, .int .i64 a0_1, .int .i64 a0_2, .int .i64 a0_3, .int .i64 a0_4, .int .i64 a0_5] 40 (0, 0)) (by (with_reducible repeat (first | refine blk_drewN ?_ _ | refine blk_drew ?_ | refine blk_alloc ?_ _)); exact BK373.out) hb)
                                have n4_ := Aside0.mk (blk_below (g := gb381) (o := .cells #[.int .i64 ((rd_T40 t374 x17_1).f0), .int .i64 ((rd_T40 t374 x17_1).f1), .int .i64 ((rd_T40 t374 x17_1).f2), .int .i64 ((rd_T40 t374 x17_1).f3), .int .i64 ((rd_T40 t374 x17_1).f4), .int .i64 ((rd_T40 t374 x17_1).f5)] 40 (0, 0)) (by (with_reducible repeat (first | refine blk_drewN ?_ _ | refine blk_drew ?_ | refine blk_alloc ?_ _)); exact BK381.out) hb)
                                have n5_ := Aside0.mk (Kd.C_below (by repeat (first | (with_reducible exact HR413.out) | (with_reducible refine Kd.C_alloc ?_ _) | (with_reducible refine Kd.C_drewN ?_ _) | (with_reducible refine Kd.C_drew ?_) | exact HR413.out)) hb)
                                have n6_ := Aside0.mk (below_step (by repeat (first | (with_reducible first | exact HB.out | apply below_alloc | apply pw_below_drewN | apply below_drew1 | refine below_set ?_ GE373.out | refine below_set ?_ GE381.out) | exact HB.out)) hb)
                                clear HO_5
                                clear HO_13
                                clear BK373
                                clear BK381
                                clear HR413
                                clear HB
                                have HO_5 := n0_
                                have HO_13 := n1_
                                have HO409 := n2_
                                have BK373 := n3_
                                have BK381 := n4_
                                have HR413 := n5_
                                have HB := n6_
                                clear n0_ n1_ n2_ n3_ n4_ n5_ n6_
                                clear hb ho54
                                refine hK.out _ _ ⟨(blk_cell BK381.out 0).trans rfl, (blk_cell BK381.out 1).trans rfl, (blk_cell BK381.out 2).trans rfl, (blk_cell BK381.out 3).trans rfl, (blk_cell BK381.out 4).trans rfl, (blk_cell BK381.out 5).trans rfl⟩ (fun hHeld => ?_)
                                clear hK K
                                refine norm_ (a' := ?_) ?_ ?_
                                rotate_left
                                · show Act.put _ (some 35) _ = _
                                  simp only [Act.put, List.setIfInBounds_toArray, List.set_cons_zero, List.set_cons_succ, i64_w, i32_w]
                                  rfl
                                refine two_ (i := 4) (j := 6) (Ni := some 39) (Nj := some 41) #[true, true, true, true, true, true, false, false, false] #[true, true, true, true, false, true, true, false, false] rfl rfl rfl rfl (two_of HT_.out (by kernel_rfl)) (by decide) (by decide) (fun K hK => ?_) (fun K hK => ?_)
                                · skip
                                  refine Kd.R_append_rows_step k40 (w0 := w) w.heap.size (by rfl) (.tmp 35) (.tmp 38) 55 40 (.agg #[(.int .i64 0), (.int .i64 0), (.int .i64 0), (.int .i64 0), (.int .i64 0), (.int .i64 0)]) 48 rfl Try.underlying55 info40 rfl (by decide) (by omega) v408 y407 y410 _ _ _ (fun k_ => some k_ ≠ (.slice Ao50 x5_1.length co50 : Value).ownBlock ∧ some k_ ≠ (.slice (some ad380) t374.length co6 : Value).ownBlock ∧ k_ ≠ gb373 ∧ k_ ≠ gb381) (fun _ => False) rfl rfl ?aO ?aR (fun _ _ h => h) (fun _ h => h.elim) ?aF ?aB ?aS ?aL ?_
                                  (case aR => repeat (first | exact (by repeat (first | (with_reducible exact HR413.out) | (with_reducible refine Kd.C_alloc ?_ _) | (with_reducible refine Kd.C_drewN ?_ _) | (with_reducible refine Kd.C_drew ?_) | exact HR413.out)) | (with_reducible refine Kd.C_alloc ?_ _) | (with_reducible refine Kd.C_drewN ?_ _) | (with_reducible refine Kd.C_drew ?_)))
                                  (case aB => exact (by repeat (first | (with_reducible first | exact HB.out | apply below_alloc | apply pw_below_drewN | apply below_drew1 | refine below_set ?_ GE373.out | refine below_set ?_ GE381.out) | exact HB.out)))
                                  (case aF => exact (fun k_ hk => ⟨Kd.fresh' (Kd.R_lt (by (with_reducible repeat (first | apply Kd.R_alloc | apply Kd.R_drewN | apply Kd.R_drew)); exact HO_5.out)) k_ hk, Kd.fresh' (Kd.R_lt (by (with_reducible repeat (first | apply Kd.R_alloc | apply Kd.R_drewN | apply Kd.R_drew)); exact HO_13.out)) k_ hk, Kd.freshB (g := gb373) (o := .cells #[.int .i64 a0_0, .int .i64 a0_1, .int .i64 a0_2, .int .i64 a0_3, .int .i64 a0_4, .int .i64 a0_5] 40 (0, 0)) (by (with_reducible repeat (first | refine blk_drewN ?_ _ | refine blk_drew ?_ | refine blk_alloc ?_ _)); exact BK373.out) k_ hk, Kd.freshB (g := gb381) (o := .cells #[.int .i64 ((rd_T40 t374 x17_1).f0), .int .i64 ((rd_T40 t374 x17_1).f1), .int .i64 ((rd_T40 t374 x17_1).f2), .int .i64 ((rd_T40 t374 x17_1).f3), .int .i64 ((rd_T40 t374 x17_1).f4), .int .i64 ((rd_T40 t374 x17_1).f5)] 40 (0, 0)) (by (with_reducible repeat (first | refine blk_drewN ?_ _ | refine blk_drew ?_ | refine blk_alloc ?_ _)); exact BK381.out) k_ hk⟩))
                                  (case aO => exact (by (with_reducible repeat (first | apply Kd.R_alloc | apply Kd.R_drewN | apply Kd.R_drew)); exact Kd.R_mono HO409.out (fun _ hk => ⟨hk.1.1.1.2, ⟨hk.1.1.2, ⟨hk.1.2, hk.2⟩⟩⟩)))
                                  (case aS => exact (below_size (by repeat (first | (with_reducible first | exact HB.out | apply below_alloc | apply pw_below_drewN | apply below_drew1 | refine below_set ?_ GE373.out | refine below_set ?_ GE381.out) | exact HB.out))))
                                  (case aL => have := LMc44.out; omega)
                                  intro v415 w55 ho hb hg hat
                                  rw [← Ny414.out] at ho
                                  have n0_ := Aside0.mk (Kd.R_after (ok := (fun k_ => some k_ ≠ (.slice (some ad380) t374.length co6 : Value).ownBlock ∧ k_ ≠ gb373 ∧ k_ ≠ gb381)) (by (with_reducible repeat (first | apply Kd.R_alloc | apply Kd.R_drewN | apply Kd.R_drew)); exact HO_5.out) hg hat)
                                  have n1_ := Aside0.mk (Kd.R_after (ok := (fun k_ => some k_ ≠ (.slice Ao50 x5_1.length co50 : Value).ownBlock ∧ k_ ≠ gb373 ∧ k_ ≠ gb381)) (by (with_reducible repeat (first | apply Kd.R_alloc | apply Kd.R_drewN | apply Kd.R_drew)); exact HO_13.out) hg hat)
                                  have n2_ := Aside0.mk (blk_grown (g := gb373) (o := .cells #[.int .i64 a0_0, .int .i64 a0_1, .int .i64 a0_2, .int .i64 a0_3, .int .i64 a0_4, .int .i64 a0_5] 40 (0, 0)) (by (with_reducible repeat (first | refine blk_drewN ?_ _ | refine blk_drew ?_ | refine blk_alloc ?_ _)); exact BK373.out) hg (Kd.R_away HO409.out (fun _ hk => hk.1.2)))
                                  have n3_ := Aside0.mk (blk_grown (g := gb381) (o := .cells #[.int .i64 ((rd_T40 t374 x17_1).f0), .int .i64 ((rd_T40 t374 x17_1).f1), .int .i64 ((rd_T40 t374 x17_1).f2), .int .i64 ((rd_T40 t374 x17_1).f3), .int .i64 ((rd_T40 t374 x17_1).f4), .int .i64 ((rd_T40 t374 x17_1).f5)] 40 (0, 0)) (by (with_reducible repeat (first | refine blk_drewN ?_ _ | refine blk_drew ?_ | refine blk_alloc ?_ _)); exact BK381.out) hg (Kd.R_away HO409.out (fun _ hk => hk.2)))
                                  have n4_ := Aside0.mk (hb)
                                  have n5_ := Aside0.mk ((show Kd.C k40 w55 Ao50 y410.length y410 from by rw [Ny410.out]; exact Kd.C_take (m := (x8_2 : Int).toNat) ((Kd.R_reads' (Kd.R_after (ok := (fun k_ => some k_ ≠ (.slice (some ad380) t374.length co6 : Value).ownBlock ∧ k_ ≠ gb373 ∧ k_ ≠ gb381)) (by (with_reducible repeat (first | apply Kd.R_alloc | apply Kd.R_drewN | apply Kd.R_drew)); exact HO_5.out) hg hat)).2.2) KL52.out))
                                  have n6_ := Aside0.mk (ho)
                                  clear HO_5
                                  clear HO_13
                                  clear BK373
                                  clear BK381
                                  clear HB
                                  clear HR413
                                  clear HO409
                                  have HO_5 := n0_
                                  have HO_13 := n1_
                                  have BK373 := n2_
                                  have BK381 := n3_
                                  have HB := n4_
                                  have HR413 := n5_
                                  have HO416 := n6_
                                  clear n0_ n1_ n2_ n3_ n4_ n5_ n6_
                                  clear ho hb hg hat
                                  refine hK.out _ _ ⟨(blk_cell BK381.out 0).trans rfl, (blk_cell BK381.out 1).trans rfl, (blk_cell BK381.out 2).trans rfl, (blk_cell BK381.out 3).trans rfl, (blk_cell BK381.out 4).trans rfl, (blk_cell BK381.out 5).trans rfl⟩ (fun hHeld => ?_)
                                  clear hK K
                                  refine norm_ (a' := ?_) ?_ ?_
                                  rotate_left
                                  · show Act.put _ (some 39) _ = _
                                    simp only [Act.put, List.setIfInBounds_toArray, List.set_cons_zero, List.set_cons_succ, i64_w, i32_w]
                                    rfl
                                  refine one_ (i := 6) (N := some 41) #[true, true, true, true, true, true, true, false, false] rfl rfl (one_of HT_.out (by kernel_rfl)) (by decide) (fun K hK => ?_)
                                  refine Kd.R_lit_step k40 _ 40 ?hg (N := 41) ?hd (xs := ([(⟨((rd_T40 t374 x17_1).f0), ((rd_T40 t374 x17_1).f1), ((rd_T40 t374 x17_1).f2), ((rd_T40 t374 x17_1).f3), ((rd_T40 t374 x17_1).f4), ((rd_T40 t374 x17_1).f5)⟩ : S40)] : List (S40))) (inner := [.int .i64 ((rd_T40 t374 x17_1).f0), .int .i64 ((rd_T40 t374 x17_1).f1), .int .i64 ((rd_T40 t374 x17_1).f2), .int .i64 ((rd_T40 t374 x17_1).f3), .int .i64 ((rd_T40 t374 x17_1).f4), .int .i64 ((rd_T40 t374 x17_1).f5)]) (ok := fun _ => True) (okp := fun _ => True) ?hr ?hp (fun _ hk => hk) trivial (Below.refl _ _) (Nat.le_refl _) (by simp) ?_; (case hd => rfl); (case hg => rfl); (case hr => first | (go_simp; done) | (go_simp; rfl)); (case hp => exact (Reps.c6 (show Kd.M k40 _ _ _ (⟨((rd_T40 t374 x17_1).f0), ((rd_T40 t374 x17_1).f1), ((rd_T40 t374 x17_1).f2), ((rd_T40 t374 x17_1).f3), ((rd_T40 t374 x17_1).f4), ((rd_T40 t374 x17_1).f5)⟩ : S40) [.int .i64 ((rd_T40 t374 x17_1).f0), .int .i64 ((rd_T40 t374 x17_1).f1), .int .i64 ((rd_T40 t374 x17_1).f2), .int .i64 ((rd_T40 t374 x17_1).f3), .int .i64 ((rd_T40 t374 x17_1).f4), .int .i64 ((rd_T40 t374 x17_1).f5)] from (k40_mkM _ _ _ (⟨((rd_T40 t374 x17_1).f0), ((rd_T40 t374 x17_1).f1), ((rd_T40 t374 x17_1).f2), ((rd_T40 t374 x17_1).f3), ((rd_T40 t374 x17_1).f4), ((rd_T40 t374 x17_1).f5)⟩ : S40) )) (Reps.none _ _)))
                                  intro v418 w56 ho57 hb hg_ hnew_
                                  clear hg_ hnew_
                                  (first | rw [← Ny417.out] at ho57 | (simp only [Int.reduceToNat] at ho57; rw [← Ny417.out] at ho57))
                                  have n0_ := Aside0.mk (Kd.R_elder' (by (with_reducible repeat (first | apply Kd.R_alloc | apply Kd.R_drewN | apply Kd.R_drew)); exact HO_5.out) (Kd.R_base ho57) hb)
                                  have n1_ := Aside0.mk (Kd.R_elder' (by (with_reducible repeat (first | apply Kd.R_alloc | apply Kd.R_drewN | apply Kd.R_drew)); exact HO_13.out) (Kd.R_base ho57) hb)
                                  have n2_ := Aside0.mk (Kd.R_elder' (by (with_reducible repeat (first | apply Kd.R_alloc | apply Kd.R_drewN | apply Kd.R_drew)); exact HO416.out) (Kd.R_base ho57) hb)
                                  have n3_ := Aside0.mk (Kd.R_lower (Kd.R_newB (Kd.R_newB (Kd.R_new' (Kd.R_new' (Kd.R_new' ho57 (Kd.R_lt (by (with_reducible repeat (first | apply Kd.R_alloc | apply Kd.R_drewN | apply Kd.R_drew)); exact HO_5.out))) (Kd.R_lt (by (with_reducible repeat (first | apply Kd.R_alloc | apply Kd.R_drewN | apply Kd.R_drew)); exact HO_13.out))) (Kd.R_lt (by (with_reducible repeat (first | apply Kd.R_alloc | apply Kd.R_drewN | apply Kd.R_drew)); exact HO416.out))) (g := gb373) (o := .cells #[.int .i64 a0_0, .int .i64 a0_1, .int .i64 a0_2, .int .i64 a0_3, .int .i64 a0_4, .int .i64 a0_5] 40 (0, 0)) (by (with_reducible repeat (first | refine blk_drewN ?_ _ | refine blk_drew ?_ | refine blk_alloc ?_ _)); exact BK373.out)) (g := gb381) (o := .cells #[.int .i64 ((rd_T40 t374 x17_1).f0), .int .i64 ((rd_T40 t374 x17_1).f1), .int .i64 ((rd_T40 t374 x17_1).f2), .int .i64 ((rd_T40 t374 x17_1).f3), .int .i64 ((rd_T40 t374 x17_1).f4), .int .i64 ((rd_T40 t374 x17_1).f5)] 40 (0, 0)) (by (with_reducible repeat (first | refine blk_drewN ?_ _ | refine blk_drew ?_ | refine blk_alloc ?_ _)); exact BK381.out)) (below_size (by repeat (first | (with_reducible first | exact HB.out | apply below_alloc | apply pw_below_drewN | apply below_drew1 | refine below_set ?_ GE373.out | refine below_set ?_ GE381.out) | exact HB.out))))
                                  have n4_ := Aside0.mk (blk_below (g := gb373) (o := .cells #[.int .i64 a0_0, .int .i64 a0_1, .int .i64 a0_2, .int .i64 a0_3, .int .i64 a0_4, .int .i64 a0_5] 40 (0, 0)) (by (with_reducible repeat (first | refine blk_drewN ?_ _ | refine blk_drew ?_ | refine blk_alloc ?_ _)); exact BK373.out) hb)
                                  have n5_ := Aside0.mk (blk_below (g := gb381) (o := .cells #[.int .i64 ((rd_T40 t374 x17_1).f0), .int .i64 ((rd_T40 t374 x17_1).f1), .int .i64 ((rd_T40 t374 x17_1).f2), .int .i64 ((rd_T40 t374 x17_1).f3), .int .i64 ((rd_T40 t374 x17_1).f4), .int .i64 ((rd_T40 t374 x17_1).f5)] 40 (0, 0)) (by (with_reducible repeat (first | refine blk_drewN ?_ _ | refine blk_drew ?_ | refine blk_alloc ?_ _)); exact BK381.out) hb)
                                  have n6_ := Aside0.mk (Kd.C_below (by repeat (first | (with_reducible exact HR413.out) | (with_reducible refine Kd.C_alloc ?_ _) | (with_reducible refine Kd.C_drewN ?_ _) | (with_reducible refine Kd.C_drew ?_) | exact HR413.out)) hb)
                                  have n7_ := Aside0.mk (below_step (by repeat (first | (with_reducible first | exact HB.out | apply below_alloc | apply pw_below_drewN | apply below_drew1 | refine below_set ?_ GE373.out | refine below_set ?_ GE381.out) | exact HB.out)) hb)
                                  clear HO_5
                                  clear HO_13
                                  clear HO416
                                  clear BK373
                                  clear BK381
                                  clear HR413
                                  clear HB
                                  have HO_5 := n0_
                                  have HO_13 := n1_
                                  have HO416 := n2_
                                  have HO419 := n3_
                                  have BK373 := n4_
                                  have BK381 := n5_
                                  have HR413 := n6_
                                  have HB := n7_
                                  clear n0_ n1_ n2_ n3_ n4_ n5_ n6_ n7_
                                  clear hb ho57
                                  refine hK.out _ _ ⟨(blk_cell BK381.out 0).trans rfl, (blk_cell BK381.out 1).trans rfl, (blk_cell BK381.out 2).trans rfl, (blk_cell BK381.out 3).trans rfl, (blk_cell BK381.out 4).trans rfl, (blk_cell BK381.out 5).trans rfl⟩ (fun hHeld => ?_)
                                  clear hK K
                                  refine norm_ (a' := ?_) ?_ ?_
                                  rotate_left
                                  · show Act.put _ (some 41) _ = _
                                    simp only [Act.put, List.setIfInBounds_toArray, List.set_cons_zero, List.set_cons_succ, i64_w, i32_w]
                                    rfl
                                  exact norm_ (by simp only [putAll, Act.put, List.setIfInBounds_toArray, List.set_cons_zero, List.set_cons_succ]) (hCont (v408, v415, v418) _ ⟨hHeld, (by (with_reducible repeat (first | apply Kd.R_alloc | apply Kd.R_drewN | apply Kd.R_drew)); exact Kd.R_mono HO416.out (fun _ hk => ⟨hk.2, ⟨hk.1.2.1, ⟨hk.1.1, ⟨hk.1.2.2.1, hk.1.2.2.2⟩⟩⟩⟩)), (by (with_reducible repeat (first | apply Kd.R_alloc | apply Kd.R_drewN | apply Kd.R_drew)); exact Kd.R_mono HO419.out (fun _ hk => ⟨hk.1.1.2, ⟨hk.1.1.1.2, ⟨hk.1.1.1.1.2, ⟨hk.1.2, hk.2⟩⟩⟩⟩)), (by (with_reducible repeat (first | apply Kd.R_alloc | apply Kd.R_drewN | apply Kd.R_drew)); exact Kd.R_mono HO_13.out (fun _ hk => ⟨hk.1.2, ⟨hk.2, ⟨hk.1.1.1, ⟨hk.1.1.2.1, hk.1.1.2.2⟩⟩⟩⟩)), (by (with_reducible repeat (first | apply Kd.R_alloc | apply Kd.R_drewN | apply Kd.R_drew)); exact Kd.R_mono HO_5.out (fun _ hk => ⟨hk.1.2, ⟨hk.2, ⟨hk.1.1.1, ⟨hk.1.1.2.1, hk.1.1.2.2⟩⟩⟩⟩)), (by (with_reducible repeat (first | refine blk_drewN ?_ _ | refine blk_drew ?_ | refine blk_alloc ?_ _)); exact BK373.out), (by (with_reducible repeat (first | refine blk_drewN ?_ _ | refine blk_drew ?_ | refine blk_alloc ?_ _)); exact BK381.out), (by repeat (first | (with_reducible first | exact HB.out | apply below_alloc | apply pw_below_drewN | apply below_drew1 | refine below_set ?_ GE373.out | refine below_set ?_ GE381.out) | exact HB.out))⟩)
                                · skip
                                  refine Kd.R_lit_step k40 _ 40 ?hg (N := 41) ?hd (xs := ([(⟨((rd_T40 t374 x17_1).f0), ((rd_T40 t374 x17_1).f1), ((rd_T40 t374 x17_1).f2), ((rd_T40 t374 x17_1).f3), ((rd_T40 t374 x17_1).f4), ((rd_T40 t374 x17_1).f5)⟩ : S40)] : List (S40))) (inner := [.int .i64 ((rd_T40 t374 x17_1).f0), .int .i64 ((rd_T40 t374 x17_1).f1), .int .i64 ((rd_T40 t374 x17_1).f2), .int .i64 ((rd_T40 t374 x17_1).f3), .int .i64 ((rd_T40 t374 x17_1).f4), .int .i64 ((rd_T40 t374 x17_1).f5)]) (ok := fun _ => True) (okp := fun _ => True) ?hr ?hp (fun _ hk => hk) trivial (Below.refl _ _) (Nat.le_refl _) (by simp) ?_; (case hd => rfl); (case hg => rfl); (case hr => first | (go_simp; done) | (go_simp; rfl)); (case hp => exact (Reps.c6 (show Kd.M k40 _ _ _ (⟨((rd_T40 t374 x17_1).f0), ((rd_T40 t374 x17_1).f1), ((rd_T40 t374 x17_1).f2), ((rd_T40 t374 x17_1).f3), ((rd_T40 t374 x17_1).f4), ((rd_T40 t374 x17_1).f5)⟩ : S40) [.int .i64 ((rd_T40 t374 x17_1).f0), .int .i64 ((rd_T40 t374 x17_1).f1), .int .i64 ((rd_T40 t374 x17_1).f2), .int .i64 ((rd_T40 t374 x17_1).f3), .int .i64 ((rd_T40 t374 x17_1).f4), .int .i64 ((rd_T40 t374 x17_1).f5)] from (k40_mkM _ _ _ (⟨((rd_T40 t374 x17_1).f0), ((rd_T40 t374 x17_1).f1), ((rd_T40 t374 x17_1).f2), ((rd_T40 t374 x17_1).f3), ((rd_T40 t374 x17_1).f4), ((rd_T40 t374 x17_1).f5)⟩ : S40) )) (Reps.none _ _)))
                                  intro v418 w55 ho56 hb hg_ hnew_
                                  clear hg_ hnew_
                                  (first | rw [← Ny417.out] at ho56 | (simp only [Int.reduceToNat] at ho56; rw [← Ny417.out] at ho56))
                                  have n0_ := Aside0.mk (Kd.R_elder' (by (with_reducible repeat (first | apply Kd.R_alloc | apply Kd.R_drewN | apply Kd.R_drew)); exact HO_5.out) (Kd.R_base ho56) hb)
                                  have n1_ := Aside0.mk (Kd.R_elder' (by (with_reducible repeat (first | apply Kd.R_alloc | apply Kd.R_drewN | apply Kd.R_drew)); exact HO_13.out) (Kd.R_base ho56) hb)
                                  have n2_ := Aside0.mk (Kd.R_elder' (by (with_reducible repeat (first | apply Kd.R_alloc | apply Kd.R_drewN | apply Kd.R_drew)); exact HO409.out) (Kd.R_base ho56) hb)
                                  have n3_ := Aside0.mk (Kd.R_lower (Kd.R_newB (Kd.R_newB (Kd.R_new' (Kd.R_new' (Kd.R_new' ho56 (Kd.R_lt (by (with_reducible repeat (first | apply Kd.R_alloc | apply Kd.R_drewN | apply Kd.R_drew)); exact HO_5.out))) (Kd.R_lt (by (with_reducible repeat (first | apply Kd.R_alloc | apply Kd.R_drewN | apply Kd.R_drew)); exact HO_13.out))) (Kd.R_lt (by (with_reducible repeat (first | apply Kd.R_alloc | apply Kd.R_drewN | apply Kd.R_drew)); exact HO409.out))) (g := gb373) (o := .cells #[.int .i64 a0_0, .int .i64 a0_1, .int .i64 a0_2, .int .i64 a0_3, .int .i64 a0_4, .int .i64 a0_5] 40 (0, 0)) (by (with_reducible repeat (first | refine blk_drewN ?_ _ | refine blk_drew ?_ | refine blk_alloc ?_ _)); exact BK373.out)) (g := gb381) (o := .cells #[.int .i64 ((rd_T40 t374 x17_1).f0), .int .i64 ((rd_T40 t374 x17_1).f1), .int .i64 ((rd_T40 t374 x17_1).f2), .int .i64 ((rd_T40 t374 x17_1).f3), .int .i64 ((rd_T40 t374 x17_1).f4), .int .i64 ((rd_T40 t374 x17_1).f5)] 40 (0, 0)) (by (with_reducible repeat (first | refine blk_drewN ?_ _ | refine blk_drew ?_ | refine blk_alloc ?_ _)); exact BK381.out)) (below_size (by repeat (first | (with_reducible first | exact HB.out | apply below_alloc | apply pw_below_drewN | apply below_drew1 | refine below_set ?_ GE373.out | refine below_set ?_ GE381.out) | exact HB.out))))
                                  have n4_ := Aside0.mk (blk_below (g := gb373) (o := .cells #[.int .i64 a0_0, .int .i64 a0_1, .int .i64 a0_2, .int .i64 a0_3, .int .i64 a0_4, .int .i64 a0_5] 40 (0, 0)) (by (with_reducible repeat (first | refine blk_drewN ?_ _ | refine blk_drew ?_ | refine blk_alloc ?_ _)); exact BK373.out) hb)
                                  have n5_ := Aside0.mk (blk_below (g := gb381) (o := .cells #[.int .i64 ((rd_T40 t374 x17_1).f0), .int .i64 ((rd_T40 t374 x17_1).f1), .int .i64 ((rd_T40 t374 x17_1).f2), .int .i64 ((rd_T40 t374 x17_1).f3), .int .i64 ((rd_T40 t374 x17_1).f4), .int .i64 ((rd_T40 t374 x17_1).f5)] 40 (0, 0)) (by (with_reducible repeat (first | refine blk_drewN ?_ _ | refine blk_drew ?_ | refine blk_alloc ?_ _)); exact BK381.out) hb)
                                  have n6_ := Aside0.mk (Kd.C_below (by repeat (first | (with_reducible exact HR413.out) | (with_reducible refine Kd.C_alloc ?_ _) | (with_reducible refine Kd.C_drewN ?_ _) | (with_reducible refine Kd.C_drew ?_) | exact HR413.out)) hb)
                                  have n7_ := Aside0.mk (below_step (by repeat (first | (with_reducible first | exact HB.out | apply below_alloc | apply pw_below_drewN | apply below_drew1 | refine below_set ?_ GE373.out | refine below_set ?_ GE381.out) | exact HB.out)) hb)
                                  clear HO_5
                                  clear HO_13
                                  clear HO409
                                  clear BK373
                                  clear BK381
                                  clear HR413
                                  clear HB
                                  have HO_5 := n0_
                                  have HO_13 := n1_
                                  have HO409 := n2_
                                  have HO419 := n3_
                                  have BK373 := n4_
                                  have BK381 := n5_
                                  have HR413 := n6_
                                  have HB := n7_
                                  clear n0_ n1_ n2_ n3_ n4_ n5_ n6_ n7_
                                  clear hb ho56
                                  refine hK.out _ _ ⟨(blk_cell BK381.out 0).trans rfl, (blk_cell BK381.out 1).trans rfl, (blk_cell BK381.out 2).trans rfl, (blk_cell BK381.out 3).trans rfl, (blk_cell BK381.out 4).trans rfl, (blk_cell BK381.out 5).trans rfl⟩ (fun hHeld => ?_)
                                  clear hK K
                                  refine norm_ (a' := ?_) ?_ ?_
                                  rotate_left
                                  · show Act.put _ (some 41) _ = _
                                    simp only [Act.put, List.setIfInBounds_toArray, List.set_cons_zero, List.set_cons_succ, i64_w, i32_w]
                                    rfl
                                  refine one_ (i := 4) (N := some 39) #[true, true, true, true, true, true, true, false, false] rfl rfl (one_of HT_.out (by kernel_rfl)) (by decide) (fun K hK => ?_)
                                  refine Kd.R_append_rows_step k40 (w0 := w) w.heap.size (by rfl) (.tmp 35) (.tmp 38) 55 40 (.agg #[(.int .i64 0), (.int .i64 0), (.int .i64 0), (.int .i64 0), (.int .i64 0), (.int .i64 0)]) 48 rfl Try.underlying55 info40 rfl (by decide) (by omega) v408 y407 y410 _ _ _ (fun k_ => some k_ ≠ (.slice Ao50 x5_1.length co50 : Value).ownBlock ∧ some k_ ≠ (.slice (some ad380) t374.length co6 : Value).ownBlock ∧ some k_ ≠ (v418 : Value).ownBlock ∧ k_ ≠ gb373 ∧ k_ ≠ gb381) (fun _ => False) rfl rfl ?aO ?aR (fun _ _ h => h) (fun _ h => h.elim) ?aF ?aB ?aS ?aL ?_
                                  (case aR => repeat (first | exact (by repeat (first | (with_reducible exact HR413.out) | (with_reducible refine Kd.C_alloc ?_ _) | (with_reducible refine Kd.C_drewN ?_ _) | (with_reducible refine Kd.C_drew ?_) | exact HR413.out)) | (with_reducible refine Kd.C_alloc ?_ _) | (with_reducible refine Kd.C_drewN ?_ _) | (with_reducible refine Kd.C_drew ?_)))
                                  (case aB => exact (by repeat (first | (with_reducible first | exact HB.out | apply below_alloc | apply pw_below_drewN | apply below_drew1 | refine below_set ?_ GE373.out | refine below_set ?_ GE381.out) | exact HB.out)))
                                  (case aF => exact (fun k_ hk => ⟨Kd.fresh' (Kd.R_lt (by (with_reducible repeat (first | apply Kd.R_alloc | apply Kd.R_drewN | apply Kd.R_drew)); exact HO_5.out)) k_ hk, Kd.fresh' (Kd.R_lt (by (with_reducible repeat (first | apply Kd.R_alloc | apply Kd.R_drewN | apply Kd.R_drew)); exact HO_13.out)) k_ hk, Kd.fresh' (Kd.R_lt (by (with_reducible repeat (first | apply Kd.R_alloc | apply Kd.R_drewN | apply Kd.R_drew)); exact HO419.out)) k_ hk, Kd.freshB (g := gb373) (o := .cells #[.int .i64 a0_0, .int .i64 a0_1, .int .i64 a0_2, .int .i64 a0_3, .int .i64 a0_4, .int .i64 a0_5] 40 (0, 0)) (by (with_reducible repeat (first | refine blk_drewN ?_ _ | refine blk_drew ?_ | refine blk_alloc ?_ _)); exact BK373.out) k_ hk, Kd.freshB (g := gb381) (o := .cells #[.int .i64 ((rd_T40 t374 x17_1).f0), .int .i64 ((rd_T40 t374 x17_1).f1), .int .i64 ((rd_T40 t374 x17_1).f2), .int .i64 ((rd_T40 t374 x17_1).f3), .int .i64 ((rd_T40 t374 x17_1).f4), .int .i64 ((rd_T40 t374 x17_1).f5)] 40 (0, 0)) (by (with_reducible repeat (first | refine blk_drewN ?_ _ | refine blk_drew ?_ | refine blk_alloc ?_ _)); exact BK381.out) k_ hk⟩))
                                  (case aO => exact (by (with_reducible repeat (first | apply Kd.R_alloc | apply Kd.R_drewN | apply Kd.R_drew)); exact Kd.R_mono HO409.out (fun _ hk => ⟨hk.1.1.1.1.2, ⟨hk.1.1.1.2, ⟨hk.2, ⟨hk.1.1.2, hk.1.2⟩⟩⟩⟩)))
                                  (case aS => exact (below_size (by repeat (first | (with_reducible first | exact HB.out | apply below_alloc | apply pw_below_drewN | apply below_drew1 | refine below_set ?_ GE373.out | refine below_set ?_ GE381.out) | exact HB.out))))
                                  (case aL => have := LMc44.out; omega)
                                  intro v415 w57 ho hb hg hat
                                  rw [← Ny414.out] at ho
                                  have n0_ := Aside0.mk (Kd.R_after (ok := (fun k_ => some k_ ≠ (.slice (some ad380) t374.length co6 : Value).ownBlock ∧ some k_ ≠ (v418 : Value).ownBlock ∧ k_ ≠ gb373 ∧ k_ ≠ gb381)) (by (with_reducible repeat (first | apply Kd.R_alloc | apply Kd.R_drewN | apply Kd.R_drew)); exact Kd.R_mono HO_5.out (fun _ hk => ⟨⟨hk.1.1.1, ⟨hk.2, ⟨hk.1.1.2.1, hk.1.1.2.2⟩⟩⟩, hk.1.2⟩)) hg hat)
                                  have n1_ := Aside0.mk (Kd.R_after (ok := (fun k_ => some k_ ≠ (.slice Ao50 x5_1.length co50 : Value).ownBlock ∧ some k_ ≠ (v418 : Value).ownBlock ∧ k_ ≠ gb373 ∧ k_ ≠ gb381)) (by (with_reducible repeat (first | apply Kd.R_alloc | apply Kd.R_drewN | apply Kd.R_drew)); exact Kd.R_mono HO_13.out (fun _ hk => ⟨⟨hk.1.1.1, ⟨hk.2, ⟨hk.1.1.2.1, hk.1.1.2.2⟩⟩⟩, hk.1.2⟩)) hg hat)
                                  have n2_ := Aside0.mk (blk_grown (g := gb373) (o := .cells #[.int .i64 a0_0, .int .i64 a0_1, .int .i64 a0_2, .int .i64 a0_3, .int .i64 a0_4, .int .i64 a0_5] 40 (0, 0)) (by (with_reducible repeat (first | refine blk_drewN ?_ _ | refine blk_drew ?_ | refine blk_alloc ?_ _)); exact BK373.out) hg (Kd.R_away HO409.out (fun _ hk => hk.1.1.2)))
                                  have n3_ := Aside0.mk (blk_grown (g := gb381) (o := .cells #[.int .i64 ((rd_T40 t374 x17_1).f0), .int .i64 ((rd_T40 t374 x17_1).f1), .int .i64 ((rd_T40 t374 x17_1).f2), .int .i64 ((rd_T40 t374 x17_1).f3), .int .i64 ((rd_T40 t374 x17_1).f4), .int .i64 ((rd_T40 t374 x17_1).f5)] 40 (0, 0)) (by (with_reducible repeat (first | refine blk_drewN ?_ _ | refine blk_drew ?_ | refine blk_alloc ?_ _)); exact BK381.out) hg (Kd.R_away HO409.out (fun _ hk => hk.1.2)))
                                  have n4_ := Aside0.mk (Kd.R_after (ok := (fun k_ => some k_ ≠ (.slice Ao50 x5_1.length co50 : Value).ownBlock ∧ some k_ ≠ (.slice (some ad380) t374.length co6 : Value).ownBlock ∧ k_ ≠ gb373 ∧ k_ ≠ gb381)) (by (with_reducible repeat (first | apply Kd.R_alloc | apply Kd.R_drewN | apply Kd.R_drew)); exact Kd.R_mono HO419.out (fun _ hk => ⟨⟨hk.1.1.1.1.2, ⟨hk.1.1.1.2, ⟨hk.1.2, hk.2⟩⟩⟩, hk.1.1.2⟩)) hg hat)
                                  have n5_ := Aside0.mk (hb)
                                  have n6_ := Aside0.mk ((show Kd.C k40 w57 Ao50 y410.length y410 from by rw [Ny410.out]; exact Kd.C_take (m := (x8_2 : Int).toNat) ((Kd.R_reads' (Kd.R_after (ok := (fun k_ => some k_ ≠ (.slice (some ad380) t374.length co6 : Value).ownBlock ∧ some k_ ≠ (v418 : Value).ownBlock ∧ k_ ≠ gb373 ∧ k_ ≠ gb381)) (by (with_reducible repeat (first | apply Kd.R_alloc | apply Kd.R_drewN | apply Kd.R_drew)); exact Kd.R_mono HO_5.out (fun _ hk => ⟨⟨hk.1.1.1, ⟨hk.2, ⟨hk.1.1.2.1, hk.1.1.2.2⟩⟩⟩, hk.1.2⟩)) hg hat)).2.2) KL52.out))
                                  have n7_ := Aside0.mk (ho)
                                  clear HO_5
                                  clear HO_13
                                  clear BK373
                                  clear BK381
                                  clear HO419
                                  clear HB
                                  clear HR413
                                  clear HO409
                                  have HO_5 := n0_
                                  have HO_13 := n1_
                                  have BK373 := n2_
                                  have BK381 := n3_
                                  have HO419 := n4_
                                  have HB := n5_
                                  have HR413 := n6_
                                  have HO416 := n7_
                                  clear n0_ n1_ n2_ n3_ n4_ n5_ n6_ n7_
                                  clear ho hb hg hat
                                  refine hK.out _ _ ⟨(blk_cell BK381.out 0).trans rfl, (blk_cell BK381.out 1).trans rfl, (blk_cell BK381.out 2).trans rfl, (blk_cell BK381.out 3).trans rfl, (blk_cell BK381.out 4).trans rfl, (blk_cell BK381.out 5).trans rfl⟩ (fun hHeld => ?_)
                                  clear hK K
                                  refine norm_ (a' := ?_) ?_ ?_
                                  rotate_left
                                  · show Act.put _ (some 39) _ = _
                                    simp only [Act.put, List.setIfInBounds_toArray, List.set_cons_zero, List.set_cons_succ, i64_w, i32_w]
                                    rfl
                                  exact norm_ (by simp only [putAll, Act.put, List.setIfInBounds_toArray, List.set_cons_zero, List.set_cons_succ]) (hCont (v408, v415, v418) _ ⟨hHeld, (by (with_reducible repeat (first | apply Kd.R_alloc | apply Kd.R_drewN | apply Kd.R_drew)); exact Kd.R_mono HO416.out (fun _ hk => ⟨hk.2.2.1, ⟨hk.2.1, ⟨hk.1, ⟨hk.2.2.2.1, hk.2.2.2.2⟩⟩⟩⟩)), (by (with_reducible repeat (first | apply Kd.R_alloc | apply Kd.R_drewN | apply Kd.R_drew)); exact Kd.R_mono HO419.out (fun _ hk => ⟨hk.2, ⟨hk.1.2.1, ⟨hk.1.1, ⟨hk.1.2.2.1, hk.1.2.2.2⟩⟩⟩⟩)), (by (with_reducible repeat (first | apply Kd.R_alloc | apply Kd.R_drewN | apply Kd.R_drew)); exact Kd.R_mono HO_13.out (fun _ hk => ⟨hk.2, ⟨hk.1.2.1, ⟨hk.1.1, ⟨hk.1.2.2.1, hk.1.2.2.2⟩⟩⟩⟩)), (by (with_reducible repeat (first | apply Kd.R_alloc | apply Kd.R_drewN | apply Kd.R_drew)); exact Kd.R_mono HO_5.out (fun _ hk => ⟨hk.2, ⟨hk.1.2.1, ⟨hk.1.1, ⟨hk.1.2.2.1, hk.1.2.2.2⟩⟩⟩⟩)), (by (with_reducible repeat (first | refine blk_drewN ?_ _ | refine blk_drew ?_ | refine blk_alloc ?_ _)); exact BK373.out), (by (with_reducible repeat (first | refine blk_drewN ?_ _ | refine blk_drew ?_ | refine blk_alloc ?_ _)); exact BK381.out), (by repeat (first | (with_reducible first | exact HB.out | apply below_alloc | apply pw_below_drewN | apply below_drew1 | refine below_set ?_ GE373.out | refine below_set ?_ GE381.out) | exact HB.out))⟩)
                              · skip
                                refine Kd.R_lit_step k40 _ 40 ?hg (N := 41) ?hd (xs := ([(⟨((rd_T40 t374 x17_1).f0), ((rd_T40 t374 x17_1).f1), ((rd_T40 t374 x17_1).f2), ((rd_T40 t374 x17_1).f3), ((rd_T40 t374 x17_1).f4), ((rd_T40 t374 x17_1).f5)⟩ : S40)] : List (S40))) (inner := [.int .i64 ((rd_T40 t374 x17_1).f0), .int .i64 ((rd_T40 t374 x17_1).f1), .int .i64 ((rd_T40 t374 x17_1).f2), .int .i64 ((rd_T40 t374 x17_1).f3), .int .i64 ((rd_T40 t374 x17_1).f4), .int .i64 ((rd_T40 t374 x17_1).f5)]) (ok := fun _ => True) (okp := fun _ => True) ?hr ?hp (fun _ hk => hk) trivial (Below.refl _ _) (Nat.le_refl _) (by simp) ?_; (case hd => rfl); (case hg => rfl); (case hr => first | (go_simp; done) | (go_simp; rfl)); (case hp => exact (Reps.c6 (show Kd.M k40 _ _ _ (⟨((rd_T40 t374 x17_1).f0), ((rd_T40 t374 x17_1).f1), ((rd_T40 t374 x17_1).f2), ((rd_T40 t374 x17_1).f3), ((rd_T40 t374 x17_1).f4), ((rd_T40 t374 x17_1).f5)⟩ : S40) [.int .i64 ((rd_T40 t374 x17_1).f0), .int .i64 ((rd_T40 t374 x17_1).f1), .int .i64 ((rd_T40 t374 x17_1).f2), .int .i64 ((rd_T40 t374 x17_1).f3), .int .i64 ((rd_T40 t374 x17_1).f4), .int .i64 ((rd_T40 t374 x17_1).f5)] from (k40_mkM _ _ _ (⟨((rd_T40 t374 x17_1).f0), ((rd_T40 t374 x17_1).f1), ((rd_T40 t374 x17_1).f2), ((rd_T40 t374 x17_1).f3), ((rd_T40 t374 x17_1).f4), ((rd_T40 t374 x17_1).f5)⟩ : S40) )) (Reps.none _ _)))
                                intro v418 w53 ho54 hb hg_ hnew_
                                clear hg_ hnew_
                                (first | rw [← Ny417.out] at ho54 | (simp only [Int.reduceToNat] at ho54; rw [← Ny417.out] at ho54))
                                have n0_ := Aside0.mk (Kd.R_elder' (by (with_reducible repeat (first | apply Kd.R_alloc | apply Kd.R_drewN | apply Kd.R_drew)); exact HO_5.out) (Kd.R_base ho54) hb)
                                have n1_ := Aside0.mk (Kd.R_elder' (by (with_reducible repeat (first | apply Kd.R_alloc | apply Kd.R_drewN | apply Kd.R_drew)); exact HO_13.out) (Kd.R_base ho54) hb)
                                have n2_ := Aside0.mk (Kd.R_lower (Kd.R_newB (Kd.R_newB (Kd.R_new' (Kd.R_new' ho54 (Kd.R_lt (by (with_reducible repeat (first | apply Kd.R_alloc | apply Kd.R_drewN | apply Kd.R_drew)); exact HO_5.out))) (Kd.R_lt (by (with_reducible repeat (first | apply Kd.R_alloc | apply Kd.R_drewN | apply Kd.R_drew)); exact HO_13.out))) (g := gb373) (o := .cells #[.int .i64 a0_0, .int .i64 a0_1, .int .i64 a0_2, .int .i64 a0_3, .int .i64 a0_4, .int .i64 a0_5] 40 (0, 0)) (by (with_reducible repeat (first | refine blk_drewN ?_ _ | refine blk_drew ?_ | refine blk_alloc ?_ _)); exact BK373.out)) (g := gb381) (o := .cells #[.int .i64 ((rd_T40 t374 x17_1).f0), .int .i64 ((rd_T40 t374 x17_1).f1), .int .i64 ((rd_T40 t374 x17_1).f2), .int .i64 ((rd_T40 t374 x17_1).f3), .int .i64 ((rd_T40 t374 x17_1).f4), .int .i64 ((rd_T40 t374 x17_1).f5)] 40 (0, 0)) (by (with_reducible repeat (first | refine blk_drewN ?_ _ | refine blk_drew ?_ | refine blk_alloc ?_ _)); exact BK381.out)) (below_size (by repeat (first | (with_reducible first | exact HB.out | apply below_alloc | apply pw_below_drewN | apply below_drew1 | refine below_set ?_ GE373.out | refine below_set ?_ GE381.out) | exact HB.out))))
                                have n3_ := Aside0.mk (blk_below (g := gb373) (o := .cells #[.int .i64 a0_0, .int .i64 a0_1, .int .i64 a0_2, .int .i64 a0_3, .int .i64 a0_4, .int .i64 a0_5] 40 (0, 0)) (by (with_reducible repeat (first | refine blk_drewN ?_ _ | refine blk_drew ?_ | refine blk_alloc ?_ _)); exact BK373.out) hb)
                                have n4_ := Aside0.mk (blk_below (g := gb381) (o := .cells #[.int .i64 ((rd_T40 t374 x17_1).f0), .int .i64 ((rd_T40 t374 x17_1).f1), .int .i64 ((rd_T40 t374 x17_1).f2), .int .i64 ((rd_T40 t374 x17_1).f3), .int .i64 ((rd_T40 t374 x17_1).f4), .int .i64 ((rd_T40 t374 x17_1).f5)] 40 (0, 0)) (by (with_reducible repeat (first | refine blk_drewN ?_ _ | refine blk_drew ?_ | refine blk_alloc ?_ _)); exact BK381.out) hb)
                                have n5_ := Aside0.mk (Kd.C_below (by repeat (first | (with_reducible exact HR413.out) | (with_reducible refine Kd.C_alloc ?_ _) | (with_reducible refine Kd.C_drewN ?_ _) | (with_reducible refine Kd.C_drew ?_) | exact HR413.out)) hb)
                                have n6_ := Aside0.mk (below_step (by repeat (first | (with_reducible first | exact HB.out | apply below_alloc | apply pw_below_drewN | apply below_drew1 | refine below_set ?_ GE373.out | refine below_set ?_ GE381.out) | exact HB.out)) hb)
                                clear HO_5
                                clear HO_13
                                clear BK373
                                clear BK381
                                clear HR413
                                clear HB
                                have HO_5 := n0_
                                have HO_13 := n1_
                                have HO419 := n2_
                                have BK373 := n3_
                                have BK381 := n4_
                                have HR413 := n5_
                                have HB := n6_
                                clear n0_ n1_ n2_ n3_ n4_ n5_ n6_
                                clear hb ho54
                                refine hK.out _ _ ⟨(blk_cell BK381.out 0).trans rfl, (blk_cell BK381.out 1).trans rfl, (blk_cell BK381.out 2).trans rfl, (blk_cell BK381.out 3).trans rfl, (blk_cell BK381.out 4).trans rfl, (blk_cell BK381.out 5).trans rfl⟩ (fun hHeld => ?_)
                                clear hK K
                                refine norm_ (a' := ?_) ?_ ?_
                                rotate_left
                                · show Act.put _ (some 41) _ = _
                                  simp only [Act.put, List.setIfInBounds_toArray, List.set_cons_zero, List.set_cons_succ, i64_w, i32_w]
                                  rfl
                                refine one_ (i := 0) (N := some 35) #[true, true, true, true, false, true, true, false, false] rfl rfl (one_of HT_.out (by kernel_rfl)) (by decide) (fun K hK => ?_)
                                refine Kd.R_lit_step k40 _ 40 ?hg (N := 35) ?hd (xs := ([] : List (S40))) (inner := []) (ok := fun _ => True) (okp := fun _ => True) ?hr ?hp (fun _ hk => hk) trivial (Below.refl _ _) (Nat.le_refl _) (by simp) ?_; (case hd => rfl); (case hg => rfl); (case hr => first | (go_simp; done) | (go_simp; rfl)); (case hp => exact (Reps.none _ _))
                                intro v408 w55 ho56 hb hg_ hnew_
                                clear hg_ hnew_
                                (first | rw [← Ny407.out] at ho56 | (simp only [Int.reduceToNat] at ho56; rw [← Ny407.out] at ho56))
                                have n0_ := Aside0.mk (Kd.R_elder' (by (with_reducible repeat (first | apply Kd.R_alloc | apply Kd.R_drewN | apply Kd.R_drew)); exact HO_5.out) (Kd.R_base ho56) hb)
                                have n1_ := Aside0.mk (Kd.R_elder' (by (with_reducible repeat (first | apply Kd.R_alloc | apply Kd.R_drewN | apply Kd.R_drew)); exact HO_13.out) (Kd.R_base ho56) hb)
                                have n2_ := Aside0.mk (Kd.R_elder' (by (with_reducible repeat (first | apply Kd.R_alloc | apply Kd.R_drewN | apply Kd.R_drew)); exact HO419.out) (Kd.R_base ho56) hb)
                                have n3_ := Aside0.mk (Kd.R_lower (Kd.R_newB (Kd.R_newB (Kd.R_new' (Kd.R_new' (Kd.R_new' ho56 (Kd.R_lt (by (with_reducible repeat (first | apply Kd.R_alloc | apply Kd.R_drewN | apply Kd.R_drew)); exact HO_5.out))) (Kd.R_lt (by (with_reducible repeat (first | apply Kd.R_alloc | apply Kd.R_drewN | apply Kd.R_drew)); exact HO_13.out))) (Kd.R_lt (by (with_reducible repeat (first | apply Kd.R_alloc | apply Kd.R_drewN | apply Kd.R_drew)); exact HO419.out))) (g := gb373) (o := .cells #[.int .i64 a0_0, .int .i64 a0_1, .int .i64 a0_2, .int .i64 a0_3, .int .i64 a0_4, .int .i64 a0_5] 40 (0, 0)) (by (with_reducible repeat (first | refine blk_drewN ?_ _ | refine blk_drew ?_ | refine blk_alloc ?_ _)); exact BK373.out)) (g := gb381) (o := .cells #[.int .i64 ((rd_T40 t374 x17_1).f0), .int .i64 ((rd_T40 t374 x17_1).f1), .int .i64 ((rd_T40 t374 x17_1).f2), .int .i64 ((rd_T40 t374 x17_1).f3), .int .i64 ((rd_T40 t374 x17_1).f4), .int .i64 ((rd_T40 t374 x17_1).f5)] 40 (0, 0)) (by (with_reducible repeat (first | refine blk_drewN ?_ _ | refine blk_drew ?_ | refine blk_alloc ?_ _)); exact BK381.out)) (below_size (by repeat (first | (with_reducible first | exact HB.out | apply below_alloc | apply pw_below_drewN | apply below_drew1 | refine below_set ?_ GE373.out | refine below_set ?_ GE381.out) | exact HB.out))))
                                have n4_ := Aside0.mk (blk_below (g := gb373) (o := .cells #[.int .i64 a0_0, .int .i64 a0_1, .int .i64 a0_2, .int .i64 a0_3, .int .i64 a0_4, .int .i64 a0_5] 40 (0, 0)) (by (with_reducible repeat (first | refine blk_drewN ?_ _ | refine blk_drew ?_ | refine blk_alloc ?_ _)); exact BK373.out) hb)
                                have n5_ := Aside0.mk (blk_below (g := gb381) (o := .cells #[.int .i64 ((rd_T40 t374 x17_1).f0), .int .i64 ((rd_T40 t374 x17_1).f1), .int .i64 ((rd_T40 t374 x17_1).f2), .int .i64 ((rd_T40 t374 x17_1).f3), .int .i64 ((rd_T40 t374 x17_1).f4), .int .i64 ((rd_T40 t374 x17_1).f5)] 40 (0, 0)) (by (with_reducible repeat (first | refine blk_drewN ?_ _ | refine blk_drew ?_ | refine blk_alloc ?_ _)); exact BK381.out) hb)
                                have n6_ := Aside0.mk (Kd.C_below (by repeat (first | (with_reducible exact HR413.out) | (with_reducible refine Kd.C_alloc ?_ _) | (with_reducible refine Kd.C_drewN ?_ _) | (with_reducible refine Kd.C_drew ?_) | exact HR413.out)) hb)
                                have n7_ := Aside0.mk (below_step (by repeat (first | (with_reducible first | exact HB.out | apply below_alloc | apply pw_below_drewN | apply below_drew1 | refine below_set ?_ GE373.out | refine below_set ?_ GE381.out) | exact HB.out)) hb)
                                clear HO_5
                                clear HO_13
                                clear HO419
                                clear BK373
                                clear BK381
                                clear HR413
                                clear HB
                                have HO_5 := n0_
                                have HO_13 := n1_
                                have HO419 := n2_
                                have HO409 := n3_
                                have BK373 := n4_
                                have BK381 := n5_
                                have HR413 := n6_
                                have HB := n7_
                                clear n0_ n1_ n2_ n3_ n4_ n5_ n6_ n7_
                                clear hb ho56
                                refine hK.out _ _ ⟨(blk_cell BK381.out 0).trans rfl, (blk_cell BK381.out 1).trans rfl, (blk_cell BK381.out 2).trans rfl, (blk_cell BK381.out 3).trans rfl, (blk_cell BK381.out 4).trans rfl, (blk_cell BK381.out 5).trans rfl⟩ (fun hHeld => ?_)
                                clear hK K
                                refine norm_ (a' := ?_) ?_ ?_
                                rotate_left
                                · show Act.put _ (some 35) _ = _
                                  simp only [Act.put, List.setIfInBounds_toArray, List.set_cons_zero, List.set_cons_succ, i64_w, i32_w]
                                  rfl
                                refine one_ (i := 4) (N := some 39) #[true, true, true, true, true, true, true, false, false] rfl rfl (one_of HT_.out (by kernel_rfl)) (by decide) (fun K hK => ?_)
                                refine Kd.R_append_rows_step k40 (w0 := w) w.heap.size (by rfl) (.tmp 35) (.tmp 38) 55 40 (.agg #[(.int .i64 0), (.int .i64 0), (.int .i64 0), (.int .i64 0), (.int .i64 0), (.int .i64 0)]) 48 rfl Try.underlying55 info40 rfl (by decide) (by omega) v408 y407 y410 _ _ _ (fun k_ => some k_ ≠ (.slice Ao50 x5_1.length co50 : Value).ownBlock ∧ some k_ ≠ (.slice (some ad380) t374.length co6 : Value).ownBlock ∧ some k_ ≠ (v418 : Value).ownBlock ∧ k_ ≠ gb373 ∧ k_ ≠ gb381) (fun _ => False) rfl rfl ?aO ?aR (fun _ _ h => h) (fun _ h => h.elim) ?aF ?aB ?aS ?aL ?_
                                (case aR => repeat (first | exact (by repeat (first | (with_reducible exact HR413.out) | (with_reducible refine Kd.C_alloc ?_ _) | (with_reducible refine Kd.C_drewN ?_ _) | (with_reducible refine Kd.C_drew ?_) | exact HR413.out)) | (with_reducible refine Kd.C_alloc ?_ _) | (with_reducible refine Kd.C_drewN ?_ _) | (with_reducible refine Kd.C_drew ?_)))
                                (case aB => exact (by repeat (first | (with_reducible first | exact HB.out | apply below_alloc | apply pw_below_drewN | apply below_drew1 | refine below_set ?_ GE373.out | refine below_set ?_ GE381.out) | exact HB.out)))
                                (case aF => exact (fun k_ hk => ⟨Kd.fresh' (Kd.R_lt (by (with_reducible repeat (first | apply Kd.R_alloc | apply Kd.R_drewN | apply Kd.R_drew)); exact HO_5.out)) k_ hk, Kd.fresh' (Kd.R_lt (by (with_reducible repeat (first | apply Kd.R_alloc | apply Kd.R_drewN | apply Kd.R_drew)); exact HO_13.out)) k_ hk, Kd.fresh' (Kd.R_lt (by (with_reducible repeat (first | apply Kd.R_alloc | apply Kd.R_drewN | apply Kd.R_drew)); exact HO419.out)) k_ hk, Kd.freshB (g := gb373) (o := .cells #[.int .i64 a0_0, .int .i64 a0_1, .int .i64 a0_2, .int .i64 a0_3, .int .i64 a0_4, .int .i64 a0_5] 40 (0, 0)) (by (with_reducible repeat (first | refine blk_drewN ?_ _ | refine blk_drew ?_ | refine blk_alloc ?_ _)); exact BK373.out) k_ hk, Kd.freshB (g := gb381) (o := .cells #[.int .i64 ((rd_T40 t374 x17_1).f0), .int .i64 ((rd_T40 t374 x17_1).f1), .int .i64 ((rd_T40 t374 x17_1).f2), .int .i64 ((rd_T40 t374 x17_1).f3), .int .i64 ((rd_T40 t374 x17_1).f4), .int .i64 ((rd_T40 t374 x17_1).f5)] 40 (0, 0)) (by (with_reducible repeat (first | refine blk_drewN ?_ _ | refine blk_drew ?_ | refine blk_alloc ?_ _)); exact BK381.out) k_ hk⟩))
                                (case aO => exact (by (with_reducible repeat (first | apply Kd.R_alloc | apply Kd.R_drewN | apply Kd.R_drew)); exact Kd.R_mono HO409.out (fun _ hk => ⟨hk.1.1.1.1.2, ⟨hk.1.1.1.2, ⟨hk.1.1.2, ⟨hk.1.2, hk.2⟩⟩⟩⟩)))
                                (case aS => exact (below_size (by repeat (first | (with_reducible first | exact HB.out | apply below_alloc | apply pw_below_drewN | apply below_drew1 | refine below_set ?_ GE373.out | refine below_set ?_ GE381.out) | exact HB.out))))
                                (case aL => have := LMc44.out; omega)
                                intro v415 w57 ho hb hg hat
                                rw [← Ny414.out] at ho
                                have n0_ := Aside0.mk (Kd.R_after (ok := (fun k_ => some k_ ≠ (.slice (some ad380) t374.length co6 : Value).ownBlock ∧ some k_ ≠ (v418 : Value).ownBlock ∧ k_ ≠ gb373 ∧ k_ ≠ gb381)) (by (with_reducible repeat (first | apply Kd.R_alloc | apply Kd.R_drewN | apply Kd.R_drew)); exact Kd.R_mono HO_5.out (fun _ hk => ⟨⟨hk.1.1.1, ⟨hk.1.2, ⟨hk.1.1.2.1, hk.1.1.2.2⟩⟩⟩, hk.2⟩)) hg hat)
                                have n1_ := Aside0.mk (Kd.R_after (ok := (fun k_ => some k_ ≠ (.slice Ao50 x5_1.length co50 : Value).ownBlock ∧ some k_ ≠ (v418 : Value).ownBlock ∧ k_ ≠ gb373 ∧ k_ ≠ gb381)) (by (with_reducible repeat (first | apply Kd.R_alloc | apply Kd.R_drewN | apply Kd.R_drew)); exact Kd.R_mono HO_13.out (fun _ hk => ⟨⟨hk.1.1.1, ⟨hk.1.2, ⟨hk.1.1.2.1, hk.1.1.2.2⟩⟩⟩, hk.2⟩)) hg hat)
                                have n2_ := Aside0.mk (blk_grown (g := gb373) (o := .cells #[.int .i64 a0_0, .int .i64 a0_1, .int .i64 a0_2, .int .i64 a0_3, .int .i64 a0_4, .int .i64 a0_5] 40 (0, 0)) (by (with_reducible repeat (first | refine blk_drewN ?_ _ | refine blk_drew ?_ | refine blk_alloc ?_ _)); exact BK373.out) hg (Kd.R_away HO409.out (fun _ hk => hk.1.2)))
                                have n3_ := Aside0.mk (blk_grown (g := gb381) (o := .cells #[.int .i64 ((rd_T40 t374 x17_1).f0), .int .i64 ((rd_T40 t374 x17_1).f1), .int .i64 ((rd_T40 t374 x17_1).f2), .int .i64 ((rd_T40 t374 x17_1).f3), .int .i64 ((rd_T40 t374 x17_1).f4), .int .i64 ((rd_T40 t374 x17_1).f5)] 40 (0, 0)) (by (with_reducible repeat (first | refine blk_drewN ?_ _ | refine blk_drew ?_ | refine blk_alloc ?_ _)); exact BK381.out) hg (Kd.R_away HO409.out (fun _ hk => hk.2)))
                                have n4_ := Aside0.mk (Kd.R_after (ok := (fun k_ => some k_ ≠ (.slice Ao50 x5_1.length co50 : Value).ownBlock ∧ some k_ ≠ (.slice (some ad380) t374.length co6 : Value).ownBlock ∧ k_ ≠ gb373 ∧ k_ ≠ gb381)) (by (with_reducible repeat (first | apply Kd.R_alloc | apply Kd.R_drewN | apply Kd.R_drew)); exact Kd.R_mono HO419.out (fun _ hk => ⟨⟨hk.1.1.1.1.2, ⟨hk.1.1.1.2, ⟨hk.1.1.2, hk.1.2⟩⟩⟩, hk.2⟩)) hg hat)
                                have n5_ := Aside0.mk (hb)
                                have n6_ := Aside0.mk ((show Kd.C k40 w57 Ao50 y410.length y410 from by rw [Ny410.out]; exact Kd.C_take (m := (x8_2 : Int).toNat) ((Kd.R_reads' (Kd.R_after (ok := (fun k_ => some k_ ≠ (.slice (some ad380) t374.length co6 : Value).ownBlock ∧ some k_ ≠ (v418 : Value).ownBlock ∧ k_ ≠ gb373 ∧ k_ ≠ gb381)) (by (with_reducible repeat (first | apply Kd.R_alloc | apply Kd.R_drewN | apply Kd.R_drew)); exact Kd.R_mono HO_5.out (fun _ hk => ⟨⟨hk.1.1.1, ⟨hk.1.2, ⟨hk.1.1.2.1, hk.1.1.2.2⟩⟩⟩, hk.2⟩)) hg hat)).2.2) KL52.out))
                                have n7_ := Aside0.mk (ho)
                                clear HO_5
                                clear HO_13
                                clear BK373
                                clear BK381
                                clear HO419
                                clear HB
                                clear HR413
                                clear HO409
                                have HO_5 := n0_
                                have HO_13 := n1_
                                have BK373 := n2_
                                have BK381 := n3_
                                have HO419 := n4_
                                have HB := n5_
                                have HR413 := n6_
                                have HO416 := n7_
                                clear n0_ n1_ n2_ n3_ n4_ n5_ n6_ n7_
                                clear ho hb hg hat
                                refine hK.out _ _ ⟨(blk_cell BK381.out 0).trans rfl, (blk_cell BK381.out 1).trans rfl, (blk_cell BK381.out 2).trans rfl, (blk_cell BK381.out 3).trans rfl, (blk_cell BK381.out 4).trans rfl, (blk_cell BK381.out 5).trans rfl⟩ (fun hHeld => ?_)
                                clear hK K
                                refine norm_ (a' := ?_) ?_ ?_
                                rotate_left
                                · show Act.put _ (some 39) _ = _
                                  simp only [Act.put, List.setIfInBounds_toArray, List.set_cons_zero, List.set_cons_succ, i64_w, i32_w]
                                  rfl
                                exact norm_ (by simp only [putAll, Act.put, List.setIfInBounds_toArray, List.set_cons_zero, List.set_cons_succ]) (hCont (v408, v415, v418) _ ⟨hHeld, (by (with_reducible repeat (first | apply Kd.R_alloc | apply Kd.R_drewN | apply Kd.R_drew)); exact Kd.R_mono HO416.out (fun _ hk => ⟨hk.2.2.1, ⟨hk.2.1, ⟨hk.1, ⟨hk.2.2.2.1, hk.2.2.2.2⟩⟩⟩⟩)), (by (with_reducible repeat (first | apply Kd.R_alloc | apply Kd.R_drewN | apply Kd.R_drew)); exact Kd.R_mono HO419.out (fun _ hk => ⟨hk.2, ⟨hk.1.2.1, ⟨hk.1.1, ⟨hk.1.2.2.1, hk.1.2.2.2⟩⟩⟩⟩)), (by (with_reducible repeat (first | apply Kd.R_alloc | apply Kd.R_drewN | apply Kd.R_drew)); exact Kd.R_mono HO_13.out (fun _ hk => ⟨hk.2, ⟨hk.1.2.1, ⟨hk.1.1, ⟨hk.1.2.2.1, hk.1.2.2.2⟩⟩⟩⟩)), (by (with_reducible repeat (first | apply Kd.R_alloc | apply Kd.R_drewN | apply Kd.R_drew)); exact Kd.R_mono HO_5.out (fun _ hk => ⟨hk.2, ⟨hk.1.2.1, ⟨hk.1.1, ⟨hk.1.2.2.1, hk.1.2.2.2⟩⟩⟩⟩)), (by (with_reducible repeat (first | refine blk_drewN ?_ _ | refine blk_drew ?_ | refine blk_alloc ?_ _)); exact BK373.out), (by (with_reducible repeat (first | refine blk_drewN ?_ _ | refine blk_drew ?_ | refine blk_alloc ?_ _)); exact BK381.out), (by repeat (first | (with_reducible first | exact HB.out | apply below_alloc | apply pw_below_drewN | apply below_drew1 | refine below_set ?_ GE373.out | refine below_set ?_ GE381.out) | exact HB.out))⟩)
                            rintro ⟨v408, v415, v418⟩ w58 ⟨hS_, h0_, h1_, h2_, h3_, h4_, h5_, h6_⟩
                            have n0_ : Aside0 (Kd.R k40 40 w58 w.heap.size (fun k_ => some k_ ≠ (v418 : Value).ownBlock ∧ some k_ ≠ (.slice (some ad380) t374.length co6 : Value).ownBlock ∧ some k_ ≠ (.slice Ao50 x5_1.length co50 : Value).ownBlock ∧ k_ ≠ gb373 ∧ k_ ≠ gb381) v415 y414) := ⟨h0_⟩
                            have n1_ : Aside0 (Kd.R k40 40 w58 w.heap.size (fun k_ => some k_ ≠ (v415 : Value).ownBlock ∧ some k_ ≠ (.slice (some ad380) t374.length co6 : Value).ownBlock ∧ some k_ ≠ (.slice Ao50 x5_1.length co50 : Value).ownBlock ∧ k_ ≠ gb373 ∧ k_ ≠ gb381) v418 y417) := ⟨h1_⟩
                            have n2_ : Aside0 (Kd.R k40 40 w58 w.heap.size (fun k_ => some k_ ≠ (v415 : Value).ownBlock ∧ some k_ ≠ (v418 : Value).ownBlock ∧ some k_ ≠ (.slice Ao50 x5_1.length co50 : Value).ownBlock ∧ k_ ≠ gb373 ∧ k_ ≠ gb381) (.slice (some ad380) t374.length co6) t374) := ⟨h2_⟩
                            have n3_ : Aside0 (Kd.R k40 40 w58 w.heap.size (fun k_ => some k_ ≠ (v415 : Value).ownBlock ∧ some k_ ≠ (v418 : Value).ownBlock ∧ some k_ ≠ (.slice (some ad380) t374.length co6 : Value).ownBlock ∧ k_ ≠ gb373 ∧ k_ ≠ gb381) (.slice Ao50 x5_1.length co50) x5_1) := ⟨h3_⟩
                            have n4_ : Aside0 (w58.heap[gb373]? = some (.cells #[.int .i64 a0_0, .int .i64 a0_1, .int .i64 a0_2, .int .i64 a0_3, .int .i64 a0_4, .int .i64 a0_5] 40 (0, 0))) := ⟨h4_⟩
                            have n5_ : Aside0 (w58.heap[gb381]? = some (.cells #[.int .i64 ((rd_T40 t374 x17_1).f0), .int .i64 ((rd_T40 t374 x17_1).f1), .int .i64 ((rd_T40 t374 x17_1).f2), .int .i64 ((rd_T40 t374 x17_1).f3), .int .i64 ((rd_T40 t374 x17_1).f4), .int .i64 ((rd_T40 t374 x17_1).f5)] 40 (0, 0))) := ⟨h5_⟩
                            have n6_ : Aside0 (Below w.heap.size w w58) := ⟨h6_⟩
                            clear HO_5
                            clear HO_13
                            clear BK373
                            clear BK381
                            clear HB
                            clear h0_ h1_ h2_ h3_ h4_ h5_ h6_
                            have HO416 := n0_
                            have HO419 := n1_
                            have HO_13 := n2_
                            have HO_5 := n3_
                            have BK373 := n4_
                            have BK381 := n5_
                            have HB := n6_
                            clear n0_ n1_ n2_ n3_ n4_ n5_ n6_
                            have hHeld : w58.cell? ⟨gb381, 0, none⟩ = some (.int .i64 ((rd_T40 t374 x17_1).f0)) ∧ w58.cell? ⟨gb381, 1, none⟩ = some (.int .i64 ((rd_T40 t374 x17_1).f1)) ∧ w58.cell? ⟨gb381, 2, none⟩ = some (.int .i64 ((rd_T40 t374 x17_1).f2)) ∧ w58.cell? ⟨gb381, 3, none⟩ = some (.int .i64 ((rd_T40 t374 x17_1).f3)) ∧ w58.cell? ⟨gb381, 4, none⟩ = some (.int .i64 ((rd_T40 t374 x17_1).f4)) ∧ w58.cell? ⟨gb381, 5, none⟩ = some (.int .i64 ((rd_T40 t374 x17_1).f5)) := hS_
                            obtain ⟨Ao60, co60, eo60⟩ := Kd.R_slice HO419.out
                            (first | subst eo60 | (injection eo60 with f1_ f2_ f3_; have f4_ := f1_.symm; have f5_ := f3_.symm; clear f1_ f2_ f3_; subst f4_; subst f5_))
                            refine norm_ (a' := ?_) ?_ ?_
                            rotate_left
                            · simp only [putAll, Act.put, List.setIfInBounds_toArray, List.set_cons_zero, List.set_cons_succ]
                              rfl
                            refine one_ (i := 7) (N := some 42) #[true, true, true, true, true, true, true, true, false] rfl rfl (one_of HT_.out (by kernel_rfl)) (by decide) (fun K hK => ?_)
                            refine Kd.R_append_rows_step k40 (w0 := w) w.heap.size (by rfl) (.tmp 39) (.tmp 41) 55 40 (.agg #[(.int .i64 0), (.int .i64 0), (.int .i64 0), (.int .i64 0), (.int .i64 0), (.int .i64 0)]) 48 rfl Try.underlying55 info40 rfl (by decide) (by omega) v415 y414 y417 _ _ _ (fun k_ => some k_ ≠ (.slice Ao50 x5_1.length co50 : Value).ownBlock ∧ some k_ ≠ (.slice (some ad380) t374.length co6 : Value).ownBlock ∧ some k_ ≠ (.slice Ao60 y417.length co60 : Value).ownBlock ∧ k_ ≠ gb373 ∧ k_ ≠ gb381) (fun _ => False) rfl rfl ?aO ?aR (fun _ _ h => h) (fun _ h => h.elim) ?aF ?aB ?aS ?aL ?_
                            (case aR => repeat (first | exact (Kd.R_reads' HO419.out).2.2 | (with_reducible refine Kd.C_alloc ?_ _) | (with_reducible refine Kd.C_drewN ?_ _) | (with_reducible refine Kd.C_drew ?_)))
                            (case aB => exact (by repeat (first | (with_reducible first | exact HB.out | apply below_alloc | apply pw_below_drewN | apply below_drew1 | refine below_set ?_ GE373.out | refine below_set ?_ GE381.out) | exact HB.out)))
                            (case aF => exact (fun k_ hk => ⟨Kd.fresh' (Kd.R_lt (by (with_reducible repeat (first | apply Kd.R_alloc | apply Kd.R_drewN | apply Kd.R_drew)); exact HO_5.out)) k_ hk, Kd.fresh' (Kd.R_lt (by (with_reducible repeat (first | apply Kd.R_alloc | apply Kd.R_drewN | apply Kd.R_drew)); exact HO_13.out)) k_ hk, Kd.fresh' (Kd.R_lt (by (with_reducible repeat (first | apply Kd.R_alloc | apply Kd.R_drewN | apply Kd.R_drew)); exact HO419.out)) k_ hk, Kd.freshB (g := gb373) (o := .cells #[.int .i64 a0_0, .int .i64 a0_1, .int .i64 a0_2, .int .i64 a0_3, .int .i64 a0_4, .int .i64 a0_5] 40 (0, 0)) (by (with_reducible repeat (first | refine blk_drewN ?_ _ | refine blk_drew ?_ | refine blk_alloc ?_ _)); exact BK373.out) k_ hk, Kd.freshB (g := gb381) (o := .cells #[.int .i64 ((rd_T40 t374 x17_1).f0), .int .i64 ((rd_T40 t374 x17_1).f1), .int .i64 ((rd_T40 t374 x17_1).f2), .int .i64 ((rd_T40 t374 x17_1).f3), .int .i64 ((rd_T40 t374 x17_1).f4), .int .i64 ((rd_T40 t374 x17_1).f5)] 40 (0, 0)) (by (with_reducible repeat (first | refine blk_drewN ?_ _ | refine blk_drew ?_ | refine blk_alloc ?_ _)); exact BK381.out) k_ hk⟩))
                            (case aO => exact (by (with_reducible repeat (first | apply Kd.R_alloc | apply Kd.R_drewN | apply Kd.R_drew)); exact Kd.R_mono HO416.out (fun _ hk => ⟨hk.2.2.1, ⟨hk.2.1, ⟨hk.1, ⟨hk.2.2.2.1, hk.2.2.2.2⟩⟩⟩⟩)))
                            (case aS => exact (below_size (by repeat (first | (with_reducible first | exact HB.out | apply below_alloc | apply pw_below_drewN | apply below_drew1 | refine below_set ?_ GE373.out | refine below_set ?_ GE381.out) | exact HB.out))))
                            (case aL => have := LMc45.out; omega)
                            intro v421 w59 ho hb hg hat
                            rw [← Ny420.out] at ho
                            have n0_ := Aside0.mk (Kd.R_after (ok := (fun k_ => some k_ ≠ (.slice (some ad380) t374.length co6 : Value).ownBlock ∧ some k_ ≠ (.slice Ao60 y417.length co60 : Value).ownBlock ∧ k_ ≠ gb373 ∧ k_ ≠ gb381)) (by (with_reducible repeat (first | apply Kd.R_alloc | apply Kd.R_drewN | apply Kd.R_drew)); exact Kd.R_mono HO_5.out (fun _ hk => ⟨⟨hk.2.2.1, ⟨hk.2.1, ⟨hk.2.2.2.1, hk.2.2.2.2⟩⟩⟩, hk.1⟩)) hg hat)
                            have n1_ := Aside0.mk (Kd.R_after (ok := (fun k_ => some k_ ≠ (.slice Ao50 x5_1.length co50 : Value).ownBlock ∧ some k_ ≠ (.slice Ao60 y417.length co60 : Value).ownBlock ∧ k_ ≠ gb373 ∧ k_ ≠ gb381)) (by (with_reducible repeat (first | apply Kd.R_alloc | apply Kd.R_drewN | apply Kd.R_drew)); exact Kd.R_mono HO_13.out (fun _ hk => ⟨⟨hk.2.2.1, ⟨hk.2.1, ⟨hk.2.2.2.1, hk.2.2.2.2⟩⟩⟩, hk.1⟩)) hg hat)
                            have n2_ := Aside0.mk (blk_grown (g := gb373) (o := .cells #[.int .i64 a0_0, .int .i64 a0_1, .int .i64 a0_2, .int .i64 a0_3, .int .i64 a0_4, .int .i64 a0_5] 40 (0, 0)) (by (with_reducible repeat (first | refine blk_drewN ?_ _ | refine blk_drew ?_ | refine blk_alloc ?_ _)); exact BK373.out) hg (Kd.R_away HO416.out (fun _ hk => hk.2.2.2.1)))
                            have n3_ := Aside0.mk (blk_grown (g := gb381) (o := .cells #[.int .i64 ((rd_T40 t374 x17_1).f0), .int .i64 ((rd_T40 t374 x17_1).f1), .int .i64 ((rd_T40 t374 x17_1).f2), .int .i64 ((rd_T40 t374 x17_1).f3), .int .i64 ((rd_T40 t374 x17_1).f4), .int .i64 ((rd_T40 t374 x17_1).f5)] 40 (0, 0)) (by (with_reducible repeat (first | refine blk_drewN ?_ _ | refine blk_drew ?_ | refine blk_alloc ?_ _)); exact BK381.out) hg (Kd.R_away HO416.out (fun _ hk => hk.2.2.2.2)))
                            have n4_ := Aside0.mk (Kd.R_after (ok := (fun k_ => some k_ ≠ (.slice Ao50 x5_1.length co50 : Value).ownBlock ∧ some k_ ≠ (.slice (some ad380) t374.length co6 : Value).ownBlock ∧ k_ ≠ gb373 ∧ k_ ≠ gb381)) (by (with_reducible repeat (first | apply Kd.R_alloc | apply Kd.R_drewN | apply Kd.R_drew)); exact Kd.R_mono HO419.out (fun _ hk => ⟨⟨hk.2.2.1, ⟨hk.2.1, ⟨hk.2.2.2.1, hk.2.2.2.2⟩⟩⟩, hk.1⟩)) hg hat)
                            have n5_ := Aside0.mk (hb)
                            have n6_ := Aside0.mk (ho)
                            clear HO_5
                            clear HO_13
                            clear BK373
                            clear BK381
                            clear HO419
                            clear HB
                            clear HO416
                            have HO_5 := n0_
                            have HO_13 := n1_
                            have BK373 := n2_
                            have BK381 := n3_
                            have HO419 := n4_
                            have HB := n5_
                            have HO422 := n6_
                            clear n0_ n1_ n2_ n3_ n4_ n5_ n6_
                            clear ho hb hg hat
                            refine hK.out _ _ ⟨(blk_cell BK381.out 0).trans rfl, (blk_cell BK381.out 1).trans rfl, (blk_cell BK381.out 2).trans rfl, (blk_cell BK381.out 3).trans rfl, (blk_cell BK381.out 4).trans rfl, (blk_cell BK381.out 5).trans rfl⟩ (fun hHeld => ?_)
                            clear hK K
                            refine norm_ (a' := ?_) ?_ ?_
                            rotate_left
                            · show Act.put _ (some 42) _ = _
                              simp only [Act.put, List.setIfInBounds_toArray, List.set_cons_zero, List.set_cons_succ, i64_w, i32_w]
                              rfl
                            refine pure_ (i := 8) (N := some 9) (v := ?_) (a' := ?_) #[true, true, true, true, true, true, true, true, true] rfl rfl (any_of HT_.out (by kernel_rfl)) (fun _ _ _ h => h) (Or.inl ⟨by rfl, ?_⟩) ?_ ?_
                            rotate_left
                            · intro w'
                              go_simp
                              first | (with_reducible rfl) | (rw [if_neg (by simp only [ByteArray.size_extract, ByteArray.size_append] at * <;> omega)]; try with_reducible rfl)
                            rotate_left
                            · simp only [Act.put, List.setIfInBounds_toArray, List.set_cons_zero, List.set_cons_succ, i64_w, i32_w]
                              rfl
                            refine done_ (done_of HT_.out (by kernel_rfl)) ?_
                            have q61 : (x8_2 : Int) ≤ ((x5_1.length : Int) : Int) := of_decide_eq_true (by first | (with_reducible assumption) | assumption)
                            obtain ⟨i061, hi061, _, hsz61, _⟩ := info_parts info40
                            have hroom61 : x5_1.length ≤ co50 := (Kd.R_reads' HO_5.out).2.1
                            have hC61 : Kd.C k40 _ Ao50 x5_1.length x5_1 := (Kd.R_reads' HO_5.out).2.2
                            have q061 : (0 : Int) ≤ (x8_2 : Int) := of_decide_eq_true (by first | (with_reducible assumption) | assumption)
                            have hcut61 := cut_from (P := Try.prog) 55 40 .i64 Try.underlying55 hi061 6 hsz61 Ao50 x5_1.length co50 x8_2 q061 q61
                            have hr61 := Kd.C_drop (m := (x8_2 : Int).toNat) (c := co50) hC61 (by omega) hroom61
                            obtain ⟨A61, hA61⟩ : ∃ A1, A1 = (if co50 = (x8_2 : Int).toNat then Ao50 else (Ao50 : Option Addr).map (·.add ((x8_2 : Int).toNat * 6))) := ⟨_, rfl⟩
                            obtain ⟨c61, hc61⟩ : ∃ c1, c1 = co50 - (x8_2 : Int).toNat := ⟨_, rfl⟩
                            have hy61 : y423.length = x5_1.length - (x8_2 : Int).toNat := (by rw [Ny423.out, List.length_drop] <;> omega)
                            rw [show (x5_1).drop (x8_2 : Int).toNat = y423 from Ny423.out.symm] at hr61
                            replace hr61 : Kd.C k40 _ A61 y423.length y423 := (by rw [hA61]; exact hr61)
                            rw [← hy61, ← hA61, ← hc61] at hcut61
                            have HR426 := Aside0.mk hr61
                            have HC426 := Aside0.mk (show y423.length ≤ c61 from by rw [hy61, hc61]; exact Nat.sub_le_sub_right hroom61 _)
                            clear hr61 hC61 hroom61 hi061 hsz61 hc61
                            have KY61 := Aside0.mk hy61
                            have KA61 := Aside0.mk hA61
                            clear hy61 hA61
                            have KL61 := Aside0.mk (show (x8_2 : Int).toNat ≤ x5_1.length from by omega)
                            replace q61 := eq_true q61
                            try go_wp2_with (first | ((with_reducible refine gate_builtin (b := .append) (xs := #[.tmp 43, .tmp 46]) rfl ?_); at_builtin; refine Kd.R_append_rows k40 (w0 := w) w.heap.size rfl (.tmp 43) (.tmp 46) 55 40 (.agg #[(.int .i64 0), (.int .i64 0), (.int .i64 0), (.int .i64 0), (.int .i64 0), (.int .i64 0)]) 48 rfl Try.underlying55 info40 rfl (by decide) (by omega) v421 y420 y423 _ _ _ (fun k_ => some k_ ≠ (.slice Ao50 x5_1.length co50 : Value).ownBlock ∧ some k_ ≠ (.slice (some ad380) t374.length co6 : Value).ownBlock ∧ some k_ ≠ (.slice Ao60 y417.length co60 : Value).ownBlock ∧ k_ ≠ gb373 ∧ k_ ≠ gb381) (fun _ => False) rfl rfl ?aO ?aR (fun _ _ h => h) (fun _ h => h.elim) ?aF ?aB ?aS ?aL ?_; (case aR => repeat (first | exact (by repeat (first | (with_reducible exact HR426.out) | (with_reducible refine Kd.C_alloc ?_ _) | (with_reducible refine Kd.C_drewN ?_ _) | (with_reducible refine Kd.C_drew ?_) | exact HR426.out)) | (with_reducible refine Kd.C_alloc ?_ _) | (with_reducible refine Kd.C_drewN ?_ _) | (with_reducible refine Kd.C_drew ?_))); (case aB => exact (by repeat (first | (with_reducible first | exact HB.out | apply below_alloc | apply pw_below_drewN | apply below_drew1 | refine below_set ?_ GE373.out | refine below_set ?_ GE381.out) | exact HB.out))); (case aF => exact (fun k_ hk => ⟨Kd.fresh' (Kd.R_lt (by (with_reducible repeat (first | apply Kd.R_alloc | apply Kd.R_drewN | apply Kd.R_drew)); exact HO_5.out)) k_ hk, Kd.fresh' (Kd.R_lt (by (with_reducible repeat (first | apply Kd.R_alloc | apply Kd.R_drewN | apply Kd.R_drew)); exact HO_13.out)) k_ hk, Kd.fresh' (Kd.R_lt (by (with_reducible repeat (first | apply Kd.R_alloc | apply Kd.R_drewN | apply Kd.R_drew)); exact HO419.out)) k_ hk, Kd.freshB (g := gb373) (o := .cells #[.int .i64 a0_0, .int .i64 a0_1, .int .i64 a0_2, .int .i64 a0_3, .int .i64 a0_4, .int .i64 a0_5] 40 (0, 0)) (by (with_reducible repeat (first | refine blk_drewN ?_ _ | refine blk_drew ?_ | refine blk_alloc ?_ _)); exact BK373.out) k_ hk, Kd.freshB (g := gb381) (o := .cells #[.int .i64 ((rd_T40 t374 x17_1).f0), .int .i64 ((rd_T40 t374 x17_1).f1), .int .i64 ((rd_T40 t374 x17_1).f2), .int .i64 ((rd_T40 t374 x17_1).f3), .int .i64 ((rd_T40 t374 x17_1).f4), .int .i64 ((rd_T40 t374 x17_1).f5)] 40 (0, 0)) (by (with_reducible repeat (first | refine blk_drewN ?_ _ | refine blk_drew ?_ | refine blk_alloc ?_ _)); exact BK381.out) k_ hk⟩)); (case aO => exact (by (with_reducible repeat (first | apply Kd.R_alloc | apply Kd.R_drewN | apply Kd.R_drew)); exact HO422.out)); (case aS => exact (below_size (by repeat (first | (with_reducible first | exact HB.out | apply below_alloc | apply pw_below_drewN | apply below_drew1 | refine below_set ?_ GE373.out | refine below_set ?_ GE381.out) | exact HB.out)))); (case aL => have := LMc48.out; omega); intro v428 w62 ho hb hg hat; rw [← Ny427.out] at ho; have n0_ := Aside0.mk (Kd.R_after (ok := (fun k_ => some k_ ≠ (.slice (some ad380) t374.length co6 : Value).ownBlock ∧ some k_ ≠ (.slice Ao60 y417.length co60 : Value).ownBlock ∧ k_ ≠ gb373 ∧ k_ ≠ gb381)) (by (with_reducible repeat (first | apply Kd.R_alloc | apply Kd.R_drewN | apply Kd.R_drew)); exact HO_5.out) hg hat); have n1_ := Aside0.mk (Kd.R_after (ok := (fun k_ => some k_ ≠ (.slice Ao50 x5_1.length co50 : Value).ownBlock ∧ some k_ ≠ (.slice Ao60 y417.length co60 : Value).ownBlock ∧ k_ ≠ gb373 ∧ k_ ≠ gb381)) (by (with_reducible repeat (first | apply Kd.R_alloc | apply Kd.R_drewN | apply Kd.R_drew)); exact HO_13.out) hg hat); have n2_ := Aside0.mk (blk_grown (g := gb373) (o := .cells #[.int .i64 a0_0, .int .i64 a0_1, .int .i64 a0_2, .int .i64 a0_3, .int .i64 a0_4, .int .i64 a0_5] 40 (0, 0)) (by (with_reducible repeat (first | refine blk_drewN ?_ _ | refine blk_drew ?_ | refine blk_alloc ?_ _)); exact BK373.out) hg (Kd.R_away HO422.out (fun _ hk => hk.2.2.2.1))); have n3_ := Aside0.mk (blk_grown (g := gb381) (o := .cells #[.int .i64 ((rd_T40 t374 x17_1).f0), .int .i64 ((rd_T40 t374 x17_1).f1), .int .i64 ((rd_T40 t374 x17_1).f2), .int .i64 ((rd_T40 t374 x17_1).f3), .int .i64 ((rd_T40 t374 x17_1).f4), .int .i64 ((rd_T40 t374 x17_1).f5)] 40 (0, 0)) (by (with_reducible repeat (first | refine blk_drewN ?_ _ | refine blk_drew ?_ | refine blk_alloc ?_ _)); exact BK381.out) hg (Kd.R_away HO422.out (fun _ hk => hk.2.2.2.2))); have n4_ := Aside0.mk (Kd.R_after (ok := (fun k_ => some k_ ≠ (.slice Ao50 x5_1.length co50 : Value).ownBlock ∧ some k_ ≠ (.slice (some ad380) t374.length co6 : Value).ownBlock ∧ k_ ≠ gb373 ∧ k_ ≠ gb381)) (by (with_reducible repeat (first | apply Kd.R_alloc | apply Kd.R_drewN | apply Kd.R_drew)); exact HO419.out) hg hat); have n5_ := Aside0.mk (hb); have n6_ := Aside0.mk ((show Kd.C k40 w62 A61 y423.length y423 from by rw [Ny423.out, KA61.out]; exact Kd.C_drop (m := (x8_2 : Int).toNat) (c := co50) ((Kd.R_reads' (Kd.R_after (ok := (fun k_ => some k_ ≠ (.slice (some ad380) t374.length co6 : Value).ownBlock ∧ some k_ ≠ (.slice Ao60 y417.length co60 : Value).ownBlock ∧ k_ ≠ gb373 ∧ k_ ≠ gb381)) (by (with_reducible repeat (first | apply Kd.R_alloc | apply Kd.R_drewN | apply Kd.R_drew)); exact HO_5.out) hg hat)).2.2) KL61.out ((Kd.R_reads' (Kd.R_after (ok := (fun k_ => some k_ ≠ (.slice (some ad380) t374.length co6 : Value).ownBlock ∧ some k_ ≠ (.slice Ao60 y417.length co60 : Value).ownBlock ∧ k_ ≠ gb373 ∧ k_ ≠ gb381)) (by (with_reducible repeat (first | apply Kd.R_alloc | apply Kd.R_drewN | apply Kd.R_drew)); exact HO_5.out) hg hat)).2.1))); have n7_ := Aside0.mk (ho); clear HO_5; clear HO_13; clear BK373; clear BK381; clear HO419; clear HB; clear HR426; clear HO422; have HO_5 := n0_; have HO_13 := n1_; have BK373 := n2_; have BK381 := n3_; have HO419 := n4_; have HB := n5_; have HR426 := n6_; have HO429 := n7_; clear n0_ n1_ n2_ n3_ n4_ n5_ n6_ n7_; clear ho hb hg hat))
                            go_roundg k2
                            case measure => have := HK1.out; have := HK2.out; omega
                            case rel => exact ⟨(y427), (wrap64 (x17_1 + 1)), (by first | rfl | (simp; done) | (simp [*]; done)), H', ⟨by have := HK1.out; have := HK2.out; omega⟩, ⟨by (with_reducible repeat (first | apply Kd.R_alloc | apply Kd.R_drewN | apply Kd.R_drew)); exact Kd.R_mono HO429.out (fun _ hk => ⟨hk.2.1, hk.2.2.2.1⟩)⟩, ⟨by (with_reducible repeat (first | apply Kd.R_alloc | apply Kd.R_drewN | apply Kd.R_drew)); exact Kd.R_mono HO_13.out (fun _ hk => ⟨hk.2, hk.1.2.2.1⟩)⟩, ⟨by (with_reducible repeat (first | refine blk_drewN ?_ _ | refine blk_drew ?_ | refine blk_alloc ?_ _)); exact BK373.out⟩, ⟨by repeat (first | (with_reducible first | exact HB.out | apply below_alloc | apply pw_below_drewN | apply below_drew1 | refine below_set ?_ GE373.out | refine below_set ?_ GE381.out) | exact HB.out)⟩⟩
                          · rw [if_neg c48] at H
                            exact absurd H (by simp)
                        · rw [if_neg c45] at H
                          exact absurd H (by simp)
                      · rw [if_neg c44] at H
                        exact absurd H (by simp)
                    · rw [if_neg c43] at H
                      exact absurd H (by simp)
                  · rw [if_neg c42] at H
                    exact absurd H (by simp)
          · rw [if_neg c9] at H
            exact absurd H (by simp)
        · rw [if_neg c8] at H
          exact absurd H (by simp)
      · rw [if_neg c7] at H
        have c7b0 : decide (x17_1 < (t374.length : Int)) = false := decide_eq_false c7
        clear c7
        obtain rfl := Option.some.inj H
        go_wp2
        go_ret
        exact ⟨_, by first | rfl | (simp [errW_none, errW_some] <;> rfl) | (simp [*, errW_none, errW_some] <;> rfl), by (with_reducible repeat (first | apply Kd.R_alloc | apply Kd.R_drewN | apply Kd.R_drew)); exact Kd.R_mono HO_5.out (fun _ hk => trivial), by repeat (first | (with_reducible first | exact HB.out | apply below_alloc | apply pw_below_drewN | apply below_drew1 | refine below_set ?_ GE373.out) | exact HB.out)⟩

end Go.Proofs.Ythnheffndhbebaa.P
