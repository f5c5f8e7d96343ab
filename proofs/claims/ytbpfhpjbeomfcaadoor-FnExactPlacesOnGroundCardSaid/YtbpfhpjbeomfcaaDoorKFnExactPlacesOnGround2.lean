/- The program's PlacesOnGround returns what the reference's returns, for all texts (the law lets longer texts by). No further condition. -/
import Derived.Test.YtbpfhpjbeomfcaaDoorKFnExactPlacesOnGround0
import Derived.Test.YtbpfhpjbeomfcaaDoorKFnExactPlacesOnGround1
import Derived.ChangeArms
import Derived.ChangeSame
import Derived.Deep.Slices
import Derived.ProofKit
import Derived.OpenShut
import Derived.SizedLaws
import Derived.Test.YtbpfhpjbeomfcaaDoorProg
import Derived.Test.YtbpfhpjbeomfcaaDoorWWords
import Derived.Test.YtbpfhpjbeomfcaaDoorWSized
import Derived.Test.YtbpfhpjbeomfcaaDoorWLast
import Derived.Lib.Strings
import Derived.Lib.SplitLaws

namespace Go.Proofs.YtbpfhpjbeomfcaaDoor.P
open Go.RowKit Go.Proofs.YtbpfhpjbeomfcaaDoorW.PrintWords Go.Proofs.YtbpfhpjbeomfcaaDoorW.PrintLast Go.Proofs.YtbpfhpjbeomfcaaDoorW.PrintMore
attribute [local go_sem] max2_int min2_int max_two min_two max_three min_three max_four min_four   -- for this text's walks alone
set_option linter.unusedVariables false
set_option linter.unusedSimpArgs false

/-! ### impl_PlacesOnGround: function 23 -/
mutual
def impl_PlacesOnGround.l0 : Nat → Int → List ByteArray → Int → Int → Option (Int × Bool)
  | 0, _, _, _, _ => none
  | k + 1, x6, x13, x18, x19 => if x19 < x18 then (if 0 < (x13.length : Int) then (impl_PlacesOnGround.l1 k x6 x19 x13 x18 x19 ((rdOf ByteArray.empty x13 0).size : Int) 0) else (none)) else (some (x6, true))
def impl_PlacesOnGround.l1 : Nat → Int → Int → List ByteArray → Int → Int → Int → Int → Option (Int × Bool)
  | 0, _, _, _, _, _, _, _ => none
  | k + 1, x6, x7, x13, x18, x19, x25, x26 => if x26 < x25 then (impl_PlacesOnGround.l2 k x6 x7 x26 x13 x18 x19 x25 x26 0) else (impl_PlacesOnGround.l0 k x6 x13 x18 (wrap64 (x19 + 1)))
def impl_PlacesOnGround.l2 : Nat → Int → Int → Int → List ByteArray → Int → Int → Int → Int → Int → Option (Int × Bool)
  | 0, _, _, _, _, _, _, _, _, _ => none
  | k + 1, x6, x7, x8, x13, x18, x19, x25, x26, x29 => if x29 < 3 then ((impl_grid_isBox.f k x13 x8 x7 x29).bind fun t241 => (if t241 = true then (impl_PlacesOnGround.l2 k (wrap64 (x6 + 1)) x7 x8 x13 x18 x19 x25 x26 (wrap64 (x29 + 1))) else (impl_PlacesOnGround.l2 k x6 x7 x8 x13 x18 x19 x25 x26 (wrap64 (x29 + 1))))) else (impl_PlacesOnGround.l1 k x6 x7 x13 x18 x19 x25 (wrap64 (x26 + 1)))
end
def impl_PlacesOnGround.f (k : Nat) (a0 : ByteArray) : Option (Int × Bool) := (impl_ground.f k a0).bind fun bt236 => (if bt236.2 = true then (impl_PlacesOnGround.l0 k 0 bt236.1 (bt236.1.length : Int) 0) else (some (0, false)))
theorem impl_PlacesOnGround.mono_l : ∀ k, (∀ y0 y1 y2 y3, LeO (impl_PlacesOnGround.l0 k y0 y1 y2 y3) (impl_PlacesOnGround.l0 (k + 1) y0 y1 y2 y3)) ∧ (∀ y0 y1 y2 y3 y4 y5 y6, LeO (impl_PlacesOnGround.l1 k y0 y1 y2 y3 y4 y5 y6) (impl_PlacesOnGround.l1 (k + 1) y0 y1 y2 y3 y4 y5 y6)) ∧ (∀ y0 y1 y2 y3 y4 y5 y6 y7 y8, LeO (impl_PlacesOnGround.l2 k y0 y1 y2 y3 y4 y5 y6 y7 y8) (impl_PlacesOnGround.l2 (k + 1) y0 y1 y2 y3 y4 y5 y6 y7 y8))
  | 0 => ⟨fun _ _ _ _ r h => by simp [impl_PlacesOnGround.l0] at h, fun _ _ _ _ _ _ _ r h => by simp [impl_PlacesOnGround.l1] at h, fun _ _ _ _ _ _ _ _ _ r h => by simp [impl_PlacesOnGround.l2] at h⟩
  | k + 1 => by
    obtain ⟨ih0, ih1, ih2⟩ := impl_PlacesOnGround.mono_l k
    refine ⟨?_, ?_, ?_⟩
    · intro y0 y1 y2 y3
      unfold impl_PlacesOnGround.l0
      repeat' first
      | (with_reducible exact ih0 _ _ _ _)
      | (with_reducible exact ih1 _ _ _ _ _ _ _)
      | (with_reducible exact ih2 _ _ _ _ _ _ _ _ _)
      | (with_reducible exact impl_grid_isBox.mono _ _ _ _ _)
      | (with_reducible exact impl_ground.mono _ _)
      | (with_reducible exact LeO.refl _)
      | (with_reducible exact LeO.none _)
      | (with_reducible refine LeO.ite ?_ ?_)
      | (with_reducible refine LeO.bind ?_ (fun _ => ?_))
      | exact ih0 _ _ _ _
      | exact ih1 _ _ _ _ _ _ _
      | exact ih2 _ _ _ _ _ _ _ _ _
      | exact impl_grid_isBox.mono _ _ _ _ _
      | exact impl_ground.mono _ _
      | exact LeO.none _
      | refine LeO.ite ?_ ?_
      | refine LeO.bind ?_ (fun _ => ?_)
    · intro y0 y1 y2 y3 y4 y5 y6
      unfold impl_PlacesOnGround.l1
      repeat' first
      | (with_reducible exact ih0 _ _ _ _)
      | (with_reducible exact ih1 _ _ _ _ _ _ _)
      | (with_reducible exact ih2 _ _ _ _ _ _ _ _ _)
      | (with_reducible exact impl_grid_isBox.mono _ _ _ _ _)
      | (with_reducible exact impl_ground.mono _ _)
      | (with_reducible exact LeO.refl _)
      | (with_reducible exact LeO.none _)
      | (with_reducible refine LeO.ite ?_ ?_)
      | (with_reducible refine LeO.bind ?_ (fun _ => ?_))
      | exact ih0 _ _ _ _
      | exact ih1 _ _ _ _ _ _ _
      | exact ih2 _ _ _ _ _ _ _ _ _
      | exact impl_grid_isBox.mono _ _ _ _ _
      | exact impl_ground.mono _ _
      | exact LeO.none _
      | refine LeO.ite ?_ ?_
      | refine LeO.bind ?_ (fun _ => ?_)
    · intro y0 y1 y2 y3 y4 y5 y6 y7 y8
      unfold impl_PlacesOnGround.l2
      repeat' first
      | (with_reducible exact ih0 _ _ _ _)
      | (with_reducible exact ih1 _ _ _ _ _ _ _)
      | (with_reducible exact ih2 _ _ _ _ _ _ _ _ _)
      | (with_reducible exact impl_grid_isBox.mono _ _ _ _ _)
      | (with_reducible exact impl_ground.mono _ _)
      | (with_reducible exact LeO.refl _)
      | (with_reducible exact LeO.none _)
      | (with_reducible refine LeO.ite ?_ ?_)
      | (with_reducible refine LeO.bind ?_ (fun _ => ?_))
      | exact ih0 _ _ _ _
      | exact ih1 _ _ _ _ _ _ _
      | exact ih2 _ _ _ _ _ _ _ _ _
      | exact impl_grid_isBox.mono _ _ _ _ _
      | exact impl_ground.mono _ _
      | exact LeO.none _
      | refine LeO.ite ?_ ?_
      | refine LeO.bind ?_ (fun _ => ?_)
theorem impl_PlacesOnGround.mono : ∀ a0 k, LeO (impl_PlacesOnGround.f k a0) (impl_PlacesOnGround.f (k + 1) a0) := by
  intro a0 k
  obtain ⟨ih0, ih1, ih2⟩ := impl_PlacesOnGround.mono_l k
  unfold impl_PlacesOnGround.f
  repeat' first
      | (with_reducible exact ih0 _ _ _ _)
      | (with_reducible exact ih1 _ _ _ _ _ _ _)
      | (with_reducible exact ih2 _ _ _ _ _ _ _ _ _)
      | (with_reducible exact impl_grid_isBox.mono _ _ _ _ _)
      | (with_reducible exact impl_ground.mono _ _)
      | (with_reducible exact LeO.refl _)
      | (with_reducible exact LeO.none _)
      | (with_reducible refine LeO.ite ?_ ?_)
      | (with_reducible refine LeO.bind ?_ (fun _ => ?_))
      | exact ih0 _ _ _ _
      | exact ih1 _ _ _ _ _ _ _
      | exact ih2 _ _ _ _ _ _ _ _ _
      | exact impl_grid_isBox.mono _ _ _ _ _
      | exact impl_ground.mono _ _
      | exact LeO.none _
      | refine LeO.ite ?_ ?_
      | refine LeO.bind ?_ (fun _ => ?_)
set_option maxHeartbeats 8000000 in
set_option maxRecDepth 100000 in
theorem impl_PlacesOnGround.calls (k : Nat) (a0 : ByteArray) (r1 : Int) (r2 : Bool) (w : World) (hL : Laid w) (h : impl_PlacesOnGround.f k a0 = some (r1, r2)) :
    Calls Tryd.prog 23 #[.string a0] w fun e w' => e = .returned (.tuple #[.int .i64 r1, .bool r2]) ∧ Below w.heap.size w w' := by
  have hu27 := Tryd.underlying27
  have HLD := Aside0.mk hL
  clear hL
  have HB := Aside0.mk (Below.refl w.heap.size w)
  have H : ((impl_ground.f k a0).bind fun bt236 => (if bt236.2 = true then (impl_PlacesOnGround.l0 k 0 bt236.1 (bt236.1.length : Int) 0) else (some (0, false)))) = some (r1, r2) := h
  clear h
  replace H := Option.bind_eq_some_iff.mp H
  obtain ⟨⟨t236, t237⟩, A20, H⟩ := H
  replace H : (if t237 = true then (impl_PlacesOnGround.l0 k 0 t236 (t236.length : Int) 0) else (some (0, false))) = some (r1, r2) := H
  have A2 := Aside0.mk A20
  clear A20
  by_cases c3 : t237 = true
  · subst c3
    have H1 : (impl_PlacesOnGround.l0 k 0 t236 (t236.length : Int) 0) = some (r1, r2) := by rw [if_pos rfl] at H; exact H
    clear H
    have H := H1
    clear H1
    have H' := Aside0.mk H
    clear H
    go_enter Tryd.func23, Tryd.ntmps23
    go_wp2_with (first | ((with_reducible refine gate_callee (f := 54) rfl ?_); refine goesL_ (some 12) rfl rfl Tryd.func54 (by kernel_rfl) rfl #[.string a0] rfl (by (try simp only [List.map_toArray, List.map_cons, List.map_nil]); first | done | rfl | (simp only [List.length_drop, List.length_take]; rfl)) ?_; (with_reducible refine (impl_ground.calls k a0 t236 true _ ?side1 A2.out).mono ?_); (case side1 => first | exact HLD.out | exact Laid.below HLD.out (by repeat (first | (with_reducible first | exact HB.out | apply below_alloc | apply pw_below_drewN | apply below_drew1) | exact HB.out))); rintro e w4 ⟨v238, rfl, ho0, hb⟩; refine ⟨_, rfl, ?_⟩; have n0_ := Aside0.mk (Kd.R_lower ho0 (below_size (by repeat (first | (with_reducible first | exact HB.out | apply below_alloc | apply pw_below_drewN | apply below_drew1) | exact HB.out)))); have n1_ := Aside0.mk (below_step (by repeat (first | (with_reducible first | exact HB.out | apply below_alloc | apply pw_below_drewN | apply below_drew1) | exact HB.out)) hb); clear HB; have HO239 := n0_; have HB := n1_; clear n0_ n1_; (try clear hb); (try clear hb2); (try clear hk); (try clear hi); (try clear ho0); obtain ⟨Ao5, co5, eo5⟩ := Kd.R_slice HO239.out; subst eo5))
    go_loopg [6, 19] k (fun kq v6 v19 w' => ∃ (x6_1 : Int) (x19_1 : Int), v6 = .int .i64 x6_1 ∧ v19 = .int .i64 x19_1 ∧ Aside0 (impl_PlacesOnGround.l0 kq x6_1 t236 (t236.length : Int) x19_1 = some (r1, r2)) ∧ Aside0 (kq ≤ k) ∧ Aside0 (Kd.R Kd.string 9 w' w.heap.size (fun _ => True) (.slice Ao5 t236.length co5) t236) ∧ Aside0 (Below w.heap.size w w'))
    case atStart => exact ⟨(0), (0), (by first | rfl | (simp; done) | (simp [*]; done)), (by first | rfl | (simp; done) | (simp [*]; done)), H', ⟨Nat.le_refl _⟩, ⟨by (with_reducible repeat (first | apply Kd.R_alloc | apply Kd.R_drewN | apply Kd.R_drew)); exact HO239.out⟩, ⟨by repeat (first | (with_reducible first | exact HB.out | apply below_alloc | apply pw_below_drewN | apply below_drew1) | exact HB.out)⟩⟩
    case round =>
      clear H'
      try clear c2
      try clear p2
      try clear c3
      try clear c5
      obtain ⟨x6_1, x19_1, rfl, rfl, HA, HK1, HO_13, HB⟩ := hrel
      cases gk with
      | zero => exact absurd HA.out (by simp [impl_PlacesOnGround.l0])
      | succ k1 =>
        have H := HA.out
        clear HA
        simp only [impl_PlacesOnGround.l0] at H
        by_cases c6 : x19_1 < (t236.length : Int)
        · rw [if_pos c6] at H
          have c6b0 : decide (x19_1 < (t236.length : Int)) = true := decide_eq_true c6
          clear c6
          by_cases c7 : 0 < (t236.length : Int)
          · rw [if_pos c7] at H
            have c7b0 : decide (0 < (t236.length : Int)) = true := decide_eq_true c7
            have c7b1 : decide (0 < t236.length) = true := decide_eq_true (by omega)
            clear c7
            have H' := Aside0.mk H
            clear H
            have p240 : 0 ≤ (0 : Int) := (by omega)
            have q240 : 0 < (t236.length : Int) := of_decide_eq_true (by first | (with_reducible assumption) | assumption)
            obtain ⟨ad240, e240, hx240_0⟩ := Kd.at_string (Kd.R_reads' HO_13.out).2.2 0 p240 q240
            cases e240
            have qi240 : (0 < t236.length) = True := eq_true (by omega)
            (try rw [show ((0 : Int)).toNat = 0 from rfl] at hx240_0)
            (try rw [Addr.add_zero'] at hx240_0)
            replace p240 := eq_true p240
            replace q240 := eq_true q240
            go_wp2
            go_loopg [6, 26] k1 (fun kq v6 v26 w' => ∃ (x6_2 : Int) (x26_2 : Int), v6 = .int .i64 x6_2 ∧ v26 = .int .i64 x26_2 ∧ Aside0 (impl_PlacesOnGround.l1 kq x6_2 x19_1 t236 (t236.length : Int) x19_1 ((rdOf ByteArray.empty t236 0).size : Int) x26_2 = some (r1, r2)) ∧ Aside0 (kq ≤ k1) ∧ Aside0 (Kd.R Kd.string 9 w' w.heap.size (fun _ => True) (.slice (some ad240) t236.length co5) t236) ∧ Aside0 (Below w.heap.size w w'))
            case atStart => exact ⟨(x6_1), (0), (by first | rfl | (simp; done) | (simp [*]; done)), (by first | rfl | (simp; done) | (simp [*]; done)), H', ⟨Nat.le_refl _⟩, ⟨by (with_reducible repeat (first | apply Kd.R_alloc | apply Kd.R_drewN | apply Kd.R_drew)); exact HO_13.out⟩, ⟨by repeat (first | (with_reducible first | exact HB.out | apply below_alloc | apply pw_below_drewN | apply below_drew1) | exact HB.out)⟩⟩
            case round =>
              clear H'
              try clear c2
              try clear p2
              try clear q2
              try clear hx2
              try clear qi2
              try clear c3
              try clear c5
              try clear c6
              try clear c6b0
              try clear c7
              try clear c7b0
              try clear c7b1
              try clear hx240_0
              try clear p2
              try clear p240
              try clear q240
              obtain ⟨x6_2, x26_2, rfl, rfl, HA, HK2, HO_13, HB⟩ := hrel
              cases gk with
              | zero => exact absurd HA.out (by simp [impl_PlacesOnGround.l1])
              | succ k2 =>
                have H := HA.out
                clear HA
                simp only [impl_PlacesOnGround.l1] at H
                by_cases c8 : x26_2 < ((rdOf ByteArray.empty t236 0).size : Int)
                · rw [if_pos c8] at H
                  have c8b0 : decide (x26_2 < ((rdOf ByteArray.empty t236 0).size : Int)) = true := decide_eq_true c8
                  clear c8
                  have H' := Aside0.mk H
                  clear H
                  go_wp2
                  go_loopg [6, 29] k2 (fun kq v6 v29 w' => ∃ (x6_3 : Int) (x29_3 : Int), v6 = .int .i64 x6_3 ∧ v29 = .int .i64 x29_3 ∧ Aside0 (impl_PlacesOnGround.l2 kq x6_3 x19_1 x26_2 t236 (t236.length : Int) x19_1 ((rdOf ByteArray.empty t236 0).size : Int) x26_2 x29_3 = some (r1, r2)) ∧ Aside0 (kq ≤ k2) ∧ Aside0 (Kd.R Kd.string 9 w' w.heap.size (fun _ => True) (.slice (some ad240) t236.length co5) t236) ∧ Aside0 (Below w.heap.size w w'))
                  case atStart => exact ⟨(x6_2), (0), (by first | rfl | (simp; done) | (simp [*]; done)), (by first | rfl | (simp; done) | (simp [*]; done)), H', ⟨Nat.le_refl _⟩, ⟨by (with_reducible repeat (first | apply Kd.R_alloc | apply Kd.R_drewN | apply Kd.R_drew)); exact HO_13.out⟩, ⟨by repeat (first | (with_reducible first | exact HB.out | apply below_alloc | apply pw_below_drewN | apply below_drew1) | exact HB.out)⟩⟩
                  case round =>
                    clear H'
                    try clear c2
                    try clear p2
                    try clear q2
                    try clear hx2
                    try clear qi2
                    try clear c3
                    try clear c5
                    try clear c6
                    try clear c6b0
                    try clear c7
                    try clear c7b0
                    try clear c7b1
                    try clear c8
                    try clear c8b0
                    try clear hx240_0
                    try clear p2
                    try clear p240
                    try clear q2
                    try clear q240
                    obtain ⟨x6_3, x29_3, rfl, rfl, HA, HK3, HO_13, HB⟩ := hrel
                    cases gk with
                    | zero => exact absurd HA.out (by simp [impl_PlacesOnGround.l2])
                    | succ k3 =>
                      have H := HA.out
                      clear HA
                      simp only [impl_PlacesOnGround.l2] at H
                      by_cases c9 : x29_3 < 3
                      · rw [if_pos c9] at H
                        have c9b0 : decide (x29_3 < 3) = true := decide_eq_true c9
                        clear c9
                        replace H := Option.bind_eq_some_iff.mp H
                        obtain ⟨t241, A100, H⟩ := H
                        replace H : (if t241 = true then (impl_PlacesOnGround.l2 k3 (wrap64 (x6_3 + 1)) x19_1 x26_2 t236 (t236.length : Int) x19_1 ((rdOf ByteArray.empty t236 0).size : Int) x26_2 (wrap64 (x29_3 + 1))) else (impl_PlacesOnGround.l2 k3 x6_3 x19_1 x26_2 t236 (t236.length : Int) x19_1 ((rdOf ByteArray.empty t236 0).size : Int) x26_2 (wrap64 (x29_3 + 1)))) = some (r1, r2) := H
                        have A10 := Aside0.mk A100
                        clear A100
                        by_cases c11 : t241 = true
                        · subst c11
                          have H1 : (impl_PlacesOnGround.l2 k3 (wrap64 (x6_3 + 1)) x19_1 x26_2 t236 (t236.length : Int) x19_1 ((rdOf ByteArray.empty t236 0).size : Int) x26_2 (wrap64 (x29_3 + 1))) = some (r1, r2) := by rw [if_pos rfl] at H; exact H
                          clear H
                          have H := H1
                          clear H1
                          have H' := Aside0.mk H
                          clear H
                          go_wp2_with (first | ((with_reducible refine gate_callee (f := 56) rfl ?_); refine goesL_ (some 37) rfl rfl Tryd.func56 (by kernel_rfl) rfl #[.slice (some ad240) t236.length co5, .agg #[.int .i64 x26_2, .int .i64 x19_1, .int .i64 x29_3]] rfl (by (try simp only [List.map_toArray, List.map_cons, List.map_nil]); first | done | rfl | (simp only [List.length_drop, List.length_take]; rfl)) ?_; (with_reducible refine (impl_grid_isBox.calls k3 _ _ t236 x26_2 x19_1 x29_3 true _ ?side1 ?side2 A10.out).mono ?_); (case side1 => repeat (first | exact (Kd.R_reads' HO_13.out).2.2 | (with_reducible refine Kd.C_alloc ?_ _) | (with_reducible refine Kd.C_drewN ?_ _) | (with_reducible refine Kd.C_drew ?_))); (case side2 => exact (Kd.R_reads' HO_13.out).2.1); rintro e w12 ⟨rfl, hb⟩; refine ⟨_, rfl, ?_⟩; have n0_ := Aside0.mk (Kd.R_below (by (with_reducible repeat (first | apply Kd.R_alloc | apply Kd.R_drewN | apply Kd.R_drew)); exact HO_13.out) hb); have n1_ := Aside0.mk (below_step (by repeat (first | (with_reducible first | exact HB.out | apply below_alloc | apply pw_below_drewN | apply below_drew1) | exact HB.out)) hb); clear HO_13; clear HB; have HO_13 := n0_; have HB := n1_; clear n0_ n1_; (try clear hb); (try clear hb2); (try clear hk); (try clear hi)))
                          go_roundg k3
                          case measure => have := HK1.out; have := HK2.out; have := HK3.out; omega
                          case rel => exact ⟨(wrap64 (x6_3 + 1)), (wrap64 (x29_3 + 1)), (by first | rfl | (simp; done) | (simp [*]; done)), (by first | rfl | (simp; done) | (simp [*]; done)), H', ⟨by have := HK1.out; have := HK2.out; have := HK3.out; omega⟩, ⟨by (with_reducible repeat (first | apply Kd.R_alloc | apply Kd.R_drewN | apply Kd.R_drew)); exact HO_13.out⟩, ⟨by repeat (first | (with_reducible first | exact HB.out | apply below_alloc | apply pw_below_drewN | apply below_drew1) | exact HB.out)⟩⟩
                        · replace c11 := Bool.eq_false_iff.mpr c11
                          subst c11
                          have H1 : (impl_PlacesOnGround.l2 k3 x6_3 x19_1 x26_2 t236 (t236.length : Int) x19_1 ((rdOf ByteArray.empty t236 0).size : Int) x26_2 (wrap64 (x29_3 + 1))) = some (r1, r2) := by rw [if_neg (show ¬ (false = true) by decide)] at H; exact H
                          clear H
                          have H := H1
                          clear H1
                          have H' := Aside0.mk H
                          clear H
                          go_wp2_with (first | ((with_reducible refine gate_callee (f := 56) rfl ?_); refine goesL_ (some 37) rfl rfl Tryd.func56 (by kernel_rfl) rfl #[.slice (some ad240) t236.length co5, .agg #[.int .i64 x26_2, .int .i64 x19_1, .int .i64 x29_3]] rfl (by (try simp only [List.map_toArray, List.map_cons, List.map_nil]); first | done | rfl | (simp only [List.length_drop, List.length_take]; rfl)) ?_; (with_reducible refine (impl_grid_isBox.calls k3 _ _ t236 x26_2 x19_1 x29_3 false _ ?side1 ?side2 A10.out).mono ?_); (case side1 => repeat (first | exact (Kd.R_reads' HO_13.out).2.2 | (with_reducible refine Kd.C_alloc ?_ _) | (with_reducible refine Kd.C_drewN ?_ _) | (with_reducible refine Kd.C_drew ?_))); (case side2 => exact (Kd.R_reads' HO_13.out).2.1); rintro e w13 ⟨rfl, hb⟩; refine ⟨_, rfl, ?_⟩; have n0_ := Aside0.mk (Kd.R_below (by (with_reducible repeat (first | apply Kd.R_alloc | apply Kd.R_drewN | apply Kd.R_drew)); exact HO_13.out) hb); have n1_ := Aside0.mk (below_step (by repeat (first | (with_reducible first | exact HB.out | apply below_alloc | apply pw_below_drewN | apply below_drew1) | exact HB.out)) hb); clear HO_13; clear HB; have HO_13 := n0_; have HB := n1_; clear n0_ n1_; (try clear hb); (try clear hb2); (try clear hk); (try clear hi)))
                          go_roundg k3
                          case measure => have := HK1.out; have := HK2.out; have := HK3.out; omega
                          case rel => exact ⟨(x6_3), (wrap64 (x29_3 + 1)), (by first | rfl | (simp; done) | (simp [*]; done)), (by first | rfl | (simp; done) | (simp [*]; done)), H', ⟨by have := HK1.out; have := HK2.out; have := HK3.out; omega⟩, ⟨by (with_reducible repeat (first | apply Kd.R_alloc | apply Kd.R_drewN | apply Kd.R_drew)); exact HO_13.out⟩, ⟨by repeat (first | (with_reducible first | exact HB.out | apply below_alloc | apply pw_below_drewN | apply below_drew1) | exact HB.out)⟩⟩
                      · rw [if_neg c9] at H
                        have c9b0 : decide (x29_3 < 3) = false := decide_eq_false c9
                        clear c9
                        have H' := Aside0.mk H
                        clear H
                        go_wp2
                        go_roundg k3
                        case measure => have := HK1.out; have := HK2.out; have := HK3.out; omega
                        case rel => exact ⟨(x6_3), (wrap64 (x26_2 + 1)), (by first | rfl | (simp; done) | (simp [*]; done)), (by first | rfl | (simp; done) | (simp [*]; done)), H', ⟨by have := HK1.out; have := HK2.out; have := HK3.out; omega⟩, ⟨by (with_reducible repeat (first | apply Kd.R_alloc | apply Kd.R_drewN | apply Kd.R_drew)); exact HO_13.out⟩, ⟨by repeat (first | (with_reducible first | exact HB.out | apply below_alloc | apply pw_below_drewN | apply below_drew1) | exact HB.out)⟩⟩
                · rw [if_neg c8] at H
                  have c8b0 : decide (x26_2 < ((rdOf ByteArray.empty t236 0).size : Int)) = false := decide_eq_false c8
                  clear c8
                  have H' := Aside0.mk H
                  clear H
                  go_wp2
                  go_roundg k2
                  case measure => have := HK1.out; have := HK2.out; omega
                  case rel => exact ⟨(x6_2), (wrap64 (x19_1 + 1)), (by first | rfl | (simp; done) | (simp [*]; done)), (by first | rfl | (simp; done) | (simp [*]; done)), H', ⟨by have := HK1.out; have := HK2.out; omega⟩, ⟨by (with_reducible repeat (first | apply Kd.R_alloc | apply Kd.R_drewN | apply Kd.R_drew)); exact HO_13.out⟩, ⟨by repeat (first | (with_reducible first | exact HB.out | apply below_alloc | apply pw_below_drewN | apply below_drew1) | exact HB.out)⟩⟩
          · rw [if_neg c7] at H
            exact absurd H (by simp)
        · rw [if_neg c6] at H
          have c6b0 : decide (x19_1 < (t236.length : Int)) = false := decide_eq_false c6
          clear c6
          simp only [Option.some.injEq, Prod.mk.injEq] at H
          obtain ⟨rfl, rfl⟩ := H
          go_wp2
          go_ret2
          exact ⟨by first | rfl | (simp [errW_none, errW_some] <;> rfl) | (simp [*, errW_none, errW_some] <;> rfl), by repeat (first | (with_reducible first | exact HB.out | apply below_alloc | apply pw_below_drewN | apply below_drew1) | exact HB.out)⟩
  · replace c3 := Bool.eq_false_iff.mpr c3
    subst c3
    have H1 : (some (0, false)) = some (r1, r2) := by rw [if_neg (show ¬ (false = true) by decide)] at H; exact H
    clear H
    have H := H1
    clear H1
    simp only [Option.some.injEq, Prod.mk.injEq] at H
    obtain ⟨rfl, rfl⟩ := H
    go_enter Tryd.func23, Tryd.ntmps23
    go_wp2_with (first | ((with_reducible refine gate_callee (f := 54) rfl ?_); refine goesL_ (some 12) rfl rfl Tryd.func54 (by kernel_rfl) rfl #[.string a0] rfl (by (try simp only [List.map_toArray, List.map_cons, List.map_nil]); first | done | rfl | (simp only [List.length_drop, List.length_take]; rfl)) ?_; (with_reducible refine (impl_ground.calls k a0 t236 false _ ?side1 A2.out).mono ?_); (case side1 => first | exact HLD.out | exact Laid.below HLD.out (by repeat (first | (with_reducible first | exact HB.out | apply below_alloc | apply pw_below_drewN | apply below_drew1) | exact HB.out))); rintro e w14 ⟨v238, rfl, ho0, hb⟩; refine ⟨_, rfl, ?_⟩; have n0_ := Aside0.mk (Kd.R_lower ho0 (below_size (by repeat (first | (with_reducible first | exact HB.out | apply below_alloc | apply pw_below_drewN | apply below_drew1) | exact HB.out)))); have n1_ := Aside0.mk (below_step (by repeat (first | (with_reducible first | exact HB.out | apply below_alloc | apply pw_below_drewN | apply below_drew1) | exact HB.out)) hb); clear HB; have HO239 := n0_; have HB := n1_; clear n0_ n1_; (try clear hb); (try clear hb2); (try clear hk); (try clear hi); (try clear ho0)))
    go_ret2
    exact ⟨by first | rfl | (simp [errW_none, errW_some] <;> rfl) | (simp [*, errW_none, errW_some] <;> rfl), by repeat (first | (with_reducible first | exact HB.out | apply below_alloc | apply pw_below_drewN | apply below_drew1) | exact HB.out)⟩

end Go.Proofs.YtbpfhpjbeomfcaaDoor.P

namespace Go.Proofs.YtbpfhpjbeomfcaaDoor.P
open Go.RowKit Go.Proofs.YtbpfhpjbeomfcaaDoorW.PrintWords Go.Proofs.YtbpfhpjbeomfcaaDoorW.PrintLast Go.Proofs.YtbpfhpjbeomfcaaDoorW.PrintMore
attribute [local go_sem] max2_int min2_int max_two min_two max_three min_three max_four min_four   -- for this text's walks alone
set_option linter.unusedVariables false
set_option linter.unusedSimpArgs false

/-! ### laws_FnExactPlacesOnGround: function 5 -/
def laws_FnExactPlacesOnGround.f (k : Nat) (a0 : ByteArray) : Option (Bool) := if (a0.size : Int) > 1048576 then (some true) else ((spec_PlacesOnGround.f k a0).bind fun bt242 => ((impl_PlacesOnGround.f k a0).bind fun bt244 => (if bt244.1 = bt242.1 then (if (bt244.2 != bt242.2) = true then (some false) else (some true)) else (some false))))
theorem laws_FnExactPlacesOnGround.mono : ∀ a0 k, LeO (laws_FnExactPlacesOnGround.f k a0) (laws_FnExactPlacesOnGround.f (k + 1) a0) := by
  intro a0 k
  unfold laws_FnExactPlacesOnGround.f
  repeat' first
      | (with_reducible exact impl_PlacesOnGround.mono _ _)
      | (with_reducible exact spec_PlacesOnGround.mono _ _)
      | (with_reducible exact LeO.refl _)
      | (with_reducible exact LeO.none _)
      | (with_reducible refine LeO.ite ?_ ?_)
      | (with_reducible refine LeO.bind ?_ (fun _ => ?_))
      | exact impl_PlacesOnGround.mono _ _
      | exact spec_PlacesOnGround.mono _ _
      | exact LeO.none _
      | refine LeO.ite ?_ ?_
      | refine LeO.bind ?_ (fun _ => ?_)
set_option maxHeartbeats 8000000 in
set_option maxRecDepth 100000 in
theorem laws_FnExactPlacesOnGround.calls (k : Nat) (a0 : ByteArray) (r : Bool) (w : World) (hL : Laid w) (h : laws_FnExactPlacesOnGround.f k a0 = some r) :
    Calls Tryd.prog 5 #[.string a0] w fun e w' => e = .returned (.bool r) ∧ Below w.heap.size w w' := by
  have HLD := Aside0.mk hL
  clear hL
  have HB := Aside0.mk (Below.refl w.heap.size w)
  have H : (if (a0.size : Int) > 1048576 then (some true) else ((spec_PlacesOnGround.f k a0).bind fun bt242 => ((impl_PlacesOnGround.f k a0).bind fun bt244 => (if bt244.1 = bt242.1 then (if (bt244.2 != bt242.2) = true then (some false) else (some true)) else (some false))))) = some r := h
  clear h
  by_cases c2 : (a0.size : Int) > 1048576
  · rw [if_pos c2] at H
    have c2b0 : decide (1048576 < (a0.size : Int)) = true := decide_eq_true c2
    have c2b1 : decide (1048576 < a0.size) = true := decide_eq_true (by omega)
    clear c2
    obtain rfl := Option.some.inj H
    go_enter Tryd.func5, Tryd.ntmps5
    go_wp2
    go_ret
    exact ⟨by first | rfl | (simp [errW_none, errW_some] <;> rfl) | (simp [*, errW_none, errW_some] <;> rfl), by repeat (first | (with_reducible first | exact HB.out | apply below_alloc | apply pw_below_drewN | apply below_drew1) | exact HB.out)⟩
  · rw [if_neg c2] at H
    have c2b0 : decide (1048576 < (a0.size : Int)) = false := decide_eq_false c2
    have c2b1 : decide (1048576 < a0.size) = false := decide_eq_false (by omega)
    clear c2
    replace H := Option.bind_eq_some_iff.mp H
    obtain ⟨⟨t242, t243⟩, A30, H⟩ := H
    replace H : ((impl_PlacesOnGround.f k a0).bind fun bt244 => (if bt244.1 = t242 then (if (bt244.2 != t243) = true then (some false) else (some true)) else (some false))) = some r := H
    have A3 := Aside0.mk A30
    clear A30
    replace H := Option.bind_eq_some_iff.mp H
    obtain ⟨⟨t244, t245⟩, A40, H⟩ := H
    replace H : (if t244 = t242 then (if (t245 != t243) = true then (some false) else (some true)) else (some false)) = some r := H
    have A4 := Aside0.mk A40
    clear A40
    by_cases c5 : t244 = t242
    · rw [if_pos c5] at H
      have c5b0 : (t244 == t242) = true := beq_iff_eq.mpr c5
      have c5b1 : (t244 != t242) = false := bne_eq_false_iff_eq.mpr c5
      clear c5
      by_cases c6 : (t245 != t243) = true
      · rw [if_pos c6] at H
        have c6b0 : (t245 != t243) = true := c6
        (try (have c6b1 : decide (t245 = t243) = false := by simpa using c6))
        (try (have c6b2 : (t245 == t243) = false := by simpa using c6))
        (try (have c6b3 : ¬ (t245 = t243) := by simpa using c6))
        clear c6
        obtain rfl := Option.some.inj H
        go_enter Tryd.func5, Tryd.ntmps5
        go_wp2_with (first | ((with_reducible refine gate_callee (f := 22) rfl ?_); refine goesL_ (some 12) rfl rfl Tryd.func22 (by kernel_rfl) rfl #[.string a0] rfl (by (try simp only [List.map_toArray, List.map_cons, List.map_nil]); first | done | rfl | (simp only [List.length_drop, List.length_take]; rfl)) ?_; (with_reducible refine (spec_PlacesOnGround.calls k a0 t242 t243 _ A3.out).mono ?_); rintro e w7 ⟨rfl, hb⟩; refine ⟨_, rfl, ?_⟩; have n0_ := Aside0.mk (below_step (by repeat (first | (with_reducible first | exact HB.out | apply below_alloc | apply pw_below_drewN | apply below_drew1) | exact HB.out)) hb); clear HB; have HB := n0_; clear n0_; (try clear hb); (try clear hb2); (try clear hk); (try clear hi)) | ((with_reducible refine gate_callee (f := 23) rfl ?_); refine goesL_ (some 17) rfl rfl Tryd.func23 (by kernel_rfl) rfl #[.string a0] rfl (by (try simp only [List.map_toArray, List.map_cons, List.map_nil]); first | done | rfl | (simp only [List.length_drop, List.length_take]; rfl)) ?_; (with_reducible refine (impl_PlacesOnGround.calls k a0 t244 t245 _ ?side1 A4.out).mono ?_); (case side1 => first | exact HLD.out | exact Laid.below HLD.out (by repeat (first | (with_reducible first | exact HB.out | apply below_alloc | apply pw_below_drewN | apply below_drew1) | exact HB.out))); rintro e w8 ⟨rfl, hb⟩; refine ⟨_, rfl, ?_⟩; have n0_ := Aside0.mk (below_step (by repeat (first | (with_reducible first | exact HB.out | apply below_alloc | apply pw_below_drewN | apply below_drew1) | exact HB.out)) hb); clear HB; have HB := n0_; clear n0_; (try clear hb); (try clear hb2); (try clear hk); (try clear hi)))
        go_ret
        exact ⟨by first | rfl | (simp [errW_none, errW_some] <;> rfl) | (simp [*, errW_none, errW_some] <;> rfl), by repeat (first | (with_reducible first | exact HB.out | apply below_alloc | apply pw_below_drewN | apply below_drew1) | exact HB.out)⟩
      · rw [if_neg c6] at H
        have c6b0 : (t245 != t243) = false := by simpa using c6
        (try (have c6b1 : decide (t245 = t243) = true := by simpa using c6))
        (try (have c6b2 : (t245 == t243) = true := by simpa using c6))
        clear c6
        obtain rfl := Option.some.inj H
        go_enter Tryd.func5, Tryd.ntmps5
        go_wp2_with (first | ((with_reducible refine gate_callee (f := 22) rfl ?_); refine goesL_ (some 12) rfl rfl Tryd.func22 (by kernel_rfl) rfl #[.string a0] rfl (by (try simp only [List.map_toArray, List.map_cons, List.map_nil]); first | done | rfl | (simp only [List.length_drop, List.length_take]; rfl)) ?_; (with_reducible refine (spec_PlacesOnGround.calls k a0 t242 t243 _ A3.out).mono ?_); rintro e w9 ⟨rfl, hb⟩; refine ⟨_, rfl, ?_⟩; have n0_ := Aside0.mk (below_step (by repeat (first | (with_reducible first | exact HB.out | apply below_alloc | apply pw_below_drewN | apply below_drew1) | exact HB.out)) hb); clear HB; have HB := n0_; clear n0_; (try clear hb); (try clear hb2); (try clear hk); (try clear hi)) | ((with_reducible refine gate_callee (f := 23) rfl ?_); refine goesL_ (some 17) rfl rfl Tryd.func23 (by kernel_rfl) rfl #[.string a0] rfl (by (try simp only [List.map_toArray, List.map_cons, List.map_nil]); first | done | rfl | (simp only [List.length_drop, List.length_take]; rfl)) ?_; (with_reducible refine (impl_PlacesOnGround.calls k a0 t244 t245 _ ?side1 A4.out).mono ?_); (case side1 => first | exact HLD.out | exact Laid.below HLD.out (by repeat (first | (with_reducible first | exact HB.out | apply below_alloc | apply pw_below_drewN | apply below_drew1) | exact HB.out))); rintro e w10 ⟨rfl, hb⟩; refine ⟨_, rfl, ?_⟩; have n0_ := Aside0.mk (below_step (by repeat (first | (with_reducible first | exact HB.out | apply below_alloc | apply pw_below_drewN | apply below_drew1) | exact HB.out)) hb); clear HB; have HB := n0_; clear n0_; (try clear hb); (try clear hb2); (try clear hk); (try clear hi)))
        go_ret
        exact ⟨by first | rfl | (simp [errW_none, errW_some] <;> rfl) | (simp [*, errW_none, errW_some] <;> rfl), by repeat (first | (with_reducible first | exact HB.out | apply below_alloc | apply pw_below_drewN | apply below_drew1) | exact HB.out)⟩
    · rw [if_neg c5] at H
      have c5b0 : (t244 == t242) = false := beq_eq_false_iff_ne.mpr c5
      have c5b1 : (t244 != t242) = true := bne_iff_ne.mpr c5
      obtain rfl := Option.some.inj H
      go_enter Tryd.func5, Tryd.ntmps5
      go_wp2_with (first | ((with_reducible refine gate_callee (f := 22) rfl ?_); refine goesL_ (some 12) rfl rfl Tryd.func22 (by kernel_rfl) rfl #[.string a0] rfl (by (try simp only [List.map_toArray, List.map_cons, List.map_nil]); first | done | rfl | (simp only [List.length_drop, List.length_take]; rfl)) ?_; (with_reducible refine (spec_PlacesOnGround.calls k a0 t242 t243 _ A3.out).mono ?_); rintro e w11 ⟨rfl, hb⟩; refine ⟨_, rfl, ?_⟩; have n0_ := Aside0.mk (below_step (by repeat (first | (with_reducible first | exact HB.out | apply below_alloc | apply pw_below_drewN | apply below_drew1) | exact HB.out)) hb); clear HB; have HB := n0_; clear n0_; (try clear hb); (try clear hb2); (try clear hk); (try clear hi)) | ((with_reducible refine gate_callee (f := 23) rfl ?_); refine goesL_ (some 17) rfl rfl Tryd.func23 (by kernel_rfl) rfl #[.string a0] rfl (by (try simp only [List.map_toArray, List.map_cons, List.map_nil]); first | done | rfl | (simp only [List.length_drop, List.length_take]; rfl)) ?_; (with_reducible refine (impl_PlacesOnGround.calls k a0 t244 t245 _ ?side1 A4.out).mono ?_); (case side1 => first | exact HLD.out | exact Laid.below HLD.out (by repeat (first | (with_reducible first | exact HB.out | apply below_alloc | apply pw_below_drewN | apply below_drew1) | exact HB.out))); rintro e w12 ⟨rfl, hb⟩; refine ⟨_, rfl, ?_⟩; have n0_ := Aside0.mk (below_step (by repeat (first | (with_reducible first | exact HB.out | apply below_alloc | apply pw_below_drewN | apply below_drew1) | exact HB.out)) hb); clear HB; have HB := n0_; clear n0_; (try clear hb); (try clear hb2); (try clear hk); (try clear hi)))
      go_ret
      exact ⟨by first | rfl | (simp [errW_none, errW_some] <;> rfl) | (simp [*, errW_none, errW_some] <;> rfl), by repeat (first | (with_reducible first | exact HB.out | apply below_alloc | apply pw_below_drewN | apply below_drew1) | exact HB.out)⟩

def laws_FnExactPlacesOnGround.Pure : Prop := ∀ (a0 : ByteArray), a0.size ≤ 140737488351232 → ∃ k, laws_FnExactPlacesOnGround.f k a0 = some true

end Go.Proofs.YtbpfhpjbeomfcaaDoor.P

namespace Go.Proofs.YtbpfhpjbeomfcaaDoor
open Go.ChangeShapes Go.WideShapes Go.Deep Go.RowKit Go.Proofs.YtbpfhpjbeomfcaaDoorW.PrintWords
set_option linter.unusedVariables false
set_option linter.unusedSimpArgs false

theorem list_of_1 : ∀ zs : List Int, zs.length = 1 → ∃ x0 : Int, zs = [x0]
  | [x0], _ => ⟨x0, rfl⟩
theorem list_of_2 : ∀ zs : List Int, zs.length = 2 → ∃ x0 x1 : Int, zs = [x0, x1]
  | [x0, x1], _ => ⟨x0, x1, rfl⟩
theorem list_of_3 : ∀ zs : List Int, zs.length = 3 → ∃ x0 x1 x2 : Int, zs = [x0, x1, x2]
  | [x0, x1, x2], _ => ⟨x0, x1, x2, rfl⟩
theorem list_of_4 : ∀ zs : List Int, zs.length = 4 → ∃ x0 x1 x2 x3 : Int, zs = [x0, x1, x2, x3]
  | [x0, x1, x2, x3], _ => ⟨x0, x1, x2, x3, rfl⟩
theorem list_of_5 : ∀ zs : List Int, zs.length = 5 → ∃ x0 x1 x2 x3 x4 : Int, zs = [x0, x1, x2, x3, x4]
  | [x0, x1, x2, x3, x4], _ => ⟨x0, x1, x2, x3, x4, rfl⟩
theorem list_of_6 : ∀ zs : List Int, zs.length = 6 → ∃ x0 x1 x2 x3 x4 x5 : Int, zs = [x0, x1, x2, x3, x4, x5]
  | [x0, x1, x2, x3, x4, x5], _ => ⟨x0, x1, x2, x3, x4, x5, rfl⟩
theorem list_of_7 : ∀ zs : List Int, zs.length = 7 → ∃ x0 x1 x2 x3 x4 x5 x6 : Int, zs = [x0, x1, x2, x3, x4, x5, x6]
  | [x0, x1, x2, x3, x4, x5, x6], _ => ⟨x0, x1, x2, x3, x4, x5, x6, rfl⟩
theorem list_of_8 : ∀ zs : List Int, zs.length = 8 → ∃ x0 x1 x2 x3 x4 x5 x6 x7 : Int, zs = [x0, x1, x2, x3, x4, x5, x6, x7]
  | [x0, x1, x2, x3, x4, x5, x6, x7], _ => ⟨x0, x1, x2, x3, x4, x5, x6, x7, rfl⟩
theorem list_of_9 : ∀ zs : List Int, zs.length = 9 → ∃ x0 x1 x2 x3 x4 x5 x6 x7 x8 : Int, zs = [x0, x1, x2, x3, x4, x5, x6, x7, x8]
  | [x0, x1, x2, x3, x4, x5, x6, x7, x8], _ => ⟨x0, x1, x2, x3, x4, x5, x6, x7, x8, rfl⟩
/-- The fields lie one behind the other, from cell o on, up to cell n. -/
def laidB (P : Program) : List Field → Nat → Nat → Bool
  | [], o, n => decide (o = n)
  | f :: fs, o, n => decide (f.offset = o) && laidB P fs (o + P.cellsOf f.type) n
/-- All cells of a value of this type are int. -/
def flatB (P : Program) : Nat → TypeId → Bool
  | 0, _ => false
  | m + 1, t => match P.underlying t with
    | some (.int .i64) => decide (P.cellsOf t = 1)
    | some (.struct fs) => laidB P fs.toList 0 (P.cellsOf t) && fs.toList.all fun f => flatB P m f.type
    | _ => false

section
variable {H : Type} {enc : TypeId × Value → H} {P : Program} {w : World} {base : Nat} {spare : Nat → Bool} {held : Bool}
theorem fields_flat {n : Nat} (cs : List Value) (rd : TypeId → List Value → Option (DataW H × List MemPlace)) :
    ∀ (fs : List Field) (o : Nat) (xs : List (DataW H × List MemPlace)), laidB P fs o n = true → xs.length = fs.length →
      (∀ (i : Nat) (f : Field), fs[i]? = some f → rd f.type ((cs.drop f.offset).take (P.cellsOf f.type)) = xs[i]?) →
      (∀ f ∈ fs, ∀ cs' x, rd f.type cs' = some x → cs'.length = P.cellsOf f.type ∧ ∃ zs : List Int, cs' = zs.map (Value.int .i64) ∧ ∀ z ∈ zs, (Lit.int .i64 z).wf = true) →
      o ≤ n ∧ ∃ zs : List Int, (cs.drop o).take (n - o) = zs.map (Value.int .i64) ∧ ∀ z ∈ zs, (Lit.int .i64 z).wf = true
  | [], o, xs, hl, hx, hr, hi => by
    have : o = n := by simpa [laidB] using hl
    subst this
    exact ⟨Nat.le_refl _, [], by simp, by simp⟩
  | f :: fs, o, xs, hl, hx, hr, hi => by
    simp only [laidB, Bool.and_eq_true, decide_eq_true_eq] at hl
    obtain ⟨ho, hl⟩ := hl
    match xs, hx with
    | x :: xs, hx =>
      have h0 := hr 0 f rfl
      rw [ho] at h0
      obtain ⟨hlen, zs, hz, hw⟩ := hi f (by simp) _ x h0
      obtain ⟨hle, ws, hw2, hw3⟩ := fields_flat cs rd fs (o + P.cellsOf f.type) xs hl (by simpa using hx) (fun i g hg => by have := hr (i + 1) g (by simpa using hg); simpa using this) (fun g hg => hi g (by simp [hg]))
      refine ⟨by omega, zs ++ ws, ?_, fun z hz' => ?_⟩
      · rw [List.map_append, ← hz, ← hw2, ← List.drop_drop, show n - o = P.cellsOf f.type + (n - (o + P.cellsOf f.type)) by omega, List.take_add]
      · rcases List.mem_append.1 hz' with h | h
        · exact hw z h
        · exact hw3 z h

theorem trod_flat (m : Nat) : ∀ {t : TypeId} {fuel : Nat} {cs : List Value} {x : DataW H × List MemPlace}, flatB P m t = true → DataW.trod enc P w base spare held fuel t cs = some x → (∃ k, P.underlying t = some (.int k)) → cs.length = 1 ∧ ∃ zs : List Int, cs = zs.map (Value.int .i64) ∧ ∀ z ∈ zs, (Lit.int .i64 z).wf = true := by
  intro t fuel cs x hf h ⟨k, hk⟩
  cases m with
  | zero => simp [flatB] at hf
  | succ m =>
    unfold flatB at hf
    rw [hk] at hf
    have : k = .i64 := by
      cases k <;> first | rfl | (simp at hf)
    subst this
    obtain ⟨n, rfl, _, hw⟩ := DataW.trod_int hk h
    exact ⟨rfl, [n], rfl, by simpa using hw⟩

theorem trod_flat_all (m : Nat) : ∀ {t : TypeId} {fuel : Nat} {cs : List Value} {x : DataW H × List MemPlace}, flatB P m t = true → DataW.trod enc P w base spare held fuel t cs = some x →
    cs.length = P.cellsOf t ∧ ∃ zs : List Int, cs = zs.map (Value.int .i64) ∧ ∀ z ∈ zs, (Lit.int .i64 z).wf = true := by
  induction m with
  | zero => intro t fuel cs x hf h; simp [flatB] at hf
  | succ m ih =>
    intro t fuel cs x hf h
    have hf0 := hf
    unfold flatB at hf
    split at hf
    · rename_i hu
      obtain ⟨hl, hz⟩ := trod_flat (m + 1) hf0 h ⟨_, hu⟩
      exact ⟨by rw [hl, of_decide_eq_true hf], hz⟩
    · rename_i fs hu
      rw [Bool.and_eq_true, List.all_eq_true] at hf
      obtain ⟨hl, ha⟩ := hf
      obtain ⟨xs, n, _, _, hlen, hxl, hg⟩ := DataW.trod_struct hu h
      obtain ⟨_, zs, hz, hw⟩ := fields_flat (n := P.cellsOf t) cs (fun t cs => DataW.trod enc P w base spare held n t cs) fs.toList 0 xs hl (by simpa using hxl)
        (fun i f hf => hg i f (by simpa using hf)) (fun f hf cs' x hx => ih (ha f hf) hx)
      refine ⟨hlen, zs, ?_, hw⟩
      rw [← hz, List.drop_zero, Nat.sub_zero, ← hlen, List.take_length]
    · cases hf

/-- A struct of whole numbers, by value. -/
theorem open_flat {r : Reach} {b0 m : Nat} {t : TypeId} {fs : Array Field} {v : Value} {d : DataW H} {p : List MemPlace} (hu : P.underlying t = some (.struct fs)) (hf : flatB P m t = true)
    (hv : Value.okWide P w r b0 t v) (h : DataW.Trod enc P w base spare held t v d p) : ∃ zs : List Int, v = .agg (zs.map (Value.int .i64)).toArray ∧ zs.length = P.cellsOf t ∧ ∀ z ∈ zs, (Lit.int .i64 z).wf = true := by
  obtain ⟨cs, rfl, hsz⟩ := okWide_struct hu hv
  obtain ⟨fuel, hf'⟩ := h
  obtain ⟨hl, zs, hz, hw⟩ := trod_flat_all m hf hf'
  simp only [Value.cells] at hz hl
  refine ⟨zs, ?_, by rw [← hl, hz, List.length_map], hw⟩
  rw [← hz]

/-- A slice of such structs. -/
theorem open_flats {r : Reach} {b0 m : Nat} {t e : TypeId} {a : Option Addr} {len cap : Nat} {d : DataW H} {p : List MemPlace} (hu : P.underlying t = some (.slice e)) (hf : flatB P m e = true)
    (h : DataW.Trod enc P w base spare held t (.slice a len cap) d p) : len ≤ cap ∧ cap ≤ maxLen ∧ ∃ L : List (List Int), L.length = len ∧ (∀ zs ∈ L, zs.length = P.cellsOf e) ∧
      (0 < len → ∃ ad, a = some ad ∧ ∀ (j : Nat) (zs : List Int), L[j]? = some zs → ∀ (i : Nat) (u : Value), (zs.map (Value.int .i64))[i]? = some u → w.cell? (ad.add (j * P.cellsOf e + i)) = some u) := by
  obtain ⟨fuel, h⟩ := h
  rcases DataW.trod_slice hu h with ⟨hcs, _⟩ | ⟨x, l, c, elems, rest, n, _, hcs, _, _, hl, hm, hlen, hel, _, _⟩
  · simp [Value.cells] at hcs
    obtain ⟨rfl, rfl, rfl⟩ := hcs
    exact ⟨Nat.le_refl _, by simp [maxLen], [], rfl, by simp, fun h => absurd h (by omega)⟩
  · simp [Value.cells] at hcs
    obtain ⟨rfl, rfl, rfl⟩ := hcs
    refine ⟨hl, hm, ?_⟩
    have each : ∀ i, i < len → ∃ zs : List Int, zs.length = P.cellsOf e ∧ ∀ (j : Nat) (u : Value), (zs.map (Value.int .i64))[j]? = some u → w.cell? (x.add (i * P.cellsOf e + j)) = some u := by
      intro i hi
      have h1 := hel i hi
      have h2 : elems[i]? = some (elems[i]'(by omega)) := List.getElem?_eq_getElem (by omega)
      rw [h2, Option.bind_eq_some_iff] at h1
      obtain ⟨cs', hcs', ht⟩ := h1
      obtain ⟨_, hcl, hat⟩ := World.cells?_some hcs'
      obtain ⟨hl', zs, hz, _⟩ := trod_flat_all m hf ht
      have hzl : zs.length = P.cellsOf e := by
        have := congrArg List.length hz
        rw [List.length_map] at this
        omega
      refine ⟨zs, hzl, fun j u hu => ?_⟩
      have hj : j < P.cellsOf e := by
        have := (List.getElem?_eq_some_iff.1 hu).1
        rw [List.length_map] at this
        omega
      rw [← Go.Deep.add_add, hat j hj, hz, hu]
    have mk : ∀ n, n ≤ len → ∃ L : List (List Int), L.length = n ∧ (∀ zs ∈ L, zs.length = P.cellsOf e) ∧ ∀ (j : Nat) (zs : List Int), L[j]? = some zs → ∀ (i : Nat) (u : Value), (zs.map (Value.int .i64))[i]? = some u → w.cell? (x.add (j * P.cellsOf e + i)) = some u := by
      intro n
      induction n with
      | zero => exact fun _ => ⟨[], rfl, by simp, fun j zs h => by simp at h⟩
      | succ n ih =>
        intro hn
        obtain ⟨L, h1, h2, h3⟩ := ih (by omega)
        obtain ⟨zs, hz1, hz2⟩ := each n (by omega)
        refine ⟨L ++ [zs], by simp [h1], fun y hy => ?_, fun j y hj => ?_⟩
        · rcases List.mem_append.1 hy with h | h
          · exact h2 y h
          · rw [List.mem_singleton.1 h]; exact hz1
        · rcases Nat.lt_or_ge j L.length with h | h
          · rw [List.getElem?_append_left h] at hj
            exact h3 j y hj
          · have : j = L.length := by
              have := (List.getElem?_eq_some_iff.1 hj).1
              simp at this
              omega
            subst this
            have : zs = y := by simpa using hj
            subst this
            rw [h1]
            exact hz2
    obtain ⟨L, h1, h2, h3⟩ := mk len (Nat.le_refl _)
    exact ⟨L, h1, h2, fun _ => ⟨x, rfl, h3⟩⟩
end
theorem sized_flats {H : Type} {enc : TypeId × Value → H} {P : Program} {W : World} {base : Nat} {spare : Nat → Bool} {held : Bool} {t e : TypeId} {a : Option Addr} {len cap : Nat} {d : DataW H} {ps : List MemPlace} {ts : List TypeId} {ds : List (DataW H)} {j : Nat}
    (hsz : (DataW.weightsEach P ts ds).all (· ≤ reachBytes) = true) (ht : ts[j]? = some t) (hd : ds[j]? = some d) (hu : P.underlying t = some (.slice e)) {B : Nat} (hB : P.bytesOf e = B)
    (h : DataW.Trod enc P W base spare held t (.slice a len cap) d ps) : len * B ≤ 140737488351232 := by
  obtain ⟨fuel, h⟩ := h
  rcases DataW.trod_slice hu h with ⟨hcs, _⟩ | ⟨x, l, c, elems, rest, n, _, hcs, hx, _, hl, hm, hlen, hel, _, _⟩
  · simp [Value.cells] at hcs
    obtain ⟨rfl, rfl, rfl⟩ := hcs
    simp
  · simp [Value.cells] at hcs
    obtain ⟨rfl, rfl, rfl⟩ := hcs
    obtain ⟨rfl, _⟩ := Prod.mk.inj hx
    have z := sized_slice hsz ht hd hu
    rw [hB] at z
    refine Nat.le_trans (Nat.mul_le_mul_right _ ?_) z
    rw [List.length_map, hlen]
    exact Nat.le_add_right _ _
end Go.Proofs.YtbpfhpjbeomfcaaDoor

namespace Go.Proofs.YtbpfhpjbeomfcaaDoor
open Go.RowKit Go.Proofs.YtbpfhpjbeomfcaaDoorW.PrintWords Go.Proofs.YtbpfhpjbeomfcaaDoorW.PrintLast
set_option linter.unusedVariables false
set_option linter.unusedSimpArgs false

theorem Ev.at_ {α : Type} {g : Nat → Option α} {r : α} (n : Nat) (h : ∀ k, g (k + n) = some r) : Ev g r := ⟨n, fun k hk => by
  obtain ⟨m, rfl⟩ : ∃ m, k = m + n := ⟨k - n, by omega⟩
  exact h m⟩
theorem Ev.pos {α : Type} {c : Prop} [Decidable c] {g f : Nat → Option α} {r : α} (hc : c) (h : Ev g r) : Ev (fun k => if c then g k else f k) r := h.congr fun k => if_pos hc
theorem Ev.neg {α : Type} {c : Prop} [Decidable c] {g f : Nat → Option α} {r : α} (hc : ¬ c) (h : Ev f r) : Ev (fun k => if c then g k else f k) r := h.congr fun k => if_neg hc
theorem Ev.some_ {α : Type} {a r : α} (h : a = r) : Ev (fun _ => some a) r := ⟨0, fun _ _ => by rw [h]⟩
theorem Ev.bindc {α β : Type} {o : Option α} {f : Nat → α → Option β} {a : α} {r : β} (h : o = some a) (k : Ev (fun n => f n a) r) : Ev (fun n => o.bind (f n)) r := k.congr fun n => by rw [h]; rfl
theorem w64 {i : Int} (h0 : -9223372036854775808 ≤ i) (h1 : i ≤ 9223372036854775807) : wrap64 i = i := by unfold wrap64; omega

end Go.Proofs.YtbpfhpjbeomfcaaDoor

namespace Go.Proofs.YtbpfhpjbeomfcaaDoor
open Go.RowKit Go.Proofs.YtbpfhpjbeomfcaaDoorW.PrintWords Go.Proofs.YtbpfhpjbeomfcaaDoorW.PrintLast
set_option linter.unusedVariables false
set_option linter.unusedSimpArgs false

/-- What stands ahead of the first c, and the pieces behind it. -/
def sp (c : UInt8) : List UInt8 → List UInt8 × List (List UInt8)
  | [] => ([], [])
  | b :: r => if b = c then ([], (sp c r).1 :: (sp c r).2) else (b :: (sp c r).1, (sp c r).2)
theorem splitK_sp (c : UInt8) (l : List UInt8) : Lib.splitK [c] 0 (Lib.count l [c]) l = (sp c l).1 :: (sp c l).2 := by
  induction l with
  | nil =>
    have : Lib.count [] [c] = 0 := by rw [Lib.count_one]; rfl
    rw [this]; rfl
  | cons b l ih =>
    by_cases h : b = c
    · subst h
      have hix : Lib.index (b :: l) [b] = 0 := by rw [Lib.index]; simp [List.isPrefixOf]
      rw [Lib.count_cons_eq, show 1 + Lib.count l [b] = Lib.count l [b] + 1 by omega, Lib.splitK, hix]
      simp only [sp, if_true]
      rw [if_neg (by decide), ← ih]
      rfl
    · have hp : ([c] : List UInt8).isPrefixOf (b :: l) = false := by simp [List.isPrefixOf, Ne.symm h]
      have hix : Lib.index (b :: l) [c] = if Lib.index l [c] == -1 then -1 else Lib.index l [c] + 1 := by rw [Lib.index, hp]; simp
      rw [Lib.count_cons_ne b c l h]
      simp only [sp, if_neg h]
      by_cases hm : Lib.index l [c] = -1
      · have h0 : Lib.count l [c] = 0 := Lib.count_miss hm
        rw [h0] at ih ⊢
        simp only [Lib.splitK] at ih ⊢
        injection ih with e1 e2
        rw [← e1, ← e2]
      · have hge := Lib.index_ge l [c]
        obtain ⟨j, hj⟩ : ∃ j : Nat, Lib.index l [c] = j := ⟨(Lib.index l [c]).toNat, by omega⟩
        have hc := Lib.count_hit (sub := [c]) (by simp) hj
        obtain ⟨k, hk⟩ : ∃ k, Lib.count l [c] = k + 1 := ⟨Lib.count l [c] - 1, by omega⟩
        rw [hk] at ih ⊢
        have hne : ¬ ((j : Int) == -1) = true := by intro e; have := beq_iff_eq.1 e; omega
        have hne' : ¬ ((j : Int) + 1 == -1) = true := by intro e; have := beq_iff_eq.1 e; omega
        rw [Lib.splitK, hj, if_neg hne] at ih
        rw [Lib.splitK, hix, hj, if_neg hne, if_neg hne']
        have e1 : ((j : Int) + 1).toNat = j + 1 := by omega
        rw [e1]
        simp only [Int.toNat_natCast, Nat.add_zero, List.length_singleton] at ih ⊢
        injection ih with i1 i2
        rw [← i1, ← i2]
        rfl
theorem split_sp (a : ByteArray) (c : UInt8) : (Lib.splitB ⟨#[c]⟩ 0 (Lib.countB a ⟨#[c]⟩) a).map (·.data.toList) = (sp c a.data.toList).1 :: (sp c a.data.toList).2 := by
  rw [Lib.splitB_data]
  exact splitK_sp c a.data.toList

theorem sp_length (c : UInt8) (l : List UInt8) : l.length = (sp c l).1.length + ((sp c l).2.map List.length).sum + (sp c l).2.length := by
  induction l with
  | nil => rfl
  | cons b l ih =>
    by_cases h : b = c
    · simp only [sp, if_pos h, List.length_cons, List.length_nil, List.map_cons, List.sum_cons]; omega
    · simp only [sp, if_neg h, List.length_cons]; omega
theorem sp_all (c : UInt8) (p : UInt8 → Bool) (l : List UInt8) (hp : p c = false) : ((sp c l).1.all p && (sp c l).2.all (·.all p)) = l.all fun b => b == c || p b := by
  induction l with
  | nil => rfl
  | cons b l ih =>
    by_cases h : b = c
    · subst h
      simp only [sp, if_true, List.all_nil, Bool.true_and, List.all_cons, ih, beq_self_eq_true, Bool.true_or]
    · have : (b == c) = false := by simpa using h
      simp only [sp, if_neg h, List.all_cons, Bool.and_assoc, ih, this, Bool.false_or]

theorem mem_dropWhile_not {p : UInt8 → Bool} {e : UInt8} (he : p e = false) : ∀ l : List UInt8, e ∈ l → e ∈ l.dropWhile p
  | [], h => h
  | b :: l, h => by
    rw [List.dropWhile_cons]
    split
    · rename_i hb
      rcases List.mem_cons.1 h with rfl | h
      · rw [he] at hb; cases hb
      · exact mem_dropWhile_not he l h
    · exact h
theorem dropWhile_all {p : UInt8 → Bool} : ∀ l : List UInt8, l.all p = true → l.dropWhile p = []
  | [], _ => rfl
  | b :: l, h => by
    rw [List.all_cons, Bool.and_eq_true] at h
    rw [List.dropWhile_cons, if_pos h.1]
    exact dropWhile_all l h.2
theorem trimS_nil (l cs : List UInt8) : (Lib.trimS l cs = []) ↔ l.all (cs.contains ·) = true := by
  unfold Lib.trimS Lib.trimLeftS Lib.trimRightS
  constructor
  · intro h
    rw [List.all_eq_true]
    intro e he
    cases hc : cs.contains e with
    | true => rfl
    | false =>
      have h1 := mem_dropWhile_not (p := (cs.contains ·)) (e := e) hc l.reverse (by simpa using he)
      have h2 := mem_dropWhile_not (p := (cs.contains ·)) (e := e) hc (l.reverse.dropWhile (cs.contains ·)).reverse (by simpa using h1)
      rw [h] at h2; cases h2
  · intro h
    rw [dropWhile_all l.reverse (by rw [List.all_reverse]; exact h)]
    rfl
end Go.Proofs.YtbpfhpjbeomfcaaDoor

namespace Go.Proofs.YtbpfhpjbeomfcaaDoor
open Go.RowKit Go.Proofs.YtbpfhpjbeomfcaaDoor.P Go.Proofs.YtbpfhpjbeomfcaaDoorW.PrintWords Go.Proofs.YtbpfhpjbeomfcaaDoorW.PrintLast
set_option linter.unusedVariables false
set_option linter.unusedSimpArgs false

theorem gr_in_eq (n a b : Int) : impl_in.f n a b = some (decide (a ≤ n) && decide (n ≤ b)) := by
  unfold impl_in.f
  by_cases h : a ≤ n
  · rw [if_pos h, decide_eq_true h, Bool.true_and]
  · rw [if_neg h, decide_eq_false h, Bool.false_and]
theorem gr_rdB (l : List ByteArray) (i : Nat) (h : i < l.length) : rdOf ByteArray.empty l (i : Int) = l[i] := by
  unfold rdOf
  rw [Int.toNat_natCast, List.getD_eq_getElem?_getD, List.getElem?_eq_getElem h]; rfl
theorem gr_dlen (s : ByteArray) : s.data.toList.length = s.size := by rw [Array.length_toList]; rfl
theorem gr_bt (s : ByteArray) (i : Nat) (h : i < s.data.toList.length) : bt s (i : Int) = ((s.data.toList[i]).toNat : Int) := by
  have h' : i < s.size := by rw [← gr_dlen]; exact h
  unfold bt
  rw [dif_pos (by simpa using h')]
  simp only [Int.toNat_natCast, Array.getElem_toList]
  rfl

/-! ### the program's reading -/
/-- A row fits: of that width, of those cells. -/
def fitR (C : List UInt8) (w : Nat) (r : List UInt8) : Bool := decide (r.length = w) && r.all (C.contains ·)
/-- The size fits. -/
def szR (w h : Nat) : Bool := decide (1 ≤ h) && decide (h ≤ 7) && decide (1 ≤ w) && decide (w ≤ 7) && decide (w * h ≤ 36)
theorem rowsOf_loop (C : ByteArray) (hC : C.size < 100) (hA : (C.data.toList.all fun b => decide (b.toNat < 128)) = true) (w : Nat) (hw : w ≤ 4294967281) (L : List ByteArray) (hL : L.length ≤ 4294967281) (hs : ∀ x ∈ L, x.size ≤ 4294967281) (d : Nat) : ∀ i : Nat, i ≤ L.length → L.length - i = d →
    Ev (fun k => impl_rowsOf.l0 k C (w : Int) L (L.length : Int) (i : Int)) (if (L.drop i).all (fun x => fitR C.data.toList w x.data.toList) then (L, szR w L.length) else ([], false)) := by
  induction d with
  | zero =>
    intro i hi hd
    refine Ev.step (f := fun k => _) (fun k => by rw [impl_rowsOf.l0]) ?_
    refine Ev.neg (by omega) (Ev.bindc (gr_in_eq _ _ _) ?_)
    rw [List.drop_eq_nil_of_le (by omega), List.all_nil, if_pos rfl]
    by_cases h1 : 1 ≤ L.length ∧ L.length ≤ 7
    · have e1 : (decide ((1 : Int) ≤ (L.length : Int)) && decide ((L.length : Int) ≤ 7)) = true := by rw [decide_eq_true (by omega), decide_eq_true (by omega)]; rfl
      refine Ev.pos e1 (Ev.bindc (gr_in_eq _ _ _) ?_)
      by_cases h2 : 1 ≤ w ∧ w ≤ 7
      · have e2 : (decide ((1 : Int) ≤ (w : Int)) && decide ((w : Int) ≤ 7)) = true := by rw [decide_eq_true (by omega), decide_eq_true (by omega)]; rfl
        refine Ev.pos e2 (Ev.some_ ?_)
        have hm : w * L.length ≤ 7 * 7 := Nat.mul_le_mul h2.2 h1.2
        have hc : ((w : Int) * (L.length : Int)) = ((w * L.length : Nat) : Int) := by push_cast; rfl
        rw [hc]
        generalize hn : w * L.length = n at *
        have ew : wrap64 (n : Int) = (n : Int) := by unfold wrap64; omega
        rw [ew]
        have : szR w L.length = decide (n ≤ 36) := by
          unfold szR
          rw [hn, decide_eq_true h1.1, decide_eq_true h1.2, decide_eq_true h2.1, decide_eq_true h2.2]; rfl
        rw [this]
        congr 1
        exact decide_eq_decide.2 (by omega)
      · refine Ev.neg (by simp only [Bool.and_eq_true, decide_eq_true_eq]; omega) (Ev.some_ ?_)
        have : szR w L.length = false := by
          unfold szR
          simp only [Bool.and_eq_false_iff, decide_eq_false_iff_not]; omega
        rw [this]
    · refine Ev.neg (by simp only [Bool.and_eq_true, decide_eq_true_eq]; omega) (Ev.some_ ?_)
      have : szR w L.length = false := by
        unfold szR
        simp only [Bool.and_eq_false_iff, decide_eq_false_iff_not]; omega
      rw [this]
  | succ d ih =>
    intro i hi hd
    have h : i < L.length := by omega
    refine Ev.step (f := fun k => _) (fun k => by rw [impl_rowsOf.l0]) ?_
    refine Ev.pos (by omega) (Ev.pos (by omega) (Ev.pos (by omega) ?_))
    rw [gr_rdB L i h, List.drop_eq_getElem_cons h, List.all_cons, show wrap64 ((i : Int) + 1) = ((i + 1 : Nat) : Int) by unfold wrap64; omega]
    have hsz := hs _ (List.getElem_mem h)
    have ihh := ih (i + 1) (by omega) (by omega)
    generalize L[i] = x at *
    by_cases hx : x.size = w
    · refine Ev.pos (by omega) (Ev.bindc (show strings_Trim.f x C = some _ from by unfold strings_Trim.f; rw [if_pos ⟨by omega, by omega, hA⟩]) ?_)
      have ht : (⟨(Lib.trimS x.data.toList C.data.toList).toArray⟩ : ByteArray).toList = Lib.trimS x.data.toList C.data.toList := by
        rw [Lib.toList_data]
      by_cases hal : x.data.toList.all (C.data.toList.contains ·) = true
      · refine Ev.pos (by rw [ht]; exact (trimS_nil _ _).2 hal) ?_
        have : fitR C.data.toList w x.data.toList = true := by
          unfold fitR
          rw [hal, Bool.and_true, decide_eq_true (by rw [gr_dlen]; exact hx)]
        rw [this, Bool.true_and]
        exact ihh
      · refine Ev.neg (by rw [ht]; exact fun e => hal ((trimS_nil _ _).1 e)) (Ev.some_ ?_)
        have : fitR C.data.toList w x.data.toList = false := by
          unfold fitR
          rw [Bool.eq_false_iff.2 hal, Bool.and_false]
        rw [this]; rfl
    · refine Ev.neg (by omega) (Ev.some_ ?_)
      have : fitR C.data.toList w x.data.toList = false := by
        unfold fitR
        rw [decide_eq_false (by rw [gr_dlen]; exact hx), Bool.false_and]
      rw [this]; rfl
/-- The pieces between '/'. -/
def rowsT (a : ByteArray) : List ByteArray := Lib.splitB ⟨#[47]⟩ 0 (Lib.countB a ⟨#[47]⟩) a
theorem rowsT_data (a : ByteArray) : (rowsT a).map (·.data.toList) = (sp 47 a.data.toList).1 :: (sp 47 a.data.toList).2 := split_sp a 47
def wideT (a : ByteArray) : Nat := (sp 47 a.data.toList).1.length
def highT (a : ByteArray) : Nat := (sp 47 a.data.toList).2.length + 1
theorem rowsT_length (a : ByteArray) : (rowsT a).length = highT a := by
  have := congrArg List.length (rowsT_data a)
  simpa [highT] using this
/-- All rows fit, and the size. -/
def rowsFit (C : List UInt8) (a : ByteArray) : Bool := ((sp 47 a.data.toList).1 :: (sp 47 a.data.toList).2).all (fitR C (wideT a))
theorem sum_le_mem (l : List Nat) : ∀ x ∈ l, x ≤ l.sum := by
  induction l with
  | nil => intro x h; cases h
  | cons b l ih =>
    intro x h
    rw [List.sum_cons]
    rcases List.mem_cons.1 h with rfl | h
    · omega
    · have := ih x h; omega
theorem rowsT_size (a : ByteArray) : ∀ x ∈ rowsT a, x.size ≤ a.size := by
  intro x hx
  have h1 : x.data.toList ∈ (rowsT a).map (·.data.toList) := List.mem_map_of_mem hx
  rw [rowsT_data] at h1
  have h2 := sp_length 47 a.data.toList
  rw [gr_dlen] at h2
  rw [← gr_dlen x]
  rcases List.mem_cons.1 h1 with h | h
  · rw [h]; omega
  · have := sum_le_mem _ _ (List.mem_map_of_mem (f := List.length) h); omega
theorem rowsOf_ev (a C : ByteArray) (ha : a.size ≤ 1048576) (hC : C.size < 100) (hA : (C.data.toList.all fun b => decide (b.toNat < 128)) = true) :
    Ev (fun k => impl_rowsOf.f k a C) (if rowsFit C.data.toList a then (rowsT a, szR (wideT a) (highT a)) else ([], false)) := by
  unfold impl_rowsOf.f
  refine Ev.bindc (show strings_Split.f a ⟨#[47]⟩ = some (rowsT a) from by unfold strings_Split.f; rw [if_pos ⟨by omega, by decide⟩]; rfl) ?_
  have hlen := rowsT_length a
  have hl2 := sp_length 47 a.data.toList
  rw [gr_dlen] at hl2
  have hh : highT a ≤ a.size + 1 := by unfold highT; omega
  have h0 : 0 < (rowsT a).length := by rw [hlen]; unfold highT; omega
  refine Ev.pos (by omega) ?_
  have e0 : rdOf ByteArray.empty (rowsT a) 0 = (rowsT a)[0] := gr_rdB (rowsT a) 0 h0
  have e1 : ((rowsT a)[0]).size = wideT a := by
    have := rowsT_data a
    have h2 : ((rowsT a).map (·.data.toList))[0]'(by simpa using h0) = (sp 47 a.data.toList).1 := by
      simp only [this, List.getElem_cons_zero]
    rw [List.getElem_map] at h2
    rw [← gr_dlen, h2]; rfl
  rw [e0, e1]
  have hw : wideT a ≤ a.size := by rw [← e1]; exact rowsT_size a _ (List.getElem_mem h0)
  have := rowsOf_loop C hC hA (wideT a) (by omega) (rowsT a) (by omega) (fun x hx => by have := rowsT_size a x hx; omega) (rowsT a).length 0 (by omega) (by omega)
  rw [List.drop_zero] at this
  have e2 : (rowsT a).all (fun x => fitR C.data.toList (wideT a) x.data.toList) = rowsFit C.data.toList a := by
    unfold rowsFit
    rw [← rowsT_data, List.all_map]; rfl
  rw [e2] at this
  rw [← hlen]
  exact this
end Go.Proofs.YtbpfhpjbeomfcaaDoor

namespace Go.Proofs.YtbpfhpjbeomfcaaDoor
open Go.RowKit Go.Proofs.YtbpfhpjbeomfcaaDoor.P Go.Proofs.YtbpfhpjbeomfcaaDoorW.PrintWords Go.Proofs.YtbpfhpjbeomfcaaDoorW.PrintLast
set_option linter.unusedVariables false
set_option linter.unusedSimpArgs false

abbrev RdG := Int × Int × List Int × Bool
def badG : RdG := (0, 0, [], false)
def finG (ho w h : Nat) (cs : List Int) : RdG := if 7 < w then badG else if 7 < h then badG else if 36 < cs.length then badG else if 1 < ho then badG else ((w : Int), (h : Int), cs, true)
def runG : List UInt8 → Nat → Nat → Nat → Nat → List Int → RdG
  | [], x, ho, w, h, cs => if (0 < h ∧ x ≠ w) ∨ x = 0 then badG else finG ho x (h + 1) cs
  | c :: r, x, ho, w, h, cs =>
    if c = 47 then (if (0 < h ∧ x ≠ w) ∨ x = 0 then badG else runG r 0 ho x (h + 1) cs)
    else if c = 46 ∨ c = 35 ∨ c = 45 then runG r (x + 1) ho w h (cs ++ [(c.toNat : Int)])
    else if c = 111 then runG r (x + 1) (ho + 1) w h (cs ++ [(c.toNat : Int)])
    else badG
theorem u8eq (c : UInt8) (n : Nat) (hn : n < 256) : ((c.toNat : Int) = (n : Int)) ↔ c = UInt8.ofNat n := by
  constructor
  · intro h
    have : c.toNat = n := by omega
    rw [← this]; simp
  · intro h
    subst h
    simp; omega
theorem bx_end (a : ByteArray) (ha : a.size ≤ 42) (ho w h : Nat) (cs : List Int) : Ev (fun k => spec_bxRead.l0 k a 0 (ho : Int) ((a.size : Int) + 1) (w : Int) (h : Int) cs) (finG ho w h cs) := by
  refine Ev.step (f := fun k => _) (fun k => by rw [spec_bxRead.l0]) ?_
  refine Ev.neg (by omega) ?_
  unfold finG
  by_cases h1 : 7 < w
  · rw [if_pos h1]; exact Ev.pos (by omega) (Ev.now _)
  rw [if_neg h1]; refine Ev.neg (by omega) ?_
  by_cases h2 : 7 < h
  · rw [if_pos h2]; exact Ev.pos (by omega) (Ev.now _)
  rw [if_neg h2]; refine Ev.neg (by omega) ?_
  by_cases h3 : 36 < cs.length
  · rw [if_pos h3]; exact Ev.pos (by omega) (Ev.now _)
  rw [if_neg h3]; refine Ev.neg (by omega) ?_
  by_cases h4 : 1 < ho
  · rw [if_pos h4]; exact Ev.pos (by omega) (Ev.now _)
  rw [if_neg h4]; exact Ev.neg (by omega) (Ev.now _)
/-- What a row's end does. -/
theorem bx_sep (a : ByteArray) (i x ho w h : Nat) (cs : List Int) (hx : x ≤ 100) (hh : h ≤ 100) (hi : i ≤ 100) (R : RdG)
    (hR : Ev (fun k => spec_bxRead.l0 k a 0 (ho : Int) ((i : Int) + 1) (x : Int) ((h + 1 : Nat) : Int) cs) R) :
    Ev (fun k => spec_bxRead.j1 k a (x : Int) (ho : Int) (i : Int) false (w : Int) (h : Int) cs) (if (0 < h ∧ x ≠ w) ∨ x = 0 then badG else R) := by
  have w1 : wrap64 ((i : Int) + 1) = (i : Int) + 1 := by unfold wrap64; omega
  have w2 : wrap64 ((h : Int) + 1) = ((h + 1 : Nat) : Int) := by unfold wrap64; omega
  refine Ev.step (f := fun k => _) (fun k => by rw [spec_bxRead.j1]) ?_
  refine Ev.neg (by decide) ?_
  rw [w1, w2]
  by_cases h1 : 0 < h
  · refine Ev.pos (by omega) ?_
    by_cases h2 : x = w
    · refine Ev.pos (by omega) ?_
      by_cases h3 : x = 0
      · rw [if_pos (.inr h3)]; exact Ev.pos (by omega) (Ev.now _)
      · rw [if_neg (by omega)]; exact Ev.neg (by omega) hR
    · rw [if_pos (.inl ⟨h1, h2⟩)]; exact Ev.neg (by omega) (Ev.now _)
  · refine Ev.neg (by omega) ?_
    by_cases h3 : x = 0
    · rw [if_pos (.inr h3)]; exact Ev.pos (by omega) (Ev.now _)
    · rw [if_neg (by omega)]; exact Ev.neg (by omega) hR
theorem bx_loop (a : ByteArray) (ha : a.size ≤ 42) (d : Nat) : ∀ (i x ho w h : Nat) (cs : List Int), i ≤ a.size → a.size - i = d → x ≤ i → ho ≤ i → h ≤ i → cs.length ≤ i →
    Ev (fun k => spec_bxRead.l0 k a (x : Int) (ho : Int) (i : Int) (w : Int) (h : Int) cs) (runG (a.data.toList.drop i) x ho w h cs) := by
  have hsz := gr_dlen a
  induction d with
  | zero =>
    intro i x ho w h cs hi hd hx hho hh hc
    obtain rfl : i = a.size := by omega
    refine Ev.step (f := fun k => _) (fun k => by rw [spec_bxRead.l0]) ?_
    refine Ev.pos (by omega) (Ev.neg (by omega) ?_)
    rw [List.drop_eq_nil_of_le (by omega), runG]
    exact bx_sep a a.size x ho w h cs (by omega) (by omega) (by omega) _ (bx_end a ha ho x (h + 1) cs)
  | succ d ih =>
    intro i x ho w h cs hi hd hx hho hh hc
    have hl : i < a.data.toList.length := by omega
    have e1 : ((i : Int) + 1) = ((i + 1 : Nat) : Int) := by omega
    have w1 : wrap64 ((i : Int) + 1) = ((i + 1 : Nat) : Int) := by unfold wrap64; omega
    have w2 : wrap64 ((x : Int) + 1) = ((x + 1 : Nat) : Int) := by unfold wrap64; omega
    have w3 : wrap64 ((ho : Int) + 1) = ((ho + 1 : Nat) : Int) := by unfold wrap64; omega
    have hdr := List.drop_eq_getElem_cons hl
    obtain ⟨c, hcc, hb⟩ : ∃ c, a.data.toList[i] = c ∧ bt a (i : Int) = (c.toNat : Int) := ⟨_, rfl, gr_bt a i hl⟩
    rw [hcc] at hdr
    clear hcc
    have HB := Lib.hid hb
    have HW1 := Lib.hid w1
    have HW2 := Lib.hid w2
    have HW3 := Lib.hid w3
    have HD := Lib.hid hdr
    clear hb w1 w2 w3 hdr
    refine Ev.step (f := fun k => _) (fun k => by rw [spec_bxRead.l0]) ?_
    refine Ev.pos (by omega) (Ev.pos (by omega) (Ev.pos (by omega) ?_))
    rw [HD.out, HB.out, runG]
    by_cases h47 : c = 47
    · rw [show ((c.toNat : Int) != 47) = false by subst h47; rfl, if_pos h47]
      clear HB HD h47
      refine bx_sep a i x ho w h cs (by omega) (by omega) (by omega) _ ?_
      rw [e1]
      exact ih (i + 1) 0 ho x (h + 1) cs (by omega) (by omega) (by omega) (by omega) (by omega) (by omega)
    · rw [show ((c.toNat : Int) != 47) = true by
        rw [bne_iff_ne]; intro e; exact h47 ((u8eq c 47 (by decide)).1 e), if_neg h47]
      have go1 := ih (i + 1) (x + 1) ho w h (cs ++ [(c.toNat : Int)]) (by omega) (by omega) (by omega) (by omega) (by omega) (by simp; omega)
      have go2 := ih (i + 1) (x + 1) (ho + 1) w h (cs ++ [(c.toNat : Int)]) (by omega) (by omega) (by omega) (by omega) (by omega) (by simp; omega)
      have step : ∀ R, (c = 46 ∨ c = 35 ∨ c = 45) → Ev (fun k => spec_bxRead.l0 k a ((x + 1 : Nat) : Int) (ho : Int) ((i + 1 : Nat) : Int) (w : Int) (h : Int) (cs ++ [(c.toNat : Int)])) R →
          Ev (fun k => spec_bxRead.j2 k a (x : Int) (ho : Int) (i : Int) (c.toNat : Int) true (w : Int) (h : Int) cs) R := fun R _ hR => by
        refine Ev.step (f := fun k => _) (fun k => by rw [spec_bxRead.j2]) ?_
        refine Ev.pos rfl (Ev.pos (by omega) (Ev.pos (by omega) (Ev.pos (by omega) ?_)))
        rw [HW1.out, HW2.out, HB.out]
        exact hR
      refine Ev.step (f := fun k => _) (fun k => by rw [spec_bxRead.j1]) ?_
      refine Ev.pos rfl (Ev.pos (by omega) (Ev.pos (by omega) ?_))
      rw [HB.out]
      by_cases h46 : c = 46
      · rw [if_pos (.inl h46)]
        refine Ev.pos (by subst h46; rfl) ?_
        rw [show ((c.toNat : Int) == 46) = true by subst h46; rfl]
        exact step _ (.inl h46) go1
      · refine Ev.neg (fun e => h46 ((u8eq c 46 (by decide)).1 e)) ?_
        by_cases h35 : c = 35
        · rw [if_pos (.inr (.inl h35))]
          refine Ev.pos (by subst h35; rfl) ?_
          rw [show ((c.toNat : Int) == 35) = true by subst h35; rfl]
          exact step _ (.inr (.inl h35)) go1
        · refine Ev.neg (fun e => h35 ((u8eq c 35 (by decide)).1 e)) ?_
          by_cases h45 : c = 45
          · rw [if_pos (.inr (.inr h45)), show ((c.toNat : Int) == 45) = true by subst h45; rfl]
            exact step _ (.inr (.inr h45)) go1
          · rw [if_neg (by simp [h46, h35, h45]), show ((c.toNat : Int) == 45) = false by
              rw [beq_eq_false_iff_ne]; intro e; exact h45 ((u8eq c 45 (by decide)).1 e)]
            refine Ev.step (f := fun k => _) (fun k => by rw [spec_bxRead.j2]) ?_
            refine Ev.neg (by decide) ?_
            by_cases h111 : c = 111
            · rw [if_pos h111]
              refine Ev.pos (by subst h111; rfl) (Ev.pos (by omega) (Ev.pos (by omega) (Ev.pos (by omega) ?_)))
              rw [HW1.out, HW2.out, HW3.out, HB.out]
              exact go2
            · rw [if_neg h111]
              exact Ev.neg (fun e => h111 ((u8eq c 111 (by decide)).1 e)) (Ev.now _)

/-- The cells of a ground. -/
def cG : List UInt8 := [46, 35, 45, 111]
def numsOf (l : List UInt8) : List Int := l.map fun c => (c.toNat : Int)
/-- All cells one behind the other. -/
def flatT (l : List UInt8) : List UInt8 := (sp 47 l).1 ++ (sp 47 l).2.flatten
theorem runG_eq (l : List UInt8) : ∀ (x ho w h : Nat) (cs : List Int), runG l x ho w h cs =
    if (l.all (fun b => b == 47 || cG.contains b)) = true ∧ x + (sp 47 l).1.length ≠ 0 ∧ (0 < h → x + (sp 47 l).1.length = w) ∧ (∀ r ∈ (sp 47 l).2, r.length = x + (sp 47 l).1.length)
    then finG (ho + l.count 111) (x + (sp 47 l).1.length) (h + ((sp 47 l).2.length + 1)) (cs ++ numsOf (flatT l)) else badG := by
  induction l with
  | nil =>
    intro x ho w h cs
    rw [runG]
    simp only [sp, List.all_nil, List.length_nil, Nat.add_zero, List.count_nil, flatT, List.flatten_nil, List.append_nil, numsOf, List.map_nil, Nat.zero_add]
    by_cases hb : (0 < h ∧ x ≠ w) ∨ x = 0
    · rw [if_pos hb, if_neg (by rintro ⟨_, h1, h2, _⟩; exact hb.elim (fun h34 => h34.2 (h2 h34.1)) h1)]
    · rw [if_neg hb, if_pos ⟨trivial, fun e => hb (.inr e), fun h3 => Classical.byContradiction fun h4 => hb (.inl ⟨h3, h4⟩), by simp⟩]
  | cons c r ih =>
    intro x ho w h cs
    rw [runG]
    by_cases h47 : c = 47
    · subst h47
      rw [if_pos rfl]
      simp only [sp, if_true, List.all_cons, beq_self_eq_true, Bool.true_or, Bool.true_and, List.length_nil, Nat.add_zero, List.count_cons_of_ne (show ((47 : UInt8) ≠ 111) by decide), flatT, List.nil_append, List.flatten_cons, List.length_cons]
      by_cases hb : (0 < h ∧ x ≠ w) ∨ x = 0
      · rw [if_pos hb, if_neg (by rintro ⟨_, h1, h2, _⟩; exact hb.elim (fun h34 => h34.2 (h2 h34.1)) h1)]
      · rw [if_neg hb, ih]
        have hx0 : x ≠ 0 := fun e => hb (.inr e)
        have hxw : 0 < h → x = w := fun h3 => Classical.byContradiction fun h4 => hb (.inl ⟨h3, h4⟩)
        by_cases hg : (r.all (fun b => b == 47 || cG.contains b)) = true ∧ ∀ q ∈ (sp 47 r).1 :: (sp 47 r).2, q.length = x
        · have hf : (sp 47 r).1.length = x := hg.2 _ (List.mem_cons_self)
          rw [if_pos ⟨hg.1, by omega, fun _ => by omega, fun q hq => by have := hg.2 q (List.mem_cons_of_mem _ hq); omega⟩, if_pos ⟨hg.1, hx0, hxw, hg.2⟩]
          congr 1
          · omega
          · omega
        · rw [if_neg, if_neg]
          · rintro ⟨h1, _, _, h4⟩; exact hg ⟨h1, h4⟩
          · rintro ⟨h1, _, h3, h4⟩
            have h5 := h3 (by omega)
            refine hg ⟨h1, fun q hq => ?_⟩
            rcases List.mem_cons.1 hq with rfl | hq
            · omega
            · have := h4 q hq; omega
    · rw [if_neg h47]
      have e47 : (c == 47) = false := by simpa using h47
      simp only [sp, if_neg h47, List.all_cons, e47, Bool.false_or, List.length_cons]
      have hsh : x + ((sp 47 r).1.length + 1) = x + 1 + (sp 47 r).1.length := by omega
      by_cases h3 : c = 46 ∨ c = 35 ∨ c = 45
      · have hc : cG.contains c = true := by rcases h3 with rfl | rfl | rfl <;> decide
        have hn : c ≠ 111 := by rcases h3 with rfl | rfl | rfl <;> decide
        rw [if_pos h3, ih, hc, Bool.true_and, hsh, List.count_cons_of_ne hn]
        simp only [flatT, sp, if_neg h47, numsOf, List.cons_append, List.map_cons, List.append_assoc, List.nil_append]
      · rw [if_neg h3]
        by_cases h111 : c = 111
        · subst h111
          rw [if_pos rfl, ih, show cG.contains 111 = true by decide, Bool.true_and, hsh, List.count_cons_self]
          simp only [flatT, sp, if_neg h47, numsOf, List.cons_append, List.map_cons, List.append_assoc, List.nil_append, show ho + (r.count 111 + 1) = ho + 1 + r.count 111 by omega]
        · rw [if_neg h111, if_neg]
          rintro ⟨h1, _⟩
          have : cG.contains c = false := by
            simp only [cG, List.contains_cons, List.contains_nil, Bool.or_false, Bool.or_eq_false_iff, beq_eq_false_iff_ne]
            exact ⟨fun e => h3 (.inl e), fun e => h3 (.inr (.inl e)), fun e => h3 (.inr (.inr e)), h111⟩
          rw [this] at h1; simp at h1
theorem flat_len (f : Nat) : ∀ (L : List (List UInt8)), (∀ r ∈ L, r.length = f) → L.flatten.length = f * L.length ∧ (L.map List.length).sum = f * L.length
  | [], _ => by simp
  | a :: L, h => by
    obtain ⟨h1, h2⟩ := flat_len f L (fun r hr => h r (List.mem_cons_of_mem _ hr))
    have h3 := h a List.mem_cons_self
    simp only [List.flatten_cons, List.length_append, List.map_cons, List.sum_cons, List.length_cons, h1, h2, h3, Nat.mul_add, Nat.mul_one]
    omega
/-- A text is a ground. -/
def groundB (a : ByteArray) : Bool := rowsFit cG a && szR (wideT a) (highT a) && decide (a.data.toList.count 111 ≤ 1)
theorem rowsFit_iff (a : ByteArray) : rowsFit cG a = true ↔ (a.data.toList.all (fun b => b == 47 || cG.contains b)) = true ∧ ∀ r ∈ (sp 47 a.data.toList).2, r.length = wideT a := by
  have hs := sp_all 47 (cG.contains ·) a.data.toList (by decide)
  unfold rowsFit
  rw [← hs, List.all_cons]
  unfold fitR wideT
  simp only [Bool.and_eq_true, decide_eq_true_eq, List.all_eq_true, true_and]
  constructor
  · rintro ⟨h1, h2⟩
    exact ⟨⟨h1, fun r hr => (h2 r hr).2⟩, fun r hr => (h2 r hr).1⟩
  · rintro ⟨⟨h1, h2⟩, h3⟩
    exact ⟨h1, fun r hr => ⟨h3 r hr, h2 r hr⟩⟩
theorem bxRead_ev (a : ByteArray) : Ev (fun k => spec_bxRead.f k a) (if groundB a then ((wideT a : Int), (highT a : Int), numsOf (flatT a.data.toList), true) else badG) := by
  have hl := sp_length 47 a.data.toList
  rw [gr_dlen] at hl
  unfold spec_bxRead.f
  by_cases h42 : a.size ≤ 42
  · refine Ev.neg (by omega) ?_
    have := bx_loop a h42 a.size 0 0 0 0 0 [] (by omega) (by omega) (by omega) (by omega) (by omega) (by simp)
    rw [List.drop_zero, runG_eq] at this
    simp only [Nat.zero_add, List.nil_append, Nat.lt_irrefl, false_implies, true_and] at this
    have e : (if (a.data.toList.all (fun b => b == 47 || cG.contains b)) = true ∧ (sp 47 a.data.toList).1.length ≠ 0 ∧ (∀ r ∈ (sp 47 a.data.toList).2, r.length = (sp 47 a.data.toList).1.length) then finG (a.data.toList.count 111) (sp 47 a.data.toList).1.length ((sp 47 a.data.toList).2.length + 1) (numsOf (flatT a.data.toList)) else badG) = (if groundB a then ((wideT a : Int), (highT a : Int), numsOf (flatT a.data.toList), true) else badG) := by
      have hw : (sp 47 a.data.toList).1.length = wideT a := rfl
      have hh : (sp 47 a.data.toList).2.length + 1 = highT a := rfl
      rw [hw, hh]
      unfold groundB
      by_cases hr : rowsFit cG a = true
      · obtain ⟨h1, h2⟩ := (rowsFit_iff a).1 hr
        obtain ⟨f1, f2⟩ := flat_len (wideT a) (sp 47 a.data.toList).2 h2
        have hfl : (numsOf (flatT a.data.toList)).length = wideT a * highT a := by
          simp only [numsOf, List.length_map, flatT, List.length_append, f1, hw, ← hh, Nat.mul_add, Nat.mul_one]; omega
        rw [hr, Bool.true_and]
        by_cases h0 : wideT a ≠ 0
        · rw [if_pos ⟨h1, h0, h2⟩]
          unfold finG szR
          rw [hfl]
          have hh1 : 1 ≤ highT a := by omega
          rw [decide_eq_true hh1, Bool.true_and, decide_eq_true (show 1 ≤ wideT a by omega)]
          by_cases a1 : 7 < wideT a
          · rw [if_pos a1, decide_eq_false (show ¬ wideT a ≤ 7 by omega)]; simp
          rw [if_neg a1, decide_eq_true (show wideT a ≤ 7 by omega)]
          by_cases a2 : 7 < highT a
          · rw [if_pos a2, decide_eq_false (show ¬ highT a ≤ 7 by omega)]; simp
          rw [if_neg a2, decide_eq_true (show highT a ≤ 7 by omega)]
          by_cases a3 : 36 < wideT a * highT a
          · rw [if_pos a3, decide_eq_false (show ¬ wideT a * highT a ≤ 36 by omega)]; simp
          rw [if_neg a3, decide_eq_true (show wideT a * highT a ≤ 36 by omega)]
          by_cases a4 : 1 < a.data.toList.count 111
          · rw [if_pos a4, decide_eq_false (by omega)]; simp
          · rw [if_neg a4, decide_eq_true (by omega)]; simp
        · rw [if_neg (fun h => h0 h.2.1)]
          have : szR (wideT a) (highT a) = false := by
            unfold szR
            simp only [Bool.and_eq_false_iff, decide_eq_false_iff_not]; omega
          rw [this]; simp
      · rw [if_neg (fun h => hr ((rowsFit_iff a).2 ⟨h.1, h.2.2⟩)), Bool.eq_false_iff.2 hr]; simp
    rw [e] at this
    exact this
  · refine Ev.pos (by omega) (Ev.some_ ?_)
    have : groundB a = false := by
      cases hg : groundB a with
      | false => rfl
      | true =>
        unfold groundB szR at hg
        simp only [Bool.and_eq_true, decide_eq_true_eq] at hg
        obtain ⟨⟨hr, ⟨⟨⟨g1, g2⟩, g3⟩, g4⟩, g5⟩, _⟩ := hg
        obtain ⟨h1, h2⟩ := (rowsFit_iff a).1 hr
        obtain ⟨f1, f2⟩ := flat_len (wideT a) (sp 47 a.data.toList).2 h2
        rw [f2] at hl
        have hw : (sp 47 a.data.toList).1.length = wideT a := rfl
        have hh : (sp 47 a.data.toList).2.length + 1 = highT a := rfl
        have : wideT a * highT a = wideT a + wideT a * (sp 47 a.data.toList).2.length := by rw [← hh, Nat.mul_add, Nat.mul_one]; omega
        omega
    rw [this]; rfl
theorem ground_ev (a : ByteArray) (ha : a.size ≤ 1048576) : ∃ rows : List ByteArray, Ev (fun k => impl_ground.f k a) (rows, groundB a) ∧ (groundB a = true → rows = rowsT a) := by
  have h := rowsOf_ev a ⟨#[46, 35, 45, 111]⟩ ha (by decide) (by decide)
  have hc : (⟨#[46, 35, 45, 111]⟩ : ByteArray).data.toList = cG := rfl
  rw [hc] at h
  unfold impl_ground.f
  unfold groundB
  cases hr : rowsFit cG a with
  | false =>
    rw [hr, if_neg (by decide)] at h
    exact ⟨[], Ev.bind h (Ev.neg (by simp) (Ev.now _)), fun e => by cases e⟩
  | true =>
    rw [hr, if_pos rfl] at h
    refine ⟨rowsT a, Ev.bind h ?_, fun _ => rfl⟩
    cases hz : szR (wideT a) (highT a) with
    | false => exact Ev.neg (by simp) (Ev.now _)
    | true =>
      refine Ev.pos rfl (Ev.bindc (show strings_Count.f a ⟨#[111]⟩ = some _ from rfl) (Ev.some_ ?_))
      show (rowsT a, _) = _
      congr 1
      unfold Lib.countByte
      simp only [Bool.true_and]
      exact decide_eq_decide.2 (by omega)
end Go.Proofs.YtbpfhpjbeomfcaaDoor

namespace Go.Proofs.YtbpfhpjbeomfcaaDoor
open Go.RowKit Go.Proofs.YtbpfhpjbeomfcaaDoor.P Go.Proofs.YtbpfhpjbeomfcaaDoorW.PrintWords Go.Proofs.YtbpfhpjbeomfcaaDoorW.PrintLast
set_option linter.unusedVariables false
set_option linter.unusedSimpArgs false

theorem bx_specIn (n a b : Int) : spec_l1In.f n a b = some (decide (a ≤ n) && decide (n ≤ b)) := by
  unfold spec_l1In.f
  by_cases h : n ≥ a
  · rw [if_pos h, decide_eq_true (show a ≤ n from h), Bool.true_and]
  · rw [if_neg h, decide_eq_false (show ¬ a ≤ n from h), Bool.false_and]
def rowsL (a : ByteArray) : List (List UInt8) := (sp 47 a.data.toList).1 :: (sp 47 a.data.toList).2
theorem flat_get (w : Nat) : ∀ (L : List (List UInt8)) (i j : Nat), (∀ r ∈ L, r.length = w) → i < L.length → j < w → L.flatten[i * w + j]? = (L[i]?.bind fun r => r[j]?)
  | [], i, j, _, hi, _ => by simp at hi
  | r :: L, 0, j, h, _, hj => by
    have := h r List.mem_cons_self
    simp only [List.flatten_cons, Nat.zero_mul, Nat.zero_add, List.getElem?_cons_zero, Option.bind_some]
    rw [List.getElem?_append_left (by omega)]
  | r :: L, i + 1, j, h, hi, hj => by
    have h1 := h r List.mem_cons_self
    have ih := flat_get w L i j (fun q hq => h q (List.mem_cons_of_mem _ hq)) (by simpa using hi) hj
    simp only [List.flatten_cons, List.getElem?_cons_succ]
    have e : (i + 1) * w + j = r.length + (i * w + j) := by rw [Nat.add_mul, h1]; omega
    rw [e, List.getElem?_append_right (by omega), Nat.add_sub_cancel_left]
    exact ih
structure Gnd (a : ByteArray) : Prop where
  w1 : 1 ≤ wideT a
  w7 : wideT a ≤ 7
  h1 : 1 ≤ highT a
  h7 : highT a ≤ 7
  rows : ∀ r ∈ rowsL a, r.length = wideT a
theorem gnd_of {a : ByteArray} (h : groundB a = true) : Gnd a := by
  unfold groundB szR at h
  simp only [Bool.and_eq_true, decide_eq_true_eq] at h
  obtain ⟨⟨hr, ⟨⟨⟨g1, g2⟩, g3⟩, g4⟩, g5⟩, _⟩ := h
  obtain ⟨_, h2⟩ := (rowsFit_iff a).1 hr
  exact ⟨g3, g4, g1, g2, fun r hr => by
    rcases List.mem_cons.1 hr with rfl | hr
    · rfl
    · exact h2 r hr⟩
theorem rowsL_length (a : ByteArray) : (rowsL a).length = highT a := rfl
theorem rowsT_get (a : ByteArray) (i : Nat) (h : i < (rowsT a).length) (h' : i < (rowsL a).length) : ((rowsT a)[i]).data.toList = (rowsL a)[i] := by
  have := rowsT_data a
  have e : ((rowsT a).map (·.data.toList))[i]'(by simpa using h) = (rowsL a)[i] := by
    simp only [this]; rfl
  rwa [List.getElem_map] at e
theorem flatT_eq (a : ByteArray) : flatT a.data.toList = (rowsL a).flatten := rfl
/-- Is there a cell? -/
def hasB (a : ByteArray) (x y : Int) : Bool := decide (0 ≤ y) && decide (y ≤ (highT a : Int) - 1) && (decide (0 ≤ x) && decide (x ≤ (wideT a : Int) - 1))
/-- The cell's byte. -/
def cellU (a : ByteArray) (x y : Int) : UInt8 := ((rowsL a).getD y.toNat []).getD x.toNat 0
def cellN (a : ByteArray) (x y : Int) : Int := ((cellU a x y).toNat : Int)
theorem hasB_iff (a : ByteArray) (x y : Int) : hasB a x y = true ↔ (0 ≤ y ∧ y < (highT a : Int)) ∧ (0 ≤ x ∧ x < (wideT a : Int)) := by
  unfold hasB
  simp only [Bool.and_eq_true, decide_eq_true_eq]
  omega
theorem gr_size {a : ByteArray} (g : Gnd a) (i : Nat) (h : i < (rowsT a).length) : ((rowsT a)[i]).size = wideT a := by
  have h' : i < (rowsL a).length := by rw [rowsL_length, ← rowsT_length]; exact h
  rw [← gr_dlen, rowsT_get a i h h']
  exact g.rows _ (List.getElem_mem h')
theorem has_eq {a : ByteArray} (g : Gnd a) (x y : Int) : impl_grid_has.f (rowsT a) x y = some (hasB a x y) := by
  have hl := rowsT_length a
  have h0 : 0 < (rowsT a).length := by rw [hl]; exact g.h1
  have e0 : rdOf ByteArray.empty (rowsT a) 0 = (rowsT a)[0] := gr_rdB (rowsT a) 0 h0
  have e1 := gr_size g 0 h0
  have g1 := g.h7
  have g2 := g.w7
  unfold impl_grid_has.f
  rw [gr_in_eq, hl, e0, e1]
  have w1 : wrap64 ((highT a : Int) - 1) = (highT a : Int) - 1 := by unfold wrap64; omega
  have w2 : wrap64 ((wideT a : Int) - 1) = (wideT a : Int) - 1 := by unfold wrap64; omega
  rw [w1, w2]
  simp only [Option.bind_some]
  have g0 := g.h1
  unfold hasB
  by_cases h : (decide (0 ≤ y) && decide (y ≤ (highT a : Int) - 1)) = true
  · rw [if_pos h, if_pos (by omega), gr_in_eq, h, Bool.true_and]; rfl
  · rw [if_neg h, Bool.eq_false_iff.2 h, Bool.false_and]
theorem at_eq {a : ByteArray} (g : Gnd a) (x y : Int) (h : hasB a x y = true) : impl_grid_at.f (rowsT a) x y = some (cellN a x y) := by
  obtain ⟨⟨h1, h2⟩, h3, h4⟩ := (hasB_iff a x y).1 h
  obtain ⟨i, rfl⟩ := Int.eq_ofNat_of_zero_le h1
  obtain ⟨j, rfl⟩ := Int.eq_ofNat_of_zero_le h3
  have hl := rowsT_length a
  have hi : i < (rowsT a).length := by omega
  have hi' : i < (rowsL a).length := by rw [rowsL_length]; omega
  have hs := gr_size g i hi
  have hr := rowsT_get a i hi hi'
  have hw := g.rows _ (List.getElem_mem hi')
  unfold impl_grid_at.f
  rw [has_eq g, h, gr_rdB (rowsT a) i hi]
  simp only [Option.bind_some, if_true]
  rw [if_pos (by omega), if_pos (by omega), if_pos (by omega), if_pos (by rw [hs]; omega)]
  have hj : j < ((rowsT a)[i]).data.toList.length := by rw [gr_dlen, hs]; omega
  rw [gr_bt _ j hj]
  congr 1
  unfold cellN cellU
  have e : (rowsL a).getD i [] = (rowsL a)[i] := by rw [List.getD_eq_getElem?_getD, List.getElem?_eq_getElem hi']; rfl
  have e2 : ((rowsT a)[i]).data.toList[j] = ((rowsL a)[i])[j]'(by rw [← hr]; exact hj) := by simp only [hr]
  rw [e2, Int.toNat_natCast, Int.toNat_natCast, e, List.getD_eq_getElem?_getD, List.getElem?_eq_getElem (by rw [← hr]; exact hj)]
  rfl
theorem boCell_eq {a : ByteArray} (g : Gnd a) (cs : List Int) (x y : Int) : spec_boCell.f (wideT a : Int) (highT a : Int) cs x y = some (hasB a x y) := by
  have g1 := g.h7
  have g2 := g.w7
  unfold spec_boCell.f
  have w1 : wrap64 ((highT a : Int) - 1) = (highT a : Int) - 1 := by unfold wrap64; omega
  have w2 : wrap64 ((wideT a : Int) - 1) = (wideT a : Int) - 1 := by unfold wrap64; omega
  rw [w1, w2, bx_specIn, bx_specIn]
  simp only [Option.bind_some]
  unfold hasB
  by_cases h : (decide (0 ≤ x) && decide (x ≤ (wideT a : Int) - 1)) = true
  · rw [if_pos h, h, Bool.and_true]
  · rw [if_neg h, Bool.eq_false_iff.2 h, Bool.and_false]
/-- Where the reference looks a cell up. -/
theorem spec_at {a : ByteArray} (g : Gnd a) (x y : Int) (h : hasB a x y = true) :
    0 ≤ wrap64 (wrap64 (y * (wideT a : Int)) + x) ∧ wrap64 (wrap64 (y * (wideT a : Int)) + x) < ((numsOf (flatT a.data.toList)).length : Int) ∧ rd (numsOf (flatT a.data.toList)) (wrap64 (wrap64 (y * (wideT a : Int)) + x)) = cellN a x y := by
  obtain ⟨⟨h1, h2⟩, h3, h4⟩ := (hasB_iff a x y).1 h
  obtain ⟨i, rfl⟩ := Int.eq_ofNat_of_zero_le h1
  obtain ⟨j, rfl⟩ := Int.eq_ofNat_of_zero_le h3
  have g1 := g.h7
  have g2 := g.w7
  have hi' : i < (rowsL a).length := by rw [rowsL_length]; omega
  have hf := flat_get (wideT a) (rowsL a) i j g.rows hi' (by omega)
  have hw := g.rows _ (List.getElem_mem hi')
  have hj : j < ((rowsL a)[i]).length := by omega
  rw [List.getElem?_eq_getElem hi', Option.bind_some, List.getElem?_eq_getElem hj] at hf
  have hm : i * wideT a ≤ 7 * 7 := Nat.mul_le_mul (by omega) g2
  have ec : ((i : Int) * (wideT a : Int)) = ((i * wideT a : Nat) : Int) := by push_cast; rfl
  rw [ec]
  have e : wrap64 (wrap64 ((i * wideT a : Nat) : Int) + (j : Int)) = ((i * wideT a + j : Nat) : Int) := by
    generalize i * wideT a = m at *
    unfold wrap64; omega
  rw [e, flatT_eq]
  obtain ⟨hlt, hv⟩ := List.getElem?_eq_some_iff.1 hf
  refine ⟨by omega, ?_, ?_⟩
  · unfold numsOf
    rw [List.length_map]; omega
  · unfold rd numsOf cellN cellU
    rw [Int.toNat_natCast, List.getD_eq_getElem?_getD, List.getElem?_map, hf, Int.toNat_natCast, Int.toNat_natCast, List.getD_eq_getElem?_getD (l := rowsL a), List.getElem?_eq_getElem hi']
    simp only [Option.map_some, Option.getD_some]
    rw [List.getD_eq_getElem?_getD, List.getElem?_eq_getElem hj]
    rfl
/-- A cell that a box may lie on. -/
def okC (a : ByteArray) (x y : Int) : Bool := hasB a x y && !(cellN a x y == 35)
theorem isBox1_eq {a : ByteArray} (g : Gnd a) (x y : Int) : isBox1.f (rowsT a) x y = some (!okC a x y) := by
  unfold isBox1.f okC
  rw [has_eq g, Option.bind_some]
  cases h : hasB a x y with
  | true => rw [if_pos rfl, at_eq g x y h]; simp
  | false => rw [if_neg (by decide)]; rfl
def cellsB (x y p : Int) : List (Int × Int) := if p = 1 then [(x, y), (wrap64 (x + 1), y)] else if p = 2 then [(x, y), (x, wrap64 (y + 1))] else [(x, y)]
/-- A box lies on the ground. -/
def boxB (a : ByteArray) (x y p : Int) : Bool := (decide (0 ≤ p) && decide (p ≤ 2)) && !(decide (p = 0) && cellN a x y == 45) && (cellsB x y p).all fun c => okC a c.1 c.2
theorem boxB_has {a : ByteArray} {x y p : Int} (h : boxB a x y p = true) : hasB a x y = true := by
  unfold boxB at h
  simp only [Bool.and_eq_true] at h
  have h2 := h.2
  unfold cellsB at h2
  have : okC a x y = true := by
    split at h2
    · simp only [List.all_cons, Bool.and_eq_true] at h2; exact h2.1
    · split at h2
      · simp only [List.all_cons, Bool.and_eq_true] at h2; exact h2.1
      · simp only [List.all_cons, Bool.and_eq_true] at h2; exact h2.1
  unfold okC at this
  simp only [Bool.and_eq_true] at this
  exact this.1
theorem any_eq {a : ByteArray} (g : Gnd a) (l : List S96) : isBox1_any.f l (rowsT a) = some (!(l.all fun c => okC a c.f0 c.f1)) := by
  unfold isBox1_any.f
  rw [if_pos (by rw [List.all_eq_true]; intro c _; rw [isBox1_eq g]; rfl)]
  congr 1
  induction l with
  | nil => rfl
  | cons c l ih =>
    rw [List.any_cons, List.all_cons, ih, isBox1_eq g]
    simp
theorem isBox_j0 {a : ByteArray} (g : Gnd a) (b : Bool) (x y p : Int) : Ev (fun k => impl_grid_isBox.j0 k b (rowsT a) x y p) (!b && (cellsB x y p).all fun c => okC a c.1 c.2) := by
  refine Ev.step (f := fun k => _) (fun k => by rw [impl_grid_isBox.j0]) ?_
  cases b with
  | true => exact Ev.pos rfl (Ev.now _)
  | false =>
    refine Ev.neg (by decide) ?_
    unfold impl_Box_cells.f cellsB
    by_cases h1 : p = 1
    · rw [if_pos h1, if_pos h1]
      refine Ev.bindc rfl (Ev.bindc (any_eq g _) (Ev.some_ ?_))
      simp
    · rw [if_neg h1, if_neg h1]
      by_cases h2 : p = 2
      · rw [if_pos h2, if_pos h2]
        refine Ev.bindc rfl (Ev.bindc (any_eq g _) (Ev.some_ ?_))
        simp
      · rw [if_neg h2, if_neg h2]
        refine Ev.bindc rfl (Ev.bindc (any_eq g _) (Ev.some_ ?_))
        simp
theorem isBox_ev {a : ByteArray} (g : Gnd a) (x y p : Int) : Ev (fun k => impl_grid_isBox.f k (rowsT a) x y p) (boxB a x y p) := by
  unfold impl_grid_isBox.f
  refine Ev.bindc (gr_in_eq _ _ _) ?_
  cases hp : (decide (0 ≤ p) && decide (p ≤ 2)) with
  | false =>
    refine Ev.neg (by decide) ?_
    have e : boxB a x y p = false := by unfold boxB; rw [hp]; rfl
    rw [e]
    exact isBox_j0 g true x y p
  | true =>
    refine Ev.pos rfl (Ev.bindc (has_eq g x y) ?_)
    cases hh : hasB a x y with
    | false =>
      refine Ev.neg (by decide) ?_
      have e : boxB a x y p = false := by
        cases hb : boxB a x y p with
        | false => rfl
        | true => rw [boxB_has hb] at hh; cases hh
      rw [e]
      exact isBox_j0 g true x y p
    | true =>
      refine Ev.pos rfl ?_
      by_cases h0 : p = 0
      · refine Ev.pos h0 (Ev.bindc (at_eq g x y hh) ?_)
        have := isBox_j0 g (cellN a x y == 45) x y p
        have e : boxB a x y p = (!(cellN a x y == 45) && (cellsB x y p).all fun c => okC a c.1 c.2) := by
          unfold boxB; rw [hp, Bool.true_and, decide_eq_true h0, Bool.true_and]
        rw [e]
        exact this
      · refine Ev.neg h0 ?_
        have := isBox_j0 g false x y p
        have e : boxB a x y p = (!false && (cellsB x y p).all fun c => okC a c.1 c.2) := by
          unfold boxB; rw [hp, Bool.true_and, decide_eq_false h0, Bool.false_and]
        rw [e]
        exact this
/-- One cell's round in the reference's test. -/
theorem bx_round {a : ByteArray} (g : Gnd a) (q : Nat) (cl : List Int) (hq : q + 1 < cl.length) (hc : cl.length ≤ 4) (x y p : Int) (R : Bool)
    (hR : Ev (fun k => spec_bxGood.l0 k ((q + 2 : Nat) : Int) cl (wideT a : Int) (highT a : Int) (numsOf (flatT a.data.toList)) x y p) R) :
    Ev (fun k => spec_bxGood.l0 k (q : Int) cl (wideT a : Int) (highT a : Int) (numsOf (flatT a.data.toList)) x y p) (okC a cl[q] cl[q + 1] && R) := by
  have w1 : wrap64 ((q : Int) + 1) = ((q + 1 : Nat) : Int) := by unfold wrap64; omega
  have w2 : wrap64 ((q : Int) + 2) = ((q + 2 : Nat) : Int) := by unfold wrap64; omega
  have r0 : rd cl (q : Int) = cl[q] := by unfold rd; rw [Int.toNat_natCast, List.getD_eq_getElem?_getD, List.getElem?_eq_getElem (by omega)]; rfl
  have r1 : rd cl ((q + 1 : Nat) : Int) = cl[q + 1] := by unfold rd; rw [Int.toNat_natCast, List.getD_eq_getElem?_getD, List.getElem?_eq_getElem (by omega)]; rfl
  refine Ev.step (f := fun k => _) (fun k => by rw [spec_bxGood.l0]) ?_
  rw [w1, w2, r0, r1]
  generalize cl[q] = u
  generalize cl[q + 1] = v
  refine Ev.pos (by omega) (Ev.pos (by omega) (Ev.pos (by omega) (Ev.pos (by omega) (Ev.bindc (boCell_eq g _ u v) ?_))))
  unfold okC
  cases hh : hasB a u v with
  | false => exact Ev.neg (by decide) (Ev.now _)
  | true =>
    obtain ⟨s1, s2, s3⟩ := spec_at g u v hh
    refine Ev.pos rfl (Ev.pos s1 (Ev.pos s2 ?_))
    rw [s3]
    by_cases h35 : cellN a u v = 35
    · refine Ev.pos h35 (Ev.some_ ?_)
      rw [h35]; rfl
    · refine Ev.neg h35 ?_
      have : (cellN a u v == 35) = false := by simpa using h35
      rw [this]
      exact hR
theorem bx_last {a : ByteArray} (g : Gnd a) (cl : List Int) (x y p : Int) (hh : hasB a x y = true) :
    Ev (fun k => spec_bxGood.l0 k (cl.length : Int) cl (wideT a : Int) (highT a : Int) (numsOf (flatT a.data.toList)) x y p) (!(decide (p = 0) && cellN a x y == 45)) := by
  refine Ev.step (f := fun k => _) (fun k => by rw [spec_bxGood.l0]) ?_
  refine Ev.neg (by omega) ?_
  obtain ⟨s1, s2, s3⟩ := spec_at g x y hh
  by_cases h0 : p = 0
  · refine Ev.pos h0 (Ev.pos s1 (Ev.pos s2 (Ev.some_ ?_)))
    rw [s3, decide_eq_true h0, Bool.true_and]; rfl
  · refine Ev.neg h0 (Ev.some_ ?_)
    rw [decide_eq_false h0]; rfl
theorem bx_fail {a : ByteArray} (g : Gnd a) (t : List Int) (ht : t.length ≤ 2) (x y x' y' p : Int) (hh : hasB a x y = false) :
    Ev (fun k => spec_bxGood.l0 k 0 (x :: y :: t) (wideT a : Int) (highT a : Int) (numsOf (flatT a.data.toList)) x' y' p) false := by
  have w1 : wrap64 (0 + 1) = 1 := by unfold wrap64; omega
  have r0 : rd (x :: y :: t) 0 = x := rfl
  have r1 : rd (x :: y :: t) 1 = y := rfl
  have hl : ((x :: y :: t).length : Int) = (t.length : Int) + 2 := by simp; omega
  refine Ev.step (f := fun k => _) (fun k => by rw [spec_bxGood.l0]) ?_
  rw [w1, r0, r1, hl]
  refine Ev.pos (by omega) (Ev.pos (by omega) (Ev.pos (by omega) (Ev.pos (by omega) (Ev.bindc (boCell_eq g _ x y) ?_))))
  rw [hh]
  exact Ev.neg (by decide) (Ev.now _)
def tailI (x y p : Int) : List Int := if p = 1 then [wrap64 (x + 1), y] else if p = 2 then [x, wrap64 (y + 1)] else []
theorem bxCells_eq (x y p : Int) : spec_bxCells.f x y p = some (x :: y :: tailI x y p) := by
  unfold spec_bxCells.f tailI
  by_cases h1 : p = 1
  · simp [h1]
  · by_cases h2 : p = 2
    · simp [h2]
    · simp [h1, h2]
theorem bxPose_eq (x y p : Int) : spec_bxPose.f x y p = some ((decide (0 ≤ x) && decide (x ≤ 6)) && ((decide (0 ≤ y) && decide (y ≤ 6)) && (decide (0 ≤ p) && decide (p ≤ 2)))) := by
  unfold spec_bxPose.f
  rw [bx_specIn, bx_specIn, bx_specIn]
  simp only [Option.bind_some]
  cases (decide (0 ≤ x) && decide (x ≤ 6)) <;> cases (decide (0 ≤ y) && decide (y ≤ 6)) <;> rfl
theorem bxGood_ev {a : ByteArray} (g : Gnd a) (x y p : Int) : Ev (fun k => spec_bxGood.f k (wideT a : Int) (highT a : Int) (numsOf (flatT a.data.toList)) x y p) (boxB a x y p) := by
  have g1 := g.h7
  have g2 := g.w7
  have hno : hasB a x y = false → boxB a x y p = false := fun hh => by
    cases hb : boxB a x y p with
    | false => rfl
    | true => rw [boxB_has hb] at hh; cases hh
  unfold spec_bxGood.f
  refine Ev.bindc (bxPose_eq x y p) ?_
  cases hp : (decide (0 ≤ p) && decide (p ≤ 2)) with
  | false =>
    rw [Bool.and_false, Bool.and_false]
    refine Ev.neg (by decide) (Ev.some_ ?_)
    unfold boxB; rw [hp]; rfl
  | true =>
    rw [Bool.and_true]
    by_cases hxy : ((decide (0 ≤ x) && decide (x ≤ 6)) && (decide (0 ≤ y) && decide (y ≤ 6))) = true
    · rw [hxy]
      refine Ev.pos rfl (Ev.bindc (bxCells_eq x y p) ?_)
      have e : boxB a x y p = ((cellsB x y p).all (fun c => okC a c.1 c.2) && !(decide (p = 0) && cellN a x y == 45)) := by
        unfold boxB; rw [hp, Bool.true_and, Bool.and_comm]
      cases hh : hasB a x y with
      | false =>
        rw [hno hh]
        refine bx_fail g _ ?_ x y x y p hh
        unfold tailI
        split
        · simp
        · split <;> simp
      | true =>
        rw [e]
        unfold tailI cellsB
        by_cases h1 : p = 1
        · simp only [if_pos h1]
          have := bx_round g 0 [x, y, wrap64 (x + 1), y] (by simp) (by simp) x y p _ (bx_round g 2 [x, y, wrap64 (x + 1), y] (by simp) (by simp) x y p _ (bx_last g [x, y, wrap64 (x + 1), y] x y p hh))
          simpa [Bool.and_assoc] using this
        · by_cases h2 : p = 2
          · simp only [if_neg h1, if_pos h2]
            have := bx_round g 0 [x, y, x, wrap64 (y + 1)] (by simp) (by simp) x y p _ (bx_round g 2 [x, y, x, wrap64 (y + 1)] (by simp) (by simp) x y p _ (bx_last g [x, y, x, wrap64 (y + 1)] x y p hh))
            simpa [Bool.and_assoc] using this
          · simp only [if_neg h1, if_neg h2]
            have := bx_round g 0 [x, y] (by simp) (by simp) x y p _ (bx_last g [x, y] x y p hh)
            simpa [Bool.and_assoc] using this
    · rw [Bool.eq_false_iff.2 hxy]
      refine Ev.neg (by decide) (Ev.some_ ?_)
      refine (hno ?_).symm
      cases hh : hasB a x y with
      | false => rfl
      | true =>
        exfalso
        apply hxy
        obtain ⟨⟨h1, h2⟩, h3, h4⟩ := (hasB_iff a x y).1 hh
        simp only [Bool.and_eq_true, decide_eq_true_eq]
        omega
end Go.Proofs.YtbpfhpjbeomfcaaDoor

namespace Go.Proofs.YtbpfhpjbeomfcaaDoor.Pure
open Go.RowKit Go.Proofs.YtbpfhpjbeomfcaaDoor.P Go.Proofs.YtbpfhpjbeomfcaaDoorW.PrintWords Go.Proofs.YtbpfhpjbeomfcaaDoorW.PrintLast
set_option linter.unusedVariables false
set_option linter.unusedSimpArgs false

variable {a : ByteArray}
abbrev csOf (a : ByteArray) : List Int := numsOf (flatT a.data.toList)
abbrev S0 (a : ByteArray) (n : Int) (y : Nat) (r : Int × Bool) : Prop := Ev (fun k => spec_PlacesOnGround.l0 k n (y : Int) (wideT a : Int) (highT a : Int) (csOf a)) r
abbrev I0 (a : ByteArray) (n : Int) (y : Nat) (r : Int × Bool) : Prop := Ev (fun k => impl_PlacesOnGround.l0 k n (rowsT a) (highT a : Int) (y : Int)) r
abbrev S1 (a : ByteArray) (n : Int) (y x : Nat) (r : Int × Bool) : Prop := Ev (fun k => spec_PlacesOnGround.l1 k n (y : Int) (x : Int) (wideT a : Int) (highT a : Int) (csOf a)) r
abbrev I1 (a : ByteArray) (n : Int) (y x : Nat) (r : Int × Bool) : Prop := Ev (fun k => impl_PlacesOnGround.l1 k n (y : Int) (rowsT a) (highT a : Int) (y : Int) (wideT a : Int) (x : Int)) r
abbrev S2 (a : ByteArray) (n : Int) (y x q : Nat) (r : Int × Bool) : Prop := Ev (fun k => spec_PlacesOnGround.l2 k n (y : Int) (x : Int) (q : Int) (wideT a : Int) (highT a : Int) (csOf a)) r
abbrev I2 (a : ByteArray) (n : Int) (y x q : Nat) (r : Int × Bool) : Prop := Ev (fun k => impl_PlacesOnGround.l2 k n (y : Int) (x : Int) (rowsT a) (highT a : Int) (y : Int) (wideT a : Int) (x : Int) (q : Int)) r
theorem l2_both (g : Gnd a) (y x : Nat) (hx : x ≤ 7) (hn : ∀ n, ∃ r, S1 a n y (x + 1) r ∧ I1 a n y (x + 1) r) (d : Nat) : ∀ (q : Nat) (n : Int), q ≤ 3 → 3 - q = d → ∃ r, S2 a n y x q r ∧ I2 a n y x q r := by
  induction d with
  | zero =>
    intro q n hq hd
    obtain ⟨r, h1, h2⟩ := hn n
    have w : wrap64 ((x : Int) + 1) = ((x + 1 : Nat) : Int) := by unfold wrap64; omega
    refine ⟨r, Ev.step (f := fun k => _) (fun k => by rw [spec_PlacesOnGround.l2]) ?_, Ev.step (f := fun k => _) (fun k => by rw [impl_PlacesOnGround.l2]) ?_⟩
    · refine Ev.neg (by omega) ?_
      rw [w]; exact h1
    · refine Ev.neg (by omega) ?_
      rw [w]; exact h2
  | succ d ih =>
    intro q n hq hd
    have w : wrap64 ((q : Int) + 1) = ((q + 1 : Nat) : Int) := by unfold wrap64; omega
    have hs := bxGood_ev g (x : Int) (y : Int) (q : Int)
    have hi := isBox_ev g (x : Int) (y : Int) (q : Int)
    cases hb : boxB a (x : Int) (y : Int) (q : Int) with
    | true =>
      rw [hb] at hs hi
      obtain ⟨r, h1, h2⟩ := ih (q + 1) (wrap64 (n + 1)) (by omega) (by omega)
      refine ⟨r, Ev.step (f := fun k => _) (fun k => by rw [spec_PlacesOnGround.l2]) ?_, Ev.step (f := fun k => _) (fun k => by rw [impl_PlacesOnGround.l2]) ?_⟩
      · refine Ev.pos (by omega) (Ev.bind hs (Ev.pos rfl ?_))
        rw [w]; exact h1
      · refine Ev.pos (by omega) (Ev.bind hi (Ev.pos rfl ?_))
        rw [w]; exact h2
    | false =>
      rw [hb] at hs hi
      obtain ⟨r, h1, h2⟩ := ih (q + 1) n (by omega) (by omega)
      refine ⟨r, Ev.step (f := fun k => _) (fun k => by rw [spec_PlacesOnGround.l2]) ?_, Ev.step (f := fun k => _) (fun k => by rw [impl_PlacesOnGround.l2]) ?_⟩
      · refine Ev.pos (by omega) (Ev.bind hs (Ev.neg (by decide) ?_))
        rw [w]; exact h1
      · refine Ev.pos (by omega) (Ev.bind hi (Ev.neg (by decide) ?_))
        rw [w]; exact h2
theorem l1_both (g : Gnd a) (y : Nat) (hy : y ≤ 7) (hn : ∀ n, ∃ r, S0 a n (y + 1) r ∧ I0 a n (y + 1) r) (d : Nat) : ∀ (x : Nat) (n : Int), x ≤ wideT a → wideT a - x = d → ∃ r, S1 a n y x r ∧ I1 a n y x r := by
  have g2 := g.w7
  induction d with
  | zero =>
    intro x n hx hd
    obtain ⟨r, h1, h2⟩ := hn n
    have w : wrap64 ((y : Int) + 1) = ((y + 1 : Nat) : Int) := by unfold wrap64; omega
    refine ⟨r, Ev.step (f := fun k => _) (fun k => by rw [spec_PlacesOnGround.l1]) ?_, Ev.step (f := fun k => _) (fun k => by rw [impl_PlacesOnGround.l1]) ?_⟩
    · refine Ev.neg (by omega) ?_
      rw [w]; exact h1
    · refine Ev.neg (by omega) ?_
      rw [w]; exact h2
  | succ d ih =>
    intro x n hx hd
    obtain ⟨r, h1, h2⟩ := l2_both g y x (by omega) (fun n' => ih (x + 1) n' (by omega) (by omega)) 3 0 n (by omega) (by omega)
    refine ⟨r, Ev.step (f := fun k => _) (fun k => by rw [spec_PlacesOnGround.l1]) ?_, Ev.step (f := fun k => _) (fun k => by rw [impl_PlacesOnGround.l1]) ?_⟩
    · exact Ev.pos (by omega) h1
    · exact Ev.pos (by omega) h2
theorem l0_both (g : Gnd a) (d : Nat) : ∀ (y : Nat) (n : Int), y ≤ highT a → highT a - y = d → ∃ r, S0 a n y r ∧ I0 a n y r := by
  have g2 := g.h7
  have g1 := g.h1
  have hl := rowsT_length a
  have h0 : 0 < (rowsT a).length := by omega
  induction d with
  | zero =>
    intro y n hy hd
    refine ⟨(n, true), Ev.step (f := fun k => _) (fun k => by rw [spec_PlacesOnGround.l0]) ?_, Ev.step (f := fun k => _) (fun k => by rw [impl_PlacesOnGround.l0]) ?_⟩
    · exact Ev.neg (by omega) (Ev.now _)
    · exact Ev.neg (by omega) (Ev.now _)
  | succ d ih =>
    intro y n hy hd
    obtain ⟨r, h1, h2⟩ := l1_both g y (by omega) (fun n' => ih (y + 1) n' (by omega) (by omega)) (wideT a) 0 n (by omega) (by omega)
    refine ⟨r, Ev.step (f := fun k => _) (fun k => by rw [spec_PlacesOnGround.l0]) ?_, Ev.step (f := fun k => _) (fun k => by rw [impl_PlacesOnGround.l0]) ?_⟩
    · exact Ev.pos (by omega) h1
    · refine Ev.pos (by omega) (Ev.pos (by omega) ?_)
      rw [show rdOf ByteArray.empty (rowsT a) 0 = (rowsT a)[0] from gr_rdB (rowsT a) 0 h0, gr_size g 0 h0]
      exact h2
theorem FnExactPlacesOnGround : laws_FnExactPlacesOnGround.Pure := by
  intro a _
  refine Ev.rounds (r := true) ?_
  unfold laws_FnExactPlacesOnGround.f spec_PlacesOnGround.f impl_PlacesOnGround.f
  by_cases ha : a.size ≤ 1048576
  · obtain ⟨rows, h1, hr⟩ := ground_ev a ha
    have h2 := bxRead_ev a
    refine Ev.neg (by omega) ?_
    cases hg : groundB a with
    | false =>
      rw [hg] at h1
      rw [hg, if_neg (by decide)] at h2
      refine Ev.bind (Ev.bind h2 (Ev.neg (by simp [badG]) (Ev.now _))) (Ev.bind (Ev.bind h1 (Ev.neg (by simp) (Ev.now _))) ?_)
      exact Ev.pos rfl (Ev.neg (by simp) (Ev.now _))
    | true =>
      have g := gnd_of hg
      have e := hr hg
      subst e
      rw [hg] at h1
      rw [hg, if_pos rfl] at h2
      obtain ⟨r, h3, h4⟩ := l0_both g (highT a) 0 0 (by omega) (by omega)
      have hl := rowsT_length a
      refine Ev.bind (Ev.bind h2 (Ev.pos rfl h3)) (Ev.bind (a := r) (Ev.bind h1 (Ev.pos rfl ?_)) ?_)
      · rw [hl]; exact h4
      · exact Ev.pos rfl (Ev.neg (by simp) (Ev.now _))
  · exact Ev.pos (by omega) (Ev.now _)

end Go.Proofs.YtbpfhpjbeomfcaaDoor.Pure
