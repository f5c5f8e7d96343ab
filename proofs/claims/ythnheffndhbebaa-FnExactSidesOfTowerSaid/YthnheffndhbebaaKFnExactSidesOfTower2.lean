/- The program's SidesOfTower returns what the reference's returns, for all lists of dice (the law lets longer lists by). No further condition. -/
import Derived.Test.YthnheffndhbebaaKFnExactSidesOfTower0
import Derived.Test.YthnheffndhbebaaKFnExactSidesOfTower1

namespace Go.Proofs.Ythnheffndhbebaa.P
open Go.RowKit Go.Proofs.YthnheffndhbebaaW.PrintWords Go.Proofs.YthnheffndhbebaaW.PrintLast Go.Proofs.YthnheffndhbebaaW.PrintMore
attribute [local go_sem] max2_int min2_int max_two min_two max_three min_three max_four min_four   -- for this text's walks alone
set_option linter.unusedVariables false
set_option linter.unusedSimpArgs false

/-! ### laws_heldDieS: function 44 -/
def laws_heldDieS.l0 : Nat → List (S40) → Int → Int → Option (Int)
  | 0, _, _, _ => none
  | k + 1, x0, x1, x5 => if x5 < (x0.length : Int) then (if 0 ≤ x5 then (if ((rd_T40 x0 x5).f0) = x1 then (if ((rd_T40 x0 x5).f1) = (wrap64 (x1 + 1)) then (if ((rd_T40 x0 x5).f2) = (wrap64 ((wrap64 (x1 + 1)) + 1)) then (if ((rd_T40 x0 x5).f3) = (wrap64 ((wrap64 ((wrap64 (x1 + 1)) + 1)) + 1)) then (if ((rd_T40 x0 x5).f4) = (wrap64 ((wrap64 ((wrap64 ((wrap64 (x1 + 1)) + 1)) + 1)) + 1)) then (if ((rd_T40 x0 x5).f5) = (wrap64 ((wrap64 ((wrap64 ((wrap64 ((wrap64 (x1 + 1)) + 1)) + 1)) + 1)) + 1)) then (laws_heldDieS.l0 k x0 (wrap64 ((wrap64 ((wrap64 ((wrap64 ((wrap64 ((wrap64 (x1 + 1)) + 1)) + 1)) + 1)) + 1)) + 1)) (wrap64 (x5 + 1))) else (some (-1))) else (some (-1))) else (some (-1))) else (some (-1))) else (some (-1))) else (some (-1))) else (none)) else (some x1)
def laws_heldDieS.f (k : Nat) (l0 : List (S40)) (a1 : Int) : Option (Int) := laws_heldDieS.l0 k l0 a1 0
theorem laws_heldDieS.mono_l : ∀ k, (∀ y0 y1 y2, LeO (laws_heldDieS.l0 k y0 y1 y2) (laws_heldDieS.l0 (k + 1) y0 y1 y2))
  | 0 => fun _ _ _ r h => by simp [laws_heldDieS.l0] at h
  | k + 1 => by
    have ih0 := laws_heldDieS.mono_l k
    · intro y0 y1 y2
      unfold laws_heldDieS.l0
      repeat' first
      | (with_reducible exact ih0 _ _ _)
      | (with_reducible exact LeO.refl _)
      | (with_reducible exact LeO.none _)
      | (with_reducible refine LeO.ite ?_ ?_)
      | (with_reducible refine LeO.bind ?_ (fun _ => ?_))
      | exact ih0 _ _ _
      | exact LeO.none _
      | refine LeO.ite ?_ ?_
      | refine LeO.bind ?_ (fun _ => ?_)
theorem laws_heldDieS.mono : ∀ a0 a1 k, LeO (laws_heldDieS.f k a0 a1) (laws_heldDieS.f (k + 1) a0 a1) := by
  intro a0 a1 k
  have ih0 := laws_heldDieS.mono_l k
  unfold laws_heldDieS.f
  repeat' first
      | (with_reducible exact ih0 _ _ _)
      | (with_reducible exact LeO.refl _)
      | (with_reducible exact LeO.none _)
      | (with_reducible refine LeO.ite ?_ ?_)
      | (with_reducible refine LeO.bind ?_ (fun _ => ?_))
      | exact ih0 _ _ _
      | exact LeO.none _
      | refine LeO.ite ?_ ?_
      | refine LeO.bind ?_ (fun _ => ?_)
set_option maxHeartbeats 8000000 in
set_option maxRecDepth 100000 in
theorem laws_heldDieS.calls (k : Nat) (A0 : Option Addr) (c0 : Nat) (l0 : List (S40)) (a1 : Int) (r : Int) (w : World) (hr0 : Kd.C k40 w A0 l0.length l0) (hc0 : l0.length ≤ c0) (h : laws_heldDieS.f k l0 a1 = some r) :
    Calls Try.prog 44 #[.slice A0 l0.length c0, .int .i64 a1] w fun e w' => e = .returned (.int .i64 r) ∧ Drawn0 w w' := by
  have HR0 := Aside0.mk hr0
  have HC0 := Aside0.mk hc0
  clear hr0 hc0
  have H : (laws_heldDieS.l0 k l0 a1 0) = some r := h
  clear h
  have H' := Aside0.mk H
  clear H
  go_enter Try.func44, Try.ntmps44
  go_wp2
  go_loopg [1, 5] k (fun kq v1 v5 w' => ∃ (x1_1 : Int) (x5_1 : Int), v1 = .int .i64 x1_1 ∧ v5 = .int .i64 x5_1 ∧ Aside0 (laws_heldDieS.l0 kq l0 x1_1 x5_1 = some r) ∧ Aside0 (kq ≤ k) ∧ Drawn0 w w')
  case atStart => exact ⟨(a1), (0), (by first | rfl | (simp; done) | (simp [*]; done)), (by first | rfl | (simp; done) | (simp [*]; done)), H', ⟨Nat.le_refl _⟩, by repeat (first | exact Drawn0.refl _ | apply Drawn0.step)⟩
  case round =>
    clear H'
    try clear p2
    obtain ⟨x1_1, x5_1, rfl, rfl, HA, HK1, ⟨m1, rfl⟩⟩ := hrel
    cases gk with
    | zero => exact absurd HA.out (by simp [laws_heldDieS.l0])
    | succ k1 =>
      have H := HA.out
      clear HA
      simp only [laws_heldDieS.l0] at H
      by_cases c3 : x5_1 < (l0.length : Int)
      · rw [if_pos c3] at H
        have c3b0 : decide (x5_1 < (l0.length : Int)) = true := decide_eq_true c3
        clear c3
        by_cases c4 : 0 ≤ x5_1
        · rw [if_pos c4] at H
          have c4b0 : decide (0 ≤ x5_1) = true := decide_eq_true c4
          clear c4
          by_cases c5 : ((rd_T40 l0 x5_1).f0) = x1_1
          · rw [if_pos c5] at H
            have c5b0 : (((rd_T40 l0 x5_1).f0) == x1_1) = true := beq_iff_eq.mpr c5
            have c5b1 : (((rd_T40 l0 x5_1).f0) != x1_1) = false := bne_eq_false_iff_eq.mpr c5
            clear c5
            by_cases c6 : ((rd_T40 l0 x5_1).f1) = (wrap64 (x1_1 + 1))
            · rw [if_pos c6] at H
              have c6b0 : (((rd_T40 l0 x5_1).f1) == (wrap64 (x1_1 + 1))) = true := beq_iff_eq.mpr c6
              have c6b1 : (((rd_T40 l0 x5_1).f1) != (wrap64 (x1_1 + 1))) = false := bne_eq_false_iff_eq.mpr c6
              clear c6
              by_cases c7 : ((rd_T40 l0 x5_1).f2) = (wrap64 ((wrap64 (x1_1 + 1)) + 1))
              · rw [if_pos c7] at H
                have c7b0 : (((rd_T40 l0 x5_1).f2) == (wrap64 ((wrap64 (x1_1 + 1)) + 1))) = true := beq_iff_eq.mpr c7
                have c7b1 : (((rd_T40 l0 x5_1).f2) != (wrap64 ((wrap64 (x1_1 + 1)) + 1))) = false := bne_eq_false_iff_eq.mpr c7
                clear c7
                by_cases c8 : ((rd_T40 l0 x5_1).f3) = (wrap64 ((wrap64 ((wrap64 (x1_1 + 1)) + 1)) + 1))
                · rw [if_pos c8] at H
                  have c8b0 : (((rd_T40 l0 x5_1).f3) == (wrap64 ((wrap64 ((wrap64 (x1_1 + 1)) + 1)) + 1))) = true := beq_iff_eq.mpr c8
                  have c8b1 : (((rd_T40 l0 x5_1).f3) != (wrap64 ((wrap64 ((wrap64 (x1_1 + 1)) + 1)) + 1))) = false := bne_eq_false_iff_eq.mpr c8
                  clear c8
                  by_cases c9 : ((rd_T40 l0 x5_1).f4) = (wrap64 ((wrap64 ((wrap64 ((wrap64 (x1_1 + 1)) + 1)) + 1)) + 1))
                  · rw [if_pos c9] at H
                    have c9b0 : (((rd_T40 l0 x5_1).f4) == (wrap64 ((wrap64 ((wrap64 ((wrap64 (x1_1 + 1)) + 1)) + 1)) + 1))) = true := beq_iff_eq.mpr c9
                    have c9b1 : (((rd_T40 l0 x5_1).f4) != (wrap64 ((wrap64 ((wrap64 ((wrap64 (x1_1 + 1)) + 1)) + 1)) + 1))) = false := bne_eq_false_iff_eq.mpr c9
                    clear c9
                    by_cases c10 : ((rd_T40 l0 x5_1).f5) = (wrap64 ((wrap64 ((wrap64 ((wrap64 ((wrap64 (x1_1 + 1)) + 1)) + 1)) + 1)) + 1))
                    · rw [if_pos c10] at H
                      have c10b0 : (((rd_T40 l0 x5_1).f5) == (wrap64 ((wrap64 ((wrap64 ((wrap64 ((wrap64 (x1_1 + 1)) + 1)) + 1)) + 1)) + 1))) = true := beq_iff_eq.mpr c10
                      have c10b1 : (((rd_T40 l0 x5_1).f5) != (wrap64 ((wrap64 ((wrap64 ((wrap64 ((wrap64 (x1_1 + 1)) + 1)) + 1)) + 1)) + 1))) = false := bne_eq_false_iff_eq.mpr c10
                      clear c10
                      have H' := Aside0.mk H
                      clear H
                      have p696 : 0 ≤ (x5_1 : Int) := of_decide_eq_true (by first | (with_reducible assumption) | assumption)
                      have q696 : x5_1 < (l0.length : Int) := of_decide_eq_true (by first | (with_reducible assumption) | assumption)
                      obtain ⟨ad696, e696, hx696_0, hx696_1, hx696_2, hx696_3, hx696_4, hx696_5⟩ := at_T40 HR0.out x5_1 p696 q696
                      cases e696
                      replace p696 := eq_true p696
                      replace q696 := eq_true q696
                      have p697 : 0 ≤ (x5_1 : Int) := of_decide_eq_true (by first | (with_reducible assumption) | assumption)
                      have q697 : x5_1 < (l0.length : Int) := of_decide_eq_true (by first | (with_reducible assumption) | assumption)
                      obtain ⟨ad697, e697, hx697_0, hx697_1, hx697_2, hx697_3, hx697_4, hx697_5⟩ := at_T40 HR0.out x5_1 p697 q697
                      obtain rfl : ad696 = ad697 := (by injection e697)
                      replace p697 := eq_true p697
                      replace q697 := eq_true q697
                      have p698 : 0 ≤ (x5_1 : Int) := of_decide_eq_true (by first | (with_reducible assumption) | assumption)
                      have q698 : x5_1 < (l0.length : Int) := of_decide_eq_true (by first | (with_reducible assumption) | assumption)
                      obtain ⟨ad698, e698, hx698_0, hx698_1, hx698_2, hx698_3, hx698_4, hx698_5⟩ := at_T40 HR0.out x5_1 p698 q698
                      obtain rfl : ad696 = ad698 := (by injection e698)
                      replace p698 := eq_true p698
                      replace q698 := eq_true q698
                      have p699 : 0 ≤ (x5_1 : Int) := of_decide_eq_true (by first | (with_reducible assumption) | assumption)
                      have q699 : x5_1 < (l0.length : Int) := of_decide_eq_true (by first | (with_reducible assumption) | assumption)
                      obtain ⟨ad699, e699, hx699_0, hx699_1, hx699_2, hx699_3, hx699_4, hx699_5⟩ := at_T40 HR0.out x5_1 p699 q699
                      obtain rfl : ad696 = ad699 := (by injection e699)
                      replace p699 := eq_true p699
                      replace q699 := eq_true q699
                      have p700 : 0 ≤ (x5_1 : Int) := of_decide_eq_true (by first | (with_reducible assumption) | assumption)
                      have q700 : x5_1 < (l0.length : Int) := of_decide_eq_true (by first | (with_reducible assumption) | assumption)
                      obtain ⟨ad700, e700, hx700_0, hx700_1, hx700_2, hx700_3, hx700_4, hx700_5⟩ := at_T40 HR0.out x5_1 p700 q700
                      obtain rfl : ad696 = ad700 := (by injection e700)
                      replace p700 := eq_true p700
                      replace q700 := eq_true q700
                      have p701 : 0 ≤ (x5_1 : Int) := of_decide_eq_true (by first | (with_reducible assumption) | assumption)
                      have q701 : x5_1 < (l0.length : Int) := of_decide_eq_true (by first | (with_reducible assumption) | assumption)
                      obtain ⟨ad701, e701, hx701_0, hx701_1, hx701_2, hx701_3, hx701_4, hx701_5⟩ := at_T40 HR0.out x5_1 p701 q701
                      obtain rfl : ad696 = ad701 := (by injection e701)
                      replace p701 := eq_true p701
                      replace q701 := eq_true q701
                      go_wp2
                      go_roundg k1
                      case measure => have := HK1.out; omega
                      case rel => exact ⟨(wrap64 ((wrap64 ((wrap64 ((wrap64 ((wrap64 ((wrap64 (x1_1 + 1)) + 1)) + 1)) + 1)) + 1)) + 1)), (wrap64 (x5_1 + 1)), (by first | rfl | (simp; done) | (simp [*]; done)), (by first | rfl | (simp; done) | (simp [*]; done)), H', ⟨by have := HK1.out; omega⟩, by repeat (first | exact Drawn0.refl _ | apply Drawn0.step)⟩
                    · rw [if_neg c10] at H
                      have c10b0 : (((rd_T40 l0 x5_1).f5) == (wrap64 ((wrap64 ((wrap64 ((wrap64 ((wrap64 (x1_1 + 1)) + 1)) + 1)) + 1)) + 1))) = false := beq_eq_false_iff_ne.mpr c10
                      have c10b1 : (((rd_T40 l0 x5_1).f5) != (wrap64 ((wrap64 ((wrap64 ((wrap64 ((wrap64 (x1_1 + 1)) + 1)) + 1)) + 1)) + 1))) = true := bne_iff_ne.mpr c10
                      obtain rfl := Option.some.inj H
                      have p696 : 0 ≤ (x5_1 : Int) := of_decide_eq_true (by first | (with_reducible assumption) | assumption)
                      have q696 : x5_1 < (l0.length : Int) := of_decide_eq_true (by first | (with_reducible assumption) | assumption)
                      obtain ⟨ad696, e696, hx696_0, hx696_1, hx696_2, hx696_3, hx696_4, hx696_5⟩ := at_T40 HR0.out x5_1 p696 q696
                      cases e696
                      replace p696 := eq_true p696
                      replace q696 := eq_true q696
                      have p697 : 0 ≤ (x5_1 : Int) := of_decide_eq_true (by first | (with_reducible assumption) | assumption)
                      have q697 : x5_1 < (l0.length : Int) := of_decide_eq_true (by first | (with_reducible assumption) | assumption)
                      obtain ⟨ad697, e697, hx697_0, hx697_1, hx697_2, hx697_3, hx697_4, hx697_5⟩ := at_T40 HR0.out x5_1 p697 q697
                      obtain rfl : ad696 = ad697 := (by injection e697)
                      replace p697 := eq_true p697
                      replace q697 := eq_true q697
                      have p698 : 0 ≤ (x5_1 : Int) := of_decide_eq_true (by first | (with_reducible assumption) | assumption)
                      have q698 : x5_1 < (l0.length : Int) := of_decide_eq_true (by first | (with_reducible assumption) | assumption)
                      obtain ⟨ad698, e698, hx698_0, hx698_1, hx698_2, hx698_3, hx698_4, hx698_5⟩ := at_T40 HR0.out x5_1 p698 q698
                      obtain rfl : ad696 = ad698 := (by injection e698)
                      replace p698 := eq_true p698
                      replace q698 := eq_true q698
                      have p699 : 0 ≤ (x5_1 : Int) := of_decide_eq_true (by first | (with_reducible assumption) | assumption)
                      have q699 : x5_1 < (l0.length : Int) := of_decide_eq_true (by first | (with_reducible assumption) | assumption)
                      obtain ⟨ad699, e699, hx699_0, hx699_1, hx699_2, hx699_3, hx699_4, hx699_5⟩ := at_T40 HR0.out x5_1 p699 q699
                      obtain rfl : ad696 = ad699 := (by injection e699)
                      replace p699 := eq_true p699
                      replace q699 := eq_true q699
                      have p700 : 0 ≤ (x5_1 : Int) := of_decide_eq_true (by first | (with_reducible assumption) | assumption)
                      have q700 : x5_1 < (l0.length : Int) := of_decide_eq_true (by first | (with_reducible assumption) | assumption)
                      obtain ⟨ad700, e700, hx700_0, hx700_1, hx700_2, hx700_3, hx700_4, hx700_5⟩ := at_T40 HR0.out x5_1 p700 q700
                      obtain rfl : ad696 = ad700 := (by injection e700)
                      replace p700 := eq_true p700
                      replace q700 := eq_true q700
                      have p701 : 0 ≤ (x5_1 : Int) := of_decide_eq_true (by first | (with_reducible assumption) | assumption)
                      have q701 : x5_1 < (l0.length : Int) := of_decide_eq_true (by first | (with_reducible assumption) | assumption)
                      obtain ⟨ad701, e701, hx701_0, hx701_1, hx701_2, hx701_3, hx701_4, hx701_5⟩ := at_T40 HR0.out x5_1 p701 q701
                      obtain rfl : ad696 = ad701 := (by injection e701)
                      replace p701 := eq_true p701
                      replace q701 := eq_true q701
                      go_wp2
                      go_ret
                      exact ⟨by first | rfl | (simp; done) | (simp [*]; done), by repeat (first | exact Drawn0.refl _ | apply Drawn0.step)⟩
                  · rw [if_neg c9] at H
                    have c9b0 : (((rd_T40 l0 x5_1).f4) == (wrap64 ((wrap64 ((wrap64 ((wrap64 (x1_1 + 1)) + 1)) + 1)) + 1))) = false := beq_eq_false_iff_ne.mpr c9
                    have c9b1 : (((rd_T40 l0 x5_1).f4) != (wrap64 ((wrap64 ((wrap64 ((wrap64 (x1_1 + 1)) + 1)) + 1)) + 1))) = true := bne_iff_ne.mpr c9
                    obtain rfl := Option.some.inj H
                    have p696 : 0 ≤ (x5_1 : Int) := of_decide_eq_true (by first | (with_reducible assumption) | assumption)
                    have q696 : x5_1 < (l0.length : Int) := of_decide_eq_true (by first | (with_reducible assumption) | assumption)
                    obtain ⟨ad696, e696, hx696_0, hx696_1, hx696_2, hx696_3, hx696_4, hx696_5⟩ := at_T40 HR0.out x5_1 p696 q696
                    cases e696
                    replace p696 := eq_true p696
                    replace q696 := eq_true q696
                    have p697 : 0 ≤ (x5_1 : Int) := of_decide_eq_true (by first | (with_reducible assumption) | assumption)
                    have q697 : x5_1 < (l0.length : Int) := of_decide_eq_true (by first | (with_reducible assumption) | assumption)
                    obtain ⟨ad697, e697, hx697_0, hx697_1, hx697_2, hx697_3, hx697_4, hx697_5⟩ := at_T40 HR0.out x5_1 p697 q697
                    obtain rfl : ad696 = ad697 := (by injection e697)
                    replace p697 := eq_true p697
                    replace q697 := eq_true q697
                    have p698 : 0 ≤ (x5_1 : Int) := of_decide_eq_true (by first | (with_reducible assumption) | assumption)
                    have q698 : x5_1 < (l0.length : Int) := of_decide_eq_true (by first | (with_reducible assumption) | assumption)
                    obtain ⟨ad698, e698, hx698_0, hx698_1, hx698_2, hx698_3, hx698_4, hx698_5⟩ := at_T40 HR0.out x5_1 p698 q698
                    obtain rfl : ad696 = ad698 := (by injection e698)
                    replace p698 := eq_true p698
                    replace q698 := eq_true q698
                    have p699 : 0 ≤ (x5_1 : Int) := of_decide_eq_true (by first | (with_reducible assumption) | assumption)
                    have q699 : x5_1 < (l0.length : Int) := of_decide_eq_true (by first | (with_reducible assumption) | assumption)
                    obtain ⟨ad699, e699, hx699_0, hx699_1, hx699_2, hx699_3, hx699_4, hx699_5⟩ := at_T40 HR0.out x5_1 p699 q699
                    obtain rfl : ad696 = ad699 := (by injection e699)
                    replace p699 := eq_true p699
                    replace q699 := eq_true q699
                    have p700 : 0 ≤ (x5_1 : Int) := of_decide_eq_true (by first | (with_reducible assumption) | assumption)
                    have q700 : x5_1 < (l0.length : Int) := of_decide_eq_true (by first | (with_reducible assumption) | assumption)
                    obtain ⟨ad700, e700, hx700_0, hx700_1, hx700_2, hx700_3, hx700_4, hx700_5⟩ := at_T40 HR0.out x5_1 p700 q700
                    obtain rfl : ad696 = ad700 := (by injection e700)
                    replace p700 := eq_true p700
                    replace q700 := eq_true q700
                    go_wp2
                    go_ret
                    exact ⟨by first | rfl | (simp; done) | (simp [*]; done), by repeat (first | exact Drawn0.refl _ | apply Drawn0.step)⟩
                · rw [if_neg c8] at H
                  have c8b0 : (((rd_T40 l0 x5_1).f3) == (wrap64 ((wrap64 ((wrap64 (x1_1 + 1)) + 1)) + 1))) = false := beq_eq_false_iff_ne.mpr c8
                  have c8b1 : (((rd_T40 l0 x5_1).f3) != (wrap64 ((wrap64 ((wrap64 (x1_1 + 1)) + 1)) + 1))) = true := bne_iff_ne.mpr c8
                  obtain rfl := Option.some.inj H
                  have p696 : 0 ≤ (x5_1 : Int) := of_decide_eq_true (by first | (with_reducible assumption) | assumption)
                  have q696 : x5_1 < (l0.length : Int) := of_decide_eq_true (by first | (with_reducible assumption) | assumption)
                  obtain ⟨ad696, e696, hx696_0, hx696_1, hx696_2, hx696_3, hx696_4, hx696_5⟩ := at_T40 HR0.out x5_1 p696 q696
                  cases e696
                  replace p696 := eq_true p696
                  replace q696 := eq_true q696
                  have p697 : 0 ≤ (x5_1 : Int) := of_decide_eq_true (by first | (with_reducible assumption) | assumption)
                  have q697 : x5_1 < (l0.length : Int) := of_decide_eq_true (by first | (with_reducible assumption) | assumption)
                  obtain ⟨ad697, e697, hx697_0, hx697_1, hx697_2, hx697_3, hx697_4, hx697_5⟩ := at_T40 HR0.out x5_1 p697 q697
                  obtain rfl : ad696 = ad697 := (by injection e697)
                  replace p697 := eq_true p697
                  replace q697 := eq_true q697
                  have p698 : 0 ≤ (x5_1 : Int) := of_decide_eq_true (by first | (with_reducible assumption) | assumption)
                  have q698 : x5_1 < (l0.length : Int) := of_decide_eq_true (by first | (with_reducible assumption) | assumption)
                  obtain ⟨ad698, e698, hx698_0, hx698_1, hx698_2, hx698_3, hx698_4, hx698_5⟩ := at_T40 HR0.out x5_1 p698 q698
                  obtain rfl : ad696 = ad698 := (by injection e698)
                  replace p698 := eq_true p698
                  replace q698 := eq_true q698
                  have p699 : 0 ≤ (x5_1 : Int) := of_decide_eq_true (by first | (with_reducible assumption) | assumption)
                  have q699 : x5_1 < (l0.length : Int) := of_decide_eq_true (by first | (with_reducible assumption) | assumption)
                  obtain ⟨ad699, e699, hx699_0, hx699_1, hx699_2, hx699_3, hx699_4, hx699_5⟩ := at_T40 HR0.out x5_1 p699 q699
                  obtain rfl : ad696 = ad699 := (by injection e699)
                  replace p699 := eq_true p699
                  replace q699 := eq_true q699
                  go_wp2
                  go_ret
                  exact ⟨by first | rfl | (simp; done) | (simp [*]; done), by repeat (first | exact Drawn0.refl _ | apply Drawn0.step)⟩
              · rw [if_neg c7] at H
                have c7b0 : (((rd_T40 l0 x5_1).f2) == (wrap64 ((wrap64 (x1_1 + 1)) + 1))) = false := beq_eq_false_iff_ne.mpr c7
                have c7b1 : (((rd_T40 l0 x5_1).f2) != (wrap64 ((wrap64 (x1_1 + 1)) + 1))) = true := bne_iff_ne.mpr c7
                obtain rfl := Option.some.inj H
                have p696 : 0 ≤ (x5_1 : Int) := of_decide_eq_true (by first | (with_reducible assumption) | assumption)
                have q696 : x5_1 < (l0.length : Int) := of_decide_eq_true (by first | (with_reducible assumption) | assumption)
                obtain ⟨ad696, e696, hx696_0, hx696_1, hx696_2, hx696_3, hx696_4, hx696_5⟩ := at_T40 HR0.out x5_1 p696 q696
                cases e696
                replace p696 := eq_true p696
                replace q696 := eq_true q696
                have p697 : 0 ≤ (x5_1 : Int) := of_decide_eq_true (by first | (with_reducible assumption) | assumption)
                have q697 : x5_1 < (l0.length : Int) := of_decide_eq_true (by first | (with_reducible assumption) | assumption)
                obtain ⟨ad697, e697, hx697_0, hx697_1, hx697_2, hx697_3, hx697_4, hx697_5⟩ := at_T40 HR0.out x5_1 p697 q697
                obtain rfl : ad696 = ad697 := (by injection e697)
                replace p697 := eq_true p697
                replace q697 := eq_true q697
                have p698 : 0 ≤ (x5_1 : Int) := of_decide_eq_true (by first | (with_reducible assumption) | assumption)
                have q698 : x5_1 < (l0.length : Int) := of_decide_eq_true (by first | (with_reducible assumption) | assumption)
                obtain ⟨ad698, e698, hx698_0, hx698_1, hx698_2, hx698_3, hx698_4, hx698_5⟩ := at_T40 HR0.out x5_1 p698 q698
                obtain rfl : ad696 = ad698 := (by injection e698)
                replace p698 := eq_true p698
                replace q698 := eq_true q698
                go_wp2
                go_ret
                exact ⟨by first | rfl | (simp; done) | (simp [*]; done), by repeat (first | exact Drawn0.refl _ | apply Drawn0.step)⟩
            · rw [if_neg c6] at H
              have c6b0 : (((rd_T40 l0 x5_1).f1) == (wrap64 (x1_1 + 1))) = false := beq_eq_false_iff_ne.mpr c6
              have c6b1 : (((rd_T40 l0 x5_1).f1) != (wrap64 (x1_1 + 1))) = true := bne_iff_ne.mpr c6
              obtain rfl := Option.some.inj H
              have p696 : 0 ≤ (x5_1 : Int) := of_decide_eq_true (by first | (with_reducible assumption) | assumption)
              have q696 : x5_1 < (l0.length : Int) := of_decide_eq_true (by first | (with_reducible assumption) | assumption)
              obtain ⟨ad696, e696, hx696_0, hx696_1, hx696_2, hx696_3, hx696_4, hx696_5⟩ := at_T40 HR0.out x5_1 p696 q696
              cases e696
              replace p696 := eq_true p696
              replace q696 := eq_true q696
              have p697 : 0 ≤ (x5_1 : Int) := of_decide_eq_true (by first | (with_reducible assumption) | assumption)
              have q697 : x5_1 < (l0.length : Int) := of_decide_eq_true (by first | (with_reducible assumption) | assumption)
              obtain ⟨ad697, e697, hx697_0, hx697_1, hx697_2, hx697_3, hx697_4, hx697_5⟩ := at_T40 HR0.out x5_1 p697 q697
              obtain rfl : ad696 = ad697 := (by injection e697)
              replace p697 := eq_true p697
              replace q697 := eq_true q697
              go_wp2
              go_ret
              exact ⟨by first | rfl | (simp; done) | (simp [*]; done), by repeat (first | exact Drawn0.refl _ | apply Drawn0.step)⟩
          · rw [if_neg c5] at H
            have c5b0 : (((rd_T40 l0 x5_1).f0) == x1_1) = false := beq_eq_false_iff_ne.mpr c5
            have c5b1 : (((rd_T40 l0 x5_1).f0) != x1_1) = true := bne_iff_ne.mpr c5
            obtain rfl := Option.some.inj H
            have p696 : 0 ≤ (x5_1 : Int) := of_decide_eq_true (by first | (with_reducible assumption) | assumption)
            have q696 : x5_1 < (l0.length : Int) := of_decide_eq_true (by first | (with_reducible assumption) | assumption)
            obtain ⟨ad696, e696, hx696_0, hx696_1, hx696_2, hx696_3, hx696_4, hx696_5⟩ := at_T40 HR0.out x5_1 p696 q696
            cases e696
            replace p696 := eq_true p696
            replace q696 := eq_true q696
            go_wp2
            go_ret
            exact ⟨by first | rfl | (simp; done) | (simp [*]; done), by repeat (first | exact Drawn0.refl _ | apply Drawn0.step)⟩
        · rw [if_neg c4] at H
          exact absurd H (by simp)
      · rw [if_neg c3] at H
        have c3b0 : decide (x5_1 < (l0.length : Int)) = false := decide_eq_false c3
        clear c3
        obtain rfl := Option.some.inj H
        go_wp2
        go_ret
        exact ⟨by first | rfl | (simp; done) | (simp [*]; done), by repeat (first | exact Drawn0.refl _ | apply Drawn0.step)⟩

end Go.Proofs.Ythnheffndhbebaa.P

namespace Go.Proofs.Ythnheffndhbebaa
open Go.RowKit Go.Proofs.Ythnheffndhbebaa.P Go.Proofs.YthnheffndhbebaaW.PrintWords Go.Proofs.YthnheffndhbebaaW.PrintLast
set_option linter.unusedVariables false
set_option linter.unusedSimpArgs false

abbrev D := S40
theorem rdD (l : List D) (i : Nat) (h : i < l.length) : rd_T40 l (i : Int) = l[i] := by
  unfold rd_T40
  rw [Int.toNat_natCast, List.getD_eq_getElem?_getD, List.getElem?_eq_getElem h]; rfl
theorem rdD_set (l : List D) (i : Nat) (v : D) (h : i < l.length) : rd_T40 (l.set i v) (i : Int) = v := by
  rw [rdD _ i (by rw [List.length_set]; exact h), List.getElem_set_self]
theorem eqDie_refl (a b c d e f : Int) : laws_eqDie.f a b c d e f a b c d e f = some true := by
  unfold laws_eqDie.f
  simp
theorem eqDieS_loop (a : List D) (ha : a.length ≤ 140737488355328) (d : Nat) : ∀ i : Nat, i ≤ a.length → a.length - i = d → Ev (fun k => laws_eqDieS.l0 k a a (i : Int)) true := by
  induction d with
  | zero =>
    intro i hi hd
    exact Ev.step (f := fun k => _) (fun k => by rw [laws_eqDieS.l0]) (Ev.neg (by omega) (Ev.now _))
  | succ d ih =>
    intro i hi hd
    refine Ev.step (f := fun k => _) (fun k => by rw [laws_eqDieS.l0]) (Ev.pos (by omega) (Ev.pos (by omega) (Ev.pos (by omega) (Ev.bindc (eqDie_refl _ _ _ _ _ _) (Ev.pos rfl ?_)))))
    rw [show wrap64 ((i : Int) + 1) = ((i + 1 : Nat) : Int) by unfold wrap64; omega]
    exact ih (i + 1) (by omega) (by omega)
theorem eqDieS_refl (a : List D) (ha : a.length ≤ 140737488355328) : Ev (fun k => laws_eqDieS.f k a a) true := by
  unfold laws_eqDieS.f
  exact Ev.pos rfl (eqDieS_loop a ha a.length 0 (by omega) (by omega))

def markD (j : Nat) : D := ⟨1 + 6 * (j : Int), 2 + 6 * (j : Int), 3 + 6 * (j : Int), 4 + 6 * (j : Int), 5 + 6 * (j : Int), 6 + 6 * (j : Int)⟩
def marksD (n : Nat) : List D := (List.range n).map markD
theorem marksD_length (n : Nat) : (marksD n).length = n := by simp [marksD]
theorem marksD_succ (n : Nat) : marksD (n + 1) = marksD n ++ [markD n] := by simp [marksD, List.range_succ]
theorem markDieS_loop (l : List D) (ha : l.length ≤ 2000000) (d : Nat) : ∀ i : Nat, i ≤ l.length → l.length - i = d →
    Ev (fun k => laws_markDieS.l0 k (marksD i ++ l.drop i) (1 + 6 * (i : Int)) (i : Int)) (1 + 6 * (l.length : Int), marksD l.length) := by
  induction d with
  | zero =>
    intro i hi hd
    obtain rfl : i = l.length := by omega
    refine Ev.step (f := fun k => _) (fun k => by rw [laws_markDieS.l0]) (Ev.neg ?_ (Ev.some_ ?_))
    · simp [marksD_length]
    · simp
  | succ d ih =>
    intro i hi hd
    refine Ev.step (f := fun k => _) (fun k => by rw [laws_markDieS.l0]) (Ev.pos ?_ (Ev.pos (by omega) ?_))
    · simp [marksD_length]; omega
    · have hl : i < (marksD i ++ l.drop i).length := by simp [marksD_length]; omega
      have w0 : wrap64 ((i : Int) + 1) = ((i + 1 : Nat) : Int) := by unfold wrap64; omega
      have w1 : wrap64 (1 + 6 * (i : Int) + 1) = 2 + 6 * (i : Int) := by unfold wrap64; omega
      have w2 : wrap64 (2 + 6 * (i : Int) + 1) = 3 + 6 * (i : Int) := by unfold wrap64; omega
      have w3 : wrap64 (3 + 6 * (i : Int) + 1) = 4 + 6 * (i : Int) := by unfold wrap64; omega
      have w4 : wrap64 (4 + 6 * (i : Int) + 1) = 5 + 6 * (i : Int) := by unfold wrap64; omega
      have w5 : wrap64 (5 + 6 * (i : Int) + 1) = 6 + 6 * (i : Int) := by unfold wrap64; omega
      have w6 : wrap64 (6 + 6 * (i : Int) + 1) = 1 + 6 * ((i + 1 : Nat) : Int) := by unfold wrap64; omega
      have e : (marksD i ++ l.drop i).set i (markD i) = marksD (i + 1) ++ l.drop (i + 1) := by
        rw [List.set_append_right _ _ (by rw [marksD_length]; omega), marksD_length, Nat.sub_self, List.drop_eq_getElem_cons (show i < l.length by omega), List.set_cons_zero, marksD_succ, List.append_assoc]
        rfl
      simp only [Option.bind_some, Int.toNat_natCast, w0, w1, w2, w3, w4, w5, w6]
      simp only [rdD_set _ _ _ hl, List.set_set]
      have := ih (i + 1) (by omega) (by omega)
      rw [← e] at this
      exact this
theorem markDieS_ev (l : List D) (ha : l.length ≤ 2000000) : Ev (fun k => laws_markDieS.f k l 1) (1 + 6 * (l.length : Int), marksD l.length) := by
  have := markDieS_loop l ha l.length 0 (by omega) (by omega)
  simpa [marksD, laws_markDieS.f] using this
theorem heldDieS_loop (n : Nat) (hn : n ≤ 2000000) (d : Nat) : ∀ i : Nat, i ≤ n → n - i = d → Ev (fun k => laws_heldDieS.l0 k (marksD n) (1 + 6 * (i : Int)) (i : Int)) (1 + 6 * (n : Int)) := by
  induction d with
  | zero =>
    intro i hi hd
    obtain rfl : i = n := by omega
    exact Ev.step (f := fun k => _) (fun k => by rw [laws_heldDieS.l0]) (Ev.neg (by rw [marksD_length]; omega) (Ev.now _))
  | succ d ih =>
    intro i hi hd
    have w0 : wrap64 ((i : Int) + 1) = ((i + 1 : Nat) : Int) := by unfold wrap64; omega
    have w1 : wrap64 (1 + 6 * (i : Int) + 1) = 2 + 6 * (i : Int) := by unfold wrap64; omega
    have w2 : wrap64 (2 + 6 * (i : Int) + 1) = 3 + 6 * (i : Int) := by unfold wrap64; omega
    have w3 : wrap64 (3 + 6 * (i : Int) + 1) = 4 + 6 * (i : Int) := by unfold wrap64; omega
    have w4 : wrap64 (4 + 6 * (i : Int) + 1) = 5 + 6 * (i : Int) := by unfold wrap64; omega
    have w5 : wrap64 (5 + 6 * (i : Int) + 1) = 6 + 6 * (i : Int) := by unfold wrap64; omega
    have w6 : wrap64 (6 + 6 * (i : Int) + 1) = 1 + 6 * ((i + 1 : Nat) : Int) := by unfold wrap64; omega
    have hr : rd_T40 (marksD n) (i : Int) = markD i := by
      rw [rdD _ i (by rw [marksD_length]; omega)]
      unfold marksD
      rw [List.getElem_map, List.getElem_range]
    refine Ev.step (f := fun k => _) (fun k => by rw [laws_heldDieS.l0]) (Ev.pos (by rw [marksD_length]; omega) (Ev.pos (by omega) ?_))
    simp only [w0, w1, w2, w3, w4, w5, w6, hr]
    exact Ev.pos rfl (Ev.pos rfl (Ev.pos rfl (Ev.pos rfl (Ev.pos rfl (Ev.pos rfl (ih (i + 1) (by omega) (by omega)))))))
theorem heldDieS_ev (n : Nat) (hn : n ≤ 2000000) : Ev (fun k => laws_heldDieS.f k (marksD n) 1) (1 + 6 * (n : Int)) := by
  have := heldDieS_loop n hn n 0 (by omega) (by omega)
  simpa [laws_heldDieS.f] using this
end Go.Proofs.Ythnheffndhbebaa

namespace Go.Proofs.Ythnheffndhbebaa
open Go.RowKit Go.Proofs.Ythnheffndhbebaa.P Go.Proofs.YthnheffndhbebaaW.PrintWords Go.Proofs.YthnheffndhbebaaW.PrintLast
set_option linter.unusedVariables false
set_option linter.unusedSimpArgs false
def dieOk (x : D) : Bool := dieB x.f0 x.f1 x.f2 x.f3 x.f4 x.f5
def towB (l : List D) : Bool := decide (1 ≤ l.length) && decide (l.length ≤ 4) && l.all dieOk
theorem clDice_loop (l : List D) (hl : l.length ≤ 4) (d : Nat) : ∀ i : Nat, i ≤ l.length → l.length - i = d → Ev (fun k => spec_clDice.l0 k l (l.length : Int) (i : Int)) ((l.drop i).all dieOk) := by
  induction d with
  | zero =>
    intro i hi hd
    refine Ev.step (f := fun k => _) (fun k => by rw [spec_clDice.l0]) (Ev.neg (by omega) (Ev.some_ ?_))
    rw [List.drop_eq_nil_of_le (by omega)]; rfl
  | succ d ih =>
    intro i hi hd
    have h : i < l.length := by omega
    refine Ev.step (f := fun k => _) (fun k => by rw [spec_clDice.l0]) (Ev.pos (by omega) (Ev.pos (by omega) (Ev.pos (by omega) (Ev.bind (spec_diGood_ev _ _ _ _ _ _) ?_))))
    rw [rdD l i h, List.drop_eq_getElem_cons h, List.all_cons, show wrap64 ((i : Int) + 1) = ((i + 1 : Nat) : Int) by unfold wrap64; omega]
    show Ev (fun n => if dieOk l[i] = true then _ else _) _
    cases hb : dieOk l[i] with
    | true => exact Ev.pos rfl (ih (i + 1) (by omega) (by omega))
    | false => exact Ev.neg (by decide) (Ev.some_ rfl)
theorem spec_clDice_ev (l : List D) : Ev (fun k => spec_clDice.f k l) (towB l) := by
  unfold spec_clDice.f towB
  refine Ev.bindc (spec_l1In_eq _ _ _) ?_
  by_cases h : 1 ≤ l.length ∧ l.length ≤ 4
  · rw [decide_eq_true h.1, decide_eq_true h.2]
    have := clDice_loop l h.2 l.length 0 (by omega) (by omega)
    exact Ev.pos (by rw [decide_eq_true (by omega), decide_eq_true (by omega)]; rfl) (by simpa using this)
  · have e : (decide (1 ≤ l.length) && decide (l.length ≤ 4)) = false := by
      simp only [Bool.and_eq_false_iff, decide_eq_false_iff_not]; omega
    rw [e]
    exact Ev.neg (by simp only [Bool.and_eq_true, decide_eq_true_eq]; omega) (Ev.some_ rfl)
theorem idxTow_loop (l : List D) (hl : l.length ≤ 4) (d : Nat) : ∀ i : Nat, i ≤ l.length → l.length - i = d →
    ∃ r : Int, Ev (fun k => slices_IndexFunc_Simpl_Die_impl_Die_at_impl_areTower_1.l0 k l (l.length : Int) (i : Int)) r ∧ decide (r ≥ 0) = !((l.drop i).all dieOk) := by
  induction d with
  | zero =>
    intro i hi hd
    refine ⟨-1, Ev.step (f := fun k => _) (fun k => by rw [slices_IndexFunc_Simpl_Die_impl_Die_at_impl_areTower_1.l0]) (Ev.neg (by omega) (Ev.some_ rfl)), ?_⟩
    rw [List.drop_eq_nil_of_le (by omega)]; rfl
  | succ d ih =>
    intro i hi hd
    have h : i < l.length := by omega
    have e1 : Ev (fun k => impl_areTower_1.f k l[i].f0 l[i].f1 l[i].f2 l[i].f3 l[i].f4 l[i].f5) (!dieOk l[i]) := by
      unfold impl_areTower_1.f
      exact Ev.bind (impl_IsDie_ev _ _ _ _ _ _) (Ev.now _)
    rw [List.drop_eq_getElem_cons h, List.all_cons]
    cases hb : dieOk l[i] with
    | true =>
      obtain ⟨r, h1, h2⟩ := ih (i + 1) (by omega) (by omega)
      refine ⟨r, Ev.step (f := fun k => _) (fun k => by rw [slices_IndexFunc_Simpl_Die_impl_Die_at_impl_areTower_1.l0]) (Ev.pos (by omega) (Ev.pos (by omega) (Ev.pos (by omega) ?_))), by rw [Bool.true_and]; exact h2⟩
      rw [rdD l i h, show wrap64 ((i : Int) + 1) = ((i + 1 : Nat) : Int) by unfold wrap64; omega]
      exact Ev.bind e1 (Ev.neg (by rw [hb]; decide) h1)
    | false =>
      refine ⟨(i : Int), Ev.step (f := fun k => _) (fun k => by rw [slices_IndexFunc_Simpl_Die_impl_Die_at_impl_areTower_1.l0]) (Ev.pos (by omega) (Ev.pos (by omega) (Ev.pos (by omega) ?_))), ?_⟩
      · rw [rdD l i h]
        exact Ev.bind e1 (Ev.pos (by rw [hb]; rfl) (Ev.now _))
      · rw [Bool.false_and]; exact decide_eq_true (by omega)
theorem impl_areTower_ev (l : List D) : Ev (fun k => impl_areTower.f k l) (towB l) := by
  unfold impl_areTower.f towB
  refine Ev.bindc (impl_in_eq _ _ _) ?_
  by_cases h : 1 ≤ l.length ∧ l.length ≤ 4
  · rw [decide_eq_true h.1, decide_eq_true h.2]
    obtain ⟨r, h1, h2⟩ := idxTow_loop l h.2 l.length 0 (by omega) (by omega)
    unfold slices_ContainsFunc_Simpl_Die_impl_Die_at_impl_areTower_1.f slices_IndexFunc_Simpl_Die_impl_Die_at_impl_areTower_1.f
    refine Ev.pos (by rw [decide_eq_true (by omega), decide_eq_true (by omega)]; rfl) (Ev.bind (a := decide (r ≥ 0)) (Ev.bind h1 (Ev.now _)) (Ev.some_ ?_))
    rw [h2]; simp
  · have e : (decide (1 ≤ l.length) && decide (l.length ≤ 4)) = false := by
      simp only [Bool.and_eq_false_iff, decide_eq_false_iff_not]; omega
    rw [e]
    exact Ev.neg (by simp only [Bool.and_eq_true, decide_eq_true_eq]; omega) (Ev.some_ rfl)
theorem towB_len {l : List D} (h : towB l = true) : 1 ≤ l.length ∧ l.length ≤ 4 := by
  unfold towB at h
  simp only [Bool.and_eq_true, decide_eq_true_eq] at h
  exact ⟨h.1.1, h.1.2⟩
theorem towB_all {l : List D} (h : towB l = true) : ∀ x ∈ l, dieOk x = true := by
  unfold towB at h
  simp only [Bool.and_eq_true] at h
  exact List.all_eq_true.1 h.2
end Go.Proofs.Ythnheffndhbebaa

namespace Go.Proofs.Ythnheffndhbebaa
open Go.RowKit Go.Proofs.Ythnheffndhbebaa.P Go.Proofs.YthnheffndhbebaaW.PrintWords Go.Proofs.YthnheffndhbebaaW.PrintLast
set_option linter.unusedVariables false
set_option linter.unusedSimpArgs false
abbrev LD := S38
def convD (x : LD) : D := ⟨x.f0, x.f1, x.f2, x.f3, x.f4, x.f5⟩
theorem rdLD (l : List LD) (i : Nat) (h : i < l.length) : rd_T38 l (i : Int) = l[i] := by
  unfold rd_T38
  rw [Int.toNat_natCast, List.getD_eq_getElem?_getD, List.getElem?_eq_getElem h]; rfl
theorem toDieS_loop (l : List LD) (ha : l.length ≤ 2000000) (d : Nat) : ∀ (i : Nat) (t : List D), i ≤ l.length → l.length - i = d → t.length = l.length - i →
    Ev (fun k => laws_toDieS.l0 k l (i : Int) ((l.take i).map convD ++ t)) (l.map convD) := by
  induction d with
  | zero =>
    intro i t hi hd ht
    obtain rfl : i = l.length := by omega
    obtain rfl : t = [] := List.eq_nil_of_length_eq_zero (by omega)
    exact Ev.step (f := fun k => _) (fun k => by rw [laws_toDieS.l0]) (Ev.neg (by omega) (Ev.some_ (by simp)))
  | succ d ih =>
    intro i t hi hd ht
    have h : i < l.length := by omega
    cases t with
    | nil => simp at ht; omega
    | cons t0 t =>
      refine Ev.step (f := fun k => _) (fun k => by rw [laws_toDieS.l0]) (Ev.pos (by omega) (Ev.pos (by omega) (Ev.bindc (show laws_toDie.f _ _ _ _ _ _ = some _ from rfl) (Ev.pos ?_ ?_))))
      · simp; omega
      · rw [show wrap64 ((i : Int) + 1) = ((i + 1 : Nat) : Int) by unfold wrap64; omega, rdLD l i h]
        have := ih (i + 1) t (by omega) (by omega) (by simp at ht; omega)
        rw [List.take_succ_eq_append_getElem h, List.map_append, List.append_assoc] at this
        have e : ((l.take i).map convD ++ t0 :: t).set ((i : Int).toNat) (convD l[i]) = (l.take i).map convD ++ ([l[i]].map convD ++ t) := by
          rw [Int.toNat_natCast, List.set_append_right _ _ (by simp; omega)]
          simp [show i - min i l.length = 0 by omega]
        rw [← e] at this
        exact this
theorem toDieS_ev (l : List LD) (ha : l.length ≤ 2000000) : Ev (fun k => laws_toDieS.f k l) (l.map convD) := by
  unfold laws_toDieS.f
  refine Ev.pos (by omega) (Ev.pos (by omega) ?_)
  have := toDieS_loop l ha l.length 0 (List.replicate l.length z40) (by omega) (by omega) (by simp)
  simpa using this
theorem szDieS_eq (l : List LD) (h : l.length * 48 ≤ 140737488351232) : laws_szDieS.f l 1048576 = some (if l.length ≤ 1048576 then 1048576 - (l.length : Int) else -1) := by
  unfold laws_szDieS.f
  have w : wrap64 (1048576 - (l.length : Int)) = 1048576 - (l.length : Int) := by unfold wrap64; omega
  rw [w]
  by_cases h : l.length ≤ 1048576
  · rw [if_neg (by omega), if_pos h]
  · rw [if_pos (by omega), if_neg h]
end Go.Proofs.Ythnheffndhbebaa

namespace Go.Proofs.Ythnheffndhbebaa
open Go.RowKit Go.Proofs.Ythnheffndhbebaa.P Go.Proofs.YthnheffndhbebaaW.PrintWords Go.Proofs.YthnheffndhbebaaW.PrintLast
set_option linter.unusedVariables false
set_option linter.unusedSimpArgs false

theorem rdB (l : List ByteArray) (i : Nat) (h : i < l.length) : rdOf ByteArray.empty l (i : Int) = l[i] := by
  unfold rdOf
  rw [Int.toNat_natCast, List.getD_eq_getElem?_getD, List.getElem?_eq_getElem h]; rfl
theorem eqStringS_loop (a : List ByteArray) (ha : a.length ≤ 140737488355328) (d : Nat) : ∀ i : Nat, i ≤ a.length → a.length - i = d → Ev (fun k => laws_eqStringS.l0 k a a (i : Int)) true := by
  induction d with
  | zero =>
    intro i hi hd
    refine Ev.step (f := fun k => _) (fun k => by rw [laws_eqStringS.l0]) ?_
    exact Ev.neg (by omega) (Ev.now _)
  | succ d ih =>
    intro i hi hd
    refine Ev.step (f := fun k => _) (fun k => by rw [laws_eqStringS.l0]) ?_
    refine Ev.pos (by omega) (Ev.pos (by omega) (Ev.pos (by omega) (Ev.pos rfl ?_)))
    rw [show wrap64 ((i : Int) + 1) = ((i + 1 : Nat) : Int) by unfold wrap64; omega]
    exact ih (i + 1) (by omega) (by omega)
theorem eqStringS_refl (a : List ByteArray) (ha : a.length ≤ 140737488355328) : Ev (fun k => laws_eqStringS.f k a a) true := by
  unfold laws_eqStringS.f
  exact Ev.pos rfl (eqStringS_loop a ha a.length 0 (by omega) (by omega))

theorem markText_loop (m : Nat) : ∀ (x : Int) (t : ByteArray), x < 10 ^ m → t.size + m ≤ 1000 → ∃ r, Ev (fun k => laws_markText.l0 k x t) r := by
  induction m with
  | zero =>
    intro x t hx ht
    refine ⟨⟨#[109]⟩ ++ t, Ev.step (f := fun k => _) (fun k => by rw [laws_markText.l0]) ?_⟩
    refine Ev.neg (by simp at hx; omega) ?_
    exact Ev.pos (by omega) (Ev.now _)
  | succ m ih =>
    intro x t hx ht
    by_cases h : x > 0
    · have hs : (strOfNums [(wrap64 (48 + (Int.tmod x 10))) % 256]).size = 1 := rfl
      have hq : Int.tdiv x 10 = x / 10 := Int.tdiv_eq_ediv_of_nonneg (by omega)
      have hlt : x / 10 < 10 ^ m := by
        have : (10 : Int) ^ (m + 1) = 10 ^ m * 10 := by rw [Int.pow_succ]
        omega
      obtain ⟨w, hw1, hw2⟩ : ∃ w, w = wrap64 (Int.tdiv x 10) ∧ w < 10 ^ m := by
        refine ⟨_, rfl, ?_⟩
        rw [hq]
        have : (0 : Int) < 10 ^ m := Int.pow_pos (by omega)
        by_cases hbig : x / 10 ≤ 9223372036854775807
        · have : wrap64 (x / 10) = x / 10 := by unfold wrap64; omega
          omega
        · have h1 : wrap64 (x / 10) ≤ 9223372036854775807 := by unfold wrap64; omega
          omega
      obtain ⟨r, hr⟩ := ih w (strOfNums [(wrap64 (48 + (Int.tmod x 10))) % 256] ++ t) hw2 (by rw [ByteArray.size_append, hs]; omega)
      refine ⟨r, Ev.step (f := fun k => _) (fun k => by rw [laws_markText.l0]) ?_⟩
      refine Ev.pos h (Ev.bindc rfl ?_)
      refine Ev.pos (by rw [hs]; omega) ?_
      rw [← hw1]
      exact hr
    · refine ⟨⟨#[109]⟩ ++ t, Ev.step (f := fun k => _) (fun k => by rw [laws_markText.l0]) ?_⟩
      refine Ev.neg h ?_
      exact Ev.pos (by omega) (Ev.now _)
theorem markText_ex (x : Int) : ∃ r, x ≤ 2000001 → Ev (fun k => laws_markText.f k x) r := by
  by_cases h : x ≤ 2000001
  · by_cases h0 : x ≤ 0
    · exact ⟨_, fun _ => by unfold laws_markText.f; exact Ev.pos h0 (Ev.now _)⟩
    · obtain ⟨r, hr⟩ := markText_loop 7 x ⟨#[]⟩ (by omega) (by decide)
      exact ⟨r, fun _ => by unfold laws_markText.f; exact Ev.neg h0 hr⟩
  · exact ⟨ByteArray.empty, fun h' => absurd h' h⟩
noncomputable def markT (x : Int) : ByteArray := (markText_ex x).choose
theorem markText_ev (x : Int) (h : x ≤ 2000001) : Ev (fun k => laws_markText.f k x) (markT x) := (markText_ex x).choose_spec h

noncomputable def marksS (n : Nat) : List ByteArray := (List.range n).map fun j : Nat => markT (1 + (j : Int))
theorem marksS_length (n : Nat) : (marksS n).length = n := by simp [marksS]
theorem marksS_succ (n : Nat) : marksS (n + 1) = marksS n ++ [markT (1 + (n : Int))] := by simp [marksS, List.range_succ]
theorem markStringS_loop (l : List ByteArray) (ha : l.length ≤ 2000000) (d : Nat) : ∀ i : Nat, i ≤ l.length → l.length - i = d →
    Ev (fun k => laws_markStringS.l0 k (marksS i ++ l.drop i) (1 + (i : Int)) (i : Int)) (1 + (l.length : Int), marksS l.length) := by
  induction d with
  | zero =>
    intro i hi hd
    obtain rfl : i = l.length := by omega
    refine Ev.step (f := fun k => _) (fun k => by rw [laws_markStringS.l0]) (Ev.neg ?_ (Ev.some_ ?_))
    · simp [marksS_length]
    · simp
  | succ d ih =>
    intro i hi hd
    refine Ev.step (f := fun k => _) (fun k => by rw [laws_markStringS.l0]) (Ev.pos ?_ (Ev.bind (markText_ev _ (by omega)) ?_))
    · simp [marksS_length]; omega
    refine Ev.pos (by omega) ?_
    · have w0 : wrap64 ((i : Int) + 1) = ((i + 1 : Nat) : Int) := by unfold wrap64; omega
      have w1 : wrap64 (1 + (i : Int) + 1) = 1 + ((i + 1 : Nat) : Int) := by unfold wrap64; omega
      have e : (marksS i ++ l.drop i).set i (markT (1 + (i : Int))) = marksS (i + 1) ++ l.drop (i + 1) := by
        rw [List.set_append_right _ _ (by rw [marksS_length]; omega), marksS_length, Nat.sub_self, List.drop_eq_getElem_cons (show i < l.length by omega), List.set_cons_zero, marksS_succ, List.append_assoc]
        rfl
      rw [w0, w1, Int.toNat_natCast, e]
      exact ih (i + 1) (by omega) (by omega)
theorem markStringS_ev (l : List ByteArray) (ha : l.length ≤ 2000000) : Ev (fun k => laws_markStringS.f k l 1) (1 + (l.length : Int), marksS l.length) := by
  have := markStringS_loop l ha l.length 0 (by omega) (by omega)
  simpa [marksS, laws_markStringS.f] using this
theorem heldStringS_loop (n : Nat) (hn : n ≤ 2000000) (d : Nat) : ∀ i : Nat, i ≤ n → n - i = d → Ev (fun k => laws_heldStringS.l0 k (marksS n) (1 + (i : Int)) (i : Int)) (1 + (n : Int)) := by
  induction d with
  | zero =>
    intro i hi hd
    obtain rfl : i = n := by omega
    refine Ev.step (f := fun k => _) (fun k => by rw [laws_heldStringS.l0]) ?_
    exact Ev.neg (by rw [marksS_length]; omega) (Ev.now _)
  | succ d ih =>
    intro i hi hd
    have w0 : wrap64 ((i : Int) + 1) = ((i + 1 : Nat) : Int) := by unfold wrap64; omega
    have w1 : wrap64 (1 + (i : Int) + 1) = 1 + ((i + 1 : Nat) : Int) := by unfold wrap64; omega
    have hr : rdOf ByteArray.empty (marksS n) (i : Int) = markT (1 + (i : Int)) := by
      rw [rdB _ i (by rw [marksS_length]; omega)]
      unfold marksS
      rw [List.getElem_map, List.getElem_range]
    refine Ev.step (f := fun k => _) (fun k => by rw [laws_heldStringS.l0]) ?_
    refine Ev.pos (by rw [marksS_length]; omega) (Ev.pos (by omega) (Ev.bind (markText_ev _ (by omega)) (Ev.pos (by rw [hr]) ?_)))
    rw [w0, w1]
    exact ih (i + 1) (by omega) (by omega)
theorem heldStringS_ev (n : Nat) (hn : n ≤ 2000000) : Ev (fun k => laws_heldStringS.f k (marksS n) 1) (1 + (n : Int)) := by
  have := heldStringS_loop n hn n 0 (by omega) (by omega)
  simpa [laws_heldStringS.f] using this
end Go.Proofs.Ythnheffndhbebaa

namespace Go.Proofs.Ythnheffndhbebaa.Pure
open Go.RowKit Go.Proofs.Ythnheffndhbebaa.P Go.Proofs.YthnheffndhbebaaW.PrintWords Go.Proofs.YthnheffndhbebaaW.PrintLast
set_option linter.unusedVariables false
set_option linter.unusedSimpArgs false

def sideQ (k : Nat) (x : D) : Int := if k = 0 then x.f1 else if k = 1 then x.f2 else if k = 2 then x.f3 else x.f4
theorem sideQ_in (k : Nat) (x : D) (h : dieOk x = true) : 0 ≤ sideQ k x ∧ sideQ k x ≤ 9 := by
  have := dieB_face h
  unfold sideQ
  split
  · exact this _ (by simp)
  split
  · exact this _ (by simp)
  split
  · exact this _ (by simp)
  · exact this _ (by simp)
theorem side_rd (x : D) (k : Nat) (hk : k < 4) : rd [x.f0, x.f1, x.f2, x.f3, x.f4, x.f5] (wrap64 (1 + (k : Int))) = sideQ k x := by
  rw [show wrap64 (1 + (k : Int)) = ((k + 1 : Nat) : Int) by unfold wrap64; omega, rdn _ _ (by simp only [List.length_cons, List.length_nil]; omega)]
  obtain rfl | rfl | rfl | rfl : k = 0 ∨ k = 1 ∨ k = 2 ∨ k = 3 := by omega
  all_goals rfl
theorem side_rd4 (x : D) (k : Nat) (hk : k < 4) : rd [x.f1, x.f2, x.f3, x.f4] (k : Int) = sideQ k x := by
  rw [rdn _ _ (by simp only [List.length_cons, List.length_nil]; omega)]
  obtain rfl | rfl | rfl | rfl : k = 0 ∨ k = 1 ∨ k = 2 ∨ k = 3 := by omega
  all_goals rfl
theorem clSide_loop (q : Nat) (hq : q < 4) (l : List D) (hl : l.length ≤ 4) (d : Nat) : ∀ (i : Nat) (out : List Int), i ≤ l.length → l.length - i = d → out.length ≤ i →
    Ev (fun k => spec_clSide.l0 k (q : Int) out l (l.length : Int) (i : Int)) (out ++ (l.drop i).map (sideQ q)) := by
  induction d with
  | zero =>
    intro i out hi hd ho
    refine Ev.step (f := fun k => _) (fun k => by rw [spec_clSide.l0]) (Ev.neg (by omega) (Ev.some_ ?_))
    rw [List.drop_eq_nil_of_le (by omega)]; simp
  | succ d ih =>
    intro i out hi hd ho
    have h : i < l.length := by omega
    refine Ev.step (f := fun k => _) (fun k => by rw [spec_clSide.l0]) (Ev.pos (by omega) (Ev.pos (by omega) (Ev.pos (by omega) (Ev.bindc (show spec_diFaces.f _ _ _ _ _ _ = some _ from rfl) ?_))))
    refine Ev.pos ?_ (Ev.pos ?_ ?_)
    · unfold wrap64; omega
    · simp only [List.length_cons, List.length_nil]; unfold wrap64; omega
    · refine Ev.pos (by omega) ?_
      rw [rdD l i h, side_rd _ q hq, show wrap64 ((i : Int) + 1) = ((i + 1 : Nat) : Int) by unfold wrap64; omega, List.drop_eq_getElem_cons h, List.map_cons]
      have := ih (i + 1) (out ++ [sideQ q l[i]]) (by omega) (by omega) (by simp; omega)
      rwa [List.append_assoc] at this
theorem clSide_ev (q : Nat) (hq : q < 4) (l : List D) (hl : l.length ≤ 4) : Ev (fun k => spec_clSide.f k l (q : Int)) (l.map (sideQ q)) := by
  have := clSide_loop q hq l hl l.length 0 [] (by omega) (by omega) (by simp)
  simpa [spec_clSide.f] using this

/-- The digit's byte. -/
def dg (n : Int) : Int := (wrap64 (48 + n)) % 256
theorem strOfNums_append (a b : List Int) : strOfNums (a ++ b) = strOfNums a ++ strOfNums b := by
  unfold strOfNums
  apply ByteArray.ext
  simp [ByteArray.data_append]
theorem strOfNums_size (a : List Int) : (strOfNums a).size = a.length := by
  unfold strOfNums
  simp [ByteArray.size]
theorem l1Num_ev (n : Int) (h : n ≤ 9) : Ev (fun k => spec_l1Num.f k n) (strOfNums [dg n]) := by
  refine Ev.step (f := fun k => _) (fun k => by rw [spec_l1Num.f]) ?_
  exact Ev.pos (by omega) (Ev.now _)
def sT (q : Nat) (l : List D) : ByteArray := strOfNums (l.map fun x => dg (sideQ q x))

theorem spec_l1 (q : Nat) (l : List D) (hl : l.length ≤ 4) (hd : ∀ x ∈ l, dieOk x = true) (x4 : List ByteArray) (h4 : x4.length ≤ 4) (R : List ByteArray × Bool) (hR : Ev (fun k => spec_SidesOfTower.l0 k l (x4 ++ [sT q l]) (wrap64 ((q : Int) + 1))) R) (d : Nat) : ∀ (i : Nat), i ≤ l.length → l.length - i = d →
    Ev (fun k => spec_SidesOfTower.l1 k l x4 (q : Int) (strOfNums ((l.take i).map fun x => dg (sideQ q x))) (l.map (sideQ q)) (l.length : Int) (i : Int)) R := by
  induction d with
  | zero =>
    intro i hi hd
    refine Ev.step (f := fun k => _) (fun k => by rw [spec_SidesOfTower.l1]) ?_
    refine Ev.neg (by omega) (Ev.pos (by omega) ?_)
    rw [List.take_of_length_le (by omega)]
    exact hR
  | succ d ih =>
    intro i hi hd'
    have h : i < l.length := by omega
    have hm : i < (l.map (sideQ q)).length := by rw [List.length_map]; exact h
    refine Ev.step (f := fun k => _) (fun k => by rw [spec_SidesOfTower.l1]) ?_
    refine Ev.pos (by omega) (Ev.pos (by omega) (Ev.pos (by omega) ?_))
    rw [rdn _ i hm, List.getElem_map]
    refine Ev.bind (l1Num_ev _ (sideQ_in q _ (hd _ (List.getElem_mem h))).2) ?_
    refine Ev.pos ?_ ?_
    · rw [strOfNums_size, strOfNums_size]; simp; omega
    · have := ih (i + 1) (by omega) (by omega)
      rw [List.take_succ_eq_append_getElem h, List.map_append, strOfNums_append] at this
      rw [show wrap64 ((i : Int) + 1) = ((i + 1 : Nat) : Int) by unfold wrap64; omega]
      exact this
theorem impl_l1 (q : Nat) (hq : q < 4) (l : List D) (hl : l.length ≤ 4) (x4 : List ByteArray) (h4 : x4.length ≤ 4) (R : List ByteArray × Bool) (hR : Ev (fun k => impl_SidesOfTower.l0 k l (x4 ++ [sT q l]) (wrap64 ((q : Int) + 1))) R) (d : Nat) : ∀ (i : Nat), i ≤ l.length → l.length - i = d →
    Ev (fun k => impl_SidesOfTower.l1 k l x4 (q : Int) ((l.take i).map fun x => dg (sideQ q x)) (q : Int) l (l.length : Int) (i : Int)) R := by
  induction d with
  | zero =>
    intro i hi hd
    refine Ev.step (f := fun k => _) (fun k => by rw [impl_SidesOfTower.l1]) ?_
    refine Ev.neg (by omega) (Ev.pos (by omega) ?_)
    rw [List.take_of_length_le (by omega)]
    exact hR
  | succ d ih =>
    intro i hi hd'
    have h : i < l.length := by omega
    refine Ev.step (f := fun k => _) (fun k => by rw [impl_SidesOfTower.l1]) ?_
    refine Ev.pos (by omega) (Ev.pos (by omega) (Ev.pos (by omega) (Ev.bindc (show impl_Die_sides.f _ _ _ _ _ _ = some _ from rfl) ?_)))
    refine Ev.pos (by omega) (Ev.pos (by omega) (Ev.pos ?_ ?_))
    · simp; omega
    · rw [rdD l i h, side_rd4 _ q hq]
      have := ih (i + 1) (by omega) (by omega)
      rw [List.take_succ_eq_append_getElem h, List.map_append] at this
      rw [show wrap64 ((i : Int) + 1) = ((i + 1 : Nat) : Int) by unfold wrap64; omega]
      exact this
theorem spec_l0 (l : List D) (hl : l.length ≤ 4) (hx : ∀ x ∈ l, dieOk x = true) (d : Nat) : ∀ (q : Nat), q ≤ 4 → 4 - q = d → Ev (fun k => spec_SidesOfTower.l0 k l ((List.range q).map fun j => sT j l) (q : Int)) ((List.range 4).map fun j => sT j l, true) := by
  induction d with
  | zero =>
    intro q hq hd
    obtain rfl : q = 4 := by omega
    refine Ev.step (f := fun k => _) (fun k => by rw [spec_SidesOfTower.l0]) ?_
    exact Ev.neg (by omega) (Ev.now _)
  | succ d ih =>
    intro q hq hd
    refine Ev.step (f := fun k => _) (fun k => by rw [spec_SidesOfTower.l0]) ?_
    refine Ev.pos (by omega) (Ev.bind (clSide_ev q (by omega) l hl) ?_)
    rw [List.length_map]
    refine spec_l1 q l hl hx _ (by simp; omega) _ ?_ l.length 0 (by omega) (by omega)
    have := ih (q + 1) (by omega) (by omega)
    rw [List.range_succ, List.map_append] at this
    rw [show wrap64 ((q : Int) + 1) = ((q + 1 : Nat) : Int) by unfold wrap64; omega]
    exact this
theorem impl_l0 (l : List D) (hl : l.length ≤ 4) (d : Nat) : ∀ (q : Nat), q ≤ 4 → 4 - q = d → Ev (fun k => impl_SidesOfTower.l0 k l ((List.range q).map fun j => sT j l) (q : Int)) ((List.range 4).map fun j => sT j l, true) := by
  induction d with
  | zero =>
    intro q hq hd
    obtain rfl : q = 4 := by omega
    refine Ev.step (f := fun k => _) (fun k => by rw [impl_SidesOfTower.l0]) ?_
    exact Ev.neg (by omega) (Ev.now _)
  | succ d ih =>
    intro q hq hd
    refine Ev.step (f := fun k => _) (fun k => by rw [impl_SidesOfTower.l0]) ?_
    refine Ev.pos (by omega) ?_
    refine impl_l1 q (by omega) l hl _ (by simp; omega) _ ?_ l.length 0 (by omega) (by omega)
    have := ih (q + 1) (by omega) (by omega)
    rw [List.range_succ, List.map_append] at this
    rw [show wrap64 ((q : Int) + 1) = ((q + 1 : Nat) : Int) by unfold wrap64; omega]
    exact this
theorem both (l : List D) : ∃ r : List ByteArray × Bool, r.1.length ≤ 4 ∧ Ev (fun k => spec_SidesOfTower.f k l) r ∧ Ev (fun k => impl_SidesOfTower.f k l) r := by
  unfold spec_SidesOfTower.f impl_SidesOfTower.f
  cases ht : towB l with
  | true =>
    obtain ⟨_, h4⟩ := towB_len ht
    exact ⟨_, by simp, Ev.bind (spec_clDice_ev l) (Ev.pos ht (spec_l0 l h4 (towB_all ht) 4 0 (by omega) (by omega))), Ev.bind (impl_areTower_ev l) (Ev.pos ht (impl_l0 l h4 4 0 (by omega) (by omega)))⟩
  | false =>
    exact ⟨([], false), by simp, Ev.bind (spec_clDice_ev l) (Ev.neg (by rw [ht]; decide) (Ev.now _)), Ev.bind (impl_areTower_ev l) (Ev.neg (by rw [ht]; decide) (Ev.now _))⟩
theorem FnExactSidesOfTower : laws_FnExactSidesOfTower.Pure := by
  intro l hl
  refine Ev.rounds (r := true) ?_
  unfold laws_FnExactSidesOfTower.f
  refine Ev.bindc (szDieS_eq l hl) ?_
  by_cases hn : l.length ≤ 1048576
  · rw [if_pos hn]
    have ht := toDieS_ev l (by omega)
    obtain ⟨r, hr, hs, hi⟩ := both (l.map convD)
    have h1 : r.1.length ≤ 140737488355328 := by omega
    have h2 : r.1.length ≤ 2000000 := by omega
    have h3 : (l.map convD).length ≤ 140737488355328 := by simp; omega
    have h4 : (l.map convD).length ≤ 2000000 := by simp; omega
    refine Ev.neg (by omega) (Ev.bind ht (Ev.bind hs (Ev.bind ht (Ev.bind hi (Ev.bind (eqStringS_refl _ h1) (Ev.pos rfl ?_))))))
    refine Ev.step (f := fun k => _) (fun k => by rw [laws_FnExactSidesOfTower.j0]) (Ev.neg (by simp) ?_)
    refine Ev.bind ht (Ev.bind (eqDieS_refl _ h3) (Ev.pos rfl (Ev.bind (markDieS_ev _ h4) (Ev.neg (by omega) (Ev.bind (eqStringS_refl _ h1) (Ev.pos rfl ?_))))))
    refine Ev.step (f := fun k => _) (fun k => by rw [laws_FnExactSidesOfTower.j1]) (Ev.neg (by simp) ?_)
    refine Ev.bind (markStringS_ev _ h2) (Ev.bind (heldStringS_ev _ h2) (Ev.neg (by omega) (Ev.pos rfl (Ev.bind ht (Ev.bind hi (Ev.bind (eqStringS_refl _ h1) (Ev.pos rfl ?_)))))))
    refine Ev.step (f := fun k => _) (fun k => by rw [laws_FnExactSidesOfTower.j2]) (Ev.neg (by simp) ?_)
    exact Ev.bind (heldStringS_ev _ h2) (Ev.neg (by omega) (Ev.pos rfl (Ev.now _)))
  · rw [if_neg hn]
    exact Ev.pos (by decide) (Ev.now _)

end Go.Proofs.Ythnheffndhbebaa.Pure
