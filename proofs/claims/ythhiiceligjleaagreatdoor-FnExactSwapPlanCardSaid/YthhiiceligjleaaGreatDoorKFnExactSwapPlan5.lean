/- The program's SwapPlan returns what the reference's returns, for all texts and dice (the law lets longer texts and lists by). No further condition. -/
import Derived.Test.YthhiiceligjleaaGreatDoorKFnExactSwapPlan4
import Derived.ChangeArms
import Derived.ChangeSame
import Derived.Deep.Slices
import Derived.ProofKit
import Derived.OpenShut
import Derived.SizedLaws
import Derived.Test.YthhiiceligjleaaGreatDoorProg
import Derived.Lib.Strings

namespace Go.Proofs.YthhiiceligjleaaGreatDoor.P
open Go.RowKit Go.Proofs.YthhiiceligjleaaGreatDoorW.PrintWords Go.Proofs.YthhiiceligjleaaGreatDoorW.PrintLast Go.Proofs.YthhiiceligjleaaGreatDoorW.PrintMore
attribute [local go_sem] qk qi qx qw qc qb qj qh
set_option linter.unusedVariables false
set_option linter.unusedSimpArgs false
def qOA.f (a0 : ByteArray) (l1 : List (S53)) : Option (ByteArray × Bool) := if (l1.length : Int) = 2 then (if 1 < (l1.length : Int) then (if 0 < (l1.length : Int) then ((qWA.f a0 l1 (([(([(qA l1 1).f0, (qA l1 1).f1] : List Int)), (([(qA l1 0).f0, (qA l1 0).f1] : List Int))] : List (List Int)))).bind fun bt552 => (some (bt552.1, bt552.2))) else (none)) else (none)) else (some ((⟨#[]⟩ : ByteArray), false))
def qOA.T3 : Bool × List (List Nat × List Nat) := (true, [([], []), ([], []), ([], []), ([2], [2]), ([3], [3]), ([4], [4]), ([], []), ([6], [6]), ([7], [7]), ([8], [8]), ([5, 9], [5, 9]), ([], []), ([11], [11]), ([12], [12]), ([13], [13]), ([], []), ([15], [15]), ([16], [16]), ([17], [17]), ([14, 18], [14, 18]), ([10, 19], [10, 19]), ([0, 1, 20], [0, 1, 20]), ([21], [21]), ([21], [21]), ([22, 21, 0, 1, 2, 3, 4, 5, 6, 7, 8, 9, 10, 11, 12, 13, 14, 15, 16, 17, 18, 19, 20, 21, 22, 23], [22]), ([23, 24, 0, 1, 2, 3, 4, 5, 6, 7, 8, 9, 10, 11, 12, 13, 14, 15, 16, 17, 18, 19, 20, 21, 22, 23, 24], [23])])
def qOA.B3 : List Nat := [0, 0, 0, 4, 12, 28, 0, 64, 192, 448, 1020, 0, 2048, 6144, 14336, 0, 32768, 98304, 229376, 522240, 1048572, 2097151, 4194303, 4194303, 16777215, 33554431]
theorem qOA.tab3 : rtab .any (opsOf Tryz.f12 3) = qOA.T3 := by kernel_rfl
theorem qOA.bits3 : waitsOk qOA.T3.2 qOA.B3 = true := by kernel_rfl
set_option maxHeartbeats 8000000 in
set_option maxRecDepth 100000 in
theorem qOA.calls (a0 : ByteArray) (A1 : Option Addr) (c1 : Nat) (l1 : List (S53)) (r1 : ByteArray) (r2 : Bool) (w : World) (hr1 : Kd.C k53 w A1 l1.length l1) (hc1 : l1.length ≤ c1) (hL : Laid w) (h : qOA.f a0 l1 = some (r1, r2)) :
  Calls Tryz.prog 12 #[.string a0, .slice A1 l1.length c1] w fun e w' => e = .returned (.tuple #[.string r1, .bool r2]) ∧ Below w.heap.size w w' := by
 have HR1 := aM hr1
 have HC1 := aM hc1
 clear hr1 hc1
 have HLD := aM hL
 clear hL
 have HB := aM (Below.refl w.heap.size w)
 have H : (if (l1.length : Int) = 2 then (if 1 < (l1.length : Int) then (if 0 < (l1.length : Int) then ((qWA.f a0 l1 (([(([(qA l1 1).f0, (qA l1 1).f1] : List Int)), (([(qA l1 0).f0, (qA l1 0).f1] : List Int))] : List (List Int)))).bind fun bt552 => (some (bt552.1, bt552.2))) else (none)) else (none)) else (some ((⟨#[]⟩ : ByteArray), false))) = some (r1, r2) := h
 clear h
 by_cases c3 : (l1.length : Int) = 2
 ·rw [if_pos c3] at H
  have c3b0 := beq_iff_eq.mpr c3
  have c3b1 := bne_eq_false_iff_eq.mpr c3
  clear c3
  by_cases c4 : 1 < (l1.length : Int)
  case neg => exact nN c4 H
  rw [if_pos c4] at H
  have c4b0 := decide_eq_true c4
  have c4b1 : decide (1 < l1.length) = true := decide_eq_true (by omega)
  clear c4
  obtain ⟨y541, hy541⟩ : ∃ y_ : List Int, y_ = (([(qA l1 1).f0, (qA l1 1).f1] : List Int)) := ⟨_, rfl⟩
  replace H : (if 0 < (l1.length : Int) then ((qWA.f a0 l1 (([y541, (([(qA l1 0).f0, (qA l1 0).f1] : List Int))] : List (List Int)))).bind fun bt552 => (some (bt552.1, bt552.2))) else (none)) = some (r1, r2) := by first | (rw [hy541]; with_reducible exact H) | (have H2_ := (Option.bind_some _ _).symm.trans H; rw [hy541]; with_reducible exact H2_) | (have H2_ := (Option.bind_some _ _).symm.trans H; with_reducible exact H2_) | with_reducible exact H | (rw [hy541]; exact H) | exact H
  have Ny541 := aM hy541
  clear hy541
  by_cases c5 : 0 < (l1.length : Int)
  case neg => exact nN c5 H
  rw [if_pos c5] at H
  have c5b0 := decide_eq_true c5
  have c5b1 : decide (0 < l1.length) = true := decide_eq_true (by omega)
  clear c5
  obtain ⟨y546, hy546⟩ : ∃ y_ : List Int, y_ = (([(qA l1 0).f0, (qA l1 0).f1] : List Int)) := ⟨_, rfl⟩
  replace H : ((qWA.f a0 l1 (([y541, y546] : List (List Int)))).bind fun bt552 => (some (bt552.1, bt552.2))) = some (r1, r2) := by first | (rw [hy546]; with_reducible exact H) | (have H2_ := (Option.bind_some _ _).symm.trans H; rw [hy546]; with_reducible exact H2_) | (have H2_ := (Option.bind_some _ _).symm.trans H; with_reducible exact H2_) | with_reducible exact H | (rw [hy546]; exact H) | exact H
  have Ny546 := aM hy546
  clear hy546
  obtain ⟨y549, hy549⟩ : ∃ y_ : List (List Int), y_ = (([y541, y546] : List (List Int))) := ⟨_, rfl⟩
  replace H : ((qWA.f a0 l1 y549).bind fun bt552 => (some (bt552.1, bt552.2))) = some (r1, r2) := by first | (rw [hy549]; with_reducible exact H) | (have H2_ := (Option.bind_some _ _).symm.trans H; rw [hy549]; with_reducible exact H2_) | (have H2_ := (Option.bind_some _ _).symm.trans H; with_reducible exact H2_) | with_reducible exact H | (rw [hy549]; exact H) | exact H
  have Ny549 := aM hy549
  clear hy549
  replace H := bO H
  obtain ⟨⟨t552, t553⟩, A6, H⟩ := H
  dsimp only at H A6
  simp only [Option.some.injEq, Prod.mk.injEq] at H
  obtain ⟨rfl, rfl⟩ := H
  go_enter Tryz.func12, Tryz.ntmps12
  try go_wp2
  replace HB := aM (qg HB.out)
  have p539 : 0 ≤ (1 : Int) := (by omega)
  have q539 : 1 < (l1.length : Int) := of_decide_eq_true am
  obtain ⟨ad539, e539, hx539_0, hx539_1, hx539_2, hx539_3, hx539_4, hx539_5, hx539_6, hx539_7⟩ := qDB HR1.out 1 p539 q539
  have hw539_7 := hx539_7
  (try rw [show ((1 : Int)).toNat = 1 from rfl] at hw539_7)
  (try rw [show 1 * 8 = 8 from rfl] at hw539_7)
  (try simp only [Nat.reduceMul, Nat.reduceEqDiff, Go.Addr.add, ↓reduceIte] at hw539_7)
  have hw539_6 := hx539_6
  (try rw [show ((1 : Int)).toNat = 1 from rfl] at hw539_6)
  (try rw [show 1 * 8 = 8 from rfl] at hw539_6)
  (try simp only [Nat.reduceMul, Nat.reduceEqDiff, Go.Addr.add, ↓reduceIte] at hw539_6)
  have hw539_5 := hx539_5
  (try rw [show ((1 : Int)).toNat = 1 from rfl] at hw539_5)
  (try rw [show 1 * 8 = 8 from rfl] at hw539_5)
  (try simp only [Nat.reduceMul, Nat.reduceEqDiff, Go.Addr.add, ↓reduceIte] at hw539_5)
  have hw539_4 := hx539_4
  (try rw [show ((1 : Int)).toNat = 1 from rfl] at hw539_4)
  (try rw [show 1 * 8 = 8 from rfl] at hw539_4)
  (try simp only [Nat.reduceMul, Nat.reduceEqDiff, Go.Addr.add, ↓reduceIte] at hw539_4)
  have hw539_3 := hx539_3
  (try rw [show ((1 : Int)).toNat = 1 from rfl] at hw539_3)
  (try rw [show 1 * 8 = 8 from rfl] at hw539_3)
  (try simp only [Nat.reduceMul, Nat.reduceEqDiff, Go.Addr.add, ↓reduceIte] at hw539_3)
  have hw539_2 := hx539_2
  (try rw [show ((1 : Int)).toNat = 1 from rfl] at hw539_2)
  (try rw [show 1 * 8 = 8 from rfl] at hw539_2)
  (try simp only [Nat.reduceMul, Nat.reduceEqDiff, Go.Addr.add, ↓reduceIte] at hw539_2)
  have hw539_1 := hx539_1
  (try rw [show ((1 : Int)).toNat = 1 from rfl] at hw539_1)
  (try rw [show 1 * 8 = 8 from rfl] at hw539_1)
  (try simp only [Nat.reduceMul, Nat.reduceEqDiff, Go.Addr.add, ↓reduceIte] at hw539_1)
  have hw539_0 := hx539_0
  (try rw [show ((1 : Int)).toNat = 1 from rfl] at hw539_0)
  (try rw [show 1 * 8 = 8 from rfl] at hw539_0)
  (try simp only [Nat.reduceMul, Nat.reduceEqDiff, Go.Addr.add, ↓reduceIte] at hw539_0)
  cases e539
  (try simp only [show (1 : Int).toNat = 1 from rfl, Nat.reduceMul, Nat.reduceEqDiff, Go.Addr.add, ↓reduceIte] at hx539_0)
  (try simp only [show (1 : Int).toNat = 1 from rfl, Nat.reduceMul, Nat.reduceEqDiff, Go.Addr.add, ↓reduceIte] at hx539_1)
  (try simp only [show (1 : Int).toNat = 1 from rfl, Nat.reduceMul, Nat.reduceEqDiff, Go.Addr.add, ↓reduceIte] at hx539_2)
  (try simp only [show (1 : Int).toNat = 1 from rfl, Nat.reduceMul, Nat.reduceEqDiff, Go.Addr.add, ↓reduceIte] at hx539_3)
  (try simp only [show (1 : Int).toNat = 1 from rfl, Nat.reduceMul, Nat.reduceEqDiff, Go.Addr.add, ↓reduceIte] at hx539_4)
  (try simp only [show (1 : Int).toNat = 1 from rfl, Nat.reduceMul, Nat.reduceEqDiff, Go.Addr.add, ↓reduceIte] at hx539_5)
  (try simp only [show (1 : Int).toNat = 1 from rfl, Nat.reduceMul, Nat.reduceEqDiff, Go.Addr.add, ↓reduceIte] at hx539_6)
  (try simp only [show (1 : Int).toNat = 1 from rfl, Nat.reduceMul, Nat.reduceEqDiff, Go.Addr.add, ↓reduceIte] at hx539_7)
  have qi539 : (1 < l1.length) = True := eq_true (by omega)
  (try rw [show ((1 : Int)).toNat = 1 from rfl] at hx539_0)
  (try rw [show 1 * 8 = 8 from rfl] at hx539_0)
  (try rw [show ((1 : Int)).toNat = 1 from rfl] at hx539_1)
  (try rw [show 1 * 8 = 8 from rfl] at hx539_1)
  (try rw [show ((1 : Int)).toNat = 1 from rfl] at hx539_2)
  (try rw [show 1 * 8 = 8 from rfl] at hx539_2)
  (try rw [show ((1 : Int)).toNat = 1 from rfl] at hx539_3)
  (try rw [show 1 * 8 = 8 from rfl] at hx539_3)
  (try rw [show ((1 : Int)).toNat = 1 from rfl] at hx539_4)
  (try rw [show 1 * 8 = 8 from rfl] at hx539_4)
  (try rw [show ((1 : Int)).toNat = 1 from rfl] at hx539_5)
  (try rw [show 1 * 8 = 8 from rfl] at hx539_5)
  (try rw [show ((1 : Int)).toNat = 1 from rfl] at hx539_6)
  (try rw [show 1 * 8 = 8 from rfl] at hx539_6)
  (try rw [show ((1 : Int)).toNat = 1 from rfl] at hx539_7)
  (try rw [show 1 * 8 = 8 from rfl] at hx539_7)
  replace hx539_0 := hB HB hx539_0
  replace hx539_1 := hB HB hx539_1
  replace hx539_2 := hB HB hx539_2
  replace hx539_3 := hB HB hx539_3
  replace hx539_4 := hB HB hx539_4
  replace hx539_5 := hB HB hx539_5
  replace hx539_6 := hB HB hx539_6
  replace hx539_7 := hB HB hx539_7
  replace p539 := eq_true p539
  replace q539 := eq_true q539
  have p540 : 0 ≤ (1 : Int) := (by omega)
  have q540 : 1 < (l1.length : Int) := of_decide_eq_true am
  obtain ⟨ad540, e540, hx540_0, hx540_1, hx540_2, hx540_3, hx540_4, hx540_5, hx540_6, hx540_7⟩ := qDB HR1.out 1 p540 q540
  have hw540_7 := hx540_7
  (try rw [show ((1 : Int)).toNat = 1 from rfl] at hw540_7)
  (try rw [show 1 * 8 = 8 from rfl] at hw540_7)
  (try simp only [Nat.reduceMul, Nat.reduceEqDiff, Go.Addr.add, ↓reduceIte] at hw540_7)
  have hw540_6 := hx540_6
  (try rw [show ((1 : Int)).toNat = 1 from rfl] at hw540_6)
  (try rw [show 1 * 8 = 8 from rfl] at hw540_6)
  (try simp only [Nat.reduceMul, Nat.reduceEqDiff, Go.Addr.add, ↓reduceIte] at hw540_6)
  have hw540_5 := hx540_5
  (try rw [show ((1 : Int)).toNat = 1 from rfl] at hw540_5)
  (try rw [show 1 * 8 = 8 from rfl] at hw540_5)
  (try simp only [Nat.reduceMul, Nat.reduceEqDiff, Go.Addr.add, ↓reduceIte] at hw540_5)
  have hw540_4 := hx540_4
  (try rw [show ((1 : Int)).toNat = 1 from rfl] at hw540_4)
  (try rw [show 1 * 8 = 8 from rfl] at hw540_4)
  (try simp only [Nat.reduceMul, Nat.reduceEqDiff, Go.Addr.add, ↓reduceIte] at hw540_4)
  have hw540_3 := hx540_3
  (try rw [show ((1 : Int)).toNat = 1 from rfl] at hw540_3)
  (try rw [show 1 * 8 = 8 from rfl] at hw540_3)
  (try simp only [Nat.reduceMul, Nat.reduceEqDiff, Go.Addr.add, ↓reduceIte] at hw540_3)
  have hw540_2 := hx540_2
  (try rw [show ((1 : Int)).toNat = 1 from rfl] at hw540_2)
  (try rw [show 1 * 8 = 8 from rfl] at hw540_2)
  (try simp only [Nat.reduceMul, Nat.reduceEqDiff, Go.Addr.add, ↓reduceIte] at hw540_2)
  have hw540_1 := hx540_1
  (try rw [show ((1 : Int)).toNat = 1 from rfl] at hw540_1)
  (try rw [show 1 * 8 = 8 from rfl] at hw540_1)
  (try simp only [Nat.reduceMul, Nat.reduceEqDiff, Go.Addr.add, ↓reduceIte] at hw540_1)
  have hw540_0 := hx540_0
  (try rw [show ((1 : Int)).toNat = 1 from rfl] at hw540_0)
  (try rw [show 1 * 8 = 8 from rfl] at hw540_0)
  (try simp only [Nat.reduceMul, Nat.reduceEqDiff, Go.Addr.add, ↓reduceIte] at hw540_0)
  obtain rfl : ad539 = ad540 := (by injection e540)
  (try simp only [show (1 : Int).toNat = 1 from rfl, Nat.reduceMul, Nat.reduceEqDiff, Go.Addr.add, ↓reduceIte] at hx540_0)
  (try simp only [show (1 : Int).toNat = 1 from rfl, Nat.reduceMul, Nat.reduceEqDiff, Go.Addr.add, ↓reduceIte] at hx540_1)
  (try simp only [show (1 : Int).toNat = 1 from rfl, Nat.reduceMul, Nat.reduceEqDiff, Go.Addr.add, ↓reduceIte] at hx540_2)
  (try simp only [show (1 : Int).toNat = 1 from rfl, Nat.reduceMul, Nat.reduceEqDiff, Go.Addr.add, ↓reduceIte] at hx540_3)
  (try simp only [show (1 : Int).toNat = 1 from rfl, Nat.reduceMul, Nat.reduceEqDiff, Go.Addr.add, ↓reduceIte] at hx540_4)
  (try simp only [show (1 : Int).toNat = 1 from rfl, Nat.reduceMul, Nat.reduceEqDiff, Go.Addr.add, ↓reduceIte] at hx540_5)
  (try simp only [show (1 : Int).toNat = 1 from rfl, Nat.reduceMul, Nat.reduceEqDiff, Go.Addr.add, ↓reduceIte] at hx540_6)
  (try simp only [show (1 : Int).toNat = 1 from rfl, Nat.reduceMul, Nat.reduceEqDiff, Go.Addr.add, ↓reduceIte] at hx540_7)
  have qi540 : (1 < l1.length) = True := eq_true (by omega)
  (try rw [show ((1 : Int)).toNat = 1 from rfl] at hx540_0)
  (try rw [show 1 * 8 = 8 from rfl] at hx540_0)
  (try rw [show ((1 : Int)).toNat = 1 from rfl] at hx540_1)
  (try rw [show 1 * 8 = 8 from rfl] at hx540_1)
  (try rw [show ((1 : Int)).toNat = 1 from rfl] at hx540_2)
  (try rw [show 1 * 8 = 8 from rfl] at hx540_2)
  (try rw [show ((1 : Int)).toNat = 1 from rfl] at hx540_3)
  (try rw [show 1 * 8 = 8 from rfl] at hx540_3)
  (try rw [show ((1 : Int)).toNat = 1 from rfl] at hx540_4)
  (try rw [show 1 * 8 = 8 from rfl] at hx540_4)
  (try rw [show ((1 : Int)).toNat = 1 from rfl] at hx540_5)
  (try rw [show 1 * 8 = 8 from rfl] at hx540_5)
  (try rw [show ((1 : Int)).toNat = 1 from rfl] at hx540_6)
  (try rw [show 1 * 8 = 8 from rfl] at hx540_6)
  (try rw [show ((1 : Int)).toNat = 1 from rfl] at hx540_7)
  (try rw [show 1 * 8 = 8 from rfl] at hx540_7)
  replace hx540_0 := hB HB hx540_0
  replace hx540_1 := hB HB hx540_1
  replace hx540_2 := hB HB hx540_2
  replace hx540_3 := hB HB hx540_3
  replace hx540_4 := hB HB hx540_4
  replace hx540_5 := hB HB hx540_5
  replace hx540_6 := hB HB hx540_6
  replace hx540_7 := hB HB hx540_7
  replace p540 := eq_true p540
  replace q540 := eq_true q540
  have p544 : 0 ≤ (0 : Int) := (by omega)
  have q544 : 0 < (l1.length : Int) := of_decide_eq_true am
  obtain ⟨ad544, e544, hx544_0, hx544_1, hx544_2, hx544_3, hx544_4, hx544_5, hx544_6, hx544_7⟩ := qDB HR1.out 0 p544 q544
  have hw544_7 := hx544_7
  (try rw [show ((0 : Int)).toNat = 0 from rfl] at hw544_7)
  (try rw [show 0 * 8 = 0 from rfl] at hw544_7)
  (try rw [Addr.add_zero'] at hw544_7)
  have hw544_6 := hx544_6
  (try rw [show ((0 : Int)).toNat = 0 from rfl] at hw544_6)
  (try rw [show 0 * 8 = 0 from rfl] at hw544_6)
  (try rw [Addr.add_zero'] at hw544_6)
  have hw544_5 := hx544_5
  (try rw [show ((0 : Int)).toNat = 0 from rfl] at hw544_5)
  (try rw [show 0 * 8 = 0 from rfl] at hw544_5)
  (try rw [Addr.add_zero'] at hw544_5)
  have hw544_4 := hx544_4
  (try rw [show ((0 : Int)).toNat = 0 from rfl] at hw544_4)
  (try rw [show 0 * 8 = 0 from rfl] at hw544_4)
  (try rw [Addr.add_zero'] at hw544_4)
  have hw544_3 := hx544_3
  (try rw [show ((0 : Int)).toNat = 0 from rfl] at hw544_3)
  (try rw [show 0 * 8 = 0 from rfl] at hw544_3)
  (try rw [Addr.add_zero'] at hw544_3)
  have hw544_2 := hx544_2
  (try rw [show ((0 : Int)).toNat = 0 from rfl] at hw544_2)
  (try rw [show 0 * 8 = 0 from rfl] at hw544_2)
  (try rw [Addr.add_zero'] at hw544_2)
  have hw544_1 := hx544_1
  (try rw [show ((0 : Int)).toNat = 0 from rfl] at hw544_1)
  (try rw [show 0 * 8 = 0 from rfl] at hw544_1)
  (try rw [Addr.add_zero'] at hw544_1)
  have hw544_0 := hx544_0
  (try rw [show ((0 : Int)).toNat = 0 from rfl] at hw544_0)
  (try rw [show 0 * 8 = 0 from rfl] at hw544_0)
  (try rw [Addr.add_zero'] at hw544_0)
  obtain rfl : ad539 = ad544 := (by injection e544)
  have qi544 : (0 < l1.length) = True := eq_true (by omega)
  (try rw [show ((0 : Int)).toNat = 0 from rfl] at hx544_0)
  (try rw [show 0 * 8 = 0 from rfl] at hx544_0)
  (try rw [Addr.add_zero'] at hx544_0)
  (try rw [show ((0 : Int)).toNat = 0 from rfl] at hx544_1)
  (try rw [show 0 * 8 = 0 from rfl] at hx544_1)
  (try rw [Addr.add_zero'] at hx544_1)
  (try rw [show ((0 : Int)).toNat = 0 from rfl] at hx544_2)
  (try rw [show 0 * 8 = 0 from rfl] at hx544_2)
  (try rw [Addr.add_zero'] at hx544_2)
  (try rw [show ((0 : Int)).toNat = 0 from rfl] at hx544_3)
  (try rw [show 0 * 8 = 0 from rfl] at hx544_3)
  (try rw [Addr.add_zero'] at hx544_3)
  (try rw [show ((0 : Int)).toNat = 0 from rfl] at hx544_4)
  (try rw [show 0 * 8 = 0 from rfl] at hx544_4)
  (try rw [Addr.add_zero'] at hx544_4)
  (try rw [show ((0 : Int)).toNat = 0 from rfl] at hx544_5)
  (try rw [show 0 * 8 = 0 from rfl] at hx544_5)
  (try rw [Addr.add_zero'] at hx544_5)
  (try rw [show ((0 : Int)).toNat = 0 from rfl] at hx544_6)
  (try rw [show 0 * 8 = 0 from rfl] at hx544_6)
  (try rw [Addr.add_zero'] at hx544_6)
  (try rw [show ((0 : Int)).toNat = 0 from rfl] at hx544_7)
  (try rw [show 0 * 8 = 0 from rfl] at hx544_7)
  (try rw [Addr.add_zero'] at hx544_7)
  replace hx544_0 := hB HB hx544_0
  replace hx544_1 := hB HB hx544_1
  replace hx544_2 := hB HB hx544_2
  replace hx544_3 := hB HB hx544_3
  replace hx544_4 := hB HB hx544_4
  replace hx544_5 := hB HB hx544_5
  replace hx544_6 := hB HB hx544_6
  replace hx544_7 := hB HB hx544_7
  replace p544 := eq_true p544
  replace q544 := eq_true q544
  have p545 : 0 ≤ (0 : Int) := (by omega)
  have q545 : 0 < (l1.length : Int) := of_decide_eq_true am
  obtain ⟨ad545, e545, hx545_0, hx545_1, hx545_2, hx545_3, hx545_4, hx545_5, hx545_6, hx545_7⟩ := qDB HR1.out 0 p545 q545
  have hw545_7 := hx545_7
  (try rw [show ((0 : Int)).toNat = 0 from rfl] at hw545_7)
  (try rw [show 0 * 8 = 0 from rfl] at hw545_7)
  (try rw [Addr.add_zero'] at hw545_7)
  have hw545_6 := hx545_6
  (try rw [show ((0 : Int)).toNat = 0 from rfl] at hw545_6)
  (try rw [show 0 * 8 = 0 from rfl] at hw545_6)
  (try rw [Addr.add_zero'] at hw545_6)
  have hw545_5 := hx545_5
  (try rw [show ((0 : Int)).toNat = 0 from rfl] at hw545_5)
  (try rw [show 0 * 8 = 0 from rfl] at hw545_5)
  (try rw [Addr.add_zero'] at hw545_5)
  have hw545_4 := hx545_4
  (try rw [show ((0 : Int)).toNat = 0 from rfl] at hw545_4)
  (try rw [show 0 * 8 = 0 from rfl] at hw545_4)
  (try rw [Addr.add_zero'] at hw545_4)
  have hw545_3 := hx545_3
  (try rw [show ((0 : Int)).toNat = 0 from rfl] at hw545_3)
  (try rw [show 0 * 8 = 0 from rfl] at hw545_3)
  (try rw [Addr.add_zero'] at hw545_3)
  have hw545_2 := hx545_2
  (try rw [show ((0 : Int)).toNat = 0 from rfl] at hw545_2)
  (try rw [show 0 * 8 = 0 from rfl] at hw545_2)
  (try rw [Addr.add_zero'] at hw545_2)
  have hw545_1 := hx545_1
  (try rw [show ((0 : Int)).toNat = 0 from rfl] at hw545_1)
  (try rw [show 0 * 8 = 0 from rfl] at hw545_1)
  (try rw [Addr.add_zero'] at hw545_1)
  have hw545_0 := hx545_0
  (try rw [show ((0 : Int)).toNat = 0 from rfl] at hw545_0)
  (try rw [show 0 * 8 = 0 from rfl] at hw545_0)
  (try rw [Addr.add_zero'] at hw545_0)
  obtain rfl : ad539 = ad545 := (by injection e545)
  have qi545 : (0 < l1.length) = True := eq_true (by omega)
  (try rw [show ((0 : Int)).toNat = 0 from rfl] at hx545_0)
  (try rw [show 0 * 8 = 0 from rfl] at hx545_0)
  (try rw [Addr.add_zero'] at hx545_0)
  (try rw [show ((0 : Int)).toNat = 0 from rfl] at hx545_1)
  (try rw [show 0 * 8 = 0 from rfl] at hx545_1)
  (try rw [Addr.add_zero'] at hx545_1)
  (try rw [show ((0 : Int)).toNat = 0 from rfl] at hx545_2)
  (try rw [show 0 * 8 = 0 from rfl] at hx545_2)
  (try rw [Addr.add_zero'] at hx545_2)
  (try rw [show ((0 : Int)).toNat = 0 from rfl] at hx545_3)
  (try rw [show 0 * 8 = 0 from rfl] at hx545_3)
  (try rw [Addr.add_zero'] at hx545_3)
  (try rw [show ((0 : Int)).toNat = 0 from rfl] at hx545_4)
  (try rw [show 0 * 8 = 0 from rfl] at hx545_4)
  (try rw [Addr.add_zero'] at hx545_4)
  (try rw [show ((0 : Int)).toNat = 0 from rfl] at hx545_5)
  (try rw [show 0 * 8 = 0 from rfl] at hx545_5)
  (try rw [Addr.add_zero'] at hx545_5)
  (try rw [show ((0 : Int)).toNat = 0 from rfl] at hx545_6)
  (try rw [show 0 * 8 = 0 from rfl] at hx545_6)
  (try rw [Addr.add_zero'] at hx545_6)
  (try rw [show ((0 : Int)).toNat = 0 from rfl] at hx545_7)
  (try rw [show 0 * 8 = 0 from rfl] at hx545_7)
  (try rw [Addr.add_zero'] at hx545_7)
  replace hx545_0 := hB HB hx545_0
  replace hx545_1 := hB HB hx545_1
  replace hx545_2 := hB HB hx545_2
  replace hx545_3 := hB HB hx545_3
  replace hx545_4 := hB HB hx545_4
  replace hx545_5 := hB HB hx545_5
  replace hx545_6 := hB HB hx545_6
  replace hx545_7 := hB HB hx545_7
  replace p545 := eq_true p545
  replace q545 := eq_true q545
  refine qIB (n := 26) (S := fun w' => True) (ds := []) #[false, false, false, false, false, false, false, false, false, false, false, false, false, false, false, false, false, false, false, false, false, false, false, false, false, false] (by kernel_rfl) rfl rfl trivial (fun hHeld => ?_); refine qPA qOA.tab3 qOA.bits3 (fun HT_ HW_ => ?_)
  generalize w.drew = w7 at HB hx539_0 hx539_1 hx539_2 hx539_3 hx539_4 hx539_5 hx539_6 hx539_7 hx540_0 hx540_1 hx540_2 hx540_3 hx540_4 hx540_5 hx540_6 hx540_7 hx544_0 hx544_1 hx544_2 hx544_3 hx544_4 hx544_5 hx544_6 hx544_7 hx545_0 hx545_1 hx545_2 hx545_3 hx545_4 hx545_5 hx545_6 hx545_7 hHeld ⊢
  refine pS (i := 0) (N := some 9) #[true, false, false, false, false, false, false, false, false, false, false, false, false, false, false, false, false, false, false, false, false, false, false, false, false, false] HT_ ?_
  refine pS (i := 1) (N := some 10) #[true, true, false, false, false, false, false, false, false, false, false, false, false, false, false, false, false, false, false, false, false, false, false, false, false, false] HT_ ?_
  refine pS (i := 2) (N := some 11) #[true, true, true, false, false, false, false, false, false, false, false, false, false, false, false, false, false, false, false, false, false, false, false, false, false, false] HT_ ?_
  refine pS (i := 6) (N := some 15) #[true, true, true, false, false, false, true, false, false, false, false, false, false, false, false, false, false, false, false, false, false, false, false, false, false, false] HT_ ?_
  refine pS (i := 11) (N := some 20) #[true, true, true, false, false, false, true, false, false, false, false, true, false, false, false, false, false, false, false, false, false, false, false, false, false, false] HT_ ?_
  refine pS (i := 15) (N := some 24) #[true, true, true, false, false, false, true, false, false, false, false, true, false, false, false, true, false, false, false, false, false, false, false, false, false, false] HT_ ?_
  refine qcE [3, 4, 5, 7, 8, 9, 10, 12, 13, 14, 16, 17, 18, 19, 20, 21, 22, 23, 24, 25] (fun a0_ b a w' => ∃ (v542 : Value) (v547 : Value) (v550 : Value), a = putSel a0_ b [(3, 12, .pointer (some (ad539.add 8))), (4, 13, .pointer (some (ad539.add 8))), (5, 14, .int .i64 ((qA l1 1).f0)), (7, 16, .pointer (some (ad539.add 8))), (8, 17, .pointer (some ⟨(ad539.add 8).block, (ad539.add 8).off + 1, none⟩)), (9, 18, .int .i64 ((qA l1 1).f1)), (10, 19, v542), (12, 21, .pointer (some ad539)), (13, 22, .pointer (some ad539)), (14, 23, .int .i64 ((qA l1 0).f0)), (16, 25, .pointer (some ad539)), (17, 26, .pointer (some ⟨ad539.block, ad539.off + 1, none⟩)), (18, 27, .int .i64 ((qA l1 0).f1)), (19, 28, v547), (20, 29, v550), (21, 30, .tuple #[.string t552, .bool t553]), (22, 31, .string t552), (23, 32, .bool t553), (24, 4, .string t552), (25, 5, .bool t553)] ∧ (Below w.heap.size w w') ∧ (b 10 = true → b 20 = false → Kd.R (Kd.int .i64) 3 w' w.heap.size (fun _ => True) v542 y541) ∧ (b 19 = true → b 20 = false → Kd.R (Kd.int .i64) 3 w' w.heap.size (fun _ => True) v547 y546) ∧ (b 20 = true → Kd.N (Kd.slice 3 (Kd.int .i64)) 69 w' w.heap.size (fun _ => True) v550 y549)) HT_.out HW_.out (by kernel_rfl) (by kernel_rfl) ?_ ?_ ?_
  ·exact ⟨.bool false, .bool false, .bool false, by simp only [putSel, Bool.false_eq_true, if_false], HB.out, fun h_ => absurd h_ (by decide), fun h_ => absurd h_ (by decide), fun h_ => absurd h_ (by decide)⟩
  ·skip
   clear HB
   refine qP ?_ ?_
   ·rintro b a w' ⟨v542, v547, v550, ha, Q_HB, Q_HO543, Q_HO548, Q_HO551⟩ hb_ hon hoff
    refine ⟨_, rfl, fun K hK => ?_⟩
    have e11 : a.tmps[11]? = some (.slice (some ad539) l1.length c1) := by rw [ha]; exact (qDA rfl).trans rfl
    replace ha := aM ha
    have HB := aM Q_HB
    have hs0_ : w'.cell? ⟨ad539.block, ad539.off + 8, none⟩ = some (.int .i64 ((qA l1 1).f0)) := (hB HB hw539_0 :)
    have hs1_ : w'.cell? ⟨ad539.block, ad539.off + 8 + 1, none⟩ = some (.int .i64 ((qA l1 1).f1)) := (hB HB hw539_1 :)
    have hs2_ : w'.cell? ⟨ad539.block, ad539.off + 8 + 2, none⟩ = some (.int .i64 ((qA l1 1).f2.f0)) := (hB HB hw539_2 :)
    have hs3_ : w'.cell? ⟨ad539.block, ad539.off + 8 + 3, none⟩ = some (.int .i64 ((qA l1 1).f2.f1)) := (hB HB hw539_3 :)
    have hs4_ : w'.cell? ⟨ad539.block, ad539.off + 8 + 4, none⟩ = some (.int .i64 ((qA l1 1).f2.f2)) := (hB HB hw539_4 :)
    have hs5_ : w'.cell? ⟨ad539.block, ad539.off + 8 + 5, none⟩ = some (.int .i64 ((qA l1 1).f2.f3)) := (hB HB hw539_5 :)
    have hs6_ : w'.cell? ⟨ad539.block, ad539.off + 8 + 6, none⟩ = some (.int .i64 ((qA l1 1).f2.f4)) := (hB HB hw539_6 :)
    have hs7_ : w'.cell? ⟨ad539.block, ad539.off + 8 + 7, none⟩ = some (.int .i64 ((qA l1 1).f2.f5)) := (hB HB hw539_7 :)
    refine qQA (w1 := w') (v := .pointer (some (ad539.add 8))) (by rfl) rfl ?_ ?_
    ·go_simp
     (try simp only [i64_w])
     try rfl
    refine hK.out _ _ ⟨v542, v547, v550, (by rw [ha.out]; exact qR 0 hb_ rfl rfl rfl), Q_HB, fun h0_ _ => aF (hoff 10 kr) h0_, Q_HO548, fun h0_ => aF (hoff 20 kr) h0_⟩
   refine qP ?_ ?_
   ·rintro b a w' ⟨v542, v547, v550, ha, Q_HB, Q_HO543, Q_HO548, Q_HO551⟩ hb_ hon hoff
    refine ⟨_, rfl, fun K hK => ?_⟩
    have e12 : a.tmps[12]? = some (.pointer (some (ad539.add 8))) := by rw [ha]; exact qa (e := (3, 12, .pointer (some (ad539.add 8)))) 0 rfl rfl (hon 3 kr) rfl
    replace ha := aM ha
    have HB := aM Q_HB
    refine qQA (w1 := w') (v := .pointer (some (ad539.add 8))) (by rfl) rfl ?_ ?_
    ·go_simp
     (try simp only [i64_w])
     try rfl
    refine hK.out _ _ ⟨v542, v547, v550, (by rw [ha.out]; exact qR 1 hb_ rfl rfl rfl), Q_HB, fun h0_ _ => aF (hoff 10 kr) h0_, Q_HO548, fun h0_ => aF (hoff 20 kr) h0_⟩
   refine qP ?_ ?_
   ·rintro b a w' ⟨v542, v547, v550, ha, Q_HB, Q_HO543, Q_HO548, Q_HO551⟩ hb_ hon hoff
    refine ⟨_, rfl, fun K hK => ?_⟩
    have e13 : a.tmps[13]? = some (.pointer (some (ad539.add 8))) := by rw [ha]; exact qa (e := (4, 13, .pointer (some (ad539.add 8)))) 1 rfl rfl (hon 4 kr) rfl
    replace ha := aM ha
    have HB := aM Q_HB
    have hs0_ : w'.cell? ⟨ad539.block, ad539.off + 8, none⟩ = some (.int .i64 ((qA l1 1).f0)) := (hB HB hw539_0 :)
    have hs1_ : w'.cell? ⟨ad539.block, ad539.off + 8 + 1, none⟩ = some (.int .i64 ((qA l1 1).f1)) := (hB HB hw539_1 :)
    have hs2_ : w'.cell? ⟨ad539.block, ad539.off + 8 + 2, none⟩ = some (.int .i64 ((qA l1 1).f2.f0)) := (hB HB hw539_2 :)
    have hs3_ : w'.cell? ⟨ad539.block, ad539.off + 8 + 3, none⟩ = some (.int .i64 ((qA l1 1).f2.f1)) := (hB HB hw539_3 :)
    have hs4_ : w'.cell? ⟨ad539.block, ad539.off + 8 + 4, none⟩ = some (.int .i64 ((qA l1 1).f2.f2)) := (hB HB hw539_4 :)
    have hs5_ : w'.cell? ⟨ad539.block, ad539.off + 8 + 5, none⟩ = some (.int .i64 ((qA l1 1).f2.f3)) := (hB HB hw539_5 :)
    have hs6_ : w'.cell? ⟨ad539.block, ad539.off + 8 + 6, none⟩ = some (.int .i64 ((qA l1 1).f2.f4)) := (hB HB hw539_6 :)
    have hs7_ : w'.cell? ⟨ad539.block, ad539.off + 8 + 7, none⟩ = some (.int .i64 ((qA l1 1).f2.f5)) := (hB HB hw539_7 :)
    refine qQA (w1 := w') (v := .int .i64 ((qA l1 1).f0)) (by rfl) rfl ?_ ?_
    ·go_simp
     (try simp only [i64_w])
     try rfl
    refine hK.out _ _ ⟨v542, v547, v550, (by rw [ha.out]; exact qR 2 hb_ rfl rfl rfl), Q_HB, fun h0_ _ => aF (hoff 10 kr) h0_, Q_HO548, fun h0_ => aF (hoff 20 kr) h0_⟩
   refine qP ?_ ?_
   ·rintro b a w' ⟨v542, v547, v550, ha, Q_HB, Q_HO543, Q_HO548, Q_HO551⟩ hb_ hon hoff
    refine ⟨_, rfl, fun K hK => ?_⟩
    have e15 : a.tmps[15]? = some (.slice (some ad539) l1.length c1) := by rw [ha]; exact (qDA rfl).trans rfl
    replace ha := aM ha
    have HB := aM Q_HB
    have hs8_ : w'.cell? ⟨ad539.block, ad539.off + 8, none⟩ = some (.int .i64 ((qA l1 1).f0)) := (hB HB hw540_0 :)
    have hs9_ : w'.cell? ⟨ad539.block, ad539.off + 8 + 1, none⟩ = some (.int .i64 ((qA l1 1).f1)) := (hB HB hw540_1 :)
    have hs10_ : w'.cell? ⟨ad539.block, ad539.off + 8 + 2, none⟩ = some (.int .i64 ((qA l1 1).f2.f0)) := (hB HB hw540_2 :)
    have hs11_ : w'.cell? ⟨ad539.block, ad539.off + 8 + 3, none⟩ = some (.int .i64 ((qA l1 1).f2.f1)) := (hB HB hw540_3 :)
    have hs12_ : w'.cell? ⟨ad539.block, ad539.off + 8 + 4, none⟩ = some (.int .i64 ((qA l1 1).f2.f2)) := (hB HB hw540_4 :)
    have hs13_ : w'.cell? ⟨ad539.block, ad539.off + 8 + 5, none⟩ = some (.int .i64 ((qA l1 1).f2.f3)) := (hB HB hw540_5 :)
    have hs14_ : w'.cell? ⟨ad539.block, ad539.off + 8 + 6, none⟩ = some (.int .i64 ((qA l1 1).f2.f4)) := (hB HB hw540_6 :)
    have hs15_ : w'.cell? ⟨ad539.block, ad539.off + 8 + 7, none⟩ = some (.int .i64 ((qA l1 1).f2.f5)) := (hB HB hw540_7 :)
    refine qQA (w1 := w') (v := .pointer (some (ad539.add 8))) (by rfl) rfl ?_ ?_
    ·go_simp
     (try simp only [i64_w])
     try rfl
    refine hK.out _ _ ⟨v542, v547, v550, (by rw [ha.out]; exact qR 3 hb_ rfl rfl rfl), Q_HB, fun h0_ _ => aF (hoff 10 kr) h0_, Q_HO548, fun h0_ => aF (hoff 20 kr) h0_⟩
   refine qP ?_ ?_
   ·rintro b a w' ⟨v542, v547, v550, ha, Q_HB, Q_HO543, Q_HO548, Q_HO551⟩ hb_ hon hoff
    refine ⟨_, rfl, fun K hK => ?_⟩
    have e16 : a.tmps[16]? = some (.pointer (some (ad539.add 8))) := by rw [ha]; exact qa (e := (7, 16, .pointer (some (ad539.add 8)))) 3 rfl rfl (hon 7 kr) rfl
    replace ha := aM ha
    have HB := aM Q_HB
    refine qQA (w1 := w') (v := .pointer (some ⟨(ad539.add 8).block, (ad539.add 8).off + 1, none⟩)) (by rfl) rfl ?_ ?_
    ·go_simp
     (try simp only [i64_w])
     try rfl
    refine hK.out _ _ ⟨v542, v547, v550, (by rw [ha.out]; exact qR 4 hb_ rfl rfl rfl), Q_HB, fun h0_ _ => aF (hoff 10 kr) h0_, Q_HO548, fun h0_ => aF (hoff 20 kr) h0_⟩
   refine qP ?_ ?_
   ·rintro b a w' ⟨v542, v547, v550, ha, Q_HB, Q_HO543, Q_HO548, Q_HO551⟩ hb_ hon hoff
    refine ⟨_, rfl, fun K hK => ?_⟩
    have e17 : a.tmps[17]? = some (.pointer (some ⟨(ad539.add 8).block, (ad539.add 8).off + 1, none⟩)) := by rw [ha]; exact qa (e := (8, 17, .pointer (some ⟨(ad539.add 8).block, (ad539.add 8).off + 1, none⟩))) 4 rfl rfl (hon 8 kr) rfl
    replace ha := aM ha
    have HB := aM Q_HB
    have hs8_ : w'.cell? ⟨ad539.block, ad539.off + 8, none⟩ = some (.int .i64 ((qA l1 1).f0)) := (hB HB hw540_0 :)
    have hs9_ : w'.cell? ⟨ad539.block, ad539.off + 8 + 1, none⟩ = some (.int .i64 ((qA l1 1).f1)) := (hB HB hw540_1 :)
    have hs10_ : w'.cell? ⟨ad539.block, ad539.off + 8 + 2, none⟩ = some (.int .i64 ((qA l1 1).f2.f0)) := (hB HB hw540_2 :)
    have hs11_ : w'.cell? ⟨ad539.block, ad539.off + 8 + 3, none⟩ = some (.int .i64 ((qA l1 1).f2.f1)) := (hB HB hw540_3 :)
    have hs12_ : w'.cell? ⟨ad539.block, ad539.off + 8 + 4, none⟩ = some (.int .i64 ((qA l1 1).f2.f2)) := (hB HB hw540_4 :)
    have hs13_ : w'.cell? ⟨ad539.block, ad539.off + 8 + 5, none⟩ = some (.int .i64 ((qA l1 1).f2.f3)) := (hB HB hw540_5 :)
    have hs14_ : w'.cell? ⟨ad539.block, ad539.off + 8 + 6, none⟩ = some (.int .i64 ((qA l1 1).f2.f4)) := (hB HB hw540_6 :)
    have hs15_ : w'.cell? ⟨ad539.block, ad539.off + 8 + 7, none⟩ = some (.int .i64 ((qA l1 1).f2.f5)) := (hB HB hw540_7 :)
    refine qQA (w1 := w') (v := .int .i64 ((qA l1 1).f1)) (by rfl) rfl ?_ ?_
    ·go_simp
     (try simp only [i64_w])
     try rfl
    refine hK.out _ _ ⟨v542, v547, v550, (by rw [ha.out]; exact qR 5 hb_ rfl rfl rfl), Q_HB, fun h0_ _ => aF (hoff 10 kr) h0_, Q_HO548, fun h0_ => aF (hoff 20 kr) h0_⟩
   refine qP ?_ ?_
   ·rintro b a w' ⟨v542, v547, v550, ha, Q_HB, Q_HO543, Q_HO548, Q_HO551⟩ hb_ hon hoff
    refine ⟨_, rfl, fun K hK => ?_⟩
    have e14 : a.tmps[14]? = some (.int .i64 ((qA l1 1).f0)) := by rw [ha]; exact qa (e := (5, 14, .int .i64 ((qA l1 1).f0))) 2 rfl rfl (hon 5 kr) rfl
    have e18 : a.tmps[18]? = some (.int .i64 ((qA l1 1).f1)) := by rw [ha]; exact qa (e := (9, 18, .int .i64 ((qA l1 1).f1))) 5 rfl rfl (hon 9 kr) rfl
    replace ha := aM ha
    have HB := aM Q_HB
    refine Kd.qYA (Kd.int .i64) _ 3 ?hg (N := 19) ?hd (xs := ([(qA l1 1).f0, (qA l1 1).f1] : List Int)) (inner := [.int .i64 ((qA l1 1).f0), .int .i64 ((qA l1 1).f1)]) (ok := fun _ => True) (okp := fun _ => True) ?hr ?hp (fun _ hk => hk) trivial (Below.refl _ _) (Nat.le_refl _) (by simp) ?_; (case hd => rfl); (case hg => rfl); (case hr => exact gS); (case hp => exact (Reps.one (show Kd.M (Kd.int .i64) _ _ _ ((qA l1 1).f0) [.int .i64 ((qA l1 1).f0)] from rfl) (Reps.one (show Kd.M (Kd.int .i64) _ _ _ ((qA l1 1).f1) [.int .i64 ((qA l1 1).f1)] from rfl) (Reps.none _ _))))
    intro v542 w8 ho9 hb hg_ hnew_
    clear hg_ hnew_
    (first | rw [← Ny541.out] at ho9 | (simp only [Int.reduceToNat] at ho9; rw [← Ny541.out] at ho9))
    have n0_ := aM (Kd.qAA ho9 (qJ bl))
    have n1_ := aM (qB bl hb)
    have z_HO548 := fun (h0_ : b 19 = true) (h1_ : b 20 = false) => (show Kd.R (Kd.int .i64) 3 w8 w.heap.size (fun _ => True) v547 y546 from by first | exact (Kd.qIA (by (with_reducible repeat (first | apply Kd.qL | apply Kd.qO | apply Kd.qQ)); exact (Q_HO548 h0_ h1_)) (Kd.qcA ho9) hb) | exact Kd.qX (Kd.qIA (by (with_reducible repeat (first | apply Kd.qL | apply Kd.qO | apply Kd.qQ)); exact (Q_HO548 h0_ h1_)) (Kd.qcA ho9) hb) (fun _ h_ => by first | trivial | exact h_ | exact h_.1))
    clear HB
    have HO543 := n0_
    have HB := n1_
    clear n0_ n1_ hb ho9
    refine hK.out _ _ ⟨v542, v547, v550, (by rw [ha.out]; exact qR 6 hb_ rfl rfl rfl), bl, fun _ _ => (rR HO543), z_HO548, fun h0_ => aF (hoff 20 kr) h0_⟩
   refine qP ?_ ?_
   ·rintro b a w' ⟨v542, v547, v550, ha, Q_HB, Q_HO543, Q_HO548, Q_HO551⟩ hb_ hon hoff
    refine ⟨_, rfl, fun K hK => ?_⟩
    have e20 : a.tmps[20]? = some (.slice (some ad539) l1.length c1) := by rw [ha]; exact (qDA rfl).trans rfl
    replace ha := aM ha
    have HB := aM Q_HB
    have hs16_ : w'.cell? ad539 = some (.int .i64 ((qA l1 0).f0)) := (hB HB hw544_0 :)
    have hs17_ : w'.cell? ⟨ad539.block, ad539.off + 1, none⟩ = some (.int .i64 ((qA l1 0).f1)) := (hB HB hw544_1 :)
    have hs18_ : w'.cell? ⟨ad539.block, ad539.off + 2, none⟩ = some (.int .i64 ((qA l1 0).f2.f0)) := (hB HB hw544_2 :)
    have hs19_ : w'.cell? ⟨ad539.block, ad539.off + 3, none⟩ = some (.int .i64 ((qA l1 0).f2.f1)) := (hB HB hw544_3 :)
    have hs20_ : w'.cell? ⟨ad539.block, ad539.off + 4, none⟩ = some (.int .i64 ((qA l1 0).f2.f2)) := (hB HB hw544_4 :)
    have hs21_ : w'.cell? ⟨ad539.block, ad539.off + 5, none⟩ = some (.int .i64 ((qA l1 0).f2.f3)) := (hB HB hw544_5 :)
    have hs22_ : w'.cell? ⟨ad539.block, ad539.off + 6, none⟩ = some (.int .i64 ((qA l1 0).f2.f4)) := (hB HB hw544_6 :)
    have hs23_ : w'.cell? ⟨ad539.block, ad539.off + 7, none⟩ = some (.int .i64 ((qA l1 0).f2.f5)) := (hB HB hw544_7 :)
    refine qQA (w1 := w') (v := .pointer (some ad539)) (by rfl) rfl ?_ ?_
    ·go_simp
     (try simp only [i64_w])
     try rfl
    refine hK.out _ _ ⟨v542, v547, v550, (by rw [ha.out]; exact qR 7 hb_ rfl rfl rfl), Q_HB, Q_HO543, fun h0_ _ => aF (hoff 19 kr) h0_, fun h0_ => aF (hoff 20 kr) h0_⟩
   refine qP ?_ ?_
   ·rintro b a w' ⟨v542, v547, v550, ha, Q_HB, Q_HO543, Q_HO548, Q_HO551⟩ hb_ hon hoff
    refine ⟨_, rfl, fun K hK => ?_⟩
    have e21 : a.tmps[21]? = some (.pointer (some ad539)) := by rw [ha]; exact qa (e := (12, 21, .pointer (some ad539))) 7 rfl rfl (hon 12 kr) rfl
    replace ha := aM ha
    have HB := aM Q_HB
    refine qQA (w1 := w') (v := .pointer (some ad539)) (by rfl) rfl ?_ ?_
    ·go_simp
     (try simp only [i64_w])
     try rfl
    refine hK.out _ _ ⟨v542, v547, v550, (by rw [ha.out]; exact qR 8 hb_ rfl rfl rfl), Q_HB, Q_HO543, fun h0_ _ => aF (hoff 19 kr) h0_, fun h0_ => aF (hoff 20 kr) h0_⟩
   refine qP ?_ ?_
   ·rintro b a w' ⟨v542, v547, v550, ha, Q_HB, Q_HO543, Q_HO548, Q_HO551⟩ hb_ hon hoff
    refine ⟨_, rfl, fun K hK => ?_⟩
    have e22 : a.tmps[22]? = some (.pointer (some ad539)) := by rw [ha]; exact qa (e := (13, 22, .pointer (some ad539))) 8 rfl rfl (hon 13 kr) rfl
    replace ha := aM ha
    have HB := aM Q_HB
    have hs16_ : w'.cell? ad539 = some (.int .i64 ((qA l1 0).f0)) := (hB HB hw544_0 :)
    have hs17_ : w'.cell? ⟨ad539.block, ad539.off + 1, none⟩ = some (.int .i64 ((qA l1 0).f1)) := (hB HB hw544_1 :)
    have hs18_ : w'.cell? ⟨ad539.block, ad539.off + 2, none⟩ = some (.int .i64 ((qA l1 0).f2.f0)) := (hB HB hw544_2 :)
    have hs19_ : w'.cell? ⟨ad539.block, ad539.off + 3, none⟩ = some (.int .i64 ((qA l1 0).f2.f1)) := (hB HB hw544_3 :)
    have hs20_ : w'.cell? ⟨ad539.block, ad539.off + 4, none⟩ = some (.int .i64 ((qA l1 0).f2.f2)) := (hB HB hw544_4 :)
    have hs21_ : w'.cell? ⟨ad539.block, ad539.off + 5, none⟩ = some (.int .i64 ((qA l1 0).f2.f3)) := (hB HB hw544_5 :)
    have hs22_ : w'.cell? ⟨ad539.block, ad539.off + 6, none⟩ = some (.int .i64 ((qA l1 0).f2.f4)) := (hB HB hw544_6 :)
    have hs23_ : w'.cell? ⟨ad539.block, ad539.off + 7, none⟩ = some (.int .i64 ((qA l1 0).f2.f5)) := (hB HB hw544_7 :)
    refine qQA (w1 := w') (v := .int .i64 ((qA l1 0).f0)) (by rfl) rfl ?_ ?_
    ·go_simp
     (try simp only [i64_w])
     try rfl
    refine hK.out _ _ ⟨v542, v547, v550, (by rw [ha.out]; exact qR 9 hb_ rfl rfl rfl), Q_HB, Q_HO543, fun h0_ _ => aF (hoff 19 kr) h0_, fun h0_ => aF (hoff 20 kr) h0_⟩
   refine qP ?_ ?_
   ·rintro b a w' ⟨v542, v547, v550, ha, Q_HB, Q_HO543, Q_HO548, Q_HO551⟩ hb_ hon hoff
    refine ⟨_, rfl, fun K hK => ?_⟩
    have e24 : a.tmps[24]? = some (.slice (some ad539) l1.length c1) := by rw [ha]; exact (qDA rfl).trans rfl
    replace ha := aM ha
    have HB := aM Q_HB
    have hs24_ : w'.cell? ad539 = some (.int .i64 ((qA l1 0).f0)) := (hB HB hw545_0 :)
    have hs25_ : w'.cell? ⟨ad539.block, ad539.off + 1, none⟩ = some (.int .i64 ((qA l1 0).f1)) := (hB HB hw545_1 :)
    have hs26_ : w'.cell? ⟨ad539.block, ad539.off + 2, none⟩ = some (.int .i64 ((qA l1 0).f2.f0)) := (hB HB hw545_2 :)
    have hs27_ : w'.cell? ⟨ad539.block, ad539.off + 3, none⟩ = some (.int .i64 ((qA l1 0).f2.f1)) := (hB HB hw545_3 :)
    have hs28_ : w'.cell? ⟨ad539.block, ad539.off + 4, none⟩ = some (.int .i64 ((qA l1 0).f2.f2)) := (hB HB hw545_4 :)
    have hs29_ : w'.cell? ⟨ad539.block, ad539.off + 5, none⟩ = some (.int .i64 ((qA l1 0).f2.f3)) := (hB HB hw545_5 :)
    have hs30_ : w'.cell? ⟨ad539.block, ad539.off + 6, none⟩ = some (.int .i64 ((qA l1 0).f2.f4)) := (hB HB hw545_6 :)
    have hs31_ : w'.cell? ⟨ad539.block, ad539.off + 7, none⟩ = some (.int .i64 ((qA l1 0).f2.f5)) := (hB HB hw545_7 :)
    refine qQA (w1 := w') (v := .pointer (some ad539)) (by rfl) rfl ?_ ?_
    ·go_simp
     (try simp only [i64_w])
     try rfl
    refine hK.out _ _ ⟨v542, v547, v550, (by rw [ha.out]; exact qR 10 hb_ rfl rfl rfl), Q_HB, Q_HO543, fun h0_ _ => aF (hoff 19 kr) h0_, fun h0_ => aF (hoff 20 kr) h0_⟩
   refine qP ?_ ?_
   ·rintro b a w' ⟨v542, v547, v550, ha, Q_HB, Q_HO543, Q_HO548, Q_HO551⟩ hb_ hon hoff
    refine ⟨_, rfl, fun K hK => ?_⟩
    have e25 : a.tmps[25]? = some (.pointer (some ad539)) := by rw [ha]; exact qa (e := (16, 25, .pointer (some ad539))) 10 rfl rfl (hon 16 kr) rfl
    replace ha := aM ha
    have HB := aM Q_HB
    refine qQA (w1 := w') (v := .pointer (some ⟨ad539.block, ad539.off + 1, none⟩)) (by rfl) rfl ?_ ?_
    ·go_simp
     (try simp only [i64_w])
     try rfl
    refine hK.out _ _ ⟨v542, v547, v550, (by rw [ha.out]; exact qR 11 hb_ rfl rfl rfl), Q_HB, Q_HO543, fun h0_ _ => aF (hoff 19 kr) h0_, fun h0_ => aF (hoff 20 kr) h0_⟩
   refine qP ?_ ?_
   ·rintro b a w' ⟨v542, v547, v550, ha, Q_HB, Q_HO543, Q_HO548, Q_HO551⟩ hb_ hon hoff
    refine ⟨_, rfl, fun K hK => ?_⟩
    have e26 : a.tmps[26]? = some (.pointer (some ⟨ad539.block, ad539.off + 1, none⟩)) := by rw [ha]; exact qa (e := (17, 26, .pointer (some ⟨ad539.block, ad539.off + 1, none⟩))) 11 rfl rfl (hon 17 kr) rfl
    replace ha := aM ha
    have HB := aM Q_HB
    have hs24_ : w'.cell? ad539 = some (.int .i64 ((qA l1 0).f0)) := (hB HB hw545_0 :)
    have hs25_ : w'.cell? ⟨ad539.block, ad539.off + 1, none⟩ = some (.int .i64 ((qA l1 0).f1)) := (hB HB hw545_1 :)
    have hs26_ : w'.cell? ⟨ad539.block, ad539.off + 2, none⟩ = some (.int .i64 ((qA l1 0).f2.f0)) := (hB HB hw545_2 :)
    have hs27_ : w'.cell? ⟨ad539.block, ad539.off + 3, none⟩ = some (.int .i64 ((qA l1 0).f2.f1)) := (hB HB hw545_3 :)
    have hs28_ : w'.cell? ⟨ad539.block, ad539.off + 4, none⟩ = some (.int .i64 ((qA l1 0).f2.f2)) := (hB HB hw545_4 :)
    have hs29_ : w'.cell? ⟨ad539.block, ad539.off + 5, none⟩ = some (.int .i64 ((qA l1 0).f2.f3)) := (hB HB hw545_5 :)
    have hs30_ : w'.cell? ⟨ad539.block, ad539.off + 6, none⟩ = some (.int .i64 ((qA l1 0).f2.f4)) := (hB HB hw545_6 :)
    have hs31_ : w'.cell? ⟨ad539.block, ad539.off + 7, none⟩ = some (.int .i64 ((qA l1 0).f2.f5)) := (hB HB hw545_7 :)
    refine qQA (w1 := w') (v := .int .i64 ((qA l1 0).f1)) (by rfl) rfl ?_ ?_
    ·go_simp
     (try simp only [i64_w])
     try rfl
    refine hK.out _ _ ⟨v542, v547, v550, (by rw [ha.out]; exact qR 12 hb_ rfl rfl rfl), Q_HB, Q_HO543, fun h0_ _ => aF (hoff 19 kr) h0_, fun h0_ => aF (hoff 20 kr) h0_⟩
   refine qP ?_ ?_
   ·rintro b a w' ⟨v542, v547, v550, ha, Q_HB, Q_HO543, Q_HO548, Q_HO551⟩ hb_ hon hoff
    refine ⟨_, rfl, fun K hK => ?_⟩
    have e23 : a.tmps[23]? = some (.int .i64 ((qA l1 0).f0)) := by rw [ha]; exact qa (e := (14, 23, .int .i64 ((qA l1 0).f0))) 9 rfl rfl (hon 14 kr) rfl
    have e27 : a.tmps[27]? = some (.int .i64 ((qA l1 0).f1)) := by rw [ha]; exact qa (e := (18, 27, .int .i64 ((qA l1 0).f1))) 12 rfl rfl (hon 18 kr) rfl
    replace ha := aM ha
    have HB := aM Q_HB
    refine Kd.qYA (Kd.int .i64) _ 3 ?hg (N := 28) ?hd (xs := ([(qA l1 0).f0, (qA l1 0).f1] : List Int)) (inner := [.int .i64 ((qA l1 0).f0), .int .i64 ((qA l1 0).f1)]) (ok := fun _ => True) (okp := fun _ => True) ?hr ?hp (fun _ hk => hk) trivial (Below.refl _ _) (Nat.le_refl _) (by simp) ?_; (case hd => rfl); (case hg => rfl); (case hr => exact gS); (case hp => exact (Reps.one (show Kd.M (Kd.int .i64) _ _ _ ((qA l1 0).f0) [.int .i64 ((qA l1 0).f0)] from rfl) (Reps.one (show Kd.M (Kd.int .i64) _ _ _ ((qA l1 0).f1) [.int .i64 ((qA l1 0).f1)] from rfl) (Reps.none _ _))))
    intro v547 w8 ho9 hb hg_ hnew_
    clear hg_ hnew_
    (first | rw [← Ny546.out] at ho9 | (simp only [Int.reduceToNat] at ho9; rw [← Ny546.out] at ho9))
    have n0_ := aM (Kd.qAA ho9 (qJ bl))
    have n1_ := aM (qB bl hb)
    have z_HO543 := fun (h0_ : b 10 = true) (h1_ : b 20 = false) => (show Kd.R (Kd.int .i64) 3 w8 w.heap.size (fun _ => True) v542 y541 from by first | exact (Kd.qIA (by (with_reducible repeat (first | apply Kd.qL | apply Kd.qO | apply Kd.qQ)); exact (Q_HO543 h0_ h1_)) (Kd.qcA ho9) hb) | exact Kd.qX (Kd.qIA (by (with_reducible repeat (first | apply Kd.qL | apply Kd.qO | apply Kd.qQ)); exact (Q_HO543 h0_ h1_)) (Kd.qcA ho9) hb) (fun _ h_ => by first | trivial | exact h_ | exact h_.1))
    clear HB
    have HO548 := n0_
    have HB := n1_
    clear n0_ n1_ hb ho9
    refine hK.out _ _ ⟨v542, v547, v550, (by rw [ha.out]; exact qR 13 hb_ rfl rfl rfl), bl, z_HO543, fun _ _ => (rR HO548), fun h0_ => aF (hoff 20 kr) h0_⟩
   refine qP ?_ ?_
   ·rintro b a w' ⟨v542, v547, v550, ha, Q_HB, Q_HO543, Q_HO548, Q_HO551⟩ hb_ hon hoff
    refine ⟨_, rfl, fun K hK => ?_⟩
    have e19 : a.tmps[19]? = some (v542) := by rw [ha]; exact qa (e := (10, 19, v542)) 6 rfl rfl (hon 10 kr) rfl
    have e28 : a.tmps[28]? = some (v547) := by rw [ha]; exact qa (e := (19, 28, v547)) 13 rfl rfl (hon 19 kr) rfl
    replace ha := aM ha
    have HB := aM Q_HB
    have HO543 := aM (Q_HO543 (hon 10 kr) hb_)
    have HO548 := aM (Q_HO548 (hon 19 kr) hb_)
    obtain ⟨Ao13, co13, eo13⟩ := Kd.qCA HO543.out
    (first | subst eo13 | (injection eo13 with f1_ f2_ f3_; have f4_ := f1_.symm; have f5_ := f3_.symm; clear f1_ f2_ f3_; subst f4_; subst f5_))
    obtain ⟨Ao14, co14, eo14⟩ := Kd.qCA HO548.out
    (first | subst eo14 | (injection eo14 with f1_ f2_ f3_; have f4_ := f1_.symm; have f5_ := f3_.symm; clear f1_ f2_ f3_; subst f4_; subst f5_))
    refine Kd.N_lit_step (Kd.slice 3 (Kd.int .i64)) _ 69 ?hg (N' := 29) ?hd (xs := ([y541, y546] : List (List Int))) (inner := [.slice Ao13 y541.length co13, .slice Ao14 y546.length co14]) (ok := (fun _ => True)) (okp := (fun _ => True)) ?hr ?hp (fun _ hk => hk) ((show ∀ k_, w'.heap.size ≤ k_ → (fun _ => True) k_ from fun k_ hk => trivial) _ (Nat.le_refl _)) (Below.refl _ _) (Nat.le_refl _) (by simp) ?_; (case hd => rfl); (case hg => rfl); (case hr => exact gS); (case hp => exact (Reps.one (show Kd.FK (Kd.slice 3 (Kd.int .i64)) _ _ y541 [.slice Ao13 y541.length co13] from (Kd.qIC (Kd.qN (Kd.qX (ok' := (fun _ => True)) (HO543.out) (fun k_ hk => trivial))).2.1 (Kd.R_F (Kd.qX (ok' := (fun _ => True)) (HO543.out) (fun k_ hk => trivial))))) (Reps.one (show Kd.FK (Kd.slice 3 (Kd.int .i64)) _ _ y546 [.slice Ao14 y546.length co14] from (Kd.qIC (Kd.qN (Kd.qX (ok' := (fun _ => True)) (HO548.out) (fun k_ hk => trivial))).2.1 (Kd.R_F (Kd.qX (ok' := (fun _ => True)) (HO548.out) (fun k_ hk => trivial))))) (Reps.none _ _))))
    intro v550 w15 ho16 hb hg_ hnew_
    clear hg_ hnew_
    (first | rw [← Ny549.out] at ho16 | (simp only [Int.reduceToNat] at ho16; rw [← Ny549.out] at ho16))
    have HO551 := aM (Kd.qYE ho16 (qJ bl))
    replace HB := aM (qB bl hb)
    clear HO543
    clear HO548
    clear hb ho16
    refine hK.out _ _ ⟨.slice Ao13 y541.length co13, .slice Ao14 y546.length co14, v550, (by rw [ha.out]; exact qR 14 hb_ rfl rfl rfl), bl, fun _ h1_ => absurd ((qOB b 20).symm.trans h1_) (by decide), fun _ h1_ => absurd ((qOB b 20).symm.trans h1_) (by decide), fun _ => (rN HO551)⟩
   refine qP ?_ ?_
   ·rintro b a w' ⟨v542, v547, v550, ha, Q_HB, Q_HO543, Q_HO548, Q_HO551⟩ hb_ hon hoff
    refine ⟨_, rfl, fun K hK => ?_⟩
    have e9 : a.tmps[9]? = some (.string a0) := by rw [ha]; exact (qDA rfl).trans rfl
    have e10 : a.tmps[10]? = some (.slice (some ad539) l1.length c1) := by rw [ha]; exact (qDA rfl).trans rfl
    have e29 : a.tmps[29]? = some (v550) := by rw [ha]; exact qa (e := (20, 29, v550)) 14 rfl rfl (hon 20 kr) rfl
    replace ha := aM ha
    have HB := aM Q_HB
    have HO551 := aM (Q_HO551 (hon 20 kr))
    obtain ⟨Ao17, co17, eo17⟩ := Kd.qCD HO551.out
    (first | subst eo17 | (injection eo17 with f1_ f2_ f3_; have f4_ := f1_.symm; have f5_ := f3_.symm; clear f1_ f2_ f3_; subst f4_; subst f5_))
    refine goes_ Tryz.func16 (by kernel_rfl) rfl #[.string a0, .slice (some ad539) l1.length c1, .slice Ao17 y549.length co17] (by rfl) rfl rfl (by first | (simp only [List.map_toArray, List.map_cons, List.map_nil, Act.eval, Array.getD_eq_getD_getElem?, Option.getD_some, e9, e10, e29]; done) | (simp only [List.map_toArray, List.map_cons, List.map_nil, Act.eval, Array.getD_eq_getD_getElem?, Option.getD_some, e9, e10, e29]; rfl)) ?_
    with_reducible refine (qWA.calls a0 _ _ l1 _ _ y549 t552 t553 _ ?side1 ?side2 ?side3 ?side4 ?side5 A6.out).mono ?_
    (case side1 => repeat (first | exact (Kd.qY HR1.out HB.out) | (with_reducible refine Kd.qV ?_ _) | (with_reducible refine Kd.qU ?_ _) | (with_reducible refine Kd.qf ?_)))
    (case side2 => exact HC1.out)
    (case side3 => repeat (first | exact (Kd.qbB HO551.out).2.2 | (with_reducible refine Kd.qV ?_ _) | (with_reducible refine Kd.qU ?_ _) | (with_reducible refine Kd.qf ?_)))
    (case side4 => exact (Kd.qbB HO551.out).2.1)
    (case side5 => first | (with_reducible exact HLD.out) | exact Laid.below HLD.out bl)
    rintro e w18 ⟨rfl, hb⟩
    refine ⟨_, rfl, ?_⟩
    replace HO551 := aM (Kd.qqB (rN HO551) hb)
    replace HB := aM (qB bl hb); (try clear hb); (try clear hb2); (try clear hk); (try clear hi)
    refine hK.out _ _ ⟨v542, v547, .slice Ao17 y549.length co17, (by rw [ha.out]; exact qR 15 hb_ rfl rfl rfl), bl, fun _ h1_ => aT (hon 20 kr) h1_, fun _ h1_ => aT (hon 20 kr) h1_, fun _ => (rN HO551)⟩
   refine qP ?_ ?_
   ·rintro b a w' ⟨v542, v547, v550, ha, Q_HB, Q_HO543, Q_HO548, Q_HO551⟩ hb_ hon hoff
    refine ⟨_, rfl, fun K hK => ?_⟩
    have e30 : a.tmps[30]? = some (.tuple #[.string t552, .bool t553]) := by rw [ha]; exact qa (e := (21, 30, .tuple #[.string t552, .bool t553])) 15 rfl rfl (hon 21 kr) rfl
    replace ha := aM ha
    have HB := aM Q_HB
    have HO551 := aM (Q_HO551 (hon 20 kr))
    refine qQA (w1 := w') (v := .string t552) (by rfl) rfl ?_ ?_
    ·go_simp
     (try simp only [i64_w])
     try rfl
    refine hK.out _ _ ⟨v542, v547, v550, (by rw [ha.out]; exact qR 16 hb_ rfl rfl rfl), Q_HB, fun _ h1_ => aT (hon 20 kr) h1_, fun _ h1_ => aT (hon 20 kr) h1_, Q_HO551⟩
   refine qP ?_ ?_
   ·rintro b a w' ⟨v542, v547, v550, ha, Q_HB, Q_HO543, Q_HO548, Q_HO551⟩ hb_ hon hoff
    refine ⟨_, rfl, fun K hK => ?_⟩
    have e30 : a.tmps[30]? = some (.tuple #[.string t552, .bool t553]) := by rw [ha]; exact qa (e := (21, 30, .tuple #[.string t552, .bool t553])) 15 rfl rfl (hon 21 kr) rfl
    replace ha := aM ha
    have HB := aM Q_HB
    have HO551 := aM (Q_HO551 (hon 20 kr))
    refine qQA (w1 := w') (v := .bool t553) (by rfl) rfl ?_ ?_
    ·go_simp
     (try simp only [i64_w])
     try rfl
    refine hK.out _ _ ⟨v542, v547, v550, (by rw [ha.out]; exact qR 17 hb_ rfl rfl rfl), Q_HB, fun _ h1_ => aT (hon 20 kr) h1_, fun _ h1_ => aT (hon 20 kr) h1_, Q_HO551⟩
   refine qP ?_ ?_
   ·rintro b a w' ⟨v542, v547, v550, ha, Q_HB, Q_HO543, Q_HO548, Q_HO551⟩ hb_ hon hoff
    refine ⟨_, rfl, fun K hK => ?_⟩
    have e31 : a.tmps[31]? = some (.string t552) := by rw [ha]; exact qa (e := (22, 31, .string t552)) 16 rfl rfl (hon 22 kr) rfl
    replace ha := aM ha
    have HB := aM Q_HB
    have HO551 := aM (Q_HO551 (hon 20 kr))
    refine qQA (w1 := w') (v := .string t552) (by rfl) rfl ?_ ?_
    ·go_simp
     (try simp only [i64_w])
     try rfl
    refine hK.out _ _ ⟨v542, v547, v550, (by rw [ha.out]; exact qR 18 hb_ rfl rfl rfl), Q_HB, fun _ h1_ => aT (hon 20 kr) h1_, fun _ h1_ => aT (hon 20 kr) h1_, Q_HO551⟩
   refine qP ?_ ?_
   ·rintro b a w' ⟨v542, v547, v550, ha, Q_HB, Q_HO543, Q_HO548, Q_HO551⟩ hb_ hon hoff
    refine ⟨_, rfl, fun K hK => ?_⟩
    have e32 : a.tmps[32]? = some (.bool t553) := by rw [ha]; exact qa (e := (23, 32, .bool t553)) 17 rfl rfl (hon 23 kr) rfl
    replace ha := aM ha
    have HB := aM Q_HB
    have HO551 := aM (Q_HO551 (hon 20 kr))
    refine qQA (w1 := w') (v := .bool t553) (by rfl) rfl ?_ ?_
    ·go_simp
     (try simp only [i64_w])
     try rfl
    refine hK.out _ _ ⟨v542, v547, v550, (by rw [ha.out]; exact qR 19 hb_ rfl rfl rfl), Q_HB, fun _ h1_ => aT (hon 20 kr) h1_, fun _ h1_ => aT (hon 20 kr) h1_, Q_HO551⟩
   exact qED
  rintro b a w18 hall ⟨v542, v547, v550, ha, Q_HB, Q_HO543, Q_HO548, Q_HO551⟩
  clear HB
  have hb3_ := hall 3 (by kernel_rfl)
  have hb4_ := hall 4 (by kernel_rfl)
  have hb5_ := hall 5 (by kernel_rfl)
  have hb7_ := hall 7 (by kernel_rfl)
  have hb8_ := hall 8 (by kernel_rfl)
  have hb9_ := hall 9 (by kernel_rfl)
  have hb10_ := hall 10 (by kernel_rfl)
  have hb12_ := hall 12 (by kernel_rfl)
  have hb13_ := hall 13 (by kernel_rfl)
  have hb14_ := hall 14 (by kernel_rfl)
  have hb16_ := hall 16 (by kernel_rfl)
  have hb17_ := hall 17 (by kernel_rfl)
  have hb18_ := hall 18 (by kernel_rfl)
  have hb19_ := hall 19 (by kernel_rfl)
  have hb20_ := hall 20 (by kernel_rfl)
  have hb21_ := hall 21 (by kernel_rfl)
  have hb22_ := hall 22 (by kernel_rfl)
  have hb23_ := hall 23 (by kernel_rfl)
  have hb24_ := hall 24 (by kernel_rfl)
  have hb25_ := hall 25 (by kernel_rfl)
  subst ha
  simp only [putSel, hb3_, hb4_, hb5_, hb7_, hb8_, hb9_, hb10_, hb12_, hb13_, hb14_, hb16_, hb17_, hb18_, hb19_, hb20_, hb21_, hb22_, hb23_, hb24_, hb25_, if_true, Act.put, List.setIfInBounds_toArray, List.set_cons_zero, List.set_cons_succ]
  have HB := aM Q_HB
  clear Q_HB Q_HO543 Q_HO548
  have HO551 := aM (Q_HO551 hb20_)
  clear Q_HO551 hall hb3_ hb4_ hb5_ hb7_ hb8_ hb9_ hb10_ hb12_ hb13_ hb14_ hb16_ hb17_ hb18_ hb19_ hb20_ hb21_ hb22_ hb23_ hb24_ hb25_
  try go_wp2
  go_ret2
  exact ⟨sR, bl⟩
 ·rw [if_neg c3] at H
  have c3b0 := beq_eq_false_iff_ne.mpr c3
  have c3b1 := bne_iff_ne.mpr c3
  simp only [Option.some.injEq, Prod.mk.injEq] at H
  obtain ⟨rfl, rfl⟩ := H
  go_enter Tryz.func12, Tryz.ntmps12
  go_wp2
  go_ret2
  exact ⟨sR, bl⟩
def qn.j0 : Nat → List (S57) → List (S53) → Bool → Option (Bool)
 | 0, _, _, _ => none
 | k + 1, x1, x8, x41 => if x41 = true then (some false) else ((qq.f k x1).bind fun t565 => ((qm.f k x8 t565).bind fun t568 => (if t568 = true then (some true) else (some false))))
def qn.f (k : Nat) (a0 : ByteArray) (l1 : List (S57)) : Option (Bool) := if (a0.size : Int) > 1048576 then (some true) else ((qHB.f l1 1048576).bind fun t554 => (if t554 < 0 then (some true) else ((qq.f k l1).bind fun t555 => ((qNA.f k a0 t555).bind fun bt558 => ((qq.f k l1).bind fun t560 => ((qOA.f a0 t560).bind fun bt563 => (if bt563.1.toList = bt558.1.toList then (qn.j0 k l1 t560 (bt563.2 != bt558.2)) else (qn.j0 k l1 t560 true))))))))
set_option maxHeartbeats 8000000 in
set_option maxRecDepth 100000 in
theorem qn.calls (k : Nat) (a0 : ByteArray) (A1 : Option Addr) (c1 : Nat) (l1 : List (S57)) (r : Bool) (w : World) (hr1 : Kd.C k57 w A1 l1.length l1) (hc1 : l1.length ≤ c1) (hL : Laid w) (h : qn.f k a0 l1 = some r) :
  Calls Tryz.prog 4 #[.string a0, .slice A1 l1.length c1] w fun e w' => e = .returned (.bool r) ∧ Below w.heap.size w w' := by
 have HR1 := aM hr1
 have HC1 := aM hc1
 clear hr1 hc1
 have HLD := aM hL
 clear hL
 have HB := aM (Below.refl w.heap.size w)
 have H : (if (a0.size : Int) > 1048576 then (some true) else ((qHB.f l1 1048576).bind fun t554 => (if t554 < 0 then (some true) else ((qq.f k l1).bind fun t555 => ((qNA.f k a0 t555).bind fun bt558 => ((qq.f k l1).bind fun t560 => ((qOA.f a0 t560).bind fun bt563 => (if bt563.1.toList = bt558.1.toList then (qn.j0 k l1 t560 (bt563.2 != bt558.2)) else (qn.j0 k l1 t560 true))))))))) = some r := h
 clear h
 by_cases c3 : (a0.size : Int) > 1048576
 ·rw [if_pos c3] at H
  have c3b0 := decide_eq_true c3
  have c3b1 : decide (1048576 < a0.size) = true := decide_eq_true (by omega)
  clear c3
  obtain rfl := Option.some.inj H
  go_enter Tryz.func4, Tryz.ntmps4
  go_wp2
  go_ret
  exact ⟨sR, bl⟩
 ·rw [if_neg c3] at H
  have c3b0 := decide_eq_false c3
  have c3b1 : decide (1048576 < a0.size) = false := decide_eq_false (by omega)
  clear c3
  replace H := bO H
  obtain ⟨t554, A4, H⟩ := H
  by_cases c5 : t554 < 0
  ·rw [if_pos c5] at H
   have c5b0 := decide_eq_true c5
   clear c5
   obtain rfl := Option.some.inj H
   go_enter Tryz.func4, Tryz.ntmps4
   go_wp2_with (first | ((with_reducible refine qI (f := 6) rfl ?_); refine qu (some 16) rfl rfl Tryz.func6 (by kernel_rfl) rfl #[.slice A1 l1.length c1, .int .i64 1048576] rfl gA ?_; (with_reducible refine (qHB.calls _ _ l1 1048576 t554 _ ?side1 ?side2 A4.out).mono ?_); (case side1 => repeat (first | exact HR1.out | (with_reducible refine Kd.qV ?_ _) | (with_reducible refine Kd.qU ?_ _) | (with_reducible refine Kd.qf ?_))); (case side2 => exact HC1.out); rintro e w' ⟨rfl, ⟨nd, rfl⟩⟩; refine ⟨_, rfl, ?_⟩))
   go_ret
   exact ⟨sR, bl⟩
  ·rw [if_neg c5] at H
   have c5b0 := decide_eq_false c5
   clear c5
   replace H := bO H
   obtain ⟨t555, A6, H⟩ := H
   replace H := bO H
   obtain ⟨⟨t558, t559⟩, A7, H⟩ := H
   dsimp only at H A7
   replace H := bO H
   obtain ⟨t560, A8, H⟩ := H
   replace H := bO H
   obtain ⟨⟨t563, t564⟩, A9, H⟩ := H
   dsimp only at H A9
   have HC10 := aM H
   clear H
   go_enter Tryz.func4, Tryz.ntmps4
   go_upto_region 10 with (first | ((with_reducible refine qI (f := 6) rfl ?_); refine qu (some 16) rfl rfl Tryz.func6 (by kernel_rfl) rfl #[.slice A1 l1.length c1, .int .i64 1048576] rfl gA ?_; (with_reducible refine (qHB.calls _ _ l1 1048576 t554 _ ?side1 ?side2 A4.out).mono ?_); (case side1 => repeat (first | exact HR1.out | (with_reducible refine Kd.qV ?_ _) | (with_reducible refine Kd.qU ?_ _) | (with_reducible refine Kd.qf ?_))); (case side2 => exact HC1.out); rintro e w' ⟨rfl, ⟨nd, rfl⟩⟩; refine ⟨_, rfl, ?_⟩) | ((with_reducible refine qI (f := 8) rfl ?_); refine qu (some 22) rfl rfl Tryz.func8 (by kernel_rfl) rfl #[.slice A1 l1.length c1] rfl gA ?_; (with_reducible refine (qq.calls k _ _ l1 t555 _ ?side1 ?side2 A6.out).mono ?_); (case side1 => repeat (first | exact HR1.out | (with_reducible refine Kd.qV ?_ _) | (with_reducible refine Kd.qU ?_ _) | (with_reducible refine Kd.qf ?_))); (case side2 => exact HC1.out); rintro e w11 ⟨v556, rfl, ho0, hb⟩; refine ⟨_, rfl, ?_⟩; have HO557 := aM (Kd.qAA ho0 (qJ bl)); replace HB := aM (qB bl hb); (try clear hb); (try clear hb2); (try clear hk); (try clear hi); (try clear ho0); obtain ⟨Ao12, co12, eo12⟩ := Kd.qCA HO557.out; subst eo12) | ((with_reducible refine qI (f := 11) rfl ?_); refine qu (some 23) rfl rfl Tryz.func11 (by kernel_rfl) rfl #[.string a0, .slice Ao12 t555.length co12] rfl gA ?_; (with_reducible refine (qNA.calls k a0 _ _ t555 t558 t559 _ ?side1 ?side2 A7.out).mono ?_); (case side1 => repeat (first | exact (Kd.qN HO557.out).2.2 | (with_reducible refine Kd.qV ?_ _) | (with_reducible refine Kd.qU ?_ _) | (with_reducible refine Kd.qf ?_))); (case side2 => exact (Kd.qN HO557.out).2.1); rintro e w13 ⟨rfl, hb⟩; refine ⟨_, rfl, ?_⟩; replace HO557 := aM (Kd.qe (rR HO557) hb); replace HB := aM (qB bl hb); (try clear hb); (try clear hb2); (try clear hk); (try clear hi)) | ((with_reducible refine qI (f := 8) rfl ?_); refine qu (some 27) rfl rfl Tryz.func8 (by kernel_rfl) rfl #[.slice A1 l1.length c1] rfl gA ?_; (with_reducible refine (qq.calls k _ _ l1 t560 _ ?side1 ?side2 A8.out).mono ?_); (case side1 => repeat (first | exact (Kd.qY HR1.out HB.out) | (with_reducible refine Kd.qV ?_ _) | (with_reducible refine Kd.qU ?_ _) | (with_reducible refine Kd.qf ?_))); (case side2 => exact HC1.out); rintro e w14 ⟨v561, rfl, ho0, hb⟩; refine ⟨_, rfl, ?_⟩; have HO562 := aM (Kd.qAA (Kd.qGB ho0 (Kd.R_lt (rR HO557))) (qJ bl)); replace HO557 := aM (Kd.qIA (rR HO557) (Kd.qcA ho0) hb); replace HB := aM (qB bl hb); (try clear hb); (try clear hb2); (try clear hk); (try clear hi); (try clear ho0); obtain ⟨Ao15, co15, eo15⟩ := Kd.qCA HO562.out; subst eo15) | ((with_reducible refine qI (f := 12) rfl ?_); refine qu (some 31) rfl rfl Tryz.func12 (by kernel_rfl) rfl #[.string a0, .slice Ao15 t560.length co15] rfl gA ?_; (with_reducible refine (qOA.calls a0 _ _ t560 t563 t564 _ ?side1 ?side2 ?side3 A9.out).mono ?_); (case side1 => repeat (first | exact (Kd.qN HO562.out).2.2 | (with_reducible refine Kd.qV ?_ _) | (with_reducible refine Kd.qU ?_ _) | (with_reducible refine Kd.qf ?_))); (case side2 => exact (Kd.qN HO562.out).2.1); (case side3 => first | (with_reducible exact HLD.out) | exact Laid.below HLD.out bl); rintro e w16 ⟨rfl, hb⟩; refine ⟨_, rfl, ?_⟩; replace HO557 := aM (Kd.qe (rR HO557) hb); replace HO562 := aM (Kd.qe (rR HO562) hb); replace HB := aM (qB bl hb); (try clear hb); (try clear hb2); (try clear hk); (try clear hi)))
   (try simp only [Act.put, List.setIfInBounds_toArray, List.set_cons_zero, List.set_cons_succ])
   go_cut [41] (fun v41 wc => ∃ (kq : Nat) (x41_9 : Bool), v41 = .bool x41_9 ∧ Aside0 (qn.j0 kq l1 t560 x41_9 = some r) ∧ Aside0 (kq ≤ k) ∧ Aside0 (Kd.R k53 53 wc w.heap.size (fun _ => True) (.slice Ao15 t560.length co15) t560) ∧ Aside0 (Below w.heap.size w wc))
   case first =>
    have H := HC10.out
    clear HC10
    by_cases c17 : t563.toList = t558.toList
    ·rw [if_pos c17] at H
     have c17b0 := beq_iff_eq.mpr c17
     have c17b1 := bne_eq_false_iff_eq.mpr c17
     clear c17
     (first | rw [c17b0] | (simp only [i64_w, i32_w]; rw [c17b0]) | skip)
     have H' := aM H
     clear H
     go_wp2
     go_meet
     case rel => exact ⟨_, ((t564 != t559)), sD, H', ⟨by first | omega | exact Nat.le_refl _⟩, ⟨by (with_reducible repeat (first | apply Kd.qL | apply Kd.qO | apply Kd.qQ)); exact Kd.qX HO562.out (fun _ hk => trivial)⟩, ⟨bl⟩⟩
    ·rw [if_neg c17] at H
     have c17b0 := beq_eq_false_iff_ne.mpr c17
     have c17b1 := bne_iff_ne.mpr c17
     (first | rw [c17b0] | (simp only [i64_w, i32_w]; rw [c17b0]) | skip)
     have H' := aM H
     clear H
     go_wp2
     go_meet
     case rel => exact ⟨_, (true), sD, H', ⟨by first | omega | exact Nat.le_refl _⟩, ⟨by (with_reducible repeat (first | apply Kd.qL | apply Kd.qO | apply Kd.qQ)); exact Kd.qX HO562.out (fun _ hk => trivial)⟩, ⟨bl⟩⟩
   case rest =>
    clear HC10; (try clear c1); (try clear p2); (try clear c3); (try clear c3b0); (try clear c3b1); (try clear c4); (try clear c5); (try clear c5b0); (try clear c6); (try clear c8); (try clear c11); (try clear c12); (try clear c17); (try clear c17b0); (try clear c17b1)
    obtain ⟨kq, x41_9, rfl, HA, HJ9, HO_8, HB⟩ := hcut
    cases kq with
    | zero => exact absurd HA.out (by simp [qn.j0])
    | succ kj9 =>
     have H := HA.out
     clear HA
     simp only [qn.j0] at H
     by_cases c18 : x41_9 = true
     ·subst c18
      replace H := iT H
      obtain rfl := Option.some.inj H
      go_wp2
      go_ret
      exact ⟨sR, bl⟩
     ·replace c18 := Bool.eq_false_iff.mpr c18
      subst c18
      replace H := iF H
      replace H := bO H
      obtain ⟨t565, A19, H⟩ := H
      replace H := bO H
      obtain ⟨t568, A20, H⟩ := H
      by_cases c21 : t568 = true
      ·subst c21
       replace H := iT H
       obtain rfl := Option.some.inj H
       go_wp2_with (first | ((with_reducible refine qI (f := 8) rfl ?_); refine qu (some 44) rfl rfl Tryz.func8 (by kernel_rfl) rfl #[.slice A1 l1.length c1] rfl gA ?_; (with_reducible refine (qq.calls kj9 _ _ l1 t565 _ ?side1 ?side2 A19.out).mono ?_); (case side1 => repeat (first | exact (Kd.qY HR1.out HB.out) | (with_reducible refine Kd.qV ?_ _) | (with_reducible refine Kd.qU ?_ _) | (with_reducible refine Kd.qf ?_))); (case side2 => exact HC1.out); rintro e w22 ⟨v566, rfl, ho0, hb⟩; refine ⟨_, rfl, ?_⟩; have HO567 := aM (Kd.qAA (Kd.qGB ho0 (Kd.R_lt (rR HO_8))) (qJ bl)); replace HO_8 := aM (Kd.qIA (rR HO_8) (Kd.qcA ho0) hb); replace HB := aM (qB bl hb); (try clear hb); (try clear hb2); (try clear hk); (try clear hi); (try clear ho0); obtain ⟨Ao23, co23, eo23⟩ := Kd.qCA HO567.out; subst eo23) | ((with_reducible refine qI (f := 10) rfl ?_); refine qu (some 45) rfl rfl Tryz.func10 (by kernel_rfl) rfl #[.slice Ao15 t560.length co15, .slice Ao23 t565.length co23] rfl gA ?_; (with_reducible refine (qm.calls kj9 _ _ t560 _ _ t565 true _ ?side1 ?side2 ?side3 ?side4 A20.out).mono ?_); (case side1 => repeat (first | exact (Kd.qN HO_8.out).2.2 | (with_reducible refine Kd.qV ?_ _) | (with_reducible refine Kd.qU ?_ _) | (with_reducible refine Kd.qf ?_))); (case side2 => exact (Kd.qN HO_8.out).2.1); (case side3 => repeat (first | exact (Kd.qN HO567.out).2.2 | (with_reducible refine Kd.qV ?_ _) | (with_reducible refine Kd.qU ?_ _) | (with_reducible refine Kd.qf ?_))); (case side4 => exact (Kd.qN HO567.out).2.1); rintro e w24 ⟨rfl, hb⟩; refine ⟨_, rfl, ?_⟩; replace HO_8 := aM (Kd.qe (rR HO_8) hb); replace HO567 := aM (Kd.qe (rR HO567) hb); replace HB := aM (qB bl hb); (try clear hb); (try clear hb2); (try clear hk); (try clear hi)))
       go_ret
       exact ⟨sR, bl⟩
      ·replace c21 := Bool.eq_false_iff.mpr c21
       subst c21
       replace H := iF H
       obtain rfl := Option.some.inj H
       go_wp2_with (first | ((with_reducible refine qI (f := 8) rfl ?_); refine qu (some 44) rfl rfl Tryz.func8 (by kernel_rfl) rfl #[.slice A1 l1.length c1] rfl gA ?_; (with_reducible refine (qq.calls kj9 _ _ l1 t565 _ ?side1 ?side2 A19.out).mono ?_); (case side1 => repeat (first | exact (Kd.qY HR1.out HB.out) | (with_reducible refine Kd.qV ?_ _) | (with_reducible refine Kd.qU ?_ _) | (with_reducible refine Kd.qf ?_))); (case side2 => exact HC1.out); rintro e w25 ⟨v566, rfl, ho0, hb⟩; refine ⟨_, rfl, ?_⟩; have HO567 := aM (Kd.qAA (Kd.qGB ho0 (Kd.R_lt (rR HO_8))) (qJ bl)); replace HO_8 := aM (Kd.qIA (rR HO_8) (Kd.qcA ho0) hb); replace HB := aM (qB bl hb); (try clear hb); (try clear hb2); (try clear hk); (try clear hi); (try clear ho0); obtain ⟨Ao26, co26, eo26⟩ := Kd.qCA HO567.out; subst eo26) | ((with_reducible refine qI (f := 10) rfl ?_); refine qu (some 45) rfl rfl Tryz.func10 (by kernel_rfl) rfl #[.slice Ao15 t560.length co15, .slice Ao26 t565.length co26] rfl gA ?_; (with_reducible refine (qm.calls kj9 _ _ t560 _ _ t565 false _ ?side1 ?side2 ?side3 ?side4 A20.out).mono ?_); (case side1 => repeat (first | exact (Kd.qN HO_8.out).2.2 | (with_reducible refine Kd.qV ?_ _) | (with_reducible refine Kd.qU ?_ _) | (with_reducible refine Kd.qf ?_))); (case side2 => exact (Kd.qN HO_8.out).2.1); (case side3 => repeat (first | exact (Kd.qN HO567.out).2.2 | (with_reducible refine Kd.qV ?_ _) | (with_reducible refine Kd.qU ?_ _) | (with_reducible refine Kd.qf ?_))); (case side4 => exact (Kd.qN HO567.out).2.1); rintro e w27 ⟨rfl, hb⟩; refine ⟨_, rfl, ?_⟩; replace HO_8 := aM (Kd.qe (rR HO_8) hb); replace HO567 := aM (Kd.qe (rR HO567) hb); replace HB := aM (qB bl hb); (try clear hb); (try clear hb2); (try clear hk); (try clear hi)))
       go_ret
       exact ⟨sR, bl⟩
def qn.Pure : Prop := ∀ (a0 : ByteArray) (l1 : List (S57)), a0.size ≤ 140737488351232 → l1.length * 64 ≤ 140737488351232 → ∃ k, qn.f k a0 l1 = some true
end Go.Proofs.YthhiiceligjleaaGreatDoor.P
namespace Go.Proofs.YthhiiceligjleaaGreatDoor
open Go.ChangeShapes Go.WideShapes Go.Deep Go.RowKit Go.Proofs.YthhiiceligjleaaGreatDoorW.PrintWords
set_option linter.unusedVariables false
set_option linter.unusedSimpArgs false
theorem list_of_8 : ∀ zs : List Int, zs.length = 8 → ∃ x0 x1 x2 x3 x4 x5 x6 x7 : Int, zs = [x0, x1, x2, x3, x4, x5, x6, x7]
 | [x0, x1, x2, x3, x4, x5, x6, x7], _ => ⟨x0, x1, x2, x3, x4, x5, x6, x7, rfl⟩
def laidB (P : Program) : List Field → Nat → Nat → Bool
 | [], o, n => decide (o = n)
 | f :: fs, o, n => decide (f.offset = o) && laidB P fs (o + P.cellsOf f.type) n
def flatB (P : Program) : Nat → TypeId → Bool
 | 0, _ => false
 | m + 1, t => match P.underlying t with
  | some (.int .i64) => decide (P.cellsOf t = 1)
  | some (.struct fs) => laidB P fs.toList 0 (P.cellsOf t) && fs.toList.all fun f => flatB P m f.type
  | _ => false
section
variable {H : Type} {enc : TypeId × Value → H} {P : Program} {w : World} {base : Nat} {spare : Nat → Bool} {held : Bool}
theorem fields_flat {n : Nat} (cs : List Value) (rd : TypeId → List Value → Option (DataW H × List MemPlace)) :
  ∀ (fs : List Field) (o : Nat) (xs : List (DataW H × List MemPlace)), laidB P fs o n = true → xs.length = fs.length →
   (∀ (i : Nat) (f : Field), fs[i]? = some f → rd f.type ((cs.drop f.offset).take (P.cellsOf f.type)) = xs[i]?) →
   (∀ f ∈ fs, ∀ cs' x, rd f.type cs' = some x → cs'.length = P.cellsOf f.type ∧ ∃ zs : List Int, cs' = zs.map (Value.int .i64) ∧ ∀ z ∈ zs, (Lit.int .i64 z).wf = true) →
   o ≤ n ∧ ∃ zs : List Int, (cs.drop o).take (n - o) = zs.map (Value.int .i64) ∧ ∀ z ∈ zs, (Lit.int .i64 z).wf = true
 | [], o, xs, hl, hx, hr, hi => by
  have : o = n := by simpa [laidB] using hl
  subst this
  exact ⟨Nat.le_refl _, [], by simp, by simp⟩
 | f :: fs, o, xs, hl, hx, hr, hi => by
  simp only [laidB, Bool.and_eq_true, decide_eq_true_eq] at hl
  obtain ⟨ho, hl⟩ := hl
  match xs, hx with
  | x :: xs, hx =>
   have h0 := hr 0 f rfl
   rw [ho] at h0
   obtain ⟨hlen, zs, hz, hw⟩ := hi f (by simp) _ x h0
   obtain ⟨hle, ws, hw2, hw3⟩ := fields_flat cs rd fs (o + P.cellsOf f.type) xs hl (by simpa using hx) (fun i g hg => by have := hr (i + 1) g (by simpa using hg); simpa using this) (fun g hg => hi g (by simp [hg]))
   refine ⟨by omega, zs ++ ws, ?_, fun z hz' => ?_⟩
   ·rw [List.map_append, ← hz, ← hw2, ← List.drop_drop, show n - o = P.cellsOf f.type + (n - (o + P.cellsOf f.type)) by omega, List.take_add]
   ·rcases List.mem_append.1 hz' with h | h
    ·exact hw z h
    ·exact hw3 z h
theorem trod_flat (m : Nat) : ∀ {t : TypeId} {fuel : Nat} {cs : List Value} {x : DataW H × List MemPlace}, flatB P m t = true → DataW.trod enc P w base spare held fuel t cs = some x → (∃ k, P.underlying t = some (.int k)) → cs.length = 1 ∧ ∃ zs : List Int, cs = zs.map (Value.int .i64) ∧ ∀ z ∈ zs, (Lit.int .i64 z).wf = true := by
 intro t fuel cs x hf h ⟨k, hk⟩
 cases m with
 | zero => simp [flatB] at hf
 | succ m =>
  unfold flatB at hf
  rw [hk] at hf
  have : k = .i64 := by
   cases k <;> first | rfl | (simp at hf)
  subst this
  obtain ⟨n, rfl, _, hw⟩ := DataW.trod_int hk h
  exact ⟨rfl, [n], rfl, by simpa using hw⟩
theorem trod_flat_all (m : Nat) : ∀ {t : TypeId} {fuel : Nat} {cs : List Value} {x : DataW H × List MemPlace}, flatB P m t = true → DataW.trod enc P w base spare held fuel t cs = some x →
  cs.length = P.cellsOf t ∧ ∃ zs : List Int, cs = zs.map (Value.int .i64) ∧ ∀ z ∈ zs, (Lit.int .i64 z).wf = true := by
 induction m with
 | zero => intro t fuel cs x hf h; simp [flatB] at hf
 | succ m ih =>
  intro t fuel cs x hf h
  have hf0 := hf
  unfold flatB at hf
  split at hf
  ·rename_i hu
   obtain ⟨hl, hz⟩ := trod_flat (m + 1) hf0 h ⟨_, hu⟩
   exact ⟨by rw [hl, of_decide_eq_true hf], hz⟩
  ·rename_i fs hu
   rw [Bool.and_eq_true, List.all_eq_true] at hf
   obtain ⟨hl, ha⟩ := hf
   obtain ⟨xs, n, _, _, hlen, hxl, hg⟩ := DataW.trod_struct hu h
   obtain ⟨_, zs, hz, hw⟩ := fields_flat (n := P.cellsOf t) cs (fun t cs => DataW.trod enc P w base spare held n t cs) fs.toList 0 xs hl (by simpa using hxl)
    (fun i f hf => hg i f (by simpa using hf)) (fun f hf cs' x hx => ih (ha f hf) hx)
   refine ⟨hlen, zs, ?_, hw⟩
   rw [← hz, List.drop_zero, Nat.sub_zero, ← hlen, List.take_length]
  ·cases hf
theorem open_flats {r : Reach} {b0 m : Nat} {t e : TypeId} {a : Option Addr} {len cap : Nat} {d : DataW H} {p : List MemPlace} (hu : P.underlying t = some (.slice e)) (hf : flatB P m e = true)
  (h : DataW.Trod enc P w base spare held t (.slice a len cap) d p) : len ≤ cap ∧ cap ≤ maxLen ∧ ∃ L : List (List Int), L.length = len ∧ (∀ zs ∈ L, zs.length = P.cellsOf e) ∧
   (0 < len → ∃ ad, a = some ad ∧ ∀ (j : Nat) (zs : List Int), L[j]? = some zs → ∀ (i : Nat) (u : Value), (zs.map (Value.int .i64))[i]? = some u → w.cell? (ad.add (j * P.cellsOf e + i)) = some u) := by
 obtain ⟨fuel, h⟩ := h
 rcases DataW.trod_slice hu h with ⟨hcs, _⟩ | ⟨x, l, c, elems, rest, n, _, hcs, _, _, hl, hm, hlen, hel, _, _⟩
 ·simp [Value.cells] at hcs
  obtain ⟨rfl, rfl, rfl⟩ := hcs
  exact ⟨Nat.le_refl _, by simp [maxLen], [], rfl, by simp, fun h => absurd h (by omega)⟩
 ·simp [Value.cells] at hcs
  obtain ⟨rfl, rfl, rfl⟩ := hcs
  refine ⟨hl, hm, ?_⟩
  have each : ∀ i, i < len → ∃ zs : List Int, zs.length = P.cellsOf e ∧ ∀ (j : Nat) (u : Value), (zs.map (Value.int .i64))[j]? = some u → w.cell? (x.add (i * P.cellsOf e + j)) = some u := by
   intro i hi
   have h1 := hel i hi
   have h2 : elems[i]? = some (elems[i]'(by omega)) := List.getElem?_eq_getElem (by omega)
   rw [h2, Option.bind_eq_some_iff] at h1
   obtain ⟨cs', hcs', ht⟩ := h1
   obtain ⟨_, hcl, hat⟩ := World.cells?_some hcs'
   obtain ⟨hl', zs, hz, _⟩ := trod_flat_all m hf ht
   have hzl : zs.length = P.cellsOf e := by
    have := congrArg List.length hz
    rw [List.length_map] at this
    omega
   refine ⟨zs, hzl, fun j u hu => ?_⟩
   have hj : j < P.cellsOf e := by
    have := (List.getElem?_eq_some_iff.1 hu).1
    rw [List.length_map] at this
    omega
   rw [← Go.Deep.add_add, hat j hj, hz, hu]
  have mk : ∀ n, n ≤ len → ∃ L : List (List Int), L.length = n ∧ (∀ zs ∈ L, zs.length = P.cellsOf e) ∧ ∀ (j : Nat) (zs : List Int), L[j]? = some zs → ∀ (i : Nat) (u : Value), (zs.map (Value.int .i64))[i]? = some u → w.cell? (x.add (j * P.cellsOf e + i)) = some u := by
   intro n
   induction n with
   | zero => exact fun _ => ⟨[], rfl, by simp, fun j zs h => by simp at h⟩
   | succ n ih =>
    intro hn
    obtain ⟨L, h1, h2, h3⟩ := ih (by omega)
    obtain ⟨zs, hz1, hz2⟩ := each n (by omega)
    refine ⟨L ++ [zs], by simp [h1], fun y hy => ?_, fun j y hj => ?_⟩
    ·rcases List.mem_append.1 hy with h | h
     ·exact h2 y h
     ·rw [List.mem_singleton.1 h]; exact hz1
    ·rcases Nat.lt_or_ge j L.length with h | h
     ·rw [List.getElem?_append_left h] at hj
      exact h3 j y hj
     ·have : j = L.length := by
       have := (List.getElem?_eq_some_iff.1 hj).1
       simp at this
       omega
      subst this
      have : zs = y := by simpa using hj
      subst this
      rw [h1]
      exact hz2
  obtain ⟨L, h1, h2, h3⟩ := mk len (Nat.le_refl _)
  exact ⟨L, h1, h2, fun _ => ⟨x, rfl, h3⟩⟩
end
theorem sized_flats {H : Type} {enc : TypeId × Value → H} {P : Program} {W : World} {base : Nat} {spare : Nat → Bool} {held : Bool} {t e : TypeId} {a : Option Addr} {len cap : Nat} {d : DataW H} {ps : List MemPlace} {ts : List TypeId} {ds : List (DataW H)} {j : Nat}
  (hsz : (DataW.weightsEach P ts ds).all (· ≤ reachBytes) = true) (ht : ts[j]? = some t) (hd : ds[j]? = some d) (hu : P.underlying t = some (.slice e)) {B : Nat} (hB : P.bytesOf e = B)
  (h : DataW.Trod enc P W base spare held t (.slice a len cap) d ps) : len * B ≤ 140737488351232 := by
 obtain ⟨fuel, h⟩ := h
 rcases DataW.trod_slice hu h with ⟨hcs, _⟩ | ⟨x, l, c, elems, rest, n, _, hcs, hx, _, hl, hm, hlen, hel, _, _⟩
 ·simp [Value.cells] at hcs
  obtain ⟨rfl, rfl, rfl⟩ := hcs
  simp
 ·simp [Value.cells] at hcs
  obtain ⟨rfl, rfl, rfl⟩ := hcs
  obtain ⟨rfl, _⟩ := Prod.mk.inj hx
  have z := sized_slice hsz ht hd hu
  rw [hB] at z
  refine Nat.le_trans (Nat.mul_le_mul_right _ ?_) z
  rw [List.length_map, hlen]
  exact Nat.le_add_right _ _
end Go.Proofs.YthhiiceligjleaaGreatDoor
namespace Go.Proofs.YthhiiceligjleaaGreatDoor.Sorts
section
variable {α : Type}
def ins (lt : α → α → Bool) (x : α) : List α → List α
 | [] => [x]
 | y :: l => if lt y x = true then y :: ins lt x l else x :: y :: l
def insAll (lt : α → α → Bool) : List α → List α → List α
 | acc, [] => acc
 | acc, x :: l => insAll lt (ins lt x acc) l
variable {lt : α → α → Bool}
theorem qJE (lt : α → α → Bool) (x : α) : ∀ l : List α, (ins lt x l).Perm (x :: l)
 | [] => List.Perm.refl _
 | y :: l => by
  unfold ins
  split
  ·exact ((qJE lt x l).cons y).trans (List.Perm.swap x y l)
  ·exact List.Perm.refl _
theorem insAll_perm (lt : α → α → Bool) : ∀ (l acc : List α), (insAll lt acc l).Perm (l ++ acc)
 | [], acc => List.Perm.refl _
 | x :: l, acc => by
  refine (insAll_perm lt l (ins lt x acc)).trans ?_
  exact ((List.Perm.refl l).append (qJE lt x acc)).trans List.perm_middle
theorem one {l l' : List α} (h : l.Pairwise (fun a b => lt b a = false)) (h' : l'.Pairwise (fun a b => lt b a = false)) (hp : l.Perm l') (ha : ∀ a ∈ l, ∀ b ∈ l, lt a b = false → lt b a = false → a = b) : l = l' :=
 List.Perm.eq_of_pairwise (le := fun a b => lt b a = false) (fun a b h1 h2 h3 h4 => ha a h1 b (hp.mem_iff.2 h2) h4 h3) h h' hp
def less (lt : α → α → Bool) (x : α) : List α → Nat
 | [] => 0
 | y :: l => if lt y x = true then less lt x l + 1 else 0
theorem less_le (x : α) : ∀ l : List α, less lt x l ≤ l.length
 | [] => Nat.le_refl _
 | y :: l => by
  unfold less
  split
  ·have := less_le x l; simp only [List.length_cons]; omega
  ·omega
theorem ins_eq (x : α) : ∀ l : List α, ins lt x l = l.take (less lt x l) ++ x :: l.drop (less lt x l)
 | [] => rfl
 | y :: l => by
  unfold ins less
  split
  ·rw [ins_eq x l]; rfl
  ·rfl
theorem less_lt (x : α) : ∀ (l : List α) (i : Nat) (h : i < l.length), i < less lt x l → lt l[i] x = true
 | y :: l, 0, _, h => by
  unfold less at h
  split at h
  ·assumption
  ·omega
 | y :: l, i + 1, hl, h => by
  unfold less at h
  split at h
  ·exact less_lt x l i (by simpa using hl) (by omega)
  ·omega
theorem less_stop (x : α) : ∀ (l : List α) (h : less lt x l < l.length), lt l[less lt x l] x = false
 | y :: l, h => by
  by_cases hy : lt y x = true
  case pos => (have e : less lt x (y :: l) = less lt x l + 1 := by rw [less, if_pos hy]); simp only [e, List.getElem_cons_succ]; exact less_stop x l (by rw [e] at h; simpa using h)
  have e : less lt x (y :: l) = 0 := by rw [less, if_neg hy]
  simp only [e, List.getElem_cons_zero]
  simpa using hy
end
theorem qLB {α : Type} {L : List α} {i : Nat} {c : α} {cs : List α} (h : L.drop i = c :: cs) : ∃ hi : i < L.length, L[i] = c ∧ L.drop (i + 1) = cs := by
 have hi : i < L.length := by
  rcases Nat.lt_or_ge i L.length with h1 | h1
  ·exact h1
  ·rw [List.drop_eq_nil_of_le h1] at h; cases h
 rw [List.drop_eq_getElem_cons hi] at h
 injection h with h1 h2
 exact ⟨hi, h1, h2⟩
theorem qmB {α : Type} {L : List α} {i : Nat} (h : L.drop i = []) : L.length ≤ i := by
 rcases Nat.lt_or_ge i L.length with h1 | h1
 ·rw [List.drop_eq_getElem_cons h1] at h; cases h
 ·exact h1
end Go.Proofs.YthhiiceligjleaaGreatDoor.Sorts
namespace Go.Proofs.YthhiiceligjleaaGreatDoor
open Go.RowKit Go.Proofs.YthhiiceligjleaaGreatDoor.P Go.Proofs.YthhiiceligjleaaGreatDoorW.PrintWords Go.Proofs.YthhiiceligjleaaGreatDoorW.PrintLast
set_option linter.unusedVariables false
set_option linter.unusedSimpArgs false
theorem rdDD (l : List DD) (t : DD) (i : Nat) (h : l[i]? = some t) : qC l (i : Int) = t := by
 unfold qC
 rw [Int.toNat_natCast, List.getD_eq_getElem?_getD, h]; rfl
theorem rdWD (l : List ByteArray) (t : ByteArray) (i : Nat) (h : l[i]? = some t) : rdOf ByteArray.empty l (i : Int) = t := by
 unfold rdOf
 rw [Int.toNat_natCast, List.getD_eq_getElem?_getD, h]; rfl
abbrev dds (L : List (DD × ByteArray)) : List DD := L.map Prod.fst
abbrev wsd (L : List (DD × ByteArray)) : List ByteArray := L.map Prod.snd
theorem putD_get {L : List (DD × ByteArray)} {i : Nat} {x : DD × ByteArray} (h : L[i]? = some x) (y : Option DD) (p : ByteArray) : (Bfs.put L y p)[i]? = some x := by
 obtain ⟨t, ht⟩ := Bfs.put_prefix L y p
 rw [← ht, List.getElem?_append_left (List.getElem?_eq_some_iff.1 h).1]
 exact h
theorem specDie_rol (x : DD) (d : Nat) (h : d < 4) : qEB.f x.f0 x.f1 x.f2 x.f3 x.f4 x.f5 (d : Int) = some ((rolD x d).f0, (rolD x d).f1, (rolD x d).f2, (rolD x d).f3, (rolD x d).f4, (rolD x d).f5) := by
 have : d = 0 ∨ d = 1 ∨ d = 2 ∨ d = 3 := by omega
 rcases this with rfl | rfl | rfl | rfl <;> simp [qEB.f, rolD]
theorem same_die (b z : DD) : (b.f0 == z.f0 && (b.f1 == z.f1 && (b.f2 == z.f2 && (b.f3 == z.f3 && (b.f4 == z.f4 && (b.f5 == z.f5)))))) = decide (z = b) := by
 by_cases hzb : z = b
 case pos => subst hzb; simp
 rw [decide_eq_false hzb]
 cases hx : (b.f0 == z.f0 && (b.f1 == z.f1 && (b.f2 == z.f2 && (b.f3 == z.f3 && (b.f4 == z.f4 && (b.f5 == z.f5)))))) with
 | false => rfl
 | true =>
  simp only [Bool.and_eq_true, beq_iff_eq] at hx
  exact absurd (qeE hx.1.symm hx.2.1.symm hx.2.2.1.symm hx.2.2.2.1.symm hx.2.2.2.2.1.symm hx.2.2.2.2.2.symm) hzb
theorem search_found (at_ d : Int) (B : List DD) (hB : B.length ≤ 24) (ws : List ByteArray) (z : DD) (R : List DD × List ByteArray) :
  ∀ (l : List DD) (j : Nat) (f : Bool), B.drop j = l → j ≤ B.length →
   (∀ f', (f' = (f || decide (z ∈ l))) → Ev (fun k => qK.l2 k B ws at_ d f' (B.length : Int) (B.length : Int) z.f0 z.f1 z.f2 z.f3 z.f4 z.f5) R) →
   Ev (fun k => qK.l2 k B ws at_ d f (B.length : Int) (j : Int) z.f0 z.f1 z.f2 z.f3 z.f4 z.f5) R
 | [], j, f, hd, hj, h => by
  have := Sorts.qmB hd
  obtain rfl : j = B.length := by omega
  exact h f (by simp)
 | b :: l, j, f, hd, hj, h => by
  obtain ⟨hlt, hc, hd'⟩ := Sorts.qLB hd
  have e := rdDD B b j (by rw [← hc]; exact List.getElem?_eq_getElem hlt)
  have ih := fun f' hf => search_found at_ d B hB ws z R l (j + 1) f' hd' (by omega) hf
  have w : wrap64 ((j : Int) + 1) = ((j + 1 : Nat) : Int) := by unfold wrap64; omega
  clear hd hd' hc
  refine Ev.step (f := fun k => _) (fun k => by rw [qK.l2]) ?_
  rw [w, e]
  refine Ev.pos (by omega) (Ev.pos (by omega) (Ev.pos (by omega) ?_))
  cases f with
  | true =>
   refine Ev.pos rfl (ih true fun f' hf => h f' ?_)
   rw [hf]; rfl
  | false =>
   refine Ev.neg (by decide) ?_
   rw [same_die]
   refine ih _ fun f' hf => h f' ?_
   rw [hf, Bool.false_or]
   by_cases hzb : z = b
   case pos => subst hzb; simp
   simp [hzb]
theorem quC (x : DD) (at_ : Nat) (R : List DD × List ByteArray) : ∀ (n d : Nat) (L : List (DD × ByteArray)) (b : DD) (w : ByteArray), d + n = 4 → L[at_]? = some (b, w) → FoundD x L → w.size ≤ 147 →
  (Ev (fun k => qK.l0 k (dds (Bfs.puts L (stepsD b w n d))) (wsd (Bfs.puts L (stepsD b w n d))) ((at_ + 1 : Nat) : Int)) R) →
  Ev (fun k => qK.l1 k (dds L) (wsd L) (at_ : Int) (d : Int)) R
 | 0, d, L, b, w, hd, hat, hF, hw, h => by
  have hl := hF.len
  have hlt := (List.getElem?_eq_some_iff.1 hat).1
  have w1 : wrap64 ((at_ : Int) + 1) = ((at_ + 1 : Nat) : Int) := by unfold wrap64; omega
  refine Ev.step (f := fun k => _) (fun k => by rw [qK.l1]) ?_
  rw [w1]
  exact Ev.neg (by omega) h
 | n + 1, d, L, b, w, hd, hat, hF, hw, h => by
  have hl := hF.len
  have hlt := (List.getElem?_eq_some_iff.1 hat).1
  have w1 : wrap64 ((d : Int) + 1) = ((d + 1 : Nat) : Int) := by unfold wrap64; omega
  have eb := rdDD (dds L) b at_ (by rw [List.getElem?_map, hat]; rfl)
  have ew := rdWD (wsd L) w at_ (by rw [List.getElem?_map, hat]; rfl)
  have h1 := dirW_size d (by omega)
  have hlen : (dds L).length = L.length := List.length_map _
  have hlen2 : (wsd L).length = L.length := List.length_map _
  have him : b ∈ imgs x := hF.img (b, w) (List.mem_of_getElem? hat)
  refine Ev.step (f := fun k => _) (fun k => by rw [qK.l1]) ?_
  rw [eb]
  refine Ev.pos (by omega) (Ev.pos (by omega) (Ev.pos (by omega) (Ev.bindc (specDie_rol b d (by omega)) ?_)))
  rw [stepsD] at h
  show Ev (fun k => qK.l2 k (dds L) (wsd L) (at_ : Int) (d : Int) false ((dds L).length : Int) ((0 : Nat) : Int) (rolD b d).f0 (rolD b d).f1 (rolD b d).f2 (rolD b d).f3 (rolD b d).f4 (rolD b d).f5) R
  refine search_found _ _ (dds L) (by omega) (wsd L) (rolD b d) R (dds L) 0 false rfl (by omega) fun f' hf => ?_
  rw [Bool.false_or] at hf
  refine Ev.step (f := fun k => _) (fun k => by rw [qK.l2]) ?_
  rw [w1, ew]
  refine Ev.neg (by omega) ?_
  by_cases hm : rolD b d ∈ dds L
  case pos => rw [decide_eq_true hm] at hf; subst hf; have e : Bfs.put L (some (rolD b d)) (w ++ dirW d) = L := Bfs.qCE hm _; rw [Bfs.puts, e] at h; exact Ev.pos rfl (quC x at_ R n (d + 1) L b w (by omega) hat hF hw h)
  rw [decide_eq_false hm] at hf
  subst hf
  have e : Bfs.put L (some (rolD b d)) (w ++ dirW d) = L ++ [(rolD b d, w ++ dirW d)] := Bfs.qBE hm _
  have hF2 := hF.put (some (rolD b d)) (w ++ dirW d) (fun z hz => by cases hz; exact qKE him d (by omega))
  have hg2 := putD_get hat (some (rolD b d)) (w ++ dirW d)
  rw [Bfs.puts, e] at h
  rw [e] at hF2 hg2
  refine Ev.neg (by decide) (Ev.pos (by omega) (Ev.pos (by omega) (Ev.pos (by omega) (Ev.bindc (show qrA.f = some dirsW from rfl) (Ev.pos (by omega) (Ev.pos (by omega) (Ev.pos (by rw [show dirsW.size = 4 from rfl]; omega) ?_)))))))
  rw [Int.toNat_natCast, Int.toNat_natCast]
  refine Ev.pos (by show w.size + (dirW d).size ≤ _; omega) (Ev.pos (by omega) ?_)
  have := quC x at_ R n (d + 1) (L ++ [(rolD b d, w ++ dirW d)]) b w (by omega) hg2 hF2 hw h
  rw [show dds (L ++ [(rolD b d, w ++ dirW d)]) = dds L ++ [rolD b d] by simp [dds], show wsd (L ++ [(rolD b d, w ++ dirW d)]) = wsd L ++ [w ++ dirW d] by simp [wsd]] at this
  exact this
def ShortD (L : List (DD × ByteArray)) (n : Nat) : Prop := ∀ x ∈ L, x.2.size ≤ n
theorem ShortD.round {L : List (DD × ByteArray)} {i : Nat} (h : ShortD L i) : ShortD (Bfs.round nextD i L) (i + 1) := by
 unfold Bfs.round
 split
 ·exact fun x hx => Nat.le_succ_of_le (h x hx)
 ·rename_i x hx
  have hxs := h x (List.mem_of_getElem? hx)
  refine Bfs.qAE (Q := fun y => y.2.size ≤ i + 1) _ (fun y hy => Nat.le_succ_of_le (h y hy)) ?_
  intro s hs z hz
  obtain ⟨e, he, rfl⟩ := qeD x.1 x.2 4 0 rfl s hs
  show (x.2 ++ dirW e).size ≤ _
  rw [ByteArray.size_append, dirW_size e he]
  omega
theorem roundD_is {L : List (DD × ByteArray)} {i : Nat} {b : DD} {w : ByteArray} (h : L[i]? = some (b, w)) : Bfs.round nextD i L = Bfs.puts L (stepsD b w 4 0) := by
 unfold Bfs.round; rw [h]; rfl
theorem search_run (x : DD) : ∀ (n i : Nat) (L : List (DD × ByteArray)), FoundD x L → ShortD L i → i ≤ L.length → 24 ≤ i + n →
  Ev (fun k => qK.l0 k (dds L) (wsd L) (i : Int)) (dds (Bfs.run nextD n i L), wsd (Bfs.run nextD n i L))
 | 0, i, L, hF, hS, hi, hn => by
  have hl := hF.len
  refine Ev.step (f := fun k => _) (fun k => by rw [qK.l0]) ?_
  exact Ev.neg (by rw [List.length_map]; omega) (Ev.now _)
 | n + 1, i, L, hF, hS, hi, hn => by
  have hl := hF.len
  refine Ev.step (f := fun k => _) (fun k => by rw [qK.l0]) ?_
  rw [Bfs.run]
  by_cases hlt : i < L.length
  ·rw [if_pos hlt]
   refine Ev.pos (by rw [List.length_map]; omega) ?_
   have hat : L[i]? = some (L[i].1, L[i].2) := List.getElem?_eq_getElem hlt
   have ih := search_run x n (i + 1) (Bfs.round nextD i L) (hF.round i) hS.round (by have := (Bfs.qbC nextD i L).length_le; omega) (by omega)
   rw [roundD_is hat] at ih
   rw [roundD_is hat]
   exact quC x i _ 4 0 L _ _ rfl hat hF (by have := hS _ (List.getElem_mem hlt); omega) ih
  ·rw [if_neg hlt]
   exact Ev.neg (by rw [List.length_map]; omega) (Ev.now _)
theorem diSearch_ev (x : DD) : Ev (fun k => qK.f k x.f0 x.f1 x.f2 x.f3 x.f4 x.f5) (dds (runD x), wsd (runD x)) :=
 search_run x 24 0 [(x, ⟨#[]⟩)] (qdC x) (fun z hz => by rw [List.mem_singleton] at hz; subst hz; exact Nat.le_refl _) (by simp) (by omega)
end Go.Proofs.YthhiiceligjleaaGreatDoor
namespace Go.Proofs.YthhiiceligjleaaGreatDoor
set_option linter.unusedVariables false
set_option linter.unusedSimpArgs false
def cmpI (a b : Int) : Int := if a < b then -1 else if a > b then 1 else 0
def lexI : List Int → List Int → Int
 | [], [] => 0
 | [], _ :: _ => -1
 | _ :: _, [] => 1
 | a :: l, b :: m => if cmpI a b = 0 then lexI l m else cmpI a b
theorem cmpI_neg (a b : Int) : cmpI a b < 0 ↔ a < b := by
 unfold cmpI
 split
 ·omega
 ·split <;> omega
theorem cmpI_zero (a b : Int) : cmpI a b = 0 ↔ a = b := by
 unfold cmpI
 split
 ·omega
 ·split <;> omega
theorem lexI_neg_cons (a b : Int) (l m : List Int) : lexI (a :: l) (b :: m) < 0 ↔ a < b ∨ (a = b ∧ lexI l m < 0) := by
 have h1 := cmpI_neg a b
 have h2 := cmpI_zero a b
 rw [lexI]
 split <;> omega
end Go.Proofs.YthhiiceligjleaaGreatDoor
namespace Go.Proofs.YthhiiceligjleaaGreatDoor
open Go.RowKit Go.Proofs.YthhiiceligjleaaGreatDoor.P Go.Proofs.YthhiiceligjleaaGreatDoorW.PrintWords Go.Proofs.YthhiiceligjleaaGreatDoorW.PrintLast
set_option linter.unusedVariables false
set_option linter.unusedSimpArgs false
def facesD (x : DD) : List Int := [x.f0, x.f1, x.f2, x.f3, x.f4, x.f5]
theorem facesD_inj {x y : DD} (h : facesD x = facesD y) : x = y := by
 unfold facesD at h
 injection h with h0 h
 injection h with h1 h
 injection h with h2 h
 injection h with h3 h
 injection h with h4 h
 injection h with h5 h
 exact qeE h0 h1 h2 h3 h4 h5
def ltD (x y : DD) : Bool := decide (lexI (facesD x) (facesD y) < 0)
theorem rd_isD (l : List Int) (i : Nat) {x : Int} (h : i < l.length) (e : l[i] = x) : rd l (i : Int) = x := by
 unfold rd
 rw [Int.toNat_natCast, List.getD_eq_getElem?_getD, List.getElem?_eq_getElem h, e]; rfl
theorem less_loop (l m : List Int) (hl : l.length ≤ 100000) (hm : m.length = l.length) : ∀ (u v : List Int) (i : Nat), l.drop i = u → m.drop i = v → i ≤ l.length →
  Ev (fun k => ql.l0 k l m (l.length : Int) (i : Int)) (decide (lexI u v < 0))
 | [], v, i, hu, hv, h1 => by
  have hi := Sorts.qmB hu
  have hv' : v = [] := by rw [← hv]; exact List.drop_eq_nil_of_le (by omega)
  subst hv'
  refine Ev.step (f := fun k => _) (fun k => by rw [ql.l0]) ?_
  exact Ev.neg (by omega) (Ev.some_ rfl)
 | a :: u, v, i, hu, hv, h1 => by
  obtain ⟨h3, e3, hu'⟩ := Sorts.qLB hu
  have ea := rd_isD l i h3 e3
  have w : wrap64 ((i : Int) + 1) = ((i + 1 : Nat) : Int) := by unfold wrap64; omega
  clear hu e3
  refine Ev.step (f := fun k => _) (fun k => by rw [ql.l0]) ?_
  rw [w, ea]
  refine Ev.pos (by omega) (Ev.pos (by omega) (Ev.pos (by omega) (Ev.pos (by omega) ?_)))
  match v, hv with
  | [], hv =>
   have := Sorts.qmB hv
   omega
  | b :: v, hv =>
   obtain ⟨h4, e4, hv'⟩ := Sorts.qLB hv
   have eb := rd_isD m i h4 e4
   have ih := less_loop l m hl hm u v (i + 1) hu' hv' (by omega)
   clear hv e4 hu' hv'
   rw [eb]
   have hn := lexI_neg_cons a b u v
   by_cases h0 : a = b
   ·refine Ev.pos h0 ?_
    rw [show decide (lexI (a :: u) (b :: v) < 0) = decide (lexI u v < 0) from decide_eq_decide.2 (by omega)]
    exact ih
   ·refine Ev.neg h0 (Ev.some_ ?_)
    exact decide_eq_decide.2 (by omega)
theorem diLess_ev (x y : DD) : Ev (fun k => ql.f k x.f0 x.f1 x.f2 x.f3 x.f4 x.f5 y.f0 y.f1 y.f2 y.f3 y.f4 y.f5) (ltD x y) := by
 unfold ql.f
 exact Ev.bindc (show qRA.f _ _ _ _ _ _ = some (facesD x) from rfl) (Ev.bindc (show qRA.f _ _ _ _ _ _ = some (facesD y) from rfl) (less_loop (facesD x) (facesD y) (by simp [facesD]) rfl (facesD x) (facesD y) 0 rfl rfl (by simp)))
theorem ways_ins (B : List DD) (i : Int) (x : DD) (acc : List DD) (ha : acc.length ≤ 100) (R : List DD) (h : Ev (fun k => qS.l0 k (Sorts.ins ltD x acc) B (B.length : Int) (wrap64 (i + 1))) R) (d : Nat) :
  ∀ j : Nat, j ≤ Sorts.less ltD x acc → Sorts.less ltD x acc - j = d → Ev (fun k => qS.l1 k acc (j : Int) B (B.length : Int) i x.f0 x.f1 x.f2 x.f3 x.f4 x.f5) R := by
 have hle := Sorts.less_le (lt := ltD) x acc
 have fin : Ev (fun k => qS.l1 k acc (Sorts.less ltD x acc : Int) B (B.length : Int) i x.f0 x.f1 x.f2 x.f3 x.f4 x.f5) R := by
  have hi := Sorts.ins_eq (lt := ltD) x acc
  have e : (([] : List DD) ++ acc.take (Sorts.less ltD x acc)) ++ [x] ++ acc.drop (Sorts.less ltD x acc) = Sorts.ins ltD x acc := by
   rw [hi]; simp
  have l1 : (acc.take (Sorts.less ltD x acc)).length = Sorts.less ltD x acc := by rw [List.length_take]; omega
  have l2 : (acc.drop (Sorts.less ltD x acc)).length = acc.length - Sorts.less ltD x acc := List.length_drop
  rw [← e] at h
  refine Ev.step (f := fun k => _) (fun k => by rw [qS.l1]) ?_
  by_cases hlt : Sorts.less ltD x acc < acc.length
  ·have hs := Sorts.less_stop (lt := ltD) x acc hlt
   refine Ev.pos (by omega) (Ev.pos (by omega) ?_)
   rw [rdDD acc _ _ (List.getElem?_eq_getElem hlt)]
   have hd := diLess_ev (acc[Sorts.less ltD x acc]) x
   rw [hs] at hd
   refine Ev.bind hd (Ev.neg (by decide) ?_)
   rw [Int.toNat_natCast]
   refine Ev.bindc rfl (Ev.pos (by omega) (Ev.bindc rfl (Ev.pos (by rw [l1]; simp; omega) (Ev.bindc rfl (Ev.bindc rfl (Ev.pos (by simp [l1]; omega) (Ev.bindc rfl (Ev.bindc rfl (Ev.pos (by simp [l1, l2]; omega) h)))))))))
  ·refine Ev.neg (by omega) ?_
   rw [Int.toNat_natCast]
   refine Ev.bindc rfl (Ev.pos (by omega) (Ev.pos (by omega) (Ev.bindc rfl (Ev.pos (by rw [l1]; simp; omega) (Ev.bindc rfl (Ev.bindc rfl (Ev.pos (by simp [l1]; omega) (Ev.bindc rfl (Ev.bindc rfl (Ev.pos (by simp [l1, l2]; omega) h))))))))))
 induction d with
 | zero =>
  intro j hj hd
  obtain rfl : j = Sorts.less ltD x acc := by omega
  exact fin
 | succ d ih =>
  intro j hj hd
  have hlt : j < acc.length := by omega
  have hs := Sorts.less_lt (lt := ltD) x acc j hlt (by omega)
  have w : wrap64 ((j : Int) + 1) = ((j + 1 : Nat) : Int) := by unfold wrap64; omega
  have ihh := ih (j + 1) (by omega) (by omega)
  clear ih fin h
  refine Ev.step (f := fun k => _) (fun k => by rw [qS.l1]) ?_
  refine Ev.pos (by omega) (Ev.pos (by omega) ?_)
  rw [rdDD acc _ _ (List.getElem?_eq_getElem hlt), w]
  have hd := diLess_ev (acc[j]) x
  rw [hs] at hd
  exact Ev.bind hd (Ev.pos rfl ihh)
theorem ways_loop (B : List DD) (hB : B.length ≤ 24) : ∀ (l : List DD) (i : Nat) (acc : List DD), B.drop i = l → i ≤ B.length → acc.length ≤ i →
  Ev (fun k => qS.l0 k acc B (B.length : Int) (i : Int)) (Sorts.insAll ltD acc l)
 | [], i, acc, hd, hi, ha => by
  have := Sorts.qmB hd
  refine Ev.step (f := fun k => _) (fun k => by rw [qS.l0]) ?_
  exact Ev.neg (by omega) (Ev.now _)
 | x :: l, i, acc, hd, hi, ha => by
  obtain ⟨hlt, hc, hd'⟩ := Sorts.qLB hd
  have e := rdDD B x i (by rw [← hc]; exact List.getElem?_eq_getElem hlt)
  have hl : (Sorts.ins ltD x acc).length = acc.length + 1 := by
   have := (Sorts.qJE ltD x acc).length_eq
   simpa using this
  have ih := ways_loop B hB l (i + 1) (Sorts.ins ltD x acc) hd' (by omega) (by omega)
  have w : wrap64 ((i : Int) + 1) = ((i + 1 : Nat) : Int) := by unfold wrap64; omega
  clear hd hd' hc
  refine Ev.step (f := fun k => _) (fun k => by rw [qS.l0]) ?_
  rw [e]
  refine Ev.pos (by omega) (Ev.pos (by omega) (Ev.pos (by omega) ?_))
  rw [← w] at ih
  exact ways_ins B (i : Int) x acc (by omega) _ ih _ 0 (by omega) rfl
def waysD (x : DD) : List DD := Sorts.insAll ltD [] (dds (runD x))
theorem diWays_ev (x : DD) : Ev (fun k => qS.f k x.f0 x.f1 x.f2 x.f3 x.f4 x.f5) (waysD x) := by
 have hl : (dds (runD x)).length ≤ 24 := by rw [List.length_map]; exact (qOD x).len
 unfold qS.f
 exact Ev.bind (diSearch_ev x) (ways_loop _ hl _ 0 [] rfl (by omega) (by simp))
theorem waysD_perm (x : DD) : (waysD x).Perm (dds (runD x)) := by
 have := Sorts.insAll_perm ltD (dds (runD x)) []
 rwa [List.append_nil] at this
theorem qaC (x y : DD) : y ∈ waysD x ↔ y ∈ imgs x := (waysD_perm x).mem_iff.trans (mem_run x y)
theorem waysD_len (x : DD) : 1 ≤ (waysD x).length ∧ (waysD x).length ≤ 24 := by
 have h1 := (waysD_perm x).length_eq
 have h2 := (qOD x).len
 rw [List.length_map] at h1
 have h3 := List.length_pos_of_mem ((qaC x x).2 (qlD x))
 omega
def codeF (o : Int) (l : List Int) : Int := l.foldl (fun o f => 10 * o + f) o
def codeD (x : DD) : Int := codeF 0 (facesD x)
theorem codeF_inj : ∀ (l m : List Int) (o p : Int), l.length = m.length → (∀ n ∈ l, 0 ≤ n ∧ n ≤ 9) → (∀ n ∈ m, 0 ≤ n ∧ n ≤ 9) → codeF o l = codeF p m → o = p ∧ l = m
 | [], [], o, p, _, _, _, h => ⟨h, rfl⟩
 | [], _ :: _, _, _, h, _, _, _ => by simp at h
 | _ :: _, [], _, _, h, _, _, _ => by simp at h
 | a :: l, b :: m, o, p, hl, h1, h2, h => by
  obtain ⟨h3, h4⟩ := codeF_inj l m (10 * o + a) (10 * p + b) (by simpa using hl) (fun n hn => h1 n (List.mem_cons_of_mem _ hn)) (fun n hn => h2 n (List.mem_cons_of_mem _ hn)) h
  have ha := h1 a List.mem_cons_self
  have hb := h2 b List.mem_cons_self
  have : o = p := by omega
  refine ⟨this, ?_⟩
  rw [h4, show a = b by omega]
def goodD (x : DD) : Prop := ∀ n ∈ facesD x, 0 ≤ n ∧ n ≤ 9
theorem goodD_of {x : DD} (h : dieB x.f0 x.f1 x.f2 x.f3 x.f4 x.f5 = true) : goodD x := dieB_face h
theorem codeD_inj {x y : DD} (hx : goodD x) (hy : goodD y) (h : codeD x = codeD y) : x = y :=
 facesD_inj (codeF_inj (facesD x) (facesD y) 0 0 rfl hx hy h).2
theorem rdI (l : List Int) (i : Nat) (h : i < l.length) : rd l (i : Int) = l[i] := by
 unfold rd
 rw [Int.toNat_natCast, List.getD_eq_getElem?_getD, List.getElem?_eq_getElem h]; rfl
theorem wyCode_loop (F : List Int) (hF : F.length ≤ 6) : ∀ (u : List Int) (i : Nat) (o : Int), F.drop i = u → i ≤ F.length → (∀ n ∈ u, 0 ≤ n ∧ n ≤ 9) → 0 ≤ o → o < 100 * 10 ^ i →
  Ev (fun k => qSA.l0 k o F (F.length : Int) (i : Int)) (codeF o u)
 | [], i, o, hd, hi, _, _, _ => by
  have := Sorts.qmB hd
  refine Ev.step (f := fun k => _) (fun k => by rw [qSA.l0]) ?_
  exact Ev.neg (by omega) (Ev.now _)
 | a :: u, i, o, hd, hi, hu, h0, h1 => by
  obtain ⟨hlt, hc, hd'⟩ := Sorts.qLB hd
  have ha := hu a List.mem_cons_self
  have hp : (10 : Int) ^ (i + 1) = 10 ^ i * 10 := Int.pow_succ _ _
  have hb : (10 : Int) ^ i ≤ 1000000 := by
   have : i < 6 := by omega
   have : i = 0 ∨ i = 1 ∨ i = 2 ∨ i = 3 ∨ i = 4 ∨ i = 5 := by omega
   rcases this with rfl | rfl | rfl | rfl | rfl | rfl <;> decide
  have ih := wyCode_loop F hF u (i + 1) (10 * o + a) hd' (by omega) (fun n hn => hu n (List.mem_cons_of_mem _ hn)) (by omega) (by rw [hp]; omega)
  have w : wrap64 ((i : Int) + 1) = ((i + 1 : Nat) : Int) := by unfold wrap64; omega
  have w1 : wrap64 (10 * o) = 10 * o := by unfold wrap64; omega
  have w2 : wrap64 (10 * o + a) = 10 * o + a := by unfold wrap64; omega
  refine Ev.step (f := fun k => _) (fun k => by rw [qSA.l0]) ?_
  rw [rdI F i hlt, hc, w, w1, w2]
  clear hd hd' hc
  exact Ev.pos (by omega) (Ev.pos (by omega) (Ev.pos (by omega) ih))
theorem wyCode_ev (W H : Int) (cs : List Int) (x y : Int) (d : DD) (hd : goodD d) (h0 : 0 ≤ y * W + x) (h1 : y * W + x < 100) (hw : wrap64 (y * W) = y * W) :
  Ev (fun k => qSA.f k W H cs x y d.f0 d.f1 d.f2 d.f3 d.f4 d.f5) (codeF (y * W + x) (facesD d)) := by
 unfold qSA.f
 refine Ev.bindc (show qRA.f d.f0 d.f1 d.f2 d.f3 d.f4 d.f5 = some (facesD d) from rfl) ?_
 rw [hw, show wrap64 (y * W + x) = y * W + x by unfold wrap64; omega]
 exact wyCode_loop (facesD d) (by show 6 ≤ 6; omega) (facesD d) 0 _ rfl (by omega) hd h0 (by simpa using h1)
theorem wyCode_die (W H : Int) (cs : List Int) (d : DD) (hd : goodD d) : Ev (fun k => qSA.f k W H cs 0 0 d.f0 d.f1 d.f2 d.f3 d.f4 d.f5) (codeD d) := by
 have := wyCode_ev W H cs 0 0 d hd (by simp) (by simp) (by simp [wrap64])
 rw [Int.zero_mul, Int.zero_add] at this
 exact this
def plc (n : Int) : List Int → Nat → Int
 | [], _ => -1
 | x :: l, i => if x = n then (i : Int) else plc n l (i + 1)
theorem qDE (n : Int) : ∀ (l : List Int) (i : Nat), n ∈ l → ∃ j, j < l.length ∧ plc n l i = ((i + j : Nat) : Int) ∧ l[j]? = some n
 | [], _, h => by cases h
 | x :: l, i, h => by
  unfold plc
  by_cases e : x = n
  case pos => rw [if_pos e]; exact ⟨0, by simp, by simp, by simp [e]⟩
  rw [if_neg e]
  rcases List.mem_cons.1 h with h | h
  ·exact absurd h.symm e
  obtain ⟨j, h1, h2, h3⟩ := qDE n l (i + 1) h
  refine ⟨j + 1, by simp only [List.length_cons]; omega, by rw [h2]; congr 1; omega, by simpa using h3⟩
theorem wyPlace_loop (L : List Int) (hL : L.length ≤ 1000000) (n : Int) : ∀ (u : List Int) (i : Nat), L.drop i = u → i ≤ L.length → Ev (fun k => qXA.l0 k n L (L.length : Int) (i : Int)) (plc n u i)
 | [], i, hd, hi => by
  have := Sorts.qmB hd
  refine Ev.step (f := fun k => _) (fun k => by rw [qXA.l0]) ?_
  exact Ev.neg (by omega) (Ev.now _)
 | x :: u, i, hd, hi => by
  obtain ⟨hlt, hc, hd'⟩ := Sorts.qLB hd
  have ih := wyPlace_loop L hL n u (i + 1) hd' (by omega)
  have w : wrap64 ((i : Int) + 1) = ((i + 1 : Nat) : Int) := by unfold wrap64; omega
  refine Ev.step (f := fun k => _) (fun k => by rw [qXA.l0]) ?_
  rw [rdI L i hlt, hc, w]
  clear hd hd' hc
  unfold plc
  refine Ev.pos (by omega) (Ev.pos (by omega) (Ev.pos (by omega) ?_))
  by_cases e : x = n
  case pos => rw [if_pos e]; exact Ev.pos e (Ev.now _)
  rw [if_neg e]; exact Ev.neg e ih
theorem wyPlace_ev (L : List Int) (hL : L.length ≤ 1000000) (n : Int) : Ev (fun k => qXA.f k L n) (plc n L 0) := wyPlace_loop L hL n L 0 rfl (by omega)
def waysC (x : DD) : List Int := (waysD x).map codeD
theorem waysC_len (x : DD) : (waysC x).length ≤ 24 := by unfold waysC; rw [List.length_map]; exact (waysD_len x).2
theorem qKD {x y : DD} (hx : goodD x) (h : y ∈ imgs x) : goodD y := by
 obtain ⟨p, _, rfl⟩ := List.mem_map.1 h
 have hf : ∀ n : Int, 0 ≤ faceD x n ∧ faceD x n ≤ 9 := by
  intro n
  have h0 := hx x.f0 (by simp [facesD])
  have h1 := hx x.f1 (by simp [facesD])
  have h2 := hx x.f2 (by simp [facesD])
  have h3 := hx x.f3 (by simp [facesD])
  have h4 := hx x.f4 (by simp [facesD])
  have h5 := hx x.f5 (by simp [facesD])
  unfold faceD
  by_cases e0 : n = 0
  ·rw [if_pos e0]; exact h0
  rw [if_neg e0]
  by_cases e1 : n = 1
  ·rw [if_pos e1]; exact h1
  rw [if_neg e1]
  by_cases e2 : n = 2
  ·rw [if_pos e2]; exact h2
  rw [if_neg e2]
  by_cases e3 : n = 3
  ·rw [if_pos e3]; exact h3
  rw [if_neg e3]
  by_cases e4 : n = 4
  ·rw [if_pos e4]; exact h4
  rw [if_neg e4]; exact h5
 intro n hn
 unfold facesD putD at hn
 simp only [List.mem_cons, List.not_mem_nil, or_false] at hn
 rcases hn with rfl | rfl | rfl | rfl | rfl | rfl <;> exact hf _
theorem myWays_loop (W H : Int) (cs : List Int) (B : List DD) (hB : B.length ≤ 24) : ∀ (u : List DD) (i : Nat) (acc : List Int), B.drop i = u → i ≤ B.length → (∀ d ∈ u, goodD d) → acc.length ≤ i →
  Ev (fun k => qZA.l0 k acc B (B.length : Int) (i : Int) W H cs) (acc ++ u.map codeD)
 | [], i, acc, hd, hi, _, _ => by
  have := Sorts.qmB hd
  refine Ev.step (f := fun k => _) (fun k => by rw [qZA.l0]) ?_
  rw [List.map_nil, List.append_nil]
  exact Ev.neg (by omega) (Ev.now _)
 | d :: u, i, acc, hd, hi, hu, ha => by
  obtain ⟨hlt, hc, hd'⟩ := Sorts.qLB hd
  have ih := myWays_loop W H cs B hB u (i + 1) (acc ++ [codeD d]) hd' (by omega) (fun n hn => hu n (List.mem_cons_of_mem _ hn)) (by simp only [List.length_append, List.length_singleton]; omega)
  have w : wrap64 ((i : Int) + 1) = ((i + 1 : Nat) : Int) := by unfold wrap64; omega
  have hw := wyCode_die W H cs d (hu d List.mem_cons_self)
  refine Ev.step (f := fun k => _) (fun k => by rw [qZA.l0]) ?_
  rw [rdDD B d i (by rw [← hc]; exact List.getElem?_eq_getElem hlt), w]
  clear hd hd' hc
  rw [List.append_assoc] at ih
  exact Ev.pos (by omega) (Ev.pos (by omega) (Ev.pos (by omega) (Ev.bind hw (Ev.pos (by omega) ih))))
theorem myWays_ev (W H : Int) (cs : List Int) (x y : Int) (d : DD) (hd : goodD d) : Ev (fun k => qZA.f k W H cs x y d.f0 d.f1 d.f2 d.f3 d.f4 d.f5) (waysC d) := by
 unfold qZA.f waysC
 have h1 := (waysD_len d).2
 have h2 : ∀ e ∈ waysD d, goodD e := fun e he => qKD hd ((qaC d e).1 he)
 refine Ev.bind (diWays_ev d) ?_
 generalize waysD d = B at h1 h2
 exact myWays_loop W H cs B h1 B 0 [] List.drop_zero (Nat.zero_le _) h2 (Nat.le_refl _)
def code1 (a : ByteArray) (s t : XS) : Int := (t.f1 * (wideT a : Int) + t.f0) * 24 + plc (codeD t.f2) (waysC s.f2) 0
def cellsN (a : ByteArray) : Int := (wideT a : Int) * (highT a : Int)
def codeL (a : ByteArray) : Int → List XS → List XS → Int
 | o, s :: l, t :: m => codeL a (o * (cellsN a * 24) + code1 a s t) l m
 | o, _, _ => o
theorem qHD {x y : DD} (h : y ∈ imgs x) : 0 ≤ plc (codeD y) (waysC x) 0 ∧ plc (codeD y) (waysC x) 0 < 24 := by
 obtain ⟨j, h1, h2, _⟩ := qDE (codeD y) (waysC x) 0 (List.mem_map_of_mem ((qaC x y).2 h))
 have := waysC_len x
 rw [h2]; omega
theorem plc_inj {x y z : DD} (hx : goodD x) (hy : y ∈ imgs x) (hz : z ∈ imgs x) (h : plc (codeD y) (waysC x) 0 = plc (codeD z) (waysC x) 0) : y = z := by
 obtain ⟨j, _, h2, h3⟩ := qDE (codeD y) (waysC x) 0 (List.mem_map_of_mem ((qaC x y).2 hy))
 obtain ⟨j', _, h2', h3'⟩ := qDE (codeD z) (waysC x) 0 (List.mem_map_of_mem ((qaC x z).2 hz))
 rw [h2, h2'] at h
 have : j = j' := by omega
 subst this
 rw [h3] at h3'
 exact codeD_inj (qKD hx hy) (qKD hx hz) (by injection h3')
theorem cell_lin {x y W H : Int} (y0 : 0 ≤ y) (y1 : y < H) (x0 : 0 ≤ x) (x1 : x < W) : 0 ≤ y * W + x ∧ y * W + x < W * H := by
 have hp : (y + 1) * W ≤ H * W := Int.mul_le_mul_of_nonneg_right (by omega) (by omega)
 have hq : 0 ≤ y * W := Int.mul_nonneg y0 (by omega)
 rw [Int.add_mul, Int.one_mul] at hp
 rw [Int.mul_comm W H]
 generalize y * W = m at *
 generalize H * W = M at *
 omega
theorem qpC {a : ByteArray} (g : Gnd a) {t : XS} (h : stateB a t = true) : 0 ≤ t.f1 * (wideT a : Int) + t.f0 ∧ t.f1 * (wideT a : Int) + t.f0 < cellsN a ∧ 0 ≤ t.f0 ∧ t.f0 < (wideT a : Int) ∧ 0 ≤ t.f1 ∧ t.f1 < (highT a : Int) := by
 unfold stateB floorB at h
 simp only [Bool.and_eq_true] at h
 obtain ⟨⟨h1, _⟩, _⟩ := h
 obtain ⟨⟨y0, y1⟩, x0, x1⟩ := (qYD a t.f0 t.f1).1 h1
 obtain ⟨z0, z1⟩ := cell_lin y0 y1 x0 x1
 exact ⟨z0, z1, x0, x1, y0, y1⟩
theorem qTC {a : ByteArray} (g : Gnd a) : 1 ≤ cellsN a ∧ cellsN a ≤ 49 := by
 have h1 := g.w1
 have h2 := g.h1
 have h3 := g.w7
 have h4 := g.h7
 unfold cellsN
 have e : (wideT a : Int) * (highT a : Int) = ((wideT a * highT a : Nat) : Int) := by rw [Int.natCast_mul]
 rw [e]
 have h5 : 1 * 1 ≤ wideT a * highT a := Nat.mul_le_mul h1 h2
 have h6 : wideT a * highT a ≤ 7 * 7 := Nat.mul_le_mul h3 h4
 omega
theorem qYC {a : ByteArray} (g : Gnd a) {s t : XS} (h : kinS a s t) : 0 ≤ code1 a s t ∧ code1 a s t < cellsN a * 24 := by
 obtain ⟨c0, c1, _⟩ := qpC g h.1
 obtain ⟨p0, p1⟩ := qHD h.2
 unfold code1
 generalize t.f1 * (wideT a : Int) + t.f0 = m at *
 generalize plc (codeD t.f2) (waysC s.f2) 0 = p at *
 generalize cellsN a = N at *
 omega
theorem code1_inj {a : ByteArray} (g : Gnd a) {s t u : XS} (hs : goodD s.f2) (ht : kinS a s t) (hu : kinS a s u) (h : code1 a s t = code1 a s u) : t = u := by
 obtain ⟨c0, c1, tx0, tx1, ty0, ty1⟩ := qpC g ht.1
 obtain ⟨d0, d1, ux0, ux1, uy0, uy1⟩ := qpC g hu.1
 obtain ⟨p0, p1⟩ := qHD ht.2
 obtain ⟨q0, q1⟩ := qHD hu.2
 unfold code1 at h
 have hpc : plc (codeD t.f2) (waysC s.f2) 0 = plc (codeD u.f2) (waysC s.f2) 0 ∧ t.f1 * (wideT a : Int) + t.f0 = u.f1 * (wideT a : Int) + u.f0 := by
  generalize t.f1 * (wideT a : Int) + t.f0 = m at *
  generalize u.f1 * (wideT a : Int) + u.f0 = m' at *
  generalize plc (codeD t.f2) (waysC s.f2) 0 = p at *
  generalize plc (codeD u.f2) (waysC s.f2) 0 = p' at *
  omega
 obtain ⟨hp, hc⟩ := hpc
 have hw : (0 : Int) < (wideT a : Int) := by omega
 have hy : t.f1 = u.f1 := by
  have e1 : (t.f0 + t.f1 * (wideT a : Int)) / (wideT a : Int) = t.f1 := by rw [Int.add_mul_ediv_right _ _ (by omega), Int.ediv_eq_zero_of_lt tx0 tx1, Int.zero_add]
  have e2 : (u.f0 + u.f1 * (wideT a : Int)) / (wideT a : Int) = u.f1 := by rw [Int.add_mul_ediv_right _ _ (by omega), Int.ediv_eq_zero_of_lt ux0 ux1, Int.zero_add]
  rw [← e1, ← e2, Int.add_comm t.f0, Int.add_comm u.f0, hc]
 rw [hy] at hc
 exact qiE (by omega) hy (plc_inj hs ht.2 hu.2 hp)
theorem qJD {a : ByteArray} {s t : XS} {l m : List XS} (h : kinD a (s :: l) (t :: m)) : kinS a s t ∧ kinD a l m :=
 ⟨h.2 0 s t rfl rfl, ⟨by simpa using h.1, fun k u v hu hv => h.2 (k + 1) u v (by simpa using hu) (by simpa using hv)⟩⟩
theorem codeL_inj {a : ByteArray} (g : Gnd a) : ∀ (l m n : List XS) (o p : Int), kinD a l m → kinD a l n → (∀ s ∈ l, goodD s.f2) → codeL a o l m = codeL a p l n → o = p ∧ m = n
 | [], m, n, o, p, hm, hn, _, h => by
  have h1 := List.length_eq_zero_iff.1 hm.1
  have h2 := List.length_eq_zero_iff.1 hn.1
  subst h1 h2
  exact ⟨h, rfl⟩
 | s :: l, [], n, o, p, hm, hn, _, h => by simp [kinD] at hm
 | s :: l, t :: m, [], o, p, hm, hn, _, h => by simp [kinD] at hn
 | s :: l, t :: m, u :: n, o, p, hm, hn, hg, h => by
  obtain ⟨t1, t2⟩ := qJD hm
  obtain ⟨u1, u2⟩ := qJD hn
  obtain ⟨h3, h4⟩ := codeL_inj g l m n _ _ t2 u2 (fun z hz => hg z (List.mem_cons_of_mem _ hz)) h
  obtain ⟨b0, b1⟩ := qYC g t1
  obtain ⟨d0, d1⟩ := qYC g u1
  have hN := qTC g
  have hop : o = p := by
   have e1 : (code1 a s t + o * (cellsN a * 24)) / (cellsN a * 24) = o := by rw [Int.add_mul_ediv_right _ _ (by omega), Int.ediv_eq_zero_of_lt b0 b1, Int.zero_add]
   have e2 : (code1 a s u + p * (cellsN a * 24)) / (cellsN a * 24) = p := by rw [Int.add_mul_ediv_right _ _ (by omega), Int.ediv_eq_zero_of_lt d0 d1, Int.zero_add]
   rw [← e1, ← e2, Int.add_comm (code1 a s t), Int.add_comm (code1 a s u), h3]
  subst hop
  refine ⟨rfl, ?_⟩
  rw [h4, code1_inj g (hg s List.mem_cons_self) t1 u1 (by omega)]
theorem numsOf_len (l : List UInt8) : (numsOf l).length = l.length := by unfold numsOf; exact List.length_map _
theorem flatten_len (w : Nat) : ∀ L : List (List UInt8), (∀ r ∈ L, r.length = w) → L.flatten.length = L.length * w
 | [], _ => by simp
 | r :: L, h => by
  have ih := flatten_len w L (fun x hx => h x (List.mem_cons_of_mem _ hx))
  rw [List.flatten_cons, List.length_append, ih, h r List.mem_cons_self, List.length_cons, Nat.add_mul]; omega
theorem csOf_len {a : ByteArray} (g : Gnd a) : ((csOf a).length : Int) = cellsN a := by
 unfold csOf cellsN
 rw [numsOf_len, flatT_eq, flatten_len (wideT a) (rowsL a) g.rows, qKC, Int.natCast_mul, Int.mul_comm]
theorem code_wrap {M m x p : Int} (h0 : 0 ≤ M) (h1 : M ≤ 100000) (m0 : 0 ≤ m) (m1 : m ≤ 1000) (x0 : 0 ≤ x) (x1 : x ≤ 10) (p0 : 0 ≤ p) (p1 : p < 24) :
  wrap64 (wrap64 (wrap64 (wrap64 (wrap64 M + wrap64 m) + x) * 24) + p) = (M + m + x) * 24 + p := by
 rw [show wrap64 M = M by unfold wrap64; omega, show wrap64 m = m by unfold wrap64; omega, show wrap64 (M + m) = M + m by unfold wrap64; omega, show wrap64 (M + m + x) = M + m + x by unfold wrap64; omega, show wrap64 ((M + m + x) * 24) = (M + m + x) * 24 by unfold wrap64; omega]
 unfold wrap64; omega
theorem mul_small {o C : Int} (o0 : 0 ≤ o) (o1 : o < 1200) (C0 : 1 ≤ C) (C1 : C ≤ 49) : 0 ≤ o * C ∧ o * C ≤ 100000 := by
 have h1 : o * C ≤ 1200 * 49 := Int.mul_le_mul (by omega) C1 (by omega) (by omega)
 have h2 : 0 ≤ o * C := Int.mul_nonneg o0 (by omega)
 generalize o * C = M at *
 omega
theorem code_step {a : ByteArray} (g : Gnd a) {s t : XS} (h : kinS a s t) {o : Int} (o0 : 0 ≤ o) (o1 : o < 1200) :
  wrap64 (wrap64 (wrap64 (wrap64 (wrap64 (o * cellsN a) + wrap64 (t.f1 * (wideT a : Int))) + t.f0) * 24) + plc (codeD t.f2) (waysC s.f2) 0) = o * (cellsN a * 24) + code1 a s t := by
 obtain ⟨c0, c1, x0, x1, y0, y1⟩ := qpC g h.1
 obtain ⟨p0, p1⟩ := qHD h.2
 obtain ⟨N0, N1⟩ := qTC g
 have hw := g.w7
 obtain ⟨m0, m1⟩ := mul_small o0 o1 N0 N1
 have hy : 0 ≤ t.f1 * (wideT a : Int) := Int.mul_nonneg y0 (by omega)
 unfold code1
 rw [show o * (cellsN a * 24) = o * cellsN a * 24 from (Int.mul_assoc _ _ _).symm]
 generalize t.f1 * (wideT a : Int) = m at *
 generalize plc (codeD t.f2) (waysC s.f2) 0 = p at *
 generalize o * cellsN a = M at *
 generalize cellsN a = N at *
 rw [code_wrap m0 m1 hy (by omega) x0 (by omega) p0 p1]
 omega
theorem c24 {a : ByteArray} (g : Gnd a) : 0 ≤ cellsN a * 24 ∧ cellsN a * 24 ≤ 1176 := by
 obtain ⟨N0, N1⟩ := qTC g
 generalize cellsN a = N at *
 omega
theorem code_one {o C c : Int} (h : o = 0) (h1 : c < C) (h2 : C ≤ 1176) : o * C + c < 1200 := by
 subst h
 rw [Int.zero_mul]; omega
theorem myCode_loop {a : ByteArray} (g : Gnd a) (l m : List XS) (hm2 : m.length ≤ 2) (hml : m.length = l.length) (hg : ∀ s ∈ l, goodD s.f2) : ∀ (v u : List XS) (i : Nat) (o : Int), m.drop i = v → l.drop i = u → i ≤ m.length → kinD a u v → 0 ≤ o → (1 ≤ v.length → o < 1200) → (2 ≤ v.length → o = 0) →
  Ev (fun k => qz.l0 k (l.map fun s => waysC s.f2) o m (m.length : Int) (i : Int) (wideT a : Int) (highT a : Int) (csOf a)) (codeL a o u v)
 | [], u, i, o, hd, hu, hi, hk, _, _, _ => by
  have := Sorts.qmB hd
  have hu0 := List.length_eq_zero_iff.1 hk.1.symm
  subst hu0
  refine Ev.step (f := fun k => _) (fun k => by rw [qz.l0]) ?_
  exact Ev.neg (by omega) (Ev.now _)
 | t :: v, [], i, o, hd, hu, hi, hk, _, _, _ => by simp [kinD] at hk
 | t :: v, s :: u, i, o, hd, hu, hi, hk, h0, h1, h2 => by
  obtain ⟨hlt, hc, hd'⟩ := Sorts.qLB hd
  obtain ⟨hlt2, hc2, hu'⟩ := Sorts.qLB hu
  have hlv : m.length = i + (v.length + 1) := by
   have := congrArg List.length hd
   rw [List.length_drop, List.length_cons] at this
   omega
  have hv2 : ¬ 2 ≤ v.length := by omega
  have w : wrap64 ((i : Int) + 1) = ((i + 1 : Nat) : Int) := by unfold wrap64; omega
  have hi1 : i + 1 ≤ m.length := by omega
  obtain ⟨k1, k2⟩ := qJD hk
  have hgs := hg s (hc2 ▸ List.getElem_mem hlt2)
  have hgt := qKD hgs k1.2
  have ho := h1 (Nat.succ_le_succ (Nat.zero_le _))
  have hst := code_step g k1 h0 ho
  obtain ⟨b0, b1⟩ := qYC g k1
  have hn0 : 0 ≤ o * (cellsN a * 24) := Int.mul_nonneg h0 (c24 g).1
  have ih := myCode_loop g l m hm2 hml hg v u (i + 1) (o * (cellsN a * 24) + code1 a s t) hd' hu' hi1 k2 (Int.add_nonneg hn0 b0)
   (fun hv => code_one (h2 (Nat.succ_le_succ hv)) b1 (c24 g).2) (fun hv => absurd hv hv2)
  have hwc := wyCode_die (wideT a : Int) (highT a : Int) (csOf a) t.f2 hgt
  have hwp : Ev (fun k => qXA.f k ((l.map fun s => waysC s.f2).getD ((i : Int).toNat) ([] : List Int)) (codeD t.f2)) (plc (codeD t.f2) (waysC s.f2) 0) := by
   have e : (l.map fun s => waysC s.f2).getD ((i : Int).toNat) ([] : List Int) = waysC s.f2 := by
    rw [Int.toNat_natCast, List.getD_eq_getElem?_getD, List.getElem?_map, List.getElem?_eq_getElem hlt2, hc2, Option.map_some, Option.getD_some]
   rw [e]
   exact wyPlace_ev _ (Nat.le_trans (waysC_len s.f2) (by decide)) _
  have hll : (l.map fun s => waysC s.f2).length = l.length := List.length_map _
  have q1 : (i : Int) < (m.length : Int) := Int.ofNat_lt.2 hlt
  have q2 : (i : Int) < (l.length : Int) := Int.ofNat_lt.2 hlt2
  have q0 : (0 : Int) ≤ (i : Int) := Int.natCast_nonneg i
  refine Ev.step (f := fun k => _) (fun k => by rw [qz.l0]) ?_
  rw [rdXS m i hlt, hc, w, csOf_len g, hll]
  clear hd hd' hu hu' hc hc2
  refine Ev.pos q1 (Ev.pos q0 (Ev.pos q1 (Ev.pos q2 (Ev.bind hwc (Ev.bind hwp ?_)))))
  rw [hst]
  exact ih
theorem myCode_ev {a : ByteArray} (g : Gnd a) {l m : List XS} (hl : l.length ≤ 2) (hg : ∀ s ∈ l, goodD s.f2) (hk : kinD a l m) :
  Ev (fun k => qz.f k (wideT a : Int) (highT a : Int) (csOf a) (l.map fun s => waysC s.f2) m) (codeL a 0 l m) :=
 myCode_loop g l m (by rw [hk.1]; exact hl) hk.1 hg m l 0 0 rfl rfl (Nat.zero_le _) hk (Int.le_refl _) (fun _ => by omega) (fun _ => rfl)
def pwN (C : Int) : Nat → Int
 | 0 => 1
 | n + 1 => pwN C n * C
theorem qVE {C : Int} (h : 1 ≤ C) : ∀ n, 1 ≤ pwN C n
 | 0 => Int.le_refl _
 | n + 1 => by
  have := qVE h n
  have h2 : 1 * 1 ≤ pwN C n * C := Int.mul_le_mul this h (by omega) (by omega)
  unfold pwN
  omega
theorem qGC {a : ByteArray} (g : Gnd a) : ∀ (l m : List XS) (o : Int), kinD a l m → 0 ≤ o → 0 ≤ codeL a o l m ∧ codeL a o l m < (o + 1) * pwN (cellsN a * 24) l.length
 | [], m, o, hk, h0 => by
  have := List.length_eq_zero_iff.1 hk.1
  subst this
  unfold codeL
  rw [List.length_nil, pwN, Int.mul_one]
  omega
 | s :: l, [], o, hk, h0 => by simp [kinD] at hk
 | s :: l, t :: m, o, hk, h0 => by
  obtain ⟨k1, k2⟩ := qJD hk
  obtain ⟨b0, b1⟩ := qYC g k1
  obtain ⟨N0, N1⟩ := qTC g
  have hC : 1 ≤ cellsN a * 24 := by generalize cellsN a = N at *; omega
  have hn0 : 0 ≤ o * (cellsN a * 24) := Int.mul_nonneg h0 (by omega)
  obtain ⟨i0, i1⟩ := qGC g l m (o * (cellsN a * 24) + code1 a s t) k2 (Int.add_nonneg hn0 b0)
  unfold codeL
  refine ⟨i0, Int.lt_of_lt_of_le i1 ?_⟩
  have hP := qVE hC l.length
  rw [List.length_cons, pwN]
  generalize pwN (cellsN a * 24) l.length = P at *
  generalize cellsN a * 24 = C at *
  rw [show (o + 1) * (P * C) = ((o + 1) * C) * P by rw [Int.mul_comm P C, Int.mul_assoc]]
  refine Int.mul_le_mul_of_nonneg_right ?_ (by omega)
  rw [Int.add_mul, Int.one_mul]
  omega
structure SnOk (a : ByteArray) (l : List XS) (sn : List Bool) (L : List PN) : Prop where
 len : (sn.length : Int) = pwN (cellsN a * 24) l.length
 at_ : ∀ m, kinD a l m → rdOf false sn (codeL a 0 l m) = decide (m ∈ L.map Prod.fst)
theorem rdOf_set {sn : List Bool} {i j : Int} (hi : 0 ≤ i) (hj : 0 ≤ j) (hl : i < (sn.length : Int)) : rdOf false (sn.set i.toNat true) j = if i = j then true else rdOf false sn j := by
 unfold rdOf
 rw [List.getD_eq_getElem?_getD, List.getD_eq_getElem?_getD, List.getElem?_set]
 by_cases e : i = j
 case pos => subst e; rw [if_pos rfl, if_pos rfl, if_pos (by omega)]; rfl
 rw [if_neg (by omega), if_neg e]
theorem SnOk.put {a : ByteArray} {l : List XS} {sn : List Bool} {L : List PN} (g : Gnd a) (hg : ∀ s ∈ l, goodD s.f2) (h : SnOk a l sn L) {y : List XS} (hy : kinD a l y) (p : Int × ByteArray) : SnOk a l (sn.set (codeL a 0 l y).toNat true) (L ++ [(y, p)]) := by
 refine ⟨by rw [List.length_set]; exact h.len, fun m hm => ?_⟩
 obtain ⟨y0, y1⟩ := qGC g l y 0 hy (Int.le_refl _)
 obtain ⟨m0, _⟩ := qGC g l m 0 hm (Int.le_refl _)
 rw [Int.zero_add, Int.one_mul, ← h.len] at y1
 rw [rdOf_set y0 m0 y1, h.at_ m hm, List.map_append]
 by_cases e : codeL a 0 l y = codeL a 0 l m
 case pos => have := (codeL_inj g l y m 0 0 hy hm hg e).2; subst this; rw [if_pos rfl, decide_eq_true (by simp)]
 rw [if_neg e]
 have hne : m ≠ y := fun q => e (by rw [q])
 by_cases hmm : m ∈ L.map Prod.fst
 case pos => rw [decide_eq_true hmm, decide_eq_true (List.mem_append_left _ hmm)]
 rw [decide_eq_false hmm, decide_eq_false (by
  intro q
  rcases List.mem_append.1 q with q | q
  ·exact hmm q
  ·simp at q; exact hne q)]
theorem SnOk.none (a : ByteArray) (l : List XS) (n : Nat) (h : (n : Int) = pwN (cellsN a * 24) l.length) : SnOk a l (List.replicate n false) [] :=
 ⟨by rw [List.length_replicate]; exact h, fun m _ => by
  unfold rdOf
  rw [List.getD_eq_getElem?_getD, List.getElem?_replicate]
  split <;> rfl⟩
abbrev SN := S48
def s62 (x : PN) : SN := ⟨x.1, x.2.1, x.2.2⟩
def resA : Option (List PN) → List SN × Bool
 | none => ([], false)
 | some L => (L.map s62, true)
def pnP (a : ByteArray) (i : Nat) (x : List XS) (p : Nat × Nat) : PN := ((moveB a x p.1 (p.2 : Int)).1, ((i : Int), signN p.1 p.2))
def mpFrom (a : ByteArray) (x : List XS) (k : Nat) : Nat → Nat → List (Nat × Nat)
 | 0, _ => []
 | r + 1, d => mp1 a x k d ++ mpFrom a x k r (d + 1)
theorem mpK_from (a : ByteArray) (x : List XS) (k : Nat) : mpK a x k = mpFrom a x k 4 0 := by
 unfold mpK
 simp only [mpFrom, List.append_nil]
theorem rdSN (L : List PN) (x : PN) (i : Nat) (h : L[i]? = some x) : qJB (L.map s62) (i : Int) = s62 x := by
 unfold qJB
 rw [Int.toNat_natCast, List.getD_eq_getElem?_getD, List.getElem?_map, h]; rfl
section
variable {a : ByteArray} (g : Gnd a) {l : List XS} (hl : l.length ≤ 2) (hg : ∀ s ∈ l, goodD s.f2)
include g hl hg
theorem qZD (x : List XS) (i k : Nat) (hk : k < x.length) (hkl : x.length = l.length) (RR : Option (List PN)) (tl : List (Nat × Nat)) (F : List PN → Option (List PN))
  (IH : ∀ (L : List PN) (sn : List Bool), AllOk a l L → SnOk a l sn L → (∃ p, L[i]? = some (x, p)) → (Cap.puts 6000 L (tl.map (pnP a i x))).bind F = RR →
   Ev (fun n => qM.l2 n l (l.map fun s => waysC s.f2) (L.map s62) (i : Int) sn (l.length : Int) (wrap64 ((k : Int) + 1)) (wideT a : Int) (highT a : Int) (csOf a)) (resA RR)) :
  ∀ (r d : Nat) (L : List PN) (sn : List Bool), d + r = 4 → AllOk a l L → SnOk a l sn L → (∃ p, L[i]? = some (x, p)) → (Cap.puts 6000 L ((mpFrom a x k r d ++ tl).map (pnP a i x))).bind F = RR →
   Ev (fun n => qM.l3 n l (l.map fun s => waysC s.f2) (L.map s62) (i : Int) (k : Int) (d : Int) sn (l.length : Int) (k : Int) (wideT a : Int) (highT a : Int) (csOf a)) (resA RR)
 | 0, d, L, sn, hd, hA, hS, hat, hf => by
  refine Ev.step (f := fun n => _) (fun n => by rw [qM.l3]) ?_
  rw [mpFrom, List.nil_append] at hf
  exact Ev.neg (by omega) (IH L sn hA hS hat hf)
 | r + 1, d, L, sn, hd, hA, hS, hat, hf => by
  have w : wrap64 ((d : Int) + 1) = ((d + 1 : Nat) : Int) := by unfold wrap64; omega
  obtain ⟨p, hp⟩ := hat
  have hi := (List.getElem?_eq_some_iff.1 hp).1
  have hlen : (L.map s62).length = L.length := List.length_map _
  have h6 := hA.len
  have hxk := hA.kin _ (List.mem_of_getElem? hp)
  have hmv := specMove_ev g x (by omega) k hk (d : Int)
  refine Ev.step (f := fun n => _) (fun n => by rw [qM.l3]) ?_
  rw [rdSN L (x, p) i hp, hlen]
  refine Ev.pos (by omega) (Ev.pos (by omega) (Ev.pos (by omega) (Ev.bind hmv ?_)))
  rw [mpFrom, List.append_assoc, mp1] at hf
  cases hm : (moveB a x k (d : Int)).2 with
  | false =>
   rw [hm, if_neg (by decide), List.nil_append] at hf
   refine Ev.neg (by decide) (Ev.step (f := fun n => _) (fun n => by rw [qM.j4]) (Ev.pos rfl ?_))
   rw [w]
   exact qZD x i k hk hkl RR tl F IH r (d + 1) L sn (by omega) hA hS ⟨p, hp⟩ hf
  | true =>
   rw [hm, if_pos rfl, List.cons_append, List.nil_append, List.map_cons, Cap.puts] at hf
   have hkin : kinD a l (moveB a x k (d : Int)).1 := kinD_move hxk k d (by omega) hm
   obtain ⟨c0, c1⟩ := qGC g l _ 0 hkin (Int.le_refl _)
   rw [Int.zero_add, Int.one_mul, ← hS.len] at c1
   have hcd := myCode_ev g hl hg hkin
   have hsg := sign_spec k d (by omega) (by omega)
   have hsn := hS.at_ _ hkin
   refine Ev.pos rfl (Ev.bind hcd (Ev.pos c0 (Ev.pos c1 ?_)))
   rw [hsn]
   by_cases hmt : (moveB a x k (d : Int)).1 ∈ L.map Prod.fst
   ·rw [decide_eq_true hmt]
    rw [show (pnP a i x (k, d)).1 = (moveB a x k (d : Int)).1 from rfl, Cap.qCE 6000 hmt, Option.bind_some] at hf
    refine Ev.step (f := fun n => _) (fun n => by rw [qM.j4]) (Ev.pos rfl ?_)
    rw [w]
    exact qZD x i k hk hkl RR tl F IH r (d + 1) L sn (by omega) hA hS ⟨p, hp⟩ hf
   ·rw [decide_eq_false hmt]
    refine Ev.step (f := fun n => _) (fun n => by rw [qM.j4]) (Ev.neg (by decide) ?_)
    rw [hlen]
    by_cases hfull : L.length = 6000
    case pos => rw [Cap.put_full 6000 (show ¬ (pnP a i x (k, d)).1 ∈ L.map Prod.fst from hmt) hfull, Option.bind_none, Option.bind_none] at hf; rw [← hf]; exact Ev.pos (by omega) (Ev.now _)
    rw [Cap.qBE 6000 (show ¬ (pnP a i x (k, d)).1 ∈ L.map Prod.fst from hmt) hfull, Option.bind_some] at hf
    refine Ev.neg (by omega) (Ev.bind hcd (Ev.pos c0 (Ev.pos c1 (Ev.bind hsg (Ev.pos (by omega) ?_)))))
    rw [w]
    have hs : pnP a i x (k, d) ∈ nextP a i x := by
     unfold nextP
     refine List.mem_map.2 ⟨(k, d), ?_, rfl⟩
     exact mps_self a x k d hk (by omega) hm
    have hA2 := hA.add hp hs hfull
    have hS2 := hS.put g hg hkin (((i : Int), signN k d))
    have := qZD x i k hk hkl RR tl F IH r (d + 1) (L ++ [pnP a i x (k, d)]) _ (by omega) hA2 hS2 ⟨p, by rw [List.getElem?_append_left hi]; exact hp⟩ hf
    rw [List.map_append] at this
    exact this
theorem all_ks (x : List XS) (i : Nat) (hkl : x.length = l.length) (RR : Option (List PN)) (F : List PN → Option (List PN))
  (IH : ∀ (L : List PN) (sn : List Bool), AllOk a l L → SnOk a l sn L → (∃ p, L[i]? = some (x, p)) → F L = RR →
   Ev (fun n => qM.l1 n l (l.map fun s => waysC s.f2) (L.map s62) (wrap64 ((i : Int) + 1)) sn (wideT a : Int) (highT a : Int) (csOf a)) (resA RR)) :
  ∀ (r k : Nat) (L : List PN) (sn : List Bool), k + r = x.length → AllOk a l L → SnOk a l sn L → (∃ p, L[i]? = some (x, p)) → (Cap.puts 6000 L ((mps a x k r).map (pnP a i x))).bind F = RR →
   Ev (fun n => qM.l2 n l (l.map fun s => waysC s.f2) (L.map s62) (i : Int) sn (l.length : Int) (k : Int) (wideT a : Int) (highT a : Int) (csOf a)) (resA RR)
 | 0, k, L, sn, hk, hA, hS, hat, hf => by
  refine Ev.step (f := fun n => _) (fun n => by rw [qM.l2]) ?_
  rw [mps, List.map_nil, Cap.puts, Option.bind_some] at hf
  exact Ev.neg (by omega) (IH L sn hA hS hat hf)
 | r + 1, k, L, sn, hk, hA, hS, hat, hf => by
  refine Ev.step (f := fun n => _) (fun n => by rw [qM.l2]) ?_
  rw [mps, mpK_from] at hf
  refine Ev.pos (by omega) ?_
  refine qZD g hl hg x i k (by omega) hkl RR (mps a x (k + 1) r) F (fun L' sn' hA' hS' hat' hf' => ?_) 4 0 L sn rfl hA hS hat hf
  rw [show wrap64 ((k : Int) + 1) = ((k + 1 : Nat) : Int) by unfold wrap64; omega]
  exact all_ks x i hkl RR F IH r (k + 1) L' sn' (by omega) hA' hS' hat' hf'
theorem all_run (RR : Option (List PN)) : ∀ (n i : Nat) (L : List PN) (sn : List Bool), i + n = 6000 → i ≤ L.length → AllOk a l L → SnOk a l sn L → Cap.run 6000 (nextP a) n i L = RR →
  Ev (fun k => qM.l1 k l (l.map fun s => waysC s.f2) (L.map s62) (i : Int) sn (wideT a : Int) (highT a : Int) (csOf a)) (resA RR)
 | 0, i, L, sn, hn, hi, hA, hS, hf => by
  have hlen : (L.map s62).length = L.length := List.length_map _
  have h6 := hA.len
  refine Ev.step (f := fun n => _) (fun n => by rw [qM.l1]) ?_
  rw [hlen, ← hf]
  exact Ev.neg (by omega) (Ev.now _)
 | n + 1, i, L, sn, hn, hi, hA, hS, hf => by
  have hlen : (L.map s62).length = L.length := List.length_map _
  have h6 := hA.len
  refine Ev.step (f := fun n => _) (fun n => by rw [qM.l1]) ?_
  rw [hlen]
  by_cases hlt : i < L.length
  ·rw [Cap.run_step 6000 (nextP a) hlt] at hf
   have hp : L[i]? = some (L[i].1, L[i].2) := List.getElem?_eq_getElem hlt
   have hxk := hA.kin _ (List.mem_of_getElem? hp)
   refine Ev.pos (by omega) ?_
   refine all_ks g hl hg L[i].1 i hxk.1 RR (Cap.run 6000 (nextP a) n (i + 1)) (fun L' sn' hA' hS' hat' hf' => ?_) L[i].1.length 0 L sn (by omega) hA hS ⟨_, hp⟩ hf
   rw [show wrap64 ((i : Int) + 1) = ((i + 1 : Nat) : Int) by unfold wrap64; omega]
   obtain ⟨p', hp'⟩ := hat'
   exact all_run RR n (i + 1) L' sn' (by omega) (by have := (List.getElem?_eq_some_iff.1 hp').1; omega) hA' hS' hf'
  ·rw [Cap.run_end 6000 (nextP a) (by omega)] at hf
   rw [← hf]
   exact Ev.neg (by omega) (Ev.now _)
end
theorem all_ways {a : ByteArray} (g : Gnd a) (l : List XS) (hl : l.length ≤ 2) (R : List SN × Bool) : ∀ (u : List XS) (i : Nat) (acc : List (List Int)), l.drop i = u → i ≤ l.length → (∀ s ∈ l, goodD s.f2) → acc = (l.take i).map (fun s => waysC s.f2) →
  Ev (fun n => qM.l0 n l (l.map fun s => waysC s.f2) (pwN (cellsN a * 24) l.length) (l.length : Int) (l.length : Int) (wideT a : Int) (highT a : Int) (csOf a)) R →
  Ev (fun n => qM.l0 n l acc (pwN (cellsN a * 24) i) (l.length : Int) (i : Int) (wideT a : Int) (highT a : Int) (csOf a)) R
 | [], i, acc, hd, hi, hg, hac, h => by
  have := Sorts.qmB hd
  obtain rfl : i = l.length := by omega
  rw [List.take_length] at hac
  subst hac
  exact h
 | s :: u, i, acc, hd, hi, hg, hac, h => by
  obtain ⟨hlt, hc, hd'⟩ := Sorts.qLB hd
  have hgs := hg s (hc ▸ List.getElem_mem hlt)
  have hw := myWays_ev (wideT a : Int) (highT a : Int) (csOf a) s.f0 s.f1 s.f2 hgs
  have w : wrap64 ((i : Int) + 1) = ((i + 1 : Nat) : Int) := by unfold wrap64; omega
  obtain ⟨N0, N1⟩ := qTC g
  have hb : 1 ≤ pwN (cellsN a * 24) i ∧ pwN (cellsN a * 24) i ≤ 1176 := by
   have : i = 0 ∨ i = 1 := by omega
   rcases this with rfl | rfl
   ·exact ⟨Int.le_refl _, by show (1 : Int) ≤ 1176; decide⟩
   ·simp only [pwN, Int.one_mul]
    generalize cellsN a = N at *
    omega
  have w2 : wrap64 (pwN (cellsN a * 24) i * wrap64 (((csOf a).length : Int) * 24)) = pwN (cellsN a * 24) (i + 1) := by
   rw [csOf_len g, show wrap64 (cellsN a * 24) = cellsN a * 24 by (generalize cellsN a = N at *; unfold wrap64; omega), pwN]
   have h1 : pwN (cellsN a * 24) i * (cellsN a * 24) ≤ 1176 * 1176 := Int.mul_le_mul hb.2 (by generalize cellsN a = N at *; omega) (by generalize cellsN a = N at *; omega) (by omega)
   have h2 : 0 ≤ pwN (cellsN a * 24) i * (cellsN a * 24) := Int.mul_nonneg (by omega) (by generalize cellsN a = N at *; omega)
   generalize pwN (cellsN a * 24) i * (cellsN a * 24) = M at *
   unfold wrap64; omega
  have hal : acc.length ≤ 2 := by rw [hac, List.length_map, List.length_take]; omega
  have ih := all_ways g l hl R u (i + 1) (acc ++ [waysC s.f2]) hd' (by omega) hg (by rw [hac, List.take_succ_eq_append_getElem hlt, List.map_append, hc]; rfl) h
  refine Ev.step (f := fun k => _) (fun k => by rw [qM.l0]) ?_
  rw [rdXS l i hlt, hc, w, w2]
  clear hd hd' hc hac
  exact Ev.pos (by omega) (Ev.pos (by omega) (Ev.pos (by omega) (Ev.bind hw (Ev.pos (by omega) ih))))
theorem myAll_ev {a : ByteArray} {l : List XS} (h : askD a l = true) : Ev (fun k => qM.f k (wideT a : Int) (highT a : Int) (csOf a) l) (resA (plansB a l)) := by
 unfold qM.f plansB
 by_cases hl : l.length ≤ 2
 ·rw [if_pos ⟨h, hl⟩]
  have g := qTE (qUD h)
  have hg : ∀ s ∈ l, goodD s.f2 := fun s hs => by
   have := askD_state h s hs
   unfold stateB at this
   rw [Bool.and_eq_true] at this
   exact goodD_of this.2
  obtain ⟨N0, N1⟩ := qTC g
  have hk := qjD h
  have hC : 1 ≤ cellsN a * 24 := by generalize cellsN a = N at *; omega
  have hb := qVE hC l.length
  have hb2 : pwN (cellsN a * 24) l.length ≤ 1382976 := by
   have : l.length = 0 ∨ l.length = 1 ∨ l.length = 2 := by omega
   rcases this with e | e | e <;> rw [e]
   ·show (1 : Int) ≤ 1382976; decide
   ·simp only [pwN, Int.one_mul]; generalize cellsN a = N at *; omega
   ·simp only [pwN, Int.one_mul]
    have : cellsN a * 24 * (cellsN a * 24) ≤ 1176 * 1176 := Int.mul_le_mul (by generalize cellsN a = N at *; omega) (by generalize cellsN a = N at *; omega) (by generalize cellsN a = N at *; omega) (by omega)
    generalize cellsN a * 24 * (cellsN a * 24) = M at *
    omega
  obtain ⟨n, hn⟩ : ∃ n : Nat, pwN (cellsN a * 24) l.length = (n : Int) := ⟨(pwN (cellsN a * 24) l.length).toNat, by omega⟩
  have hcd := myCode_ev g hl hg hk
  obtain ⟨c0, c1⟩ := qGC g l l 0 hk (Int.le_refl _)
  rw [Int.zero_add, Int.one_mul, hn] at c1
  have hS := (SnOk.none a l n hn.symm).put g hg hk (-1, (⟨#[]⟩ : ByteArray))
  have hrun := all_run g hl hg (allP a l) 6000 0 [(l, (-1, (⟨#[]⟩ : ByteArray)))] _ rfl (Nat.zero_le _) (AllOk.start h) hS rfl
  refine Ev.neg (by omega) ?_
  refine all_ways g l hl _ l 0 [] List.drop_zero (Nat.zero_le _) hg rfl ?_
  refine Ev.step (f := fun k => _) (fun k => by rw [qM.l0]) (Ev.neg (by omega) ?_)
  rw [hn, Int.toNat_natCast]
  rw [hn] at hb hb2
  refine Ev.pos (by omega) (Ev.pos (by omega) (Ev.bindc rfl (Ev.bind hcd (Ev.pos c0 (Ev.pos (by rw [List.length_replicate]; exact c1) ?_)))))
  exact hrun
 ·rw [if_neg (fun q => hl q.2)]
  exact Ev.pos (by omega) (Ev.now _)
def dirI (l : List UInt8) : Int := if l = [110] then 0 else if l = [101] then 1 else if l = [115] then 2 else if l = [119] then 3 else -1
theorem spec_diDir_ev (a : ByteArray) : Ev (fun k => qnA.f k a) (dirI a.data.toList) := by
 refine Ev.at_ 5 fun k => ?_
 have e0 : ((⟨#[110, 101, 115, 119]⟩ : ByteArray).extract 0 1).toList = [110] := by decide +kernel
 have e1 : ((⟨#[110, 101, 115, 119]⟩ : ByteArray).extract 1 2).toList = [101] := by decide +kernel
 have e2 : ((⟨#[110, 101, 115, 119]⟩ : ByteArray).extract 2 3).toList = [115] := by decide +kernel
 have e3 : ((⟨#[110, 101, 115, 119]⟩ : ByteArray).extract 3 4).toList = [119] := by decide +kernel
 have hz : ((⟨#[110, 101, 115, 119]⟩ : ByteArray).size : Int) = 4 := rfl
 simp [qnA.f, qnA.l0, qrA.f, dirI, wrap64, Go.Lib.toList_data a, e0, e1, e2, e3, hz]
 repeat (split; rfl)
 rfl
theorem dlen (s : ByteArray) : s.data.toList.length = s.size := by rw [Array.length_toList]; rfl
theorem bt_get (s : ByteArray) (i : Nat) (h : i < s.data.toList.length) : bt s (i : Int) = ((s.data.toList[i]).toNat : Int) := by
 have h' : i < s.size := by rw [← dlen]; exact h
 unfold bt
 rw [dif_pos (by simpa using h')]
 simp only [Int.toNat_natCast, Array.getElem_toList]
 rfl
theorem ext1 (s : ByteArray) (i : Nat) (h : i < s.data.toList.length) : (s.extract i (i + 1)).data.toList = [s.data.toList[i]] := by
 rw [Go.Lib.extract_data, show i + 1 - i = 1 by omega, List.drop_eq_getElem_cons h]
 rfl
theorem spec_diDir_at (s : ByteArray) (i : Nat) (h : i < s.data.toList.length) : Ev (fun k => qnA.f k (s.extract i (i + 1))) (dirI [s.data.toList[i]]) := by
 have := spec_diDir_ev (s.extract i (i + 1))
 rwa [ext1 s i h] at this
theorem dirI_one (c : UInt8) : (dirI [c] < 0) = (¬ (c = 110 ∨ c = 101 ∨ c = 115 ∨ c = 119)) := by
 unfold dirI
 by_cases h1 : c = 110
 ·simp [h1]
 by_cases h2 : c = 101
 ·simp [h2]
 by_cases h3 : c = 115
 ·simp [h3]
 by_cases h4 : c = 119
 ·simp [h4]
 simp [h1, h2, h3, h4]
def isDirB (c : UInt8) : Bool := decide (c = 110 ∨ c = 101 ∨ c = 115 ∨ c = 119)
def planOk : List UInt8 → Bool
 | c :: d :: r => decide (48 ≤ c.toNat ∧ c.toNat ≤ 50) && isDirB d && planOk r
 | _ => true
def isPlanB (l : List UInt8) : Bool := decide (l.length % 2 = 0) && decide (l.length ≤ 120) && planOk l
theorem drop2 {l : List UInt8} {i : Nat} (h : i + 1 < l.length) : l.drop i = l[i] :: l[i + 1] :: l.drop (i + 2) := by
 rw [List.drop_eq_getElem_cons (by omega), List.drop_eq_getElem_cons h]
theorem myPlan_loop (a : ByteArray) (hs : a.size ≤ 1048576) (he : a.size % 2 = 0) (d : Nat) : ∀ i : Nat, i ≤ a.size → i % 2 = 0 → a.size - i ≤ d → Ev (fun k => qBA.l0 k a (i : Int)) (planOk (a.data.toList.drop i)) := by
 induction d using Nat.strongRecOn with
 | _ d ih =>
  intro i hi h2 hd
  have hl := dlen a
  refine Ev.step (f := fun k => _) (fun k => by rw [qBA.l0]) ?_
  by_cases hlt : i < a.size
  ·have hp : i + 1 < a.data.toList.length := by omega
   have b0 := bt_get a i (by omega)
   have hdd := spec_diDir_at a (i + 1) hp
   rw [drop2 hp]
   have w1 : wrap64 ((i : Int) + 1) = ((i + 1 : Nat) : Int) := by unfold wrap64; omega
   have w2 : wrap64 ((i : Int) + 2) = ((i + 2 : Nat) : Int) := by unfold wrap64; omega
   rw [w1, w2]
   refine Ev.pos (by omega) (Ev.pos (by omega) ?_)
   rw [b0]
   simp only [Int.toNat_natCast]
   generalize a.data.toList[i] = c
   generalize a.data.toList[i + 1] = e at hdd ⊢
   simp only [planOk]
   by_cases c1 : (c.toNat : Int) < 48
   ·refine Ev.pos c1 (Ev.some_ ?_)
    rw [decide_eq_false (by omega)]; rfl
   refine Ev.neg c1 ?_
   by_cases c2 : (c.toNat : Int) ≥ 51
   ·refine Ev.pos c2 (Ev.some_ ?_)
    rw [decide_eq_false (by omega)]; rfl
   refine Ev.neg c2 (Ev.pos (by omega) (Ev.pos (by omega) (Ev.pos (by omega) ?_)))
   rw [decide_eq_true (by omega)]
   refine Ev.bind hdd ?_
   by_cases c3 : e = 110 ∨ e = 101 ∨ e = 115 ∨ e = 119
   ·refine Ev.neg (by rw [dirI_one]; exact fun h => h c3) ?_
    rw [show isDirB e = true from decide_eq_true c3]
    exact (ih (d - 2) (by omega) (i + 2) (by omega) (by omega) (by omega))
   ·refine Ev.pos (by rw [dirI_one]; exact c3) (Ev.some_ ?_)
    rw [show isDirB e = false from decide_eq_false c3]; rfl
  ·refine Ev.neg (by omega) (Ev.some_ ?_)
   rw [List.drop_eq_nil_of_le (by omega)]
   rfl
theorem spec_myPlan_ev (a : ByteArray) (hs : a.size ≤ 1048576) : Ev (fun k => qBA.f k a) (isPlanB a.data.toList) := by
 have hl := dlen a
 unfold qBA.f
 unfold isPlanB
 have hj : ∀ b : Bool, Ev (fun k => qBA.j0 k a b) (if b = true then false else planOk a.data.toList) ∨ a.size % 2 = 1 := by
  intro b
  rcases Nat.mod_two_eq_zero_or_one a.size with h | h
  ·refine .inl (Ev.step (f := fun k => _) (fun k => by rw [qBA.j0]) ?_)
   cases b
   ·exact Ev.neg (by decide) (myPlan_loop a (by omega) h _ 0 (by omega) (by omega) (Nat.le_refl _))
   ·exact Ev.pos rfl (Ev.now _)
  ·exact .inr h
 by_cases h : a.size % 2 = 0
 ·rcases hj (decide ((a.size : Int) > 120)) with hj | hj
  ·refine Ev.pos (by omega) ?_
   rw [hl, decide_eq_true h, Bool.true_and]
   by_cases h2 : a.size ≤ 120
   case neg => rw [decide_eq_false h2]; rw [decide_eq_true (by omega)] at hj ⊢; exact hj
   rw [decide_eq_true h2]
   rw [decide_eq_false (by omega)] at hj ⊢
   exact hj
  ·omega
 ·refine Ev.neg (by omega) (Ev.step (f := fun k => _) (fun k => by rw [qBA.j0]) (Ev.pos rfl (Ev.some_ ?_)))
  rw [hl, decide_eq_false h]; rfl
def MvS (s : ByteArray) : Prop := ∃ k d, k < 3 ∧ d < 4 ∧ s = signN k d
def SgL (L : List PN) : Prop := ∀ (j : Nat) (x : PN), 0 < j → L[j]? = some x → MvS x.2.2
theorem SgL.start (l : List XS) : SgL [(l, (-1, (⟨#[]⟩ : ByteArray)))] := fun j x hj hx => by
 have := (List.getElem?_eq_some_iff.1 hx).1
 simp at this; omega
theorem nextP_sign {a : ByteArray} {i : Nat} {x : List XS} (hx : x.length ≤ 3) {s : PN} (hs : s ∈ nextP a i x) : MvS s.2.2 := by
 unfold nextP at hs
 obtain ⟨p, hp, rfl⟩ := List.mem_map.1 hs
 obtain ⟨_, h1, h2, _⟩ := qWE _ _ hp
 exact ⟨p.1, p.2, by omega, h2, rfl⟩
theorem plansB_sign {a : ByteArray} {l : List XS} {L : List PN} (h : plansB a l = some L) : SgL L := by
 unfold plansB at h
 split at h
 case isFalse => cases h
 rename_i hc
 have hk := Cap.qyD 6000 (nextP a) (P := fun L => AllOk a l L ∧ SgL L) (fun i L K x hL hx hp hK s hs hm hn => ?_) 6000 0 h ⟨AllOk.start hc.1, SgL.start l⟩
 ·exact hk.2
 ·obtain ⟨t, rfl⟩ := hp
  refine ⟨hK.1.add (by rw [List.getElem?_append_left (List.getElem?_eq_some_iff.1 hx).1]; exact hx) hs hn, fun j y hj hy => ?_⟩
  rcases Nat.lt_or_ge j (L ++ t).length with hj' | hj'
  ·rw [List.getElem?_append_left hj'] at hy; exact hK.2 j y hj hy
  ·have h1 := (List.getElem?_eq_some_iff.1 hy).1
   simp only [List.length_append, List.length_singleton] at h1 hj'
   have hjj : j = (L ++ t).length := by simp only [List.length_append]; omega
   subst hjj
   rw [List.getElem?_append_right (Nat.le_refl _), Nat.sub_self] at hy
   injection hy with hy
   subst hy
   have := (hL.1.kin x (List.mem_of_getElem? hx)).1
   exact nextP_sign (by omega) hs
theorem sign_list {k d : Nat} (hk : k < 3) (hd : d < 4) : ∃ c e : UInt8, (signN k d).data.toList = [c, e] ∧ (48 ≤ c.toNat ∧ c.toNat ≤ 50) ∧ isDirB e = true := by
 have h1 : d = 0 ∨ d = 1 ∨ d = 2 ∨ d = 3 := by omega
 have h2 : k = 0 ∨ k = 1 ∨ k = 2 := by omega
 rcases h2 with rfl | rfl | rfl <;> rcases h1 with rfl | rfl | rfl | rfl <;> exact ⟨_, _, rfl, by decide +kernel, by decide +kernel⟩
def PlT (w : ByteArray) : Prop := w.size % 2 = 0 ∧ planOk w.data.toList = true
theorem PlT.nil : PlT ⟨#[]⟩ := ⟨rfl, rfl⟩
theorem PlT.cons {s w : ByteArray} (hs : MvS s) (h : PlT w) : PlT (s ++ w) := by
 obtain ⟨k, d, hk, hd, rfl⟩ := hs
 obtain ⟨c, e, hl, hc, he⟩ := sign_list hk hd
 have h2 := qgD k d
 refine ⟨by rw [ByteArray.size_append]; have := h.1; omega, ?_⟩
 rw [ByteArray.data_append, Array.toList_append, hl]
 show (decide (48 ≤ c.toNat ∧ c.toNat ≤ 50) && isDirB e && planOk w.data.toList) = true
 rw [decide_eq_true hc, he, h.2]; rfl
theorem PlT.is {w : ByteArray} (h : PlT w) : isPlanB w.data.toList = decide (w.size ≤ 120) := by
 unfold isPlanB
 rw [dlen, decide_eq_true h.1, h.2, Bool.true_and, Bool.and_true]
theorem myWord_loop {a : ByteArray} {l : List XS} {L : List PN} (hA : AllOk a l L) (hS : SgL L) : ∀ (n k : Nat) (out : ByteArray), k ≤ n → k < L.length → out.size + 2 * k ≤ 12000 → PlT out →
  Ev (fun q => qfA.l0 q (L.map s62) (k : Int) out) (wordA L n k out, decide ((wordA L n k out).size ≤ 120))
 | n, 0, out, hn, hk, ho, hp => by
  have hx : L[0]? = some L[0] := List.getElem?_eq_getElem hk
  have hf := hA.fst _ hx
  have hlen : (L.map s62).length = L.length := List.length_map _
  have hpl := spec_myPlan_ev out (by omega)
  rw [hp.is] at hpl
  rw [wordA_zero]
  refine Ev.step (f := fun q => _) (fun q => by rw [qfA.l0]) ?_
  rw [rdSN L L[0] 0 hx, hlen]
  exact Ev.pos (by omega) (Ev.pos (by omega) (Ev.neg (by show ¬ L[0].2.1 ≥ 0; omega) (Ev.bind hpl (Ev.now _))))
 | 0, k + 1, out, hn, hk, ho, hp => by omega
 | n + 1, k + 1, out, hn, hk, ho, hp => by
  obtain ⟨x, hx⟩ : ∃ x, L[k + 1]? = some x := ⟨_, List.getElem?_eq_getElem hk⟩
  have hb := hA.bef (k + 1) x (by omega) hx
  have hs := hA.sgn x (List.mem_of_getElem? hx)
  have hm := hS (k + 1) x (by omega) hx
  have hlen : (L.map s62).length = L.length := List.length_map _
  obtain ⟨b, hbb⟩ : ∃ b : Nat, x.2.1 = (b : Int) := ⟨x.2.1.toNat, by omega⟩
  have ih := myWord_loop hA hS n b (x.2.2 ++ out) (by omega) (by omega) (by rw [ByteArray.size_append]; omega) (hp.cons hm)
  have hw : wordA L (n + 1) (k + 1) out = wordA L n b (x.2.2 ++ out) := by
   rw [wordA, if_neg (by omega), hx]
   simp only [hbb, Int.toNat_natCast]
  rw [hw]
  refine Ev.step (f := fun q => _) (fun q => by rw [qfA.l0]) ?_
  rw [rdSN L x (k + 1) hx, hlen]
  refine Ev.pos (by omega) (Ev.pos (by omega) (Ev.pos (by show x.2.1 ≥ 0; omega) (Ev.pos (by show x.2.2.size + out.size ≤ _; omega) ?_)))
  show Ev (fun q => qfA.l0 q (L.map s62) x.2.1 (x.2.2 ++ out)) _
  rw [hbb]
  exact ih
theorem myWord_ev {a : ByteArray} {l : List XS} {L : List PN} (hA : AllOk a l L) (hS : SgL L) (k : Nat) (hk : k < L.length) :
  Ev (fun q => qfA.f q (L.map s62) (k : Int)) (wordA L k k ⟨#[]⟩, decide ((wordA L k k ⟨#[]⟩).size ≤ 120)) :=
 myWord_loop hA hS k k ⟨#[]⟩ (Nat.le_refl _) hk (by show 0 + 2 * k ≤ 12000; have := hA.len; omega) PlT.nil
def outW (W : ByteArray) : ByteArray × Bool := if W.size > 120 then (⟨#[]⟩, false) else (W, true)
theorem idxP_cons {α : Type} (p : α → Bool) (x : α) (l : List α) : idxP p (x :: l) = if p x = true then 0 else if idxP p l < 0 then -1 else idxP p l + 1 := by
 unfold idxP
 rw [List.findIdx?_cons]
 cases hx : p x with
 | true => simp
 | false =>
  simp only [Bool.false_eq_true, if_false]
  cases hf : l.findIdx? p with
  | none => simp
  | some i => simp; omega
def toFrom (p : List XS → Bool) (L : List PN) : List PN → Nat → ByteArray × Bool
 | [], _ => (⟨#[]⟩, false)
 | x :: r, k => if p x.1 = true then outW (wordA L k k ⟨#[]⟩) else toFrom p L r (k + 1)
theorem toFrom_idx (p : List XS → Bool) (L : List PN) : ∀ (r : List PN) (k : Nat), toFrom p L r k = if idxP p (r.map Prod.fst) < 0 then (⟨#[]⟩, false) else outW (wordA L ((k : Int) + idxP p (r.map Prod.fst)).toNat ((k : Int) + idxP p (r.map Prod.fst)).toNat ⟨#[]⟩)
 | [], k => by
  unfold toFrom
  rw [List.map_nil, show idxP p ([] : List (List XS)) = -1 from rfl, if_pos (by decide)]
 | x :: r, k => by
  unfold toFrom
  rw [List.map_cons, idxP_cons, toFrom_idx p L r (k + 1)]
  generalize idxP p (r.map Prod.fst) = q
  cases hx : p x.1 with
  | true =>
   simp only [if_true]
   rw [if_neg (by decide), Int.add_zero, Int.toNat_natCast]
  | false =>
   simp only [Bool.false_eq_true, if_false]
   by_cases h : q < 0
   case pos => simp only [if_pos h]; rfl
   simp only [if_neg h]
   rw [if_neg (by omega), show ((k + 1 : Nat) : Int) + q = (k : Int) + (q + 1) by omega]
theorem toB_from (p : List XS → Bool) (L : List PN) : toB p L = toFrom p L L 0 := by
 rw [toFrom_idx]
 unfold toB outW
 rw [show ((0 : Nat) : Int) + idxP p (L.map Prod.fst) = idxP p (L.map Prod.fst) by omega]
theorem findC_ev {a : ByteArray} {l : List XS} {L : List PN} (hA : AllOk a l L) (hS : SgL L) (ts : List (List Int)) (hts : l.length ≤ ts.length) : ∀ (r : List PN) (k : Nat), L.drop k = r →
  Ev (fun q => findC q (L.map s62) ts (r.map s62) k) (toFrom (fun own => atAll own ts) L r k)
 | [], k, hd => Ev.now _
 | x :: r, k, hd => by
  obtain ⟨hlt, hc, hd'⟩ := Sorts.qLB hd
  have ih := findC_ev hA hS ts hts r (k + 1) hd'
  have hx : L[k]? = some x := by rw [← hc]; exact List.getElem?_eq_getElem hlt
  have hkin := (hA.kin x (List.mem_of_getElem? hx)).1
  have hwd := myWord_ev hA hS k hlt
  unfold toFrom
  rw [List.map_cons]
  simp only [findC]
  refine Ev.pos (show (s62 x).f0.length ≤ ts.length by show x.1.length ≤ _; omega) ?_
  show Ev (fun q => if atAll x.1 ts = true then _ else _) _
  cases hq : atAll x.1 ts with
  | true =>
   rw [if_pos rfl]
   refine Ev.pos rfl (Ev.bind hwd (Ev.some_ ?_))
   generalize wordA L k k ⟨#[]⟩ = W
   by_cases h120 : W.size ≤ 120
   case neg => rw [show outW W = (⟨#[]⟩, false) from if_pos (by omega)]; simp [h120]
   rw [show outW W = (W, true) from if_neg (by omega)]
   simp [h120]
  | false =>
   rw [if_neg (by decide)]
   exact Ev.neg (by decide) ih
def cellsB (a : ByteArray) (l : List XS) (ts : List (List Int)) : ByteArray × Bool := match plansB a l with
 | none => ((⟨#[]⟩ : ByteArray), false)
 | some L => toB (fun own => atAll own ts) L
theorem myCells_ev {a : ByteArray} {l : List XS} (hb : askD a l = true) (ts : List (List Int)) (hlen : l.length ≤ ts.length) (h2 : ∀ c ∈ ts, c.length = 2) :
  Ev (fun q => qtA.f q (wideT a : Int) (highT a : Int) (csOf a) l ts) (cellsB a l ts) := by
 have h3 := myAll_ev hb
 unfold qtA.f cellsB
 have ht : ts.all (fun c => decide (c.length = 2)) = true := List.all_eq_true.2 fun c hc => decide_eq_true (h2 c hc)
 cases hp : plansB a l with
 | none =>
  rw [hp] at h3
  refine Ev.bind h3 (Ev.neg ?_ (Ev.now _))
  decide
 | some L =>
  rw [hp] at h3
  have hA := plansB_ok hp
  have hS := plansB_sign hp
  refine Ev.bind h3 (Ev.pos rfl (Ev.pos ht ?_))
  show Ev _ (toB (fun own => atAll own ts) L)
  rw [toB_from]
  exact findC_ev hA hS ts hlen L 0 rfl
theorem implCells {a : ByteArray} {l : List XS} (ha : a.size ≤ 1048576) (hl : l.length ≤ 2000000) (ts : List (List Int)) (h : ts.length ≤ 2000000) :
  qWA.f a l ts = some (if askD a l = true ∧ ts.length = l.length ∧ ts.any (badC a) = false then cellsB a l ts else ((⟨#[]⟩ : ByteArray), false)) := by
 unfold qWA.f cellsB
 rw [if_pos ⟨ha, hl, h⟩]
 congr 1
 cases hp : plansB a l with
 | none => simp
 | some L =>
  have hb := plansB_ask hp
  simp [hb]
end Go.Proofs.YthhiiceligjleaaGreatDoor
namespace Go.Proofs.YthhiiceligjleaaGreatDoor.Pure
open Go.RowKit Go.Proofs.YthhiiceligjleaaGreatDoor.P Go.Proofs.YthhiiceligjleaaGreatDoorW.PrintWords Go.Proofs.YthhiiceligjleaaGreatDoorW.PrintLast
set_option linter.unusedVariables false
set_option linter.unusedSimpArgs false
theorem die_has {a : ByteArray} {l : List XS} (h : askD a l = true) {s : XS} (hs : s ∈ l) : hasB a s.f0 s.f1 = true := by
 unfold askD goodB at h
 simp only [Bool.and_eq_true] at h
 have h1 := qyC h.2.2 s hs
 unfold stateB floorB at h1
 simp only [Bool.and_eq_true] at h1
 exact h1.1.1
theorem both (a : ByteArray) (l : List XS) (ha : a.size ≤ 1048576) (hl : l.length ≤ 2000000) : ∃ r : ByteArray × Bool, Ev (fun n => qNA.f n a l) r ∧ qOA.f a l = some r := by
 obtain ⟨w, h, cs, h2, hs⟩ := myAsked_ev a l hl
 unfold qNA.f qOA.f
 by_cases hn : l.length = 2
 ·have hn2 : (l.length : Int) = 2 := by omega
  have h1 : (1 : Int) < (l.length : Int) := by omega
  have h0 : (0 : Int) < (l.length : Int) := by omega
  rw [if_pos hn2, if_pos h1, if_pos h0]
  generalize hx : ([[(qA l 1).f0, (qA l 1).f1], [(qA l 0).f0, (qA l 0).f1]] : List (List Int)) = ts
  have htl : ts.length = 2 := by rw [← hx]; rfl
  have ht2 : ∀ c ∈ ts, c.length = 2 := by
   intro c hc
   rw [← hx] at hc
   simp only [List.mem_cons, List.not_mem_nil, or_false] at hc
   rcases hc with rfl | rfl <;> rfl
  rw [implCells ha hl ts (by omega)]
  cases hb : askD a l with
  | false =>
   rw [hb] at h2
   exact ⟨((⟨#[]⟩ : ByteArray), false), Ev.bind h2 (Ev.neg (by simp) (Ev.now _)), by simp⟩
  | true =>
   obtain ⟨e1, e2, e3⟩ := hs hb
   subst e1 e2 e3
   rw [hb] at h2
   have hany : ts.any (badC a) = false := by
    rw [List.any_eq_false]
    intro c hc
    rw [← hx] at hc
    simp only [List.mem_cons, List.not_mem_nil, or_false] at hc
    have q1 := die_has hb (List.getElem_mem (show 1 < l.length by omega))
    have q0 := die_has hb (List.getElem_mem (show 0 < l.length by omega))
    have r1 := rdXS l 1 (by omega)
    have r0 := rdXS l 0 (by omega)
    simp only [Int.natCast_one, Int.natCast_zero] at r1 r0
    rw [r1, r0] at hc
    rcases hc with rfl | rfl
    ·unfold badC
     show ¬ (if (2 : Nat) = 2 then !hasB a l[1].f0 l[1].f1 else true) = true
     rw [if_pos rfl, q1]; decide
    ·unfold badC
     show ¬ (if (2 : Nat) = 2 then !hasB a l[0].f0 l[0].f1 else true) = true
     rw [if_pos rfl, q0]; decide
   refine ⟨cellsB a l ts, Ev.bind h2 (Ev.pos rfl (Ev.pos hn2 (Ev.pos h1 (Ev.pos h0 (Ev.bind (myCells_ev hb ts (by omega) ht2) (Ev.now _)))))), ?_⟩
   rw [if_pos ⟨rfl, by omega, hany⟩]
   rfl
 ·have hn2 : ¬ (l.length : Int) = 2 := by omega
  rw [if_neg hn2]
  refine ⟨((⟨#[]⟩ : ByteArray), false), Ev.bind h2 ?_, rfl⟩
  cases hb : askD a l with
  | false => exact Ev.neg (by simp) (Ev.now _)
  | true => exact Ev.pos rfl (Ev.neg hn2 (Ev.now _))
theorem szStateS_gen (l : List LS) (left : Nat) (h : l.length * 64 ≤ 140737488351232) (hleft : left ≤ 1048576) : qHB.f l (left : Int) = some (if l.length ≤ left then ((left - l.length : Nat) : Int) else -1) := by
 unfold qHB.f
 have w : wrap64 ((left : Int) - (l.length : Int)) = (left : Int) - (l.length : Int) := by unfold wrap64; omega
 rw [w]
 by_cases h : l.length ≤ left
 case pos => rw [if_neg (by omega), if_pos h]; congr 1; omega
 rw [if_pos (by omega), if_neg h]
theorem FnExactSwapPlan : qn.Pure := by
 intro a l _ hl
 refine Ev.rounds (r := true) ?_
 unfold qn.f
 by_cases ha : a.size ≤ 1048576
 ·refine Ev.neg (by omega) (Ev.bindc (szStateS_gen l 1048576 hl (Nat.le_refl _)) ?_)
  by_cases hn : l.length ≤ 1048576
  case neg => rw [if_neg hn]; exact Ev.pos (by decide) (Ev.now _)
  rw [if_pos hn]
  have hc : l.length ≤ 2000000 := by omega
  have ht := toStateS_ev l hc
  obtain ⟨r, hs, hi⟩ := both a (l.map convS) ha (by simp; omega)
  have h3 : (l.map convS).length ≤ 140737488355328 := by simp; omega
  refine Ev.neg (by omega) (Ev.bind ht (Ev.bind hs (Ev.bind ht (Ev.bindc hi (Ev.pos rfl ?_)))))
  refine Ev.step (f := fun k => _) (fun k => by rw [qn.j0]) (Ev.neg (by simp) ?_)
  exact Ev.bind ht (Ev.bind (eqStateS_refl _ h3) (Ev.pos rfl (Ev.now _)))
 ·exact Ev.pos (by omega) (Ev.now _)
end Go.Proofs.YthhiiceligjleaaGreatDoor.Pure
