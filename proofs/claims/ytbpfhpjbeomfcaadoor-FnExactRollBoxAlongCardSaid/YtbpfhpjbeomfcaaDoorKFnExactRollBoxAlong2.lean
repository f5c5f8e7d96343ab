/- The program's RollBoxAlong returns what the reference's returns, for all texts, boxes and words (the law lets longer texts by). No further condition. -/
import Derived.Test.YtbpfhpjbeomfcaaDoorKFnExactRollBoxAlong1
import Derived.Shelf.SlGeneric
import Derived.Shelf.Small.Strs
import Derived.Shelf.Strings.Search1
import Derived.Ground.NamesProg
import Derived.Shelf.Strings.Search2
import Derived.Shelf.Strings.Search3
import Derived.Shelf.Strings.Split
import Derived.Shelf.Strings.Count
import Derived.Shelf.Strings.SlTrimAscii
import Derived.Test.YtbpfhpjbeomfcaaDoorProg

namespace Go.Proofs.YtbpfhpjbeomfcaaDoor.P
open Go.RowKit Go.Proofs.YtbpfhpjbeomfcaaDoorW.PrintWords Go.Proofs.YtbpfhpjbeomfcaaDoorW.PrintLast Go.Proofs.YtbpfhpjbeomfcaaDoorW.PrintMore
attribute [local go_sem] qx qv qGA qFA qm ql qw qu   -- for this text's walks alone
set_option linter.unusedVariables false
set_option linter.unusedSimpArgs false
def qz.l0 : Nat → ByteArray → Int → Option (Int)
 | 0, _, _ => none
 | k + 1, x0, x3 => if x3 < 4 then ((qkA.f).bind fun t361 => (if 0 ≤ x3 then (if x3 ≤ (wrap64 (x3 + 1)) then (if (wrap64 (x3 + 1)) ≤ (t361.size : Int) then (if x0.toList = (t361.extract (x3 : Int).toNat ((wrap64 (x3 + 1)) : Int).toNat).toList then (some x3) else (qz.l0 k x0 (wrap64 (x3 + 1)))) else (none)) else (none)) else (none))) else (some (-1))
def qz.f (k : Nat) (a0 : ByteArray) : Option (Int) := qz.l0 k a0 0
set_option maxHeartbeats 8000000 in
set_option maxRecDepth 100000 in
theorem qz.calls (k : Nat) (a0 : ByteArray) (r : Int) (w : World) (h : qz.f k a0 = some r) :
  Calls Tryd.prog 63 #[.string a0] w fun e w' => e = .returned (.int .i64 r) ∧ Drawn0 w w' := by
 have H : (qz.l0 k a0 0) = some r := h
 clear h
 have H' := Aside0.mk H
 clear H
 go_enter Tryd.func63, Tryd.ntmps63
 go_wp2
 go_loopg [3] k (fun kq v3 w' => ∃ (x3_1 : Int), v3 = .int .i64 x3_1 ∧ Aside0 (qz.l0 kq a0 x3_1 = some r) ∧ Aside0 (kq ≤ k) ∧ Drawn0 w w')
 case atStart => exact ⟨(0), (by first | rfl | (simp; done) | (simp [*]; done)), H', ⟨Nat.le_refl _⟩, by repeat (first | exact Drawn0.refl _ | apply Drawn0.step)⟩
 case round =>
  clear H'
  obtain ⟨x3_1, rfl, HA, HK1, ⟨m1, rfl⟩⟩ := hrel
  cases gk with
  | zero => exact absurd HA.out (by simp [qz.l0])
  | succ k1 =>
   have H := HA.out
   clear HA
   simp only [qz.l0] at H
   by_cases c2 : x3_1 < 4
   ·rw [if_pos c2] at H
    have c2b0 : decide (x3_1 < 4) = true := decide_eq_true c2
    clear c2
    replace H := Option.bind_eq_some_iff.mp H
    obtain ⟨t361, A30, H⟩ := H
    replace H : (if 0 ≤ x3_1 then (if x3_1 ≤ (wrap64 (x3_1 + 1)) then (if (wrap64 (x3_1 + 1)) ≤ (t361.size : Int) then (if a0.toList = (t361.extract (x3_1 : Int).toNat ((wrap64 (x3_1 + 1)) : Int).toNat).toList then (some x3_1) else (qz.l0 k1 a0 (wrap64 (x3_1 + 1)))) else (none)) else (none)) else (none)) = some r := H
    have A3 := Aside0.mk A30
    clear A30
    by_cases c4 : 0 ≤ x3_1
    ·rw [if_pos c4] at H
     have c4b0 := eq_true c4
     have c4b1 : decide (0 ≤ x3_1) = true := decide_eq_true c4
     clear c4
     by_cases c5 : x3_1 ≤ (wrap64 (x3_1 + 1))
     ·rw [if_pos c5] at H
      have c5b0 := eq_true c5
      have c5b1 : decide (x3_1 ≤ (wrap64 (x3_1 + 1))) = true := decide_eq_true c5
      by_cases c6 : (wrap64 (x3_1 + 1)) ≤ (t361.size : Int)
      ·rw [if_pos c6] at H
       have c6b0 := eq_true c6
       have c6b1 : decide ((wrap64 (x3_1 + 1)) ≤ (t361.size : Int)) = true := decide_eq_true c6
       by_cases c7 : a0.toList = (t361.extract (x3_1 : Int).toNat ((wrap64 (x3_1 + 1)) : Int).toNat).toList
       ·rw [if_pos c7] at H
        have c7b0 : (a0.toList == (t361.extract (x3_1 : Int).toNat ((wrap64 (x3_1 + 1)) : Int).toNat).toList) = true := beq_iff_eq.mpr c7
        have c7b1 : (a0.toList != (t361.extract (x3_1 : Int).toNat ((wrap64 (x3_1 + 1)) : Int).toNat).toList) = false := bne_eq_false_iff_eq.mpr c7
        clear c7
        obtain rfl := Option.some.inj H
        go_wp2_with (first | ((with_reducible refine qX (f := 61) rfl ?_); refine qo (some 9) rfl rfl Tryd.func61 (by kernel_rfl) rfl #[] rfl (by (try simp only [List.map_toArray, List.map_cons, List.map_nil]); first | done | rfl | (simp only [List.length_drop, List.length_take]; rfl)) ?_; (with_reducible refine (qkA.calls  t361 _ A3.out).mono ?_); rintro e w' ⟨rfl, ⟨nd, rfl⟩⟩; refine ⟨_, rfl, ?_⟩))
        go_ret
        exact ⟨by first | rfl | (simp; done) | (simp [*]; done), by repeat (first | exact Drawn0.refl _ | apply Drawn0.step)⟩
       ·rw [if_neg c7] at H
        have c7b0 : (a0.toList == (t361.extract (x3_1 : Int).toNat ((wrap64 (x3_1 + 1)) : Int).toNat).toList) = false := beq_eq_false_iff_ne.mpr c7
        have c7b1 : (a0.toList != (t361.extract (x3_1 : Int).toNat ((wrap64 (x3_1 + 1)) : Int).toNat).toList) = true := bne_iff_ne.mpr c7
        have H' := Aside0.mk H
        clear H
        go_wp2_with (first | ((with_reducible refine qX (f := 61) rfl ?_); refine qo (some 9) rfl rfl Tryd.func61 (by kernel_rfl) rfl #[] rfl (by (try simp only [List.map_toArray, List.map_cons, List.map_nil]); first | done | rfl | (simp only [List.length_drop, List.length_take]; rfl)) ?_; (with_reducible refine (qkA.calls  t361 _ A3.out).mono ?_); rintro e w' ⟨rfl, ⟨nd, rfl⟩⟩; refine ⟨_, rfl, ?_⟩))
        go_roundg k1
        case measure => have := HK1.out; omega
        case rel => exact ⟨(wrap64 (x3_1 + 1)), (by first | rfl | (simp; done) | (simp [*]; done)), H', ⟨by have := HK1.out; omega⟩, by repeat (first | exact Drawn0.refl _ | apply Drawn0.step)⟩
      ·rw [if_neg c6] at H
       exact absurd H (by simp)
     ·rw [if_neg c5] at H
      exact absurd H (by simp)
    ·rw [if_neg c4] at H
     exact absurd H (by simp)
   ·rw [if_neg c2] at H
    have c2b0 : decide (x3_1 < 4) = false := decide_eq_false c2
    clear c2
    obtain rfl := Option.some.inj H
    go_wp2
    go_ret
    exact ⟨by first | rfl | (simp; done) | (simp [*]; done), by repeat (first | exact Drawn0.refl _ | apply Drawn0.step)⟩
end Go.Proofs.YtbpfhpjbeomfcaaDoor.P
namespace Go.Proofs.YtbpfhpjbeomfcaaDoor.P
open Go.RowKit Go.Proofs.YtbpfhpjbeomfcaaDoorW.PrintWords Go.Proofs.YtbpfhpjbeomfcaaDoorW.PrintLast Go.Proofs.YtbpfhpjbeomfcaaDoorW.PrintMore
attribute [local go_sem] qx qv qGA qFA qm ql qw qu   -- for this text's walks alone
set_option linter.unusedVariables false
set_option linter.unusedSimpArgs false
def qy.l0 : Nat → ByteArray → Int → Option (Bool)
 | 0, _, _ => none
 | k + 1, x0, x3 => if x3 < (x0.size : Int) then (if 0 ≤ x3 then (if x3 ≤ (wrap64 (x3 + 1)) then (if (wrap64 (x3 + 1)) ≤ (x0.size : Int) then ((qz.f k (x0.extract (x3 : Int).toNat ((wrap64 (x3 + 1)) : Int).toNat)).bind fun t521 => (if t521 < 0 then (some false) else (qy.l0 k x0 (wrap64 (x3 + 1))))) else (none)) else (none)) else (none)) else (some true)
def qy.f (k : Nat) (a0 : ByteArray) : Option (Bool) := if (a0.size : Int) > 60 then (some false) else (qy.l0 k a0 0)
set_option maxHeartbeats 8000000 in
set_option maxRecDepth 100000 in
theorem qy.calls (k : Nat) (a0 : ByteArray) (r : Bool) (w : World) (h : qy.f k a0 = some r) :
  Calls Tryd.prog 92 #[.string a0] w fun e w' => e = .returned (.bool r) ∧ Drawn0 w w' := by
 have H : (if (a0.size : Int) > 60 then (some false) else (qy.l0 k a0 0)) = some r := h
 clear h
 by_cases c2 : (a0.size : Int) > 60
 ·rw [if_pos c2] at H
  have c2b0 : decide (60 < (a0.size : Int)) = true := decide_eq_true c2
  have c2b1 : decide (60 < a0.size) = true := decide_eq_true (by omega)
  clear c2
  obtain rfl := Option.some.inj H
  go_enter Tryd.func92, Tryd.ntmps92
  go_wp2
  go_ret
  exact ⟨by first | rfl | (simp; done) | (simp [*]; done), by repeat (first | exact Drawn0.refl _ | apply Drawn0.step)⟩
 ·rw [if_neg c2] at H
  have c2b0 : decide (60 < (a0.size : Int)) = false := decide_eq_false c2
  have c2b1 : decide (60 < a0.size) = false := decide_eq_false (by omega)
  clear c2
  have H' := Aside0.mk H
  clear H
  go_enter Tryd.func92, Tryd.ntmps92
  go_wp2
  go_loopg [3] k (fun kq v3 w' => ∃ (x3_1 : Int), v3 = .int .i64 x3_1 ∧ Aside0 (qy.l0 kq a0 x3_1 = some r) ∧ Aside0 (kq ≤ k) ∧ Drawn0 w w')
  case atStart => exact ⟨(0), (by first | rfl | (simp; done) | (simp [*]; done)), H', ⟨Nat.le_refl _⟩, by repeat (first | exact Drawn0.refl _ | apply Drawn0.step)⟩
  case round =>
   clear H'
   try clear c2
   try clear c2b0
   try clear c2b1
   try clear p2
   obtain ⟨x3_1, rfl, HA, HK1, ⟨m1, rfl⟩⟩ := hrel
   cases gk with
   | zero => exact absurd HA.out (by simp [qy.l0])
   | succ k1 =>
    have H := HA.out
    clear HA
    simp only [qy.l0] at H
    by_cases c3 : x3_1 < (a0.size : Int)
    ·rw [if_pos c3] at H
     have c3b0 : decide (x3_1 < (a0.size : Int)) = true := decide_eq_true c3
     clear c3
     by_cases c4 : 0 ≤ x3_1
     ·rw [if_pos c4] at H
      have c4b0 := eq_true c4
      have c4b1 : decide (0 ≤ x3_1) = true := decide_eq_true c4
      clear c4
      by_cases c5 : x3_1 ≤ (wrap64 (x3_1 + 1))
      ·rw [if_pos c5] at H
       have c5b0 := eq_true c5
       have c5b1 : decide (x3_1 ≤ (wrap64 (x3_1 + 1))) = true := decide_eq_true c5
       by_cases c6 : (wrap64 (x3_1 + 1)) ≤ (a0.size : Int)
       ·rw [if_pos c6] at H
        have c6b0 := eq_true c6
        have c6b1 : decide ((wrap64 (x3_1 + 1)) ≤ (a0.size : Int)) = true := decide_eq_true c6
        replace H := Option.bind_eq_some_iff.mp H
        obtain ⟨t521, A70, H⟩ := H
        replace H : (if t521 < 0 then (some false) else (qy.l0 k1 a0 (wrap64 (x3_1 + 1)))) = some r := H
        have A7 := Aside0.mk A70
        clear A70
        by_cases c8 : t521 < 0
        ·rw [if_pos c8] at H
         have c8b0 : decide (t521 < 0) = true := decide_eq_true c8
         clear c8
         obtain rfl := Option.some.inj H
         go_wp2_with (first | ((with_reducible refine qX (f := 63) rfl ?_); refine qo (some 18) rfl rfl Tryd.func63 (by kernel_rfl) rfl #[.string (a0.extract (x3_1 : Int).toNat ((wrap64 (x3_1 + 1)) : Int).toNat)] rfl (by (try simp only [List.map_toArray, List.map_cons, List.map_nil]); first | done | rfl | (simp only [List.length_drop, List.length_take]; rfl)) ?_; (with_reducible refine (qz.calls k1 (a0.extract (x3_1 : Int).toNat ((wrap64 (x3_1 + 1)) : Int).toNat) t521 _ A7.out).mono ?_); rintro e w' ⟨rfl, ⟨nd, rfl⟩⟩; refine ⟨_, rfl, ?_⟩))
         go_ret
         exact ⟨by first | rfl | (simp; done) | (simp [*]; done), by repeat (first | exact Drawn0.refl _ | apply Drawn0.step)⟩
        ·rw [if_neg c8] at H
         have c8b0 : decide (t521 < 0) = false := decide_eq_false c8
         clear c8
         have H' := Aside0.mk H
         clear H
         go_wp2_with (first | ((with_reducible refine qX (f := 63) rfl ?_); refine qo (some 18) rfl rfl Tryd.func63 (by kernel_rfl) rfl #[.string (a0.extract (x3_1 : Int).toNat ((wrap64 (x3_1 + 1)) : Int).toNat)] rfl (by (try simp only [List.map_toArray, List.map_cons, List.map_nil]); first | done | rfl | (simp only [List.length_drop, List.length_take]; rfl)) ?_; (with_reducible refine (qz.calls k1 (a0.extract (x3_1 : Int).toNat ((wrap64 (x3_1 + 1)) : Int).toNat) t521 _ A7.out).mono ?_); rintro e w' ⟨rfl, ⟨nd, rfl⟩⟩; refine ⟨_, rfl, ?_⟩))
         go_roundg k1
         case measure => have := HK1.out; omega
         case rel => exact ⟨(wrap64 (x3_1 + 1)), (by first | rfl | (simp; done) | (simp [*]; done)), H', ⟨by have := HK1.out; omega⟩, by repeat (first | exact Drawn0.refl _ | apply Drawn0.step)⟩
       ·rw [if_neg c6] at H
        exact absurd H (by simp)
      ·rw [if_neg c5] at H
       exact absurd H (by simp)
     ·rw [if_neg c4] at H
      exact absurd H (by simp)
    ·rw [if_neg c3] at H
     have c3b0 : decide (x3_1 < (a0.size : Int)) = false := decide_eq_false c3
     clear c3
     obtain rfl := Option.some.inj H
     go_wp2
     go_ret
     exact ⟨by first | rfl | (simp; done) | (simp [*]; done), by repeat (first | exact Drawn0.refl _ | apply Drawn0.step)⟩
end Go.Proofs.YtbpfhpjbeomfcaaDoor.P
namespace Go.Proofs.YtbpfhpjbeomfcaaDoor.P
open Go.RowKit Go.Proofs.YtbpfhpjbeomfcaaDoorW.PrintWords Go.Proofs.YtbpfhpjbeomfcaaDoorW.PrintLast Go.Proofs.YtbpfhpjbeomfcaaDoorW.PrintMore
attribute [local go_sem] qx qv qGA qFA qm ql qw qu   -- for this text's walks alone
set_option linter.unusedVariables false
set_option linter.unusedSimpArgs false
mutual
def qb.j0 : Nat → ByteArray → Bool → Int → Int → Int → Int → Int → List Int → Option ((List (S27)) × Bool)
 | 0, _, _, _, _, _, _, _, _ => none
 | k + 1, x2, x26, x523000, x523001, x523002, x530000, x530001, x530002 => if x26 = true then (some (([] : List (S27)), false)) else (qb.l0 k x2 (([(⟨x523000, x523001, x523002⟩ : S27)] : List (S27))) 0 x523000 x523001 x523002 x530000 x530001 x530002)
def qb.l0 : Nat → ByteArray → List (S27) → Int → Int → Int → Int → Int → Int → List Int → Option ((List (S27)) × Bool)
 | 0, _, _, _, _, _, _, _, _, _ => none
 | k + 1, x2, x10, x11, x523000, x523001, x523002, x530000, x530001, x530002 => if x11 < (x2.size : Int) then (if 0 ≤ x11 then (if x11 ≤ (wrap64 (x11 + 1)) then (if (wrap64 (x11 + 1)) ≤ (x2.size : Int) then ((qz.f k (x2.extract (x11 : Int).toNat ((wrap64 (x11 + 1)) : Int).toNat)).bind fun t534 => ((qPA.f k x530000 x530001 x530002 x523000 x523001 x523002 t534).bind fun bt535 => (if bt535.2.2.2 = true then (if x10.length < 5864062014805 then (qb.l0 k x2 (x10 ++ [(⟨bt535.1, bt535.2.1, bt535.2.2.1⟩ : S27)]) (wrap64 (x11 + 1)) bt535.1 bt535.2.1 bt535.2.2.1 x530000 x530001 x530002) else (none)) else (some (([] : List (S27)), false))))) else (none)) else (none)) else (none)) else (some (x10, true))
end
def qb.f (k : Nat) (a0 : ByteArray) (a1_0 : Int) (a1_1 : Int) (a1_2 : Int) (a2 : ByteArray) : Option ((List (S27)) × Bool) := (qt.f k a0 a1_0 a1_1 a1_2).bind fun bt523 => (if bt523.2.2.2 = true then ((qy.f k a2).bind fun t530 => (qb.j0 k a2 (!t530) a1_0 a1_1 a1_2 bt523.1 bt523.2.1 bt523.2.2.1)) else (qb.j0 k a2 true a1_0 a1_1 a1_2 bt523.1 bt523.2.1 bt523.2.2.1))
def qb.T8 : Bool × List (List Nat × List Nat) := (true, [([], []), ([], []), ([], []), ([], []), ([], []), ([4], [4]), ([2, 3, 5], [2, 3, 5]), ([6], [6]), ([0, 1, 7, 7], [0, 1, 7]), ([8], [8]), ([9], [9]), ([9], [9]), ([], []), ([12, 10, 8, 0, 1, 2, 3, 4, 5, 6, 7, 8, 9, 10, 12], [10, 12]), ([11, 13, 0, 1, 2, 3, 4, 5, 6, 7, 8, 9, 10, 11, 12, 13], [11])])
def qb.B8 : List Nat := [0, 0, 0, 0, 0, 16, 60, 124, 255, 511, 1023, 1023, 0, 6143, 16383]
theorem qb.tab8 : rtab .any (opsOf Tryd.f67 8) = qb.T8 := by kernel_rfl
theorem qb.bits8 : waitsOk qb.T8.2 qb.B8 = true := by kernel_rfl
set_option maxHeartbeats 8000000 in
set_option maxRecDepth 100000 in
theorem qb.calls (k : Nat) (a0 : ByteArray) (a1_0 : Int) (a1_1 : Int) (a1_2 : Int) (a2 : ByteArray) (r1 : List (S27)) (r2 : Bool) (w : World) (h : qb.f k a0 a1_0 a1_1 a1_2 a2 = some (r1, r2)) :
  Calls Tryd.prog 67 #[.string a0, .agg #[.int .i64 a1_0, .int .i64 a1_1, .int .i64 a1_2], .string a2] w fun e w' => ∃ v0_ : Value, e = .returned (.tuple #[v0_, .bool r2]) ∧ Kd.R k27 27 w' w.heap.size (fun _ => True) v0_ r1 ∧ Below w.heap.size w w' := by
 have hu27 := Tryd.underlying27
 have hu57 := Tryd.underlying57
 have HB := Aside0.mk (Below.refl w.heap.size w)
 have H : ((qt.f k a0 a1_0 a1_1 a1_2).bind fun bt523 => (if bt523.2.2.2 = true then ((qy.f k a2).bind fun t530 => (qb.j0 k a2 (!t530) a1_0 a1_1 a1_2 bt523.1 bt523.2.1 bt523.2.2.1)) else (qb.j0 k a2 true a1_0 a1_1 a1_2 bt523.1 bt523.2.1 bt523.2.2.1))) = some (r1, r2) := h
 clear h
 replace H := Option.bind_eq_some_iff.mp H
 obtain ⟨⟨t523, t524, t525, t528⟩, A40, H⟩ := H
 replace H : (if t528 = true then ((qy.f k a2).bind fun t530 => (qb.j0 k a2 (!t530) a1_0 a1_1 a1_2 t523 t524 t525)) else (qb.j0 k a2 true a1_0 a1_1 a1_2 t523 t524 t525)) = some (r1, r2) := H
 have A4 := Aside0.mk A40
 clear A40
 have HC5 := Aside0.mk H
 clear H
 go_enter Tryd.func67, Tryd.ntmps67
 go_upto_region 2 with (first | ((with_reducible refine qc (N := 4) rfl ?_); refine qY ?hg (N := 4) ?hd (cs := #[.int .i64 a1_0, .int .i64 a1_1, .int .i64 a1_2]) (t := 27) ?hr ?_; (case hd => rfl); (case hg => rfl); (case hr => first | (go_simp; done) | (go_simp; rfl)); intro gb522 hg w6 hbox hb; have n0_ := Aside0.mk (qL (by repeat (first | (with_reducible first | exact HB.out | apply qF | apply qA | apply qE) | exact HB.out)) hb); have n1_ := Aside0.mk (hbox); have n2_ := Aside0.mk ((by rw [hg]; exact (qJ (by repeat (first | (with_reducible first | exact HB.out | apply qF | apply qA | apply qE) | exact HB.out))) : w.heap.size ≤ gb522)); have n3_ := Aside0.mk ((by rw [hg]; exact (qJ (by repeat (first | (with_reducible first | exact HB.out | apply qF | apply qA | apply qE) | exact HB.out))) : w.heap.size ≤ gb522)); clear HB; have HB := n0_; have BK522 := n1_; have GW522 := n2_; have GE522 := n3_; clear n0_ n1_ n2_ n3_; clear hb hbox hg; have hcz7_0 : w6.cell? ⟨gb522, 0, none⟩ = some (.int .i64 a1_0) := (qI BK522.out 0).trans rfl; have hcz7_1 : w6.cell? ⟨gb522, 1, none⟩ = some (.int .i64 a1_1) := (qI BK522.out 1).trans rfl; have hcz7_2 : w6.cell? ⟨gb522, 2, none⟩ = some (.int .i64 a1_2) := (qI BK522.out 2).trans rfl; have hfz7_0 := qH BK522.out 0; have hfz7_1 := qH BK522.out 1; have hfz7_2 := qH BK522.out 2) | ((with_reducible refine qX (f := 57) rfl ?_); refine qo (some 17) rfl rfl Tryd.func57 (by kernel_rfl) rfl #[.string a0, .agg #[.int .i64 a1_0, .int .i64 a1_1, .int .i64 a1_2]] rfl (by (try simp only [List.map_toArray, List.map_cons, List.map_nil]); first | done | rfl | (simp only [List.length_drop, List.length_take]; rfl)) ?_; (with_reducible refine (qt.calls k a0 a1_0 a1_1 a1_2 t523 t524 t525 t528 _ A4.out).mono ?_); rintro e w8 ⟨v526, rfl, ho0, hb⟩; refine ⟨_, rfl, ?_⟩; have n0_ := Aside0.mk (Kd.qMA ho0 (qJ (by repeat (first | (with_reducible first | exact HB.out | apply qF | apply qA | apply qE | refine qG ?_ GE522.out) | exact HB.out)))); have n1_ := Aside0.mk (qK (g := gb522) (o := .cells #[.int .i64 a1_0, .int .i64 a1_1, .int .i64 a1_2] 27 (0, 0)) (by (with_reducible repeat (first | refine qC ?_ _ | refine qD ?_ | refine qB ?_ _)); exact BK522.out) hb); have n2_ := Aside0.mk (qL (by repeat (first | (with_reducible first | exact HB.out | apply qF | apply qA | apply qE | refine qG ?_ GE522.out) | exact HB.out)) hb); clear BK522; clear HB; have HO527 := n0_; have BK522 := n1_; have HB := n2_; clear n0_ n1_ n2_; (try clear hb); (try clear hb2); (try clear hk); (try clear hi); (try clear ho0)) | ((with_reducible refine qc (N := 8) rfl ?_); refine qY ?hg (N := 8) ?hd (cs := #[.int .i64 0, .int .i64 0, .slice none 0 0]) (t := 57) ?hr ?_; (case hd => rfl); (case hg => rfl); (case hr => first | (go_simp; done) | (go_simp; rfl)); intro gb529 hg w9 hbox hb; have n0_ := Aside0.mk (Kd.qi (by (with_reducible repeat (first | apply Kd.qT | apply Kd.qS | apply Kd.qZ)); exact HO527.out) hb); have n1_ := Aside0.mk (qK (g := gb522) (o := .cells #[.int .i64 a1_0, .int .i64 a1_1, .int .i64 a1_2] 27 (0, 0)) (by (with_reducible repeat (first | refine qC ?_ _ | refine qD ?_ | refine qB ?_ _)); exact BK522.out) hb); have n2_ := Aside0.mk (qL (by repeat (first | (with_reducible first | exact HB.out | apply qF | apply qA | apply qE | refine qG ?_ GE522.out) | exact HB.out)) hb); have n3_ := Aside0.mk (hbox); have n4_ := Aside0.mk ((by rw [hg]; exact (qJ (by repeat (first | (with_reducible first | exact HB.out | apply qF | apply qA | apply qE | refine qG ?_ GE522.out) | exact HB.out))) : w.heap.size ≤ gb529)); have n5_ := Aside0.mk ((by rw [hg]; exact (qJ (by repeat (first | (with_reducible first | exact HB.out | apply qF | apply qA | apply qE | refine qG ?_ GE522.out) | exact HB.out))) : w.heap.size ≤ gb529)); have n6_ := Aside0.mk ((by rw [hg]; exact Nat.ne_of_lt (qd (g := gb522) (o := .cells #[.int .i64 a1_0, .int .i64 a1_1, .int .i64 a1_2] 27 (0, 0)) (by (with_reducible repeat (first | refine qC ?_ _ | refine qD ?_ | refine qB ?_ _)); exact BK522.out)) : gb522 ≠ gb529)); have n7_ := Aside0.mk ((by rw [hg]; exact Nat.ne_of_gt (qd (g := gb522) (o := .cells #[.int .i64 a1_0, .int .i64 a1_1, .int .i64 a1_2] 27 (0, 0)) (by (with_reducible repeat (first | refine qC ?_ _ | refine qD ?_ | refine qB ?_ _)); exact BK522.out)) : gb529 ≠ gb522)); clear HO527; clear BK522; clear HB; have HO527 := n0_; have BK522 := n1_; have HB := n2_; have BK529 := n3_; have GW529 := n4_; have GE529 := n5_; have NB522_529 := n6_; have NB529_522 := n7_; clear n0_ n1_ n2_ n3_ n4_ n5_ n6_ n7_; clear hb hbox hg; have hnb10 := NB529_522.out; have hnc10 := NB522_529.out; have hcz11_0 : w9.cell? ⟨gb529, 0, none⟩ = some (.int .i64 0) := (qI BK529.out 0).trans rfl; have hcz11_1 : w9.cell? ⟨gb529, 1, none⟩ = some (.int .i64 0) := (qI BK529.out 1).trans rfl; have hcz11_2 : w9.cell? ⟨gb529, 2, none⟩ = some (.slice none 0 0) := (qI BK529.out 2).trans rfl; have hfz11_0 := qH BK529.out 0; have hfz11_1 := qH BK529.out 1; have hfz11_2 := qH BK529.out 2; obtain ⟨Ao12, co12, eo12⟩ := Kd.qRA HO527.out; subst eo12))
 (try simp only [Act.put, List.setIfInBounds_toArray, List.set_cons_zero, List.set_cons_succ])
 go_cut [26] (fun v26 wc => ∃ (kq : Nat) (x26_4 : Bool), v26 = .bool x26_4 ∧ Aside0 (qb.j0 kq a2 x26_4 a1_0 a1_1 a1_2 t523 t524 t525 = some (r1, r2)) ∧ Aside0 (kq ≤ k) ∧ Aside0 (Kd.R (Kd.int .u8) 5 wc w.heap.size (fun _ => True) (.slice Ao12 t525.length co12) t525) ∧ Aside0 (wc.heap[gb522]? = some (.cells #[.int .i64 a1_0, .int .i64 a1_1, .int .i64 a1_2] 27 (0, 0))) ∧ Aside0 (wc.heap[gb529]? = some (.cells #[.int .i64 t523, .int .i64 t524, (.slice Ao12 t525.length co12)] 57 (0, 0))) ∧ Aside0 (Below w.heap.size w wc))
 case first =>
  have H := HC5.out
  clear HC5
  by_cases c13 : t528 = true
  ·subst c13
   have H1 : ((qy.f k a2).bind fun t530 => (qb.j0 k a2 (!t530) a1_0 a1_1 a1_2 t523 t524 t525)) = some (r1, r2) := by rw [if_pos rfl] at H; exact H
   clear H
   have H := H1
   clear H1
   replace H := Option.bind_eq_some_iff.mp H
   obtain ⟨t530, A140, H⟩ := H
   replace H : (qb.j0 k a2 (!t530) a1_0 a1_1 a1_2 t523 t524 t525) = some (r1, r2) := H
   have A14 := Aside0.mk A140
   clear A140
   have H' := Aside0.mk H
   clear H
   go_wp2_with (first | (go_at_call 92; (with_reducible refine (qy.calls k a2 t530 _ A14.out).mono ?_); rintro e w' ⟨rfl, ⟨nd, rfl⟩⟩))
   go_meet
   case rel => exact ⟨_, (!t530), (by first | rfl | (simp; done) | (simp [*]; done)), H', ⟨by first | omega | exact Nat.le_refl _⟩, ⟨by (with_reducible repeat (first | apply Kd.qT | apply Kd.qS | apply Kd.qZ)); exact Kd.qHA (Kd.R_far (p := ⟨gb529, 2, none⟩) (Kd.R_far (p := ⟨gb529, 1, none⟩) (Kd.R_far (p := ⟨gb529, 0, none⟩) (Kd.qjA HO527.out BK529.out (by decide)) (fun _ hk => hk.2) (.int .i64 t523)) (fun _ hk => hk.2) (.int .i64 t524)) (fun _ hk => hk.2) (.slice Ao12 t525.length co12)) (fun _ hk => trivial)⟩, ⟨by (with_reducible repeat (first | refine qC ?_ _ | refine qD ?_ | refine qB ?_ _)); refine qR ?_ NB522_529.out _; (with_reducible repeat (first | refine qC ?_ _ | refine qD ?_ | refine qB ?_ _)); refine qR ?_ NB522_529.out _; (with_reducible repeat (first | refine qC ?_ _ | refine qD ?_ | refine qB ?_ _)); refine qR ?_ NB522_529.out _; (with_reducible repeat (first | refine qC ?_ _ | refine qD ?_ | refine qB ?_ _)); exact BK522.out⟩, ⟨by (with_reducible repeat (first | refine qC ?_ _ | refine qD ?_ | refine qB ?_ _)); refine qO (cs := #[.int .i64 t523, .int .i64 t524, .slice none 0 0]) ?_ 2 _ rfl; (with_reducible repeat (first | refine qC ?_ _ | refine qD ?_ | refine qB ?_ _)); refine qO (cs := #[.int .i64 t523, .int .i64 0, .slice none 0 0]) ?_ 1 _ rfl; (with_reducible repeat (first | refine qC ?_ _ | refine qD ?_ | refine qB ?_ _)); refine qO (cs := #[.int .i64 0, .int .i64 0, .slice none 0 0]) ?_ 0 _ rfl; (with_reducible repeat (first | refine qC ?_ _ | refine qD ?_ | refine qB ?_ _)); exact BK529.out⟩, ⟨by repeat (first | (with_reducible first | exact HB.out | apply qF | apply qA | apply qE | refine qG ?_ GE522.out | refine qG ?_ GE529.out) | exact HB.out)⟩⟩
  ·replace c13 := Bool.eq_false_iff.mpr c13
   subst c13
   have H1 : (qb.j0 k a2 true a1_0 a1_1 a1_2 t523 t524 t525) = some (r1, r2) := by rw [if_neg (show ¬ (false = true) by decide)] at H; exact H
   clear H
   have H := H1
   clear H1
   have H' := Aside0.mk H
   clear H
   go_wp2
   go_meet
   case rel => exact ⟨_, (true), (by first | rfl | (simp; done) | (simp [*]; done)), H', ⟨by first | omega | exact Nat.le_refl _⟩, ⟨by (with_reducible repeat (first | apply Kd.qT | apply Kd.qS | apply Kd.qZ)); exact Kd.qHA (Kd.R_far (p := ⟨gb529, 2, none⟩) (Kd.R_far (p := ⟨gb529, 1, none⟩) (Kd.R_far (p := ⟨gb529, 0, none⟩) (Kd.qjA HO527.out BK529.out (by decide)) (fun _ hk => hk.2) (.int .i64 t523)) (fun _ hk => hk.2) (.int .i64 t524)) (fun _ hk => hk.2) (.slice Ao12 t525.length co12)) (fun _ hk => trivial)⟩, ⟨by (with_reducible repeat (first | refine qC ?_ _ | refine qD ?_ | refine qB ?_ _)); refine qR ?_ NB522_529.out _; (with_reducible repeat (first | refine qC ?_ _ | refine qD ?_ | refine qB ?_ _)); refine qR ?_ NB522_529.out _; (with_reducible repeat (first | refine qC ?_ _ | refine qD ?_ | refine qB ?_ _)); refine qR ?_ NB522_529.out _; (with_reducible repeat (first | refine qC ?_ _ | refine qD ?_ | refine qB ?_ _)); exact BK522.out⟩, ⟨by (with_reducible repeat (first | refine qC ?_ _ | refine qD ?_ | refine qB ?_ _)); refine qO (cs := #[.int .i64 t523, .int .i64 t524, .slice none 0 0]) ?_ 2 _ rfl; (with_reducible repeat (first | refine qC ?_ _ | refine qD ?_ | refine qB ?_ _)); refine qO (cs := #[.int .i64 t523, .int .i64 0, .slice none 0 0]) ?_ 1 _ rfl; (with_reducible repeat (first | refine qC ?_ _ | refine qD ?_ | refine qB ?_ _)); refine qO (cs := #[.int .i64 0, .int .i64 0, .slice none 0 0]) ?_ 0 _ rfl; (with_reducible repeat (first | refine qC ?_ _ | refine qD ?_ | refine qB ?_ _)); exact BK529.out⟩, ⟨by repeat (first | (with_reducible first | exact HB.out | apply qF | apply qA | apply qE | refine qG ?_ GE522.out | refine qG ?_ GE529.out) | exact HB.out)⟩⟩
 case rest =>
  clear HC5
  try clear c1
  try clear p2
  try clear c5
  try clear c6
  try clear c10
  try clear c13
  try clear hcz11_0
  try clear hcz11_1
  try clear hcz11_2
  try clear hcz7_0
  try clear hcz7_1
  try clear hcz7_2
  try clear hfz11_0
  try clear hfz11_1
  try clear hfz11_2
  try clear hfz7_0
  try clear hfz7_1
  try clear hfz7_2
  obtain ⟨kq, x26_4, rfl, HA, HJ4, HO_530002, BK522, BK529, HB⟩ := hcut
  cases kq with
  | zero => exact absurd HA.out (by simp [qb.j0])
  | succ kj4 =>
   have H := HA.out
   clear HA
   simp only [qb.j0] at H
   by_cases c15 : x26_4 = true
   ·subst c15
    have H1 : (some (([] : List (S27)), false)) = some (r1, r2) := by rw [if_pos rfl] at H; exact H
    clear H
    have H := H1
    clear H1
    simp only [Option.some.injEq, Prod.mk.injEq] at H
    obtain ⟨rfl, rfl⟩ := H
    go_wp2
    go_ret2
    exact ⟨_, by first | rfl | (simp [qN, qM] <;> rfl) | (simp [*, qN, qM] <;> rfl), by first | exact Kd.R_nil _ _ _ _ _ | exact Kd.N_nil _ _ _ _ _ | exact Kd.V_nil _ _ _ _ _ | exact Kd.Q_nil _ _ _ _ _ | exact Kd.S_nil _ _ _ _ _, by repeat (first | (with_reducible first | exact HB.out | apply qF | apply qA | apply qE | refine qG ?_ GE522.out | refine qG ?_ GE529.out) | exact HB.out)⟩
   ·replace c15 := Bool.eq_false_iff.mpr c15
    subst c15
    have H1 : (qb.l0 kj4 a2 (([(⟨a1_0, a1_1, a1_2⟩ : S27)] : List (S27))) 0 a1_0 a1_1 a1_2 t523 t524 t525) = some (r1, r2) := by rw [if_neg (show ¬ (false = true) by decide)] at H; exact H
    clear H
    have H := H1
    clear H1
    obtain ⟨y531, hy531⟩ : ∃ y_ : List (S27), y_ = (([(⟨a1_0, a1_1, a1_2⟩ : S27)] : List (S27))) := ⟨_, rfl⟩
    replace H : (qb.l0 kj4 a2 y531 0 a1_0 a1_1 a1_2 t523 t524 t525) = some (r1, r2) := by first | (rw [hy531]; with_reducible exact H) | (have H2_ := (Option.bind_some _ _).symm.trans H; rw [hy531]; with_reducible exact H2_) | (have H2_ := (Option.bind_some _ _).symm.trans H; with_reducible exact H2_) | with_reducible exact H | (rw [hy531]; exact H) | exact H
    have Ny531 := Aside0.mk hy531
    clear hy531
    have H' := Aside0.mk H
    clear H
    have hnb16 := NB522_529.out
    have hnc16 := NB529_522.out
    have hcz17_0 : wc.cell? ⟨gb522, 0, none⟩ = some (.int .i64 a1_0) := (qI BK522.out 0).trans rfl
    have hcz17_1 : wc.cell? ⟨gb522, 1, none⟩ = some (.int .i64 a1_1) := (qI BK522.out 1).trans rfl
    have hcz17_2 : wc.cell? ⟨gb522, 2, none⟩ = some (.int .i64 a1_2) := (qI BK522.out 2).trans rfl
    have hfz17_0 := qH BK522.out 0
    have hfz17_1 := qH BK522.out 1
    have hfz17_2 := qH BK522.out 2
    go_wp2_with (first | ((with_reducible refine qc (N := 28) rfl ?_); refine Kd.R_lit k27 _ 27 ?hg (N := 28) ?hd (xs := ([(⟨a1_0, a1_1, a1_2⟩ : S27)] : List (S27))) (inner := [.int .i64 a1_0, .int .i64 a1_1, .int .i64 a1_2]) (ok := fun _ => True) (okp := fun _ => True) ?hr ?hp (fun _ hk => hk) trivial (Below.refl _ _) (Nat.le_refl _) (by simp) ?_; (case hd => rfl); (case hg => rfl); (case hr => first | (go_simp; done) | (go_simp; rfl)); (case hp => exact (Reps.c3 (show Kd.M k27 _ _ _ (⟨a1_0, a1_1, a1_2⟩ : S27) [.int .i64 a1_0, .int .i64 a1_1, .int .i64 a1_2] from (qXB _ _ _ (⟨a1_0, a1_1, a1_2⟩ : S27) )) (Reps.none _ _))); intro v532 w18 ho19 hb hg_ hnew_; clear hg_ hnew_; (first | rw [← Ny531.out] at ho19 | (simp only [Int.reduceToNat] at ho19; rw [← Ny531.out] at ho19)); have n0_ := Aside0.mk (Kd.qi (by (with_reducible repeat (first | apply Kd.qT | apply Kd.qS | apply Kd.qZ)); exact HO_530002.out) hb); have n1_ := Aside0.mk (Kd.qMA (Kd.qHB ho19 (g := gb522) (o := .cells #[.int .i64 a1_0, .int .i64 a1_1, .int .i64 a1_2] 27 (0, 0)) (by (with_reducible repeat (first | refine qC ?_ _ | refine qD ?_ | refine qB ?_ _)); exact BK522.out)) (qJ (by repeat (first | (with_reducible first | exact HB.out | apply qF | apply qA | apply qE | refine qG ?_ GE522.out | refine qG ?_ GE529.out) | exact HB.out)))); have n2_ := Aside0.mk (qK (g := gb522) (o := .cells #[.int .i64 a1_0, .int .i64 a1_1, .int .i64 a1_2] 27 (0, 0)) (by (with_reducible repeat (first | refine qC ?_ _ | refine qD ?_ | refine qB ?_ _)); exact BK522.out) hb); have n3_ := Aside0.mk (qK (g := gb529) (o := .cells #[.int .i64 t523, .int .i64 t524, .slice Ao12 t525.length co12] 57 (0, 0)) (by (with_reducible repeat (first | refine qC ?_ _ | refine qD ?_ | refine qB ?_ _)); exact BK529.out) hb); have n4_ := Aside0.mk (qL (by repeat (first | (with_reducible first | exact HB.out | apply qF | apply qA | apply qE | refine qG ?_ GE522.out | refine qG ?_ GE529.out) | exact HB.out)) hb); clear HO_530002; clear BK522; clear BK529; clear HB; have HO_530002 := n0_; have HO533 := n1_; have BK522 := n2_; have BK529 := n3_; have HB := n4_; clear n0_ n1_ n2_ n3_ n4_; clear hb ho19))
    go_loopg [10, 11] kj4 (fun kq v10 v11 w' => ∃ (x10_2 : List (S27)) (x11_2 : Int) (x523000_2 : Int) (x523001_2 : Int) (x523002_2 : Int), v11 = .int .i64 x11_2 ∧ Aside0 (qb.l0 kq a2 x10_2 x11_2 x523000_2 x523001_2 x523002_2 t523 t524 t525 = some (r1, r2)) ∧ Aside0 (kq ≤ kj4) ∧ Aside0 (Kd.R k27 27 w' w.heap.size (fun k_ => k_ ≠ gb522) v10 x10_2) ∧ Aside0 (Kd.R (Kd.int .u8) 5 w' w.heap.size (fun _ => True) (.slice Ao12 t525.length co12) t525) ∧ Aside0 (w'.heap[gb522]? = some (.cells #[.int .i64 x523000_2, .int .i64 x523001_2, .int .i64 x523002_2] 27 (0, 0))) ∧ Aside0 (w'.heap[gb529]? = some (.cells #[.int .i64 t523, .int .i64 t524, (.slice Ao12 t525.length co12)] 57 (0, 0))) ∧ Aside0 (Below w.heap.size w w'))
    case atStart => exact ⟨(y531), (0), (a1_0), (a1_1), (a1_2), (by first | rfl | (simp; done) | (simp [*]; done)), H', ⟨Nat.le_refl _⟩, ⟨by (with_reducible repeat (first | apply Kd.qT | apply Kd.qS | apply Kd.qZ)); exact Kd.qHA HO533.out (fun _ hk => hk.2)⟩, ⟨by (with_reducible repeat (first | apply Kd.qT | apply Kd.qS | apply Kd.qZ)); exact HO_530002.out⟩, ⟨by (with_reducible repeat (first | refine qC ?_ _ | refine qD ?_ | refine qB ?_ _)); exact BK522.out⟩, ⟨by (with_reducible repeat (first | refine qC ?_ _ | refine qD ?_ | refine qB ?_ _)); exact BK529.out⟩, ⟨by repeat (first | (with_reducible first | exact HB.out | apply qF | apply qA | apply qE | refine qG ?_ GE522.out | refine qG ?_ GE529.out) | exact HB.out)⟩⟩
    case round =>
     clear H'
     try clear c1
     try clear p2
     try clear c3
     try clear c5
     try clear c6
     try clear c10
     try clear c13
     try clear c15
     try clear c16
     try clear hcz11_0
     try clear hcz11_1
     try clear hcz11_2
     try clear hcz17_0
     try clear hcz17_1
     try clear hcz17_2
     try clear hcz7_0
     try clear hcz7_1
     try clear hcz7_2
     try clear hfz11_0
     try clear hfz11_1
     try clear hfz11_2
     try clear hfz17_0
     try clear hfz17_1
     try clear hfz17_2
     try clear hfz7_0
     try clear hfz7_1
     try clear hfz7_2
     try clear p2
     obtain ⟨x10_2, x11_2, x523000_2, x523001_2, x523002_2, rfl, HA, HK2, HO_10, HO_530002, BK522, BK529, HB⟩ := hrel
     cases gk with
     | zero => exact absurd HA.out (by simp [qb.l0])
     | succ k2 =>
      have H := HA.out
      clear HA
      simp only [qb.l0] at H
      by_cases c20 : x11_2 < (a2.size : Int)
      ·rw [if_pos c20] at H
       have c20b0 : decide (x11_2 < (a2.size : Int)) = true := decide_eq_true c20
       clear c20
       by_cases c21 : 0 ≤ x11_2
       ·rw [if_pos c21] at H
        have c21b0 := eq_true c21
        have c21b1 : decide (0 ≤ x11_2) = true := decide_eq_true c21
        clear c21
        by_cases c22 : x11_2 ≤ (wrap64 (x11_2 + 1))
        ·rw [if_pos c22] at H
         have c22b0 := eq_true c22
         have c22b1 : decide (x11_2 ≤ (wrap64 (x11_2 + 1))) = true := decide_eq_true c22
         by_cases c23 : (wrap64 (x11_2 + 1)) ≤ (a2.size : Int)
         ·rw [if_pos c23] at H
          have c23b0 := eq_true c23
          have c23b1 : decide ((wrap64 (x11_2 + 1)) ≤ (a2.size : Int)) = true := decide_eq_true c23
          replace H := Option.bind_eq_some_iff.mp H
          obtain ⟨t534, A240, H⟩ := H
          replace H : ((qPA.f k2 t523 t524 t525 x523000_2 x523001_2 x523002_2 t534).bind fun bt535 => (if bt535.2.2.2 = true then (if x10_2.length < 5864062014805 then (qb.l0 k2 a2 (x10_2 ++ [(⟨bt535.1, bt535.2.1, bt535.2.2.1⟩ : S27)]) (wrap64 (x11_2 + 1)) bt535.1 bt535.2.1 bt535.2.2.1 t523 t524 t525) else (none)) else (some (([] : List (S27)), false)))) = some (r1, r2) := H
          have A24 := Aside0.mk A240
          clear A240
          replace H := Option.bind_eq_some_iff.mp H
          obtain ⟨⟨t535, t536, t537, t538⟩, A250, H⟩ := H
          replace H : (if t538 = true then (if x10_2.length < 5864062014805 then (qb.l0 k2 a2 (x10_2 ++ [(⟨t535, t536, t537⟩ : S27)]) (wrap64 (x11_2 + 1)) t535 t536 t537 t523 t524 t525) else (none)) else (some (([] : List (S27)), false))) = some (r1, r2) := H
          have A25 := Aside0.mk A250
          clear A250
          by_cases c26 : t538 = true
          ·subst c26
           have H1 : (if x10_2.length < 5864062014805 then (qb.l0 k2 a2 (x10_2 ++ [(⟨t535, t536, t537⟩ : S27)]) (wrap64 (x11_2 + 1)) t535 t536 t537 t523 t524 t525) else (none)) = some (r1, r2) := by rw [if_pos rfl] at H; exact H
           clear H
           have H := H1
           clear H1
           by_cases c27 : x10_2.length < 5864062014805
           ·rw [if_pos c27] at H
            have LMc27 := Aside0.mk c27
            clear c27
            obtain ⟨y540, hy540⟩ : ∃ y_ : List (S27), y_ = (x10_2 ++ [(⟨t535, t536, t537⟩ : S27)]) := ⟨_, rfl⟩
            replace H : (qb.l0 k2 a2 y540 (wrap64 (x11_2 + 1)) t535 t536 t537 t523 t524 t525) = some (r1, r2) := by first | (rw [hy540]; with_reducible exact H) | (have H2_ := (Option.bind_some _ _).symm.trans H; rw [hy540]; with_reducible exact H2_) | (have H2_ := (Option.bind_some _ _).symm.trans H; with_reducible exact H2_) | with_reducible exact H | (rw [hy540]; exact H) | exact H
            have Ny540 := Aside0.mk hy540
            clear hy540
            have H' := Aside0.mk H
            clear H
            try go_wp2
            have n0_ := Aside0.mk (Kd.qZ HO_10.out)
            have n1_ := Aside0.mk (Kd.qZ HO_530002.out)
            have n2_ := Aside0.mk (qD BK522.out)
            have n3_ := Aside0.mk (qD BK529.out)
            have n4_ := Aside0.mk (qE HB.out)
            clear HO_10
            clear HO_530002
            clear BK522
            clear BK529
            clear HB
            have HO_10 := n0_
            have HO_530002 := n1_
            have BK522 := n2_
            have BK529 := n3_
            have HB := n4_
            clear n0_ n1_ n2_ n3_ n4_
            refine qBB (n := 15) (S := fun w' => w'.cell? ⟨gb529, 0, none⟩ = some (.int .i64 t523) ∧ w'.cell? ⟨gb529, 1, none⟩ = some (.int .i64 t524) ∧ w'.cell? ⟨gb529, 2, none⟩ = some (.slice Ao12 t525.length co12) ∧ w'.cell? ⟨gb522, 0, none⟩ = some (.int .i64 x523000_2) ∧ w'.cell? ⟨gb522, 1, none⟩ = some (.int .i64 x523001_2) ∧ w'.cell? ⟨gb522, 2, none⟩ = some (.int .i64 x523002_2)) (ds := []) #[false, false, false, false, false, false, false, false, false, false, false, false, false, false, false] (by kernel_rfl) rfl rfl ⟨(qI BK529.out 0).trans rfl, (qI BK529.out 1).trans rfl, (qI BK529.out 2).trans rfl, (qI BK522.out 0).trans rfl, (qI BK522.out 1).trans rfl, (qI BK522.out 2).trans rfl⟩ (fun hHeld => ?_); refine qcA qb.tab8 qb.bits8 (fun HT_ HW_ => ?_)
            generalize wr.drew = w28 at HO_10 HO_530002 BK522 BK529 HB hHeld ⊢
            refine pS (i := 2) (N := some 38) #[false, false, true, false, false, false, false, false, false, false, false, false, false, false, false] HT_ ?_
            refine pS (i := 3) (N := some 39) #[false, false, true, true, false, false, false, false, false, false, false, false, false, false, false] HT_ ?_
            refine pS (i := 4) (N := some 40) #[false, false, true, true, true, false, false, false, false, false, false, false, false, false, false] HT_ ?_
            refine pS (i := 5) (N := some 41) #[false, false, true, true, true, true, false, false, false, false, false, false, false, false, false] HT_ ?_
            refine pS (i := 6) (N := some 42) #[false, false, true, true, true, true, true, false, false, false, false, false, false, false, false] HT_ ?_
            refine take_ (i := 0) (N := some 36) (v := ?_) (a' := ?_) #[true, false, true, true, true, true, true, false, false, false, false, false, false, false, false] rfl rfl (qq HT_.out HW_.out (by kernel_rfl)) (fun _ _ _ h => h) (Or.inl ⟨by rfl, ?_⟩) hHeld ?_ ?_
            rotate_left
            ·rintro w' ⟨s0, s1, s2, s3, s4, s5⟩
             go_simp
             first | (with_reducible rfl) | (rw [if_neg (by simp only [ByteArray.size_extract, ByteArray.size_append] at * <;> omega)]; try with_reducible rfl)
            rotate_left
            ·simp only [Act.put, List.setIfInBounds_toArray, List.set_cons_zero, List.set_cons_succ, i64_w, i32_w]
             rfl
            refine take_ (i := 1) (N := some 37) (v := ?_) (a' := ?_) #[true, true, true, true, true, true, true, false, false, false, false, false, false, false, false] rfl rfl (qq HT_.out HW_.out (by kernel_rfl)) (fun _ _ _ h => h) (Or.inl ⟨by rfl, ?_⟩) hHeld ?_ ?_
            rotate_left
            ·rintro w' ⟨s0, s1, s2, s3, s4, s5⟩
             go_simp
             first | (with_reducible rfl) | (rw [if_neg (by simp only [ByteArray.size_extract, ByteArray.size_append] at * <;> omega)]; try with_reducible rfl)
            rotate_left
            ·simp only [Act.put, List.setIfInBounds_toArray, List.set_cons_zero, List.set_cons_succ, i64_w, i32_w]
             rfl
            refine join_ (σ := Nat) 2 #[true, true, true, true, true, true, true, true, true, true, true, true, true, false, false] (fun s_ => [(43, .int .i64 t534), (44, .tuple #[.agg #[.int .i64 t535, .int .i64 t536, .int .i64 t537], .bool true]), (12, .pointer (some ⟨s_, 0, none⟩)), (35, .tuple #[.agg #[.int .i64 t535, .int .i64 t536, .int .i64 t537], .bool true]), (45, .agg #[.int .i64 t535, .int .i64 t536, .int .i64 t537]), (46, .bool true)]) (fun s_ w' => (w'.cell? ⟨gb529, 0, none⟩ = some (.int .i64 t523) ∧ w'.cell? ⟨gb529, 1, none⟩ = some (.int .i64 t524) ∧ w'.cell? ⟨gb529, 2, none⟩ = some (.slice Ao12 t525.length co12) ∧ w'.cell? ⟨gb522, 0, none⟩ = some (.int .i64 x523000_2) ∧ w'.cell? ⟨gb522, 1, none⟩ = some (.int .i64 x523001_2) ∧ w'.cell? ⟨gb522, 2, none⟩ = some (.int .i64 x523002_2)) ∧ (Kd.R k27 27 w' w.heap.size (fun k_ => k_ ≠ gb522 ∧ k_ ≠ s_) u10 x10_2) ∧ (Kd.R (Kd.int .u8) 5 w' w.heap.size (fun _ => True) (.slice Ao12 t525.length co12) t525) ∧ (w'.heap[gb522]? = some (.cells #[.int .i64 x523000_2, .int .i64 x523001_2, .int .i64 x523002_2] 27 (0, 0))) ∧ (w'.heap[gb529]? = some (.cells #[.int .i64 t523, .int .i64 t524, .slice Ao12 t525.length co12] 57 (0, 0))) ∧ (w'.heap[s_]? = some (.cells #[.int .i64 0, .int .i64 0, .int .i64 0] 27 (0, 0))) ∧ (w.heap.size ≤ s_) ∧ (w.heap.size ≤ s_) ∧ (gb522 ≠ s_) ∧ (s_ ≠ gb522) ∧ (gb529 ≠ s_) ∧ (s_ ≠ gb529) ∧ (Below w.heap.size w w')) ?_ ?_
            rotate_left
            ·intro hCont
             refine two_ (i := 7) (j := 12) (Ni := some 43) (Nj := some 12) #[true, true, true, true, true, true, true, true, false, false, false, false, false, false, false] #[true, true, true, true, true, true, true, false, false, false, false, false, true, false, false] rfl rfl rfl rfl (qWB HT_.out (by kernel_rfl)) (by decide) (by decide) (fun K hK => ?_) (fun K hK => ?_)
             ·skip
              refine goes_ Tryd.func63 (by kernel_rfl) rfl #[.string (a2.extract (x11_2 : Int).toNat ((wrap64 (x11_2 + 1)) : Int).toNat)] (by rfl) rfl rfl (by (try simp only [List.map_toArray, List.map_cons, List.map_nil]); first | done | rfl | (simp only [List.length_drop, List.length_take]; rfl)) ?_
              with_reducible refine (qz.calls k2 (a2.extract (x11_2 : Int).toNat ((wrap64 (x11_2 + 1)) : Int).toNat) t534 _ A24.out).mono ?_
              rintro e w' ⟨rfl, ⟨nd, rfl⟩⟩
              refine ⟨_, rfl, ?_⟩
              refine hK.out _ _ ⟨(qI BK529.out 0).trans rfl, (qI BK529.out 1).trans rfl, (qI BK529.out 2).trans rfl, (qI BK522.out 0).trans rfl, (qI BK522.out 1).trans rfl, (qI BK522.out 2).trans rfl⟩ (fun hHeld => ?_)
              clear hK K
              refine norm_ (a' := ?_) ?_ ?_
              rotate_left
              ·show Act.put _ (some 43) _ = _
               simp only [Act.put, List.setIfInBounds_toArray, List.set_cons_zero, List.set_cons_succ, i64_w, i32_w]
               rfl
              refine two_ (i := 8) (j := 12) (Ni := some 44) (Nj := some 12) #[true, true, true, true, true, true, true, true, true, false, false, false, false, false, false] #[true, true, true, true, true, true, true, true, false, false, false, false, true, false, false] rfl rfl rfl rfl (qWB HT_.out (by kernel_rfl)) (by decide) (by decide) (fun K hK => ?_) (fun K hK => ?_)
              ·skip
               refine goes_ Tryd.func60 (by kernel_rfl) rfl #[.agg #[.int .i64 t523, .int .i64 t524, .slice Ao12 t525.length co12], .agg #[.int .i64 x523000_2, .int .i64 x523001_2, .int .i64 x523002_2], .int .i64 t534] (by rfl) rfl rfl (by (try simp only [List.map_toArray, List.map_cons, List.map_nil]); first | done | rfl | (simp only [List.length_drop, List.length_take]; rfl)) ?_
               with_reducible refine (qPA.calls k2 t523 t524 _ _ t525 x523000_2 x523001_2 x523002_2 t534 t535 t536 t537 true _ ?side1 ?side2 A25.out).mono ?_
               (case side1 => repeat (first | exact (Kd.qh HO_530002.out).2.2 | (with_reducible refine Kd.qOA ?_ _) | (with_reducible refine Kd.qNA ?_ _) | (with_reducible refine Kd.qXA ?_)))
               (case side2 => exact (Kd.qh HO_530002.out).2.1)
               rintro e w29 ⟨rfl, hb⟩
               refine ⟨_, rfl, ?_⟩
               have n0_ := Aside0.mk (Kd.qi (by (with_reducible repeat (first | apply Kd.qT | apply Kd.qS | apply Kd.qZ)); exact HO_10.out) hb)
               have n1_ := Aside0.mk (Kd.qi (by (with_reducible repeat (first | apply Kd.qT | apply Kd.qS | apply Kd.qZ)); exact HO_530002.out) hb)
               have n2_ := Aside0.mk (qK (g := gb522) (o := .cells #[.int .i64 x523000_2, .int .i64 x523001_2, .int .i64 x523002_2] 27 (0, 0)) (by (with_reducible repeat (first | refine qC ?_ _ | refine qD ?_ | refine qB ?_ _)); exact BK522.out) hb)
               have n3_ := Aside0.mk (qK (g := gb529) (o := .cells #[.int .i64 t523, .int .i64 t524, .slice Ao12 t525.length co12] 57 (0, 0)) (by (with_reducible repeat (first | refine qC ?_ _ | refine qD ?_ | refine qB ?_ _)); exact BK529.out) hb)
               have n4_ := Aside0.mk (qL (by repeat (first | (with_reducible first | exact HB.out | apply qF | apply qA | apply qE | refine qG ?_ GE522.out | refine qG ?_ GE529.out) | exact HB.out)) hb)
               clear HO_10
               clear HO_530002
               clear BK522
               clear BK529
               clear HB
               have HO_10 := n0_
               have HO_530002 := n1_
               have BK522 := n2_
               have BK529 := n3_
               have HB := n4_
               clear n0_ n1_ n2_ n3_ n4_
               (try clear hb)
               (try clear hb2)
               (try clear hk)
               (try clear hi)
               refine hK.out _ _ ⟨(qI BK529.out 0).trans rfl, (qI BK529.out 1).trans rfl, (qI BK529.out 2).trans rfl, (qI BK522.out 0).trans rfl, (qI BK522.out 1).trans rfl, (qI BK522.out 2).trans rfl⟩ (fun hHeld => ?_)
               clear hK K
               refine norm_ (a' := ?_) ?_ ?_
               rotate_left
               ·show Act.put _ (some 44) _ = _
                simp only [Act.put, List.setIfInBounds_toArray, List.set_cons_zero, List.set_cons_succ, i64_w, i32_w]
                rfl
               refine pS (i := 9) (N := some 35) #[true, true, true, true, true, true, true, true, true, true, false, false, false, false, false] HT_ ?_
               refine pS (i := 10) (N := some 45) #[true, true, true, true, true, true, true, true, true, true, true, false, false, false, false] HT_ ?_
               refine pS (i := 11) (N := some 46) #[true, true, true, true, true, true, true, true, true, true, true, true, false, false, false] HT_ ?_
               refine one_ (i := 12) (N := some 12) #[true, true, true, true, true, true, true, true, true, true, true, true, true, false, false] rfl rfl (qWA HT_.out (by kernel_rfl)) (by decide) (fun K hK => ?_)
               refine qmA ?hg (N := 12) ?hd (cs := #[.int .i64 0, .int .i64 0, .int .i64 0]) (t := 27) ?hr ?_; (case hd => rfl); (case hg => rfl); (case hr => first | (go_simp; done) | (go_simp; rfl))
               intro gb539 hg w30 hbox hb
               have n0_ := Aside0.mk (Kd.qi (Kd.qnA (by (with_reducible repeat (first | apply Kd.qT | apply Kd.qS | apply Kd.qZ)); exact HO_10.out) gb539 (Nat.le_of_eq hg.symm)) hb)
               have n1_ := Aside0.mk (Kd.qi (by (with_reducible repeat (first | apply Kd.qT | apply Kd.qS | apply Kd.qZ)); exact HO_530002.out) hb)
               have n2_ := Aside0.mk (qK (g := gb522) (o := .cells #[.int .i64 x523000_2, .int .i64 x523001_2, .int .i64 x523002_2] 27 (0, 0)) (by (with_reducible repeat (first | refine qC ?_ _ | refine qD ?_ | refine qB ?_ _)); exact BK522.out) hb)
               have n3_ := Aside0.mk (qK (g := gb529) (o := .cells #[.int .i64 t523, .int .i64 t524, .slice Ao12 t525.length co12] 57 (0, 0)) (by (with_reducible repeat (first | refine qC ?_ _ | refine qD ?_ | refine qB ?_ _)); exact BK529.out) hb)
               have n4_ := Aside0.mk (qL (by repeat (first | (with_reducible first | exact HB.out | apply qF | apply qA | apply qE | refine qG ?_ GE522.out | refine qG ?_ GE529.out) | exact HB.out)) hb)
               have n5_ := Aside0.mk (hbox)
               have n6_ := Aside0.mk ((by rw [hg]; exact (qJ (by repeat (first | (with_reducible first | exact HB.out | apply qF | apply qA | apply qE | refine qG ?_ GE522.out | refine qG ?_ GE529.out) | exact HB.out))) : w.heap.size ≤ gb539))
               have n7_ := Aside0.mk ((by rw [hg]; exact (qJ (by repeat (first | (with_reducible first | exact HB.out | apply qF | apply qA | apply qE | refine qG ?_ GE522.out | refine qG ?_ GE529.out) | exact HB.out))) : w.heap.size ≤ gb539))
               have n8_ := Aside0.mk ((by rw [hg]; exact Nat.ne_of_lt (qd (g := gb522) (o := .cells #[.int .i64 x523000_2, .int .i64 x523001_2, .int .i64 x523002_2] 27 (0, 0)) (by (with_reducible repeat (first | refine qC ?_ _ | refine qD ?_ | refine qB ?_ _)); exact BK522.out)) : gb522 ≠ gb539))
               have n9_ := Aside0.mk ((by rw [hg]; exact Nat.ne_of_gt (qd (g := gb522) (o := .cells #[.int .i64 x523000_2, .int .i64 x523001_2, .int .i64 x523002_2] 27 (0, 0)) (by (with_reducible repeat (first | refine qC ?_ _ | refine qD ?_ | refine qB ?_ _)); exact BK522.out)) : gb539 ≠ gb522))
               have n10_ := Aside0.mk ((by rw [hg]; exact Nat.ne_of_lt (qd (g := gb529) (o := .cells #[.int .i64 t523, .int .i64 t524, .slice Ao12 t525.length co12] 57 (0, 0)) (by (with_reducible repeat (first | refine qC ?_ _ | refine qD ?_ | refine qB ?_ _)); exact BK529.out)) : gb529 ≠ gb539))
               have n11_ := Aside0.mk ((by rw [hg]; exact Nat.ne_of_gt (qd (g := gb529) (o := .cells #[.int .i64 t523, .int .i64 t524, .slice Ao12 t525.length co12] 57 (0, 0)) (by (with_reducible repeat (first | refine qC ?_ _ | refine qD ?_ | refine qB ?_ _)); exact BK529.out)) : gb539 ≠ gb529))
               clear HO_10
               clear HO_530002
               clear BK522
               clear BK529
               clear HB
               have HO_10 := n0_
               have HO_530002 := n1_
               have BK522 := n2_
               have BK529 := n3_
               have HB := n4_
               have BK539 := n5_
               have GW539 := n6_
               have GE539 := n7_
               have NB522_539 := n8_
               have NB539_522 := n9_
               have NB529_539 := n10_
               have NB539_529 := n11_
               clear n0_ n1_ n2_ n3_ n4_ n5_ n6_ n7_ n8_ n9_ n10_ n11_
               clear hb hbox hg
               refine hK.out _ _ ⟨(qI BK529.out 0).trans rfl, (qI BK529.out 1).trans rfl, (qI BK529.out 2).trans rfl, (qI BK522.out 0).trans rfl, (qI BK522.out 1).trans rfl, (qI BK522.out 2).trans rfl⟩ (fun hHeld => ?_)
               clear hK K
               refine norm_ (a' := ?_) ?_ ?_
               rotate_left
               ·show Act.put _ (some 12) _ = _
                simp only [Act.put, List.setIfInBounds_toArray, List.set_cons_zero, List.set_cons_succ, i64_w, i32_w]
                rfl
               exact norm_ (by simp only [putAll, Act.put, List.setIfInBounds_toArray, List.set_cons_zero, List.set_cons_succ]) (hCont (gb539) _ ⟨hHeld, (by (with_reducible repeat (first | apply Kd.qT | apply Kd.qS | apply Kd.qZ)); exact HO_10.out), (by (with_reducible repeat (first | apply Kd.qT | apply Kd.qS | apply Kd.qZ)); exact HO_530002.out), (by (with_reducible repeat (first | refine qC ?_ _ | refine qD ?_ | refine qB ?_ _)); exact BK522.out), (by (with_reducible repeat (first | refine qC ?_ _ | refine qD ?_ | refine qB ?_ _)); exact BK529.out), (by (with_reducible repeat (first | refine qC ?_ _ | refine qD ?_ | refine qB ?_ _)); exact BK539.out), GW539.out, GE539.out, NB522_539.out, NB539_522.out, NB529_539.out, NB539_529.out, (by repeat (first | (with_reducible first | exact HB.out | apply qF | apply qA | apply qE | refine qG ?_ GE522.out | refine qG ?_ GE529.out | refine qG ?_ GE539.out) | exact HB.out))⟩)
              ·skip
               refine qmA ?hg (N := 12) ?hd (cs := #[.int .i64 0, .int .i64 0, .int .i64 0]) (t := 27) ?hr ?_; (case hd => rfl); (case hg => rfl); (case hr => first | (go_simp; done) | (go_simp; rfl))
               intro gb539 hg w29 hbox hb
               have n0_ := Aside0.mk (Kd.qi (Kd.qnA (by (with_reducible repeat (first | apply Kd.qT | apply Kd.qS | apply Kd.qZ)); exact HO_10.out) gb539 (Nat.le_of_eq hg.symm)) hb)
               have n1_ := Aside0.mk (Kd.qi (by (with_reducible repeat (first | apply Kd.qT | apply Kd.qS | apply Kd.qZ)); exact HO_530002.out) hb)
               have n2_ := Aside0.mk (qK (g := gb522) (o := .cells #[.int .i64 x523000_2, .int .i64 x523001_2, .int .i64 x523002_2] 27 (0, 0)) (by (with_reducible repeat (first | refine qC ?_ _ | refine qD ?_ | refine qB ?_ _)); exact BK522.out) hb)
               have n3_ := Aside0.mk (qK (g := gb529) (o := .cells #[.int .i64 t523, .int .i64 t524, .slice Ao12 t525.length co12] 57 (0, 0)) (by (with_reducible repeat (first | refine qC ?_ _ | refine qD ?_ | refine qB ?_ _)); exact BK529.out) hb)
               have n4_ := Aside0.mk (qL (by repeat (first | (with_reducible first | exact HB.out | apply qF | apply qA | apply qE | refine qG ?_ GE522.out | refine qG ?_ GE529.out) | exact HB.out)) hb)
               have n5_ := Aside0.mk (hbox)
               have n6_ := Aside0.mk ((by rw [hg]; exact (qJ (by repeat (first | (with_reducible first | exact HB.out | apply qF | apply qA | apply qE | refine qG ?_ GE522.out | refine qG ?_ GE529.out) | exact HB.out))) : w.heap.size ≤ gb539))
               have n7_ := Aside0.mk ((by rw [hg]; exact (qJ (by repeat (first | (with_reducible first | exact HB.out | apply qF | apply qA | apply qE | refine qG ?_ GE522.out | refine qG ?_ GE529.out) | exact HB.out))) : w.heap.size ≤ gb539))
               have n8_ := Aside0.mk ((by rw [hg]; exact Nat.ne_of_lt (qd (g := gb522) (o := .cells #[.int .i64 x523000_2, .int .i64 x523001_2, .int .i64 x523002_2] 27 (0, 0)) (by (with_reducible repeat (first | refine qC ?_ _ | refine qD ?_ | refine qB ?_ _)); exact BK522.out)) : gb522 ≠ gb539))
               have n9_ := Aside0.mk ((by rw [hg]; exact Nat.ne_of_gt (qd (g := gb522) (o := .cells #[.int .i64 x523000_2, .int .i64 x523001_2, .int .i64 x523002_2] 27 (0, 0)) (by (with_reducible repeat (first | refine qC ?_ _ | refine qD ?_ | refine qB ?_ _)); exact BK522.out)) : gb539 ≠ gb522))
               have n10_ := Aside0.mk ((by rw [hg]; exact Nat.ne_of_lt (qd (g := gb529) (o := .cells #[.int .i64 t523, .int .i64 t524, .slice Ao12 t525.length co12] 57 (0, 0)) (by (with_reducible repeat (first | refine qC ?_ _ | refine qD ?_ | refine qB ?_ _)); exact BK529.out)) : gb529 ≠ gb539))
               have n11_ := Aside0.mk ((by rw [hg]; exact Nat.ne_of_gt (qd (g := gb529) (o := .cells #[.int .i64 t523, .int .i64 t524, .slice Ao12 t525.length co12] 57 (0, 0)) (by (with_reducible repeat (first | refine qC ?_ _ | refine qD ?_ | refine qB ?_ _)); exact BK529.out)) : gb539 ≠ gb529))
               clear HO_10
               clear HO_530002
               clear BK522
               clear BK529
               clear HB
               have HO_10 := n0_
               have HO_530002 := n1_
               have BK522 := n2_
               have BK529 := n3_
               have HB := n4_
               have BK539 := n5_
               have GW539 := n6_
               have GE539 := n7_
               have NB522_539 := n8_
               have NB539_522 := n9_
               have NB529_539 := n10_
               have NB539_529 := n11_
               clear n0_ n1_ n2_ n3_ n4_ n5_ n6_ n7_ n8_ n9_ n10_ n11_
               clear hb hbox hg
               refine hK.out _ _ ⟨(qI BK529.out 0).trans rfl, (qI BK529.out 1).trans rfl, (qI BK529.out 2).trans rfl, (qI BK522.out 0).trans rfl, (qI BK522.out 1).trans rfl, (qI BK522.out 2).trans rfl⟩ (fun hHeld => ?_)
               clear hK K
               refine norm_ (a' := ?_) ?_ ?_
               rotate_left
               ·show Act.put _ (some 12) _ = _
                simp only [Act.put, List.setIfInBounds_toArray, List.set_cons_zero, List.set_cons_succ, i64_w, i32_w]
                rfl
               refine one_ (i := 8) (N := some 44) #[true, true, true, true, true, true, true, true, true, false, false, false, true, false, false] rfl rfl (qWA HT_.out (by kernel_rfl)) (by decide) (fun K hK => ?_)
               refine goes_ Tryd.func60 (by kernel_rfl) rfl #[.agg #[.int .i64 t523, .int .i64 t524, .slice Ao12 t525.length co12], .agg #[.int .i64 x523000_2, .int .i64 x523001_2, .int .i64 x523002_2], .int .i64 t534] (by rfl) rfl rfl (by (try simp only [List.map_toArray, List.map_cons, List.map_nil]); first | done | rfl | (simp only [List.length_drop, List.length_take]; rfl)) ?_
               with_reducible refine (qPA.calls k2 t523 t524 _ _ t525 x523000_2 x523001_2 x523002_2 t534 t535 t536 t537 true _ ?side1 ?side2 A25.out).mono ?_
               (case side1 => repeat (first | exact (Kd.qh HO_530002.out).2.2 | (with_reducible refine Kd.qOA ?_ _) | (with_reducible refine Kd.qNA ?_ _) | (with_reducible refine Kd.qXA ?_)))
               (case side2 => exact (Kd.qh HO_530002.out).2.1)
               rintro e w30 ⟨rfl, hb⟩
               refine ⟨_, rfl, ?_⟩
               have n0_ := Aside0.mk (Kd.qi (by (with_reducible repeat (first | apply Kd.qT | apply Kd.qS | apply Kd.qZ)); exact HO_10.out) hb)
               have n1_ := Aside0.mk (Kd.qi (by (with_reducible repeat (first | apply Kd.qT | apply Kd.qS | apply Kd.qZ)); exact HO_530002.out) hb)
               have n2_ := Aside0.mk (qK (g := gb522) (o := .cells #[.int .i64 x523000_2, .int .i64 x523001_2, .int .i64 x523002_2] 27 (0, 0)) (by (with_reducible repeat (first | refine qC ?_ _ | refine qD ?_ | refine qB ?_ _)); exact BK522.out) hb)
               have n3_ := Aside0.mk (qK (g := gb529) (o := .cells #[.int .i64 t523, .int .i64 t524, .slice Ao12 t525.length co12] 57 (0, 0)) (by (with_reducible repeat (first | refine qC ?_ _ | refine qD ?_ | refine qB ?_ _)); exact BK529.out) hb)
               have n4_ := Aside0.mk (qK (g := gb539) (o := .cells #[.int .i64 0, .int .i64 0, .int .i64 0] 27 (0, 0)) (by (with_reducible repeat (first | refine qC ?_ _ | refine qD ?_ | refine qB ?_ _)); exact BK539.out) hb)
               have n5_ := Aside0.mk (qL (by repeat (first | (with_reducible first | exact HB.out | apply qF | apply qA | apply qE | refine qG ?_ GE522.out | refine qG ?_ GE529.out | refine qG ?_ GE539.out) | exact HB.out)) hb)
               clear HO_10
               clear HO_530002
               clear BK522
               clear BK529
               clear BK539
               clear HB
               have HO_10 := n0_
               have HO_530002 := n1_
               have BK522 := n2_
               have BK529 := n3_
               have BK539 := n4_
               have HB := n5_
               clear n0_ n1_ n2_ n3_ n4_ n5_
               (try clear hb)
               (try clear hb2)
               (try clear hk)
               (try clear hi)
               refine hK.out _ _ ⟨(qI BK529.out 0).trans rfl, (qI BK529.out 1).trans rfl, (qI BK529.out 2).trans rfl, (qI BK522.out 0).trans rfl, (qI BK522.out 1).trans rfl, (qI BK522.out 2).trans rfl⟩ (fun hHeld => ?_)
               clear hK K
               refine norm_ (a' := ?_) ?_ ?_
               rotate_left
               ·show Act.put _ (some 44) _ = _
                simp only [Act.put, List.setIfInBounds_toArray, List.set_cons_zero, List.set_cons_succ, i64_w, i32_w]
                rfl
               refine pS (i := 9) (N := some 35) #[true, true, true, true, true, true, true, true, true, true, false, false, true, false, false] HT_ ?_
               refine pS (i := 10) (N := some 45) #[true, true, true, true, true, true, true, true, true, true, true, false, true, false, false] HT_ ?_
               refine pS (i := 11) (N := some 46) #[true, true, true, true, true, true, true, true, true, true, true, true, true, false, false] HT_ ?_
               exact norm_ (by simp only [putAll, Act.put, List.setIfInBounds_toArray, List.set_cons_zero, List.set_cons_succ]) (hCont (gb539) _ ⟨hHeld, (by (with_reducible repeat (first | apply Kd.qT | apply Kd.qS | apply Kd.qZ)); exact HO_10.out), (by (with_reducible repeat (first | apply Kd.qT | apply Kd.qS | apply Kd.qZ)); exact HO_530002.out), (by (with_reducible repeat (first | refine qC ?_ _ | refine qD ?_ | refine qB ?_ _)); exact BK522.out), (by (with_reducible repeat (first | refine qC ?_ _ | refine qD ?_ | refine qB ?_ _)); exact BK529.out), (by (with_reducible repeat (first | refine qC ?_ _ | refine qD ?_ | refine qB ?_ _)); exact BK539.out), GW539.out, GE539.out, NB522_539.out, NB539_522.out, NB529_539.out, NB539_529.out, (by repeat (first | (with_reducible first | exact HB.out | apply qF | apply qA | apply qE | refine qG ?_ GE522.out | refine qG ?_ GE529.out | refine qG ?_ GE539.out) | exact HB.out))⟩)
             ·skip
              refine qmA ?hg (N := 12) ?hd (cs := #[.int .i64 0, .int .i64 0, .int .i64 0]) (t := 27) ?hr ?_; (case hd => rfl); (case hg => rfl); (case hr => first | (go_simp; done) | (go_simp; rfl))
              intro gb539 hg w29 hbox hb
              have n0_ := Aside0.mk (Kd.qi (Kd.qnA (by (with_reducible repeat (first | apply Kd.qT | apply Kd.qS | apply Kd.qZ)); exact HO_10.out) gb539 (Nat.le_of_eq hg.symm)) hb)
              have n1_ := Aside0.mk (Kd.qi (by (with_reducible repeat (first | apply Kd.qT | apply Kd.qS | apply Kd.qZ)); exact HO_530002.out) hb)
              have n2_ := Aside0.mk (qK (g := gb522) (o := .cells #[.int .i64 x523000_2, .int .i64 x523001_2, .int .i64 x523002_2] 27 (0, 0)) (by (with_reducible repeat (first | refine qC ?_ _ | refine qD ?_ | refine qB ?_ _)); exact BK522.out) hb)
              have n3_ := Aside0.mk (qK (g := gb529) (o := .cells #[.int .i64 t523, .int .i64 t524, .slice Ao12 t525.length co12] 57 (0, 0)) (by (with_reducible repeat (first | refine qC ?_ _ | refine qD ?_ | refine qB ?_ _)); exact BK529.out) hb)
              have n4_ := Aside0.mk (qL (by repeat (first | (with_reducible first | exact HB.out | apply qF | apply qA | apply qE | refine qG ?_ GE522.out | refine qG ?_ GE529.out) | exact HB.out)) hb)
              have n5_ := Aside0.mk (hbox)
              have n6_ := Aside0.mk ((by rw [hg]; exact (qJ (by repeat (first | (with_reducible first | exact HB.out | apply qF | apply qA | apply qE | refine qG ?_ GE522.out | refine qG ?_ GE529.out) | exact HB.out))) : w.heap.size ≤ gb539))
              have n7_ := Aside0.mk ((by rw [hg]; exact (qJ (by repeat (first | (with_reducible first | exact HB.out | apply qF | apply qA | apply qE | refine qG ?_ GE522.out | refine qG ?_ GE529.out) | exact HB.out))) : w.heap.size ≤ gb539))
              have n8_ := Aside0.mk ((by rw [hg]; exact Nat.ne_of_lt (qd (g := gb522) (o := .cells #[.int .i64 x523000_2, .int .i64 x523001_2, .int .i64 x523002_2] 27 (0, 0)) (by (with_reducible repeat (first | refine qC ?_ _ | refine qD ?_ | refine qB ?_ _)); exact BK522.out)) : gb522 ≠ gb539))
              have n9_ := Aside0.mk ((by rw [hg]; exact Nat.ne_of_gt (qd (g := gb522) (o := .cells #[.int .i64 x523000_2, .int .i64 x523001_2, .int .i64 x523002_2] 27 (0, 0)) (by (with_reducible repeat (first | refine qC ?_ _ | refine qD ?_ | refine qB ?_ _)); exact BK522.out)) : gb539 ≠ gb522))
              have n10_ := Aside0.mk ((by rw [hg]; exact Nat.ne_of_lt (qd (g := gb529) (o := .cells #[.int .i64 t523, .int .i64 t524, .slice Ao12 t525.length co12] 57 (0, 0)) (by (with_reducible repeat (first | refine qC ?_ _ | refine qD ?_ | refine qB ?_ _)); exact BK529.out)) : gb529 ≠ gb539))
              have n11_ := Aside0.mk ((by rw [hg]; exact Nat.ne_of_gt (qd (g := gb529) (o := .cells #[.int .i64 t523, .int .i64 t524, .slice Ao12 t525.length co12] 57 (0, 0)) (by (with_reducible repeat (first | refine qC ?_ _ | refine qD ?_ | refine qB ?_ _)); exact BK529.out)) : gb539 ≠ gb529))
              clear HO_10
              clear HO_530002
              clear BK522
              clear BK529
              clear HB
              have HO_10 := n0_
              have HO_530002 := n1_
              have BK522 := n2_
              have BK529 := n3_
              have HB := n4_
              have BK539 := n5_
              have GW539 := n6_
              have GE539 := n7_
              have NB522_539 := n8_
              have NB539_522 := n9_
              have NB529_539 := n10_
              have NB539_529 := n11_
              clear n0_ n1_ n2_ n3_ n4_ n5_ n6_ n7_ n8_ n9_ n10_ n11_
              clear hb hbox hg
              refine hK.out _ _ ⟨(qI BK529.out 0).trans rfl, (qI BK529.out 1).trans rfl, (qI BK529.out 2).trans rfl, (qI BK522.out 0).trans rfl, (qI BK522.out 1).trans rfl, (qI BK522.out 2).trans rfl⟩ (fun hHeld => ?_)
              clear hK K
              refine norm_ (a' := ?_) ?_ ?_
              rotate_left
              ·show Act.put _ (some 12) _ = _
               simp only [Act.put, List.setIfInBounds_toArray, List.set_cons_zero, List.set_cons_succ, i64_w, i32_w]
               rfl
              refine one_ (i := 7) (N := some 43) #[true, true, true, true, true, true, true, true, false, false, false, false, true, false, false] rfl rfl (qWA HT_.out (by kernel_rfl)) (by decide) (fun K hK => ?_)
              refine goes_ Tryd.func63 (by kernel_rfl) rfl #[.string (a2.extract (x11_2 : Int).toNat ((wrap64 (x11_2 + 1)) : Int).toNat)] (by rfl) rfl rfl (by (try simp only [List.map_toArray, List.map_cons, List.map_nil]); first | done | rfl | (simp only [List.length_drop, List.length_take]; rfl)) ?_
              with_reducible refine (qz.calls k2 (a2.extract (x11_2 : Int).toNat ((wrap64 (x11_2 + 1)) : Int).toNat) t534 _ A24.out).mono ?_
              rintro e w' ⟨rfl, ⟨nd, rfl⟩⟩
              refine ⟨_, rfl, ?_⟩
              refine hK.out _ _ ⟨(qI BK529.out 0).trans rfl, (qI BK529.out 1).trans rfl, (qI BK529.out 2).trans rfl, (qI BK522.out 0).trans rfl, (qI BK522.out 1).trans rfl, (qI BK522.out 2).trans rfl⟩ (fun hHeld => ?_)
              clear hK K
              refine norm_ (a' := ?_) ?_ ?_
              rotate_left
              ·show Act.put _ (some 43) _ = _
               simp only [Act.put, List.setIfInBounds_toArray, List.set_cons_zero, List.set_cons_succ, i64_w, i32_w]
               rfl
              refine one_ (i := 8) (N := some 44) #[true, true, true, true, true, true, true, true, true, false, false, false, true, false, false] rfl rfl (qWA HT_.out (by kernel_rfl)) (by decide) (fun K hK => ?_)
              refine goes_ Tryd.func60 (by kernel_rfl) rfl #[.agg #[.int .i64 t523, .int .i64 t524, .slice Ao12 t525.length co12], .agg #[.int .i64 x523000_2, .int .i64 x523001_2, .int .i64 x523002_2], .int .i64 t534] (by rfl) rfl rfl (by (try simp only [List.map_toArray, List.map_cons, List.map_nil]); first | done | rfl | (simp only [List.length_drop, List.length_take]; rfl)) ?_
              with_reducible refine (qPA.calls k2 t523 t524 _ _ t525 x523000_2 x523001_2 x523002_2 t534 t535 t536 t537 true _ ?side1 ?side2 A25.out).mono ?_
              (case side1 => repeat (first | exact (Kd.qh HO_530002.out).2.2 | (with_reducible refine Kd.qOA ?_ _) | (with_reducible refine Kd.qNA ?_ _) | (with_reducible refine Kd.qXA ?_)))
              (case side2 => exact (Kd.qh HO_530002.out).2.1)
              rintro e w30 ⟨rfl, hb⟩
              refine ⟨_, rfl, ?_⟩
              have n0_ := Aside0.mk (Kd.qi (by (with_reducible repeat (first | apply Kd.qT | apply Kd.qS | apply Kd.qZ)); exact HO_10.out) hb)
              have n1_ := Aside0.mk (Kd.qi (by (with_reducible repeat (first | apply Kd.qT | apply Kd.qS | apply Kd.qZ)); exact HO_530002.out) hb)
              have n2_ := Aside0.mk (qK (g := gb522) (o := .cells #[.int .i64 x523000_2, .int .i64 x523001_2, .int .i64 x523002_2] 27 (0, 0)) (by (with_reducible repeat (first | refine qC ?_ _ | refine qD ?_ | refine qB ?_ _)); exact BK522.out) hb)
              have n3_ := Aside0.mk (qK (g := gb529) (o := .cells #[.int .i64 t523, .int .i64 t524, .slice Ao12 t525.length co12] 57 (0, 0)) (by (with_reducible repeat (first | refine qC ?_ _ | refine qD ?_ | refine qB ?_ _)); exact BK529.out) hb)
              have n4_ := Aside0.mk (qK (g := gb539) (o := .cells #[.int .i64 0, .int .i64 0, .int .i64 0] 27 (0, 0)) (by (with_reducible repeat (first | refine qC ?_ _ | refine qD ?_ | refine qB ?_ _)); exact BK539.out) hb)
              have n5_ := Aside0.mk (qL (by repeat (first | (with_reducible first | exact HB.out | apply qF | apply qA | apply qE | refine qG ?_ GE522.out | refine qG ?_ GE529.out | refine qG ?_ GE539.out) | exact HB.out)) hb)
              clear HO_10
              clear HO_530002
              clear BK522
              clear BK529
              clear BK539
              clear HB
              have HO_10 := n0_
              have HO_530002 := n1_
              have BK522 := n2_
              have BK529 := n3_
              have BK539 := n4_
              have HB := n5_
              clear n0_ n1_ n2_ n3_ n4_ n5_
              (try clear hb)
              (try clear hb2)
              (try clear hk)
              (try clear hi)
              refine hK.out _ _ ⟨(qI BK529.out 0).trans rfl, (qI BK529.out 1).trans rfl, (qI BK529.out 2).trans rfl, (qI BK522.out 0).trans rfl, (qI BK522.out 1).trans rfl, (qI BK522.out 2).trans rfl⟩ (fun hHeld => ?_)
              clear hK K
              refine norm_ (a' := ?_) ?_ ?_
              rotate_left
              ·show Act.put _ (some 44) _ = _
               simp only [Act.put, List.setIfInBounds_toArray, List.set_cons_zero, List.set_cons_succ, i64_w, i32_w]
               rfl
              refine pS (i := 9) (N := some 35) #[true, true, true, true, true, true, true, true, true, true, false, false, true, false, false] HT_ ?_
              refine pS (i := 10) (N := some 45) #[true, true, true, true, true, true, true, true, true, true, true, false, true, false, false] HT_ ?_
              refine pS (i := 11) (N := some 46) #[true, true, true, true, true, true, true, true, true, true, true, true, true, false, false] HT_ ?_
              exact norm_ (by simp only [putAll, Act.put, List.setIfInBounds_toArray, List.set_cons_zero, List.set_cons_succ]) (hCont (gb539) _ ⟨hHeld, (by (with_reducible repeat (first | apply Kd.qT | apply Kd.qS | apply Kd.qZ)); exact HO_10.out), (by (with_reducible repeat (first | apply Kd.qT | apply Kd.qS | apply Kd.qZ)); exact HO_530002.out), (by (with_reducible repeat (first | refine qC ?_ _ | refine qD ?_ | refine qB ?_ _)); exact BK522.out), (by (with_reducible repeat (first | refine qC ?_ _ | refine qD ?_ | refine qB ?_ _)); exact BK529.out), (by (with_reducible repeat (first | refine qC ?_ _ | refine qD ?_ | refine qB ?_ _)); exact BK539.out), GW539.out, GE539.out, NB522_539.out, NB539_522.out, NB529_539.out, NB539_529.out, (by repeat (first | (with_reducible first | exact HB.out | apply qF | apply qA | apply qE | refine qG ?_ GE522.out | refine qG ?_ GE529.out | refine qG ?_ GE539.out) | exact HB.out))⟩)
            rintro gb539 w31 ⟨hS_, h0_, h1_, h2_, h3_, h4_, h5_, h6_, h7_, h8_, h9_, h10_, h11_⟩
            have n0_ : Aside0 (Kd.R k27 27 w31 w.heap.size (fun k_ => k_ ≠ gb522 ∧ k_ ≠ gb539) u10 x10_2) := ⟨h0_⟩
            have n1_ : Aside0 (Kd.R (Kd.int .u8) 5 w31 w.heap.size (fun _ => True) (.slice Ao12 t525.length co12) t525) := ⟨h1_⟩
            have n2_ : Aside0 (w31.heap[gb522]? = some (.cells #[.int .i64 x523000_2, .int .i64 x523001_2, .int .i64 x523002_2] 27 (0, 0))) := ⟨h2_⟩
            have n3_ : Aside0 (w31.heap[gb529]? = some (.cells #[.int .i64 t523, .int .i64 t524, .slice Ao12 t525.length co12] 57 (0, 0))) := ⟨h3_⟩
            have n4_ : Aside0 (w31.heap[gb539]? = some (.cells #[.int .i64 0, .int .i64 0, .int .i64 0] 27 (0, 0))) := ⟨h4_⟩
            have n5_ : Aside0 (w.heap.size ≤ gb539) := ⟨h5_⟩
            have n6_ : Aside0 (w.heap.size ≤ gb539) := ⟨h6_⟩
            have n7_ : Aside0 (gb522 ≠ gb539) := ⟨h7_⟩
            have n8_ : Aside0 (gb539 ≠ gb522) := ⟨h8_⟩
            have n9_ : Aside0 (gb529 ≠ gb539) := ⟨h9_⟩
            have n10_ : Aside0 (gb539 ≠ gb529) := ⟨h10_⟩
            have n11_ : Aside0 (Below w.heap.size w w31) := ⟨h11_⟩
            clear HO_10
            clear HO_530002
            clear BK522
            clear BK529
            clear HB
            clear h0_ h1_ h2_ h3_ h4_ h5_ h6_ h7_ h8_ h9_ h10_ h11_
            have HO_10 := n0_
            have HO_530002 := n1_
            have BK522 := n2_
            have BK529 := n3_
            have BK539 := n4_
            have GW539 := n5_
            have GE539 := n6_
            have NB522_539 := n7_
            have NB539_522 := n8_
            have NB529_539 := n9_
            have NB539_529 := n10_
            have HB := n11_
            clear n0_ n1_ n2_ n3_ n4_ n5_ n6_ n7_ n8_ n9_ n10_ n11_
            have hHeld : w31.cell? ⟨gb529, 0, none⟩ = some (.int .i64 t523) ∧ w31.cell? ⟨gb529, 1, none⟩ = some (.int .i64 t524) ∧ w31.cell? ⟨gb529, 2, none⟩ = some (.slice Ao12 t525.length co12) ∧ w31.cell? ⟨gb522, 0, none⟩ = some (.int .i64 x523000_2) ∧ w31.cell? ⟨gb522, 1, none⟩ = some (.int .i64 x523001_2) ∧ w31.cell? ⟨gb522, 2, none⟩ = some (.int .i64 x523002_2) := hS_
            refine norm_ (a' := ?_) ?_ ?_
            rotate_left
            ·simp only [putAll, Act.put, List.setIfInBounds_toArray, List.set_cons_zero, List.set_cons_succ]
             rfl
            refine one_ (i := 13) (N := none) #[true, true, true, true, true, true, true, true, true, true, true, true, true, true, false] rfl rfl (qWA HT_.out (by kernel_rfl)) (by decide) (fun K hK => ?_)
            have hs32 : w31.cell? ⟨gb539, 0, none⟩ = some (.int .i64 0) := (qI BK539.out 0).trans rfl
            have hfs32 := qH BK539.out 0
            have hns32_0 := NB522_539.out
            have hns32_1 := NB529_539.out
            have hms32_0 := NB539_522.out
            have hms32_1 := NB539_529.out
            have hs33 : w31.cell? ⟨gb539, 1, none⟩ = some (.int .i64 0) := (qI BK539.out 1).trans rfl
            have hfs33 := qH BK539.out 1
            have hns33_0 := NB522_539.out
            have hns33_1 := NB529_539.out
            have hms33_0 := NB539_522.out
            have hms33_1 := NB539_529.out
            have hs34 : w31.cell? ⟨gb539, 2, none⟩ = some (.int .i64 0) := (qI BK539.out 2).trans rfl
            have hfs34 := qH BK539.out 2
            have hns34_0 := NB522_539.out
            have hns34_1 := NB529_539.out
            have hms34_0 := NB539_522.out
            have hms34_1 := NB539_529.out
            refine skip_ (w1 := ?_) (by rfl) rfl ?_ ?_
            rotate_left
            ·go_simp
             rfl
            refine hK.out _ _ ⟨((qa (p := ⟨gb539, _, none⟩) NB529_539.out _).trans (((qa (p := ⟨gb539, _, none⟩) NB529_539.out _).trans (((qa (p := ⟨gb539, _, none⟩) NB529_539.out _).trans (hHeld.1)))))), ((qa (p := ⟨gb539, _, none⟩) NB529_539.out _).trans (((qa (p := ⟨gb539, _, none⟩) NB529_539.out _).trans (((qa (p := ⟨gb539, _, none⟩) NB529_539.out _).trans (hHeld.2.1)))))), ((qa (p := ⟨gb539, _, none⟩) NB529_539.out _).trans (((qa (p := ⟨gb539, _, none⟩) NB529_539.out _).trans (((qa (p := ⟨gb539, _, none⟩) NB529_539.out _).trans (hHeld.2.2.1)))))), ((qa (p := ⟨gb539, _, none⟩) NB522_539.out _).trans (((qa (p := ⟨gb539, _, none⟩) NB522_539.out _).trans (((qa (p := ⟨gb539, _, none⟩) NB522_539.out _).trans (hHeld.2.2.2.1)))))), ((qa (p := ⟨gb539, _, none⟩) NB522_539.out _).trans (((qa (p := ⟨gb539, _, none⟩) NB522_539.out _).trans (((qa (p := ⟨gb539, _, none⟩) NB522_539.out _).trans (hHeld.2.2.2.2.1)))))), ((qa (p := ⟨gb539, _, none⟩) NB522_539.out _).trans (((qa (p := ⟨gb539, _, none⟩) NB522_539.out _).trans (((qa (p := ⟨gb539, _, none⟩) NB522_539.out _).trans (hHeld.2.2.2.2.2))))))⟩ (fun hHeld => ?_)
            clear hK K
            refine pS (i := 14) (N := some 13) #[true, true, true, true, true, true, true, true, true, true, true, true, true, true, true] HT_ ?_
            refine done_ (qsA HT_.out (by kernel_rfl)) ?_
            have hnb35 := NB539_522.out
            have hnc35 := NB522_539.out
            have hnb36 := NB539_529.out
            have hnc36 := NB529_539.out
            have hcz37_0 : w31.cell? ⟨gb539, 0, none⟩ = some (.int .i64 0) := (qI BK539.out 0).trans rfl
            have hcz37_1 : w31.cell? ⟨gb539, 1, none⟩ = some (.int .i64 0) := (qI BK539.out 1).trans rfl
            have hcz37_2 : w31.cell? ⟨gb539, 2, none⟩ = some (.int .i64 0) := (qI BK539.out 2).trans rfl
            have hfz37_0 := qH BK539.out 0
            have hfz37_1 := qH BK539.out 1
            have hfz37_2 := qH BK539.out 2
            have hnb38 := NB522_529.out
            have hnc38 := NB529_522.out
            have hcz39_0 : w31.cell? ⟨gb522, 0, none⟩ = some (.int .i64 x523000_2) := (qI BK522.out 0).trans rfl
            have hcz39_1 : w31.cell? ⟨gb522, 1, none⟩ = some (.int .i64 x523001_2) := (qI BK522.out 1).trans rfl
            have hcz39_2 : w31.cell? ⟨gb522, 2, none⟩ = some (.int .i64 x523002_2) := (qI BK522.out 2).trans rfl
            have hfz39_0 := qH BK522.out 0
            have hfz39_1 := qH BK522.out 1
            have hfz39_2 := qH BK522.out 2
            try go_wp2_with (first | ((with_reducible refine quA (b := .append) (xs := #[.tmp 50, .tmp 52]) rfl ?_); at_builtin; refine Kd.R_append k27 (w0 := w) w.heap.size rfl (.tmp 50) (.tmp 52) 50 27 (.agg #[(.int .i64 0), (.int .i64 0), (.int .i64 0)]) 24 rfl Tryd.underlying50 info27 rfl (by decide) (by omega) u10 x10_2 (⟨t535, t536, t537⟩ : S27) [.int .i64 t535, .int .i64 t536, .int .i64 t537] (fun k_ => k_ ≠ gb522 ∧ k_ ≠ gb539) (fun _ => False) rfl (by first | (go_simp; done) | (go_simp; rfl)) ?aP (fun _ hk => hk.elim) ?aF ?aO ?aB ?aS ?aL ?_; (case aP => exact qXB _ _ _ (⟨t535, t536, t537⟩ : S27)); (case aB => exact (by repeat (first | (with_reducible first | exact HB.out | apply qF | apply qA | apply qE | refine qG ?_ GE522.out | refine qG ?_ GE529.out | refine qG ?_ GE539.out) | exact HB.out))); (case aF => exact (fun k_ hk => ⟨Kd.freshB (g := gb522) (o := .cells #[.int .i64 t535, .int .i64 t536, .int .i64 t537] 27 (0, 0)) (by (with_reducible repeat (first | refine qC ?_ _ | refine qD ?_ | refine qB ?_ _)); refine qO (cs := #[.int .i64 t535, .int .i64 t536, .int .i64 x523002_2]) ?_ 2 _ rfl; (with_reducible repeat (first | refine qC ?_ _ | refine qD ?_ | refine qB ?_ _)); refine qO (cs := #[.int .i64 t535, .int .i64 x523001_2, .int .i64 x523002_2]) ?_ 1 _ rfl; (with_reducible repeat (first | refine qC ?_ _ | refine qD ?_ | refine qB ?_ _)); refine qO (cs := #[.int .i64 x523000_2, .int .i64 x523001_2, .int .i64 x523002_2]) ?_ 0 _ rfl; (with_reducible repeat (first | refine qC ?_ _ | refine qD ?_ | refine qB ?_ _)); refine qR ?_ NB522_539.out _; (with_reducible repeat (first | refine qC ?_ _ | refine qD ?_ | refine qB ?_ _)); refine qR ?_ NB522_539.out _; (with_reducible repeat (first | refine qC ?_ _ | refine qD ?_ | refine qB ?_ _)); refine qR ?_ NB522_539.out _; (with_reducible repeat (first | refine qC ?_ _ | refine qD ?_ | refine qB ?_ _)); exact BK522.out) k_ hk, Kd.freshB (g := gb539) (o := .cells #[.int .i64 t535, .int .i64 t536, .int .i64 t537] 27 (0, 0)) (by (with_reducible repeat (first | refine qC ?_ _ | refine qD ?_ | refine qB ?_ _)); refine qR ?_ NB539_522.out _; (with_reducible repeat (first | refine qC ?_ _ | refine qD ?_ | refine qB ?_ _)); refine qR ?_ NB539_522.out _; (with_reducible repeat (first | refine qC ?_ _ | refine qD ?_ | refine qB ?_ _)); refine qR ?_ NB539_522.out _; (with_reducible repeat (first | refine qC ?_ _ | refine qD ?_ | refine qB ?_ _)); refine qO (cs := #[.int .i64 t535, .int .i64 t536, .int .i64 0]) ?_ 2 _ rfl; (with_reducible repeat (first | refine qC ?_ _ | refine qD ?_ | refine qB ?_ _)); refine qO (cs := #[.int .i64 t535, .int .i64 0, .int .i64 0]) ?_ 1 _ rfl; (with_reducible repeat (first | refine qC ?_ _ | refine qD ?_ | refine qB ?_ _)); refine qO (cs := #[.int .i64 0, .int .i64 0, .int .i64 0]) ?_ 0 _ rfl; (with_reducible repeat (first | refine qC ?_ _ | refine qD ?_ | refine qB ?_ _)); exact BK539.out) k_ hk⟩)); (case aO => exact (by (with_reducible repeat (first | apply Kd.qT | apply Kd.qS | apply Kd.qZ)); exact Kd.qHA (Kd.R_far (p := ⟨gb522, 2, none⟩) (Kd.R_far (p := ⟨gb522, 1, none⟩) (Kd.R_far (p := ⟨gb522, 0, none⟩) (Kd.R_far (p := ⟨gb539, 2, none⟩) (Kd.R_far (p := ⟨gb539, 1, none⟩) (Kd.R_far (p := ⟨gb539, 0, none⟩) (Kd.qHA (Kd.qHA HO_10.out (fun k_ hk => (⟨hk, hk.2⟩ : _ ∧ k_ ≠ gb539))) (fun k_ hk => (⟨hk, hk.1.1⟩ : _ ∧ k_ ≠ gb522))) (fun _ hk => hk.1.2) (.int .i64 t535)) (fun _ hk => hk.1.2) (.int .i64 t536)) (fun _ hk => hk.1.2) (.int .i64 t537)) (fun _ hk => hk.2) (.int .i64 t535)) (fun _ hk => hk.2) (.int .i64 t536)) (fun _ hk => hk.2) (.int .i64 t537)) (fun _ hk => ⟨hk.1.1.1, hk.1.1.2⟩))); (case aS => exact (qJ (by repeat (first | (with_reducible first | exact HB.out | apply qF | apply qA | apply qE | refine qG ?_ GE522.out | refine qG ?_ GE529.out | refine qG ?_ GE539.out) | exact HB.out)))); (case aL => have := LMc27.out; omega); intro v541 w40 ho hb hg hat; rw [← Ny540.out] at ho; have n0_ := Aside0.mk (Kd.R_over' (by (with_reducible repeat (first | apply Kd.qT | apply Kd.qS | apply Kd.qZ)); exact (Kd.qHA (Kd.qHA (Kd.R_far (p := ⟨gb522, 2, none⟩) (Kd.R_far (p := ⟨gb522, 1, none⟩) (Kd.R_far (p := ⟨gb522, 0, none⟩) (Kd.R_far (p := ⟨gb539, 2, none⟩) (Kd.R_far (p := ⟨gb539, 1, none⟩) (Kd.R_far (p := ⟨gb539, 0, none⟩) (Kd.qjA (Kd.qjA HO_530002.out BK539.out (by decide)) BK522.out (by decide)) (fun _ hk => hk.1.2) (.int .i64 t535)) (fun _ hk => hk.1.2) (.int .i64 t536)) (fun _ hk => hk.1.2) (.int .i64 t537)) (fun _ hk => hk.2) (.int .i64 t535)) (fun _ hk => hk.2) (.int .i64 t536)) (fun _ hk => hk.2) (.int .i64 t537)) (fun _ h_ => h_.1)) (fun _ h_ => h_.1))) (Kd.R_typed (by (with_reducible repeat (first | apply Kd.qT | apply Kd.qS | apply Kd.qZ)); exact (Kd.qHA (Kd.qHA (Kd.R_far (p := ⟨gb522, 2, none⟩) (Kd.R_far (p := ⟨gb522, 1, none⟩) (Kd.R_far (p := ⟨gb522, 0, none⟩) (Kd.R_far (p := ⟨gb539, 2, none⟩) (Kd.R_far (p := ⟨gb539, 1, none⟩) (Kd.R_far (p := ⟨gb539, 0, none⟩) (Kd.qHA (Kd.qHA HO_10.out (fun k_ hk => (⟨hk, hk.2⟩ : _ ∧ k_ ≠ gb539))) (fun k_ hk => (⟨hk, hk.1.1⟩ : _ ∧ k_ ≠ gb522))) (fun _ hk => hk.1.2) (.int .i64 t535)) (fun _ hk => hk.1.2) (.int .i64 t536)) (fun _ hk => hk.1.2) (.int .i64 t537)) (fun _ hk => hk.2) (.int .i64 t535)) (fun _ hk => hk.2) (.int .i64 t536)) (fun _ hk => hk.2) (.int .i64 t537)) (fun _ h_ => h_.1)) (fun _ h_ => h_.1)))) (by decide) hg); have n1_ := Aside0.mk (qfA (g := gb522) (o := .cells #[.int .i64 t535, .int .i64 t536, .int .i64 t537] 27 (0, 0)) (by (with_reducible repeat (first | refine qC ?_ _ | refine qD ?_ | refine qB ?_ _)); refine qO (cs := #[.int .i64 t535, .int .i64 t536, .int .i64 x523002_2]) ?_ 2 _ rfl; (with_reducible repeat (first | refine qC ?_ _ | refine qD ?_ | refine qB ?_ _)); refine qO (cs := #[.int .i64 t535, .int .i64 x523001_2, .int .i64 x523002_2]) ?_ 1 _ rfl; (with_reducible repeat (first | refine qC ?_ _ | refine qD ?_ | refine qB ?_ _)); refine qO (cs := #[.int .i64 x523000_2, .int .i64 x523001_2, .int .i64 x523002_2]) ?_ 0 _ rfl; (with_reducible repeat (first | refine qC ?_ _ | refine qD ?_ | refine qB ?_ _)); refine qR ?_ NB522_539.out _; (with_reducible repeat (first | refine qC ?_ _ | refine qD ?_ | refine qB ?_ _)); refine qR ?_ NB522_539.out _; (with_reducible repeat (first | refine qC ?_ _ | refine qD ?_ | refine qB ?_ _)); refine qR ?_ NB522_539.out _; (with_reducible repeat (first | refine qC ?_ _ | refine qD ?_ | refine qB ?_ _)); exact BK522.out) hg (Kd.qj HO_10.out (fun _ hk => hk.1))); have n2_ := Aside0.mk (qfA (g := gb529) (o := .cells #[.int .i64 t523, .int .i64 t524, .slice Ao12 t525.length co12] 57 (0, 0)) (by (with_reducible repeat (first | refine qC ?_ _ | refine qD ?_ | refine qB ?_ _)); refine qR ?_ NB529_522.out _; (with_reducible repeat (first | refine qC ?_ _ | refine qD ?_ | refine qB ?_ _)); refine qR ?_ NB529_522.out _; (with_reducible repeat (first | refine qC ?_ _ | refine qD ?_ | refine qB ?_ _)); refine qR ?_ NB529_522.out _; (with_reducible repeat (first | refine qC ?_ _ | refine qD ?_ | refine qB ?_ _)); refine qR ?_ NB529_539.out _; (with_reducible repeat (first | refine qC ?_ _ | refine qD ?_ | refine qB ?_ _)); refine qR ?_ NB529_539.out _; (with_reducible repeat (first | refine qC ?_ _ | refine qD ?_ | refine qB ?_ _)); refine qR ?_ NB529_539.out _; (with_reducible repeat (first | refine qC ?_ _ | refine qD ?_ | refine qB ?_ _)); exact BK529.out) hg (Kd.R_ne HO_10.out BK529.out (by decide))); have n3_ := Aside0.mk (qfA (g := gb539) (o := .cells #[.int .i64 t535, .int .i64 t536, .int .i64 t537] 27 (0, 0)) (by (with_reducible repeat (first | refine qC ?_ _ | refine qD ?_ | refine qB ?_ _)); refine qR ?_ NB539_522.out _; (with_reducible repeat (first | refine qC ?_ _ | refine qD ?_ | refine qB ?_ _)); refine qR ?_ NB539_522.out _; (with_reducible repeat (first | refine qC ?_ _ | refine qD ?_ | refine qB ?_ _)); refine qR ?_ NB539_522.out _; (with_reducible repeat (first | refine qC ?_ _ | refine qD ?_ | refine qB ?_ _)); refine qO (cs := #[.int .i64 t535, .int .i64 t536, .int .i64 0]) ?_ 2 _ rfl; (with_reducible repeat (first | refine qC ?_ _ | refine qD ?_ | refine qB ?_ _)); refine qO (cs := #[.int .i64 t535, .int .i64 0, .int .i64 0]) ?_ 1 _ rfl; (with_reducible repeat (first | refine qC ?_ _ | refine qD ?_ | refine qB ?_ _)); refine qO (cs := #[.int .i64 0, .int .i64 0, .int .i64 0]) ?_ 0 _ rfl; (with_reducible repeat (first | refine qC ?_ _ | refine qD ?_ | refine qB ?_ _)); exact BK539.out) hg (Kd.qj HO_10.out (fun _ hk => hk.2))); have n4_ := Aside0.mk (hb); have n5_ := Aside0.mk (ho); clear HO_530002; clear BK522; clear BK529; clear BK539; clear HB; clear HO_10; have HO_530002 := n0_; have BK522 := n1_; have BK529 := n2_; have BK539 := n3_; have HB := n4_; have HO542 := n5_; clear n0_ n1_ n2_ n3_ n4_ n5_; clear ho hb hg hat))
            go_roundg k2
            case measure => have := HJ4.out; have := HK2.out; omega
            case rel => exact ⟨(y540), (wrap64 (x11_2 + 1)), (t535), (t536), (t537), (by first | rfl | (simp; done) | (simp [*]; done)), H', ⟨by have := HJ4.out; have := HK2.out; omega⟩, ⟨by (with_reducible repeat (first | apply Kd.qT | apply Kd.qS | apply Kd.qZ)); exact Kd.qHA HO542.out (fun _ hk => hk.1)⟩, ⟨by (with_reducible repeat (first | apply Kd.qT | apply Kd.qS | apply Kd.qZ)); exact HO_530002.out⟩, ⟨by (with_reducible repeat (first | refine qC ?_ _ | refine qD ?_ | refine qB ?_ _)); exact BK522.out⟩, ⟨by (with_reducible repeat (first | refine qC ?_ _ | refine qD ?_ | refine qB ?_ _)); exact BK529.out⟩, ⟨by repeat (first | (with_reducible first | exact HB.out | apply qF | apply qA | apply qE | refine qG ?_ GE522.out | refine qG ?_ GE529.out | refine qG ?_ GE539.out) | exact HB.out)⟩⟩
           ·rw [if_neg c27] at H
            exact absurd H (by simp)
          ·replace c26 := Bool.eq_false_iff.mpr c26
           subst c26
           have H1 : (some (([] : List (S27)), false)) = some (r1, r2) := by rw [if_neg (show ¬ (false = true) by decide)] at H; exact H
           clear H
           have H := H1
           clear H1
           simp only [Option.some.injEq, Prod.mk.injEq] at H
           obtain ⟨rfl, rfl⟩ := H
           try go_wp2
           have n0_ := Aside0.mk (Kd.qZ HO_10.out)
           have n1_ := Aside0.mk (Kd.qZ HO_530002.out)
           have n2_ := Aside0.mk (qD BK522.out)
           have n3_ := Aside0.mk (qD BK529.out)
           have n4_ := Aside0.mk (qE HB.out)
           clear HO_10
           clear HO_530002
           clear BK522
           clear BK529
           clear HB
           have HO_10 := n0_
           have HO_530002 := n1_
           have BK522 := n2_
           have BK529 := n3_
           have HB := n4_
           clear n0_ n1_ n2_ n3_ n4_
           refine qBB (n := 15) (S := fun w' => w'.cell? ⟨gb529, 0, none⟩ = some (.int .i64 t523) ∧ w'.cell? ⟨gb529, 1, none⟩ = some (.int .i64 t524) ∧ w'.cell? ⟨gb529, 2, none⟩ = some (.slice Ao12 t525.length co12) ∧ w'.cell? ⟨gb522, 0, none⟩ = some (.int .i64 x523000_2) ∧ w'.cell? ⟨gb522, 1, none⟩ = some (.int .i64 x523001_2) ∧ w'.cell? ⟨gb522, 2, none⟩ = some (.int .i64 x523002_2)) (ds := []) #[false, false, false, false, false, false, false, false, false, false, false, false, false, false, false] (by kernel_rfl) rfl rfl ⟨(qI BK529.out 0).trans rfl, (qI BK529.out 1).trans rfl, (qI BK529.out 2).trans rfl, (qI BK522.out 0).trans rfl, (qI BK522.out 1).trans rfl, (qI BK522.out 2).trans rfl⟩ (fun hHeld => ?_); refine qcA qb.tab8 qb.bits8 (fun HT_ HW_ => ?_)
           generalize wr.drew = w41 at HO_10 HO_530002 BK522 BK529 HB hHeld ⊢
           refine pS (i := 2) (N := some 38) #[false, false, true, false, false, false, false, false, false, false, false, false, false, false, false] HT_ ?_
           refine pS (i := 3) (N := some 39) #[false, false, true, true, false, false, false, false, false, false, false, false, false, false, false] HT_ ?_
           refine pS (i := 4) (N := some 40) #[false, false, true, true, true, false, false, false, false, false, false, false, false, false, false] HT_ ?_
           refine pS (i := 5) (N := some 41) #[false, false, true, true, true, true, false, false, false, false, false, false, false, false, false] HT_ ?_
           refine pS (i := 6) (N := some 42) #[false, false, true, true, true, true, true, false, false, false, false, false, false, false, false] HT_ ?_
           refine take_ (i := 0) (N := some 36) (v := ?_) (a' := ?_) #[true, false, true, true, true, true, true, false, false, false, false, false, false, false, false] rfl rfl (qq HT_.out HW_.out (by kernel_rfl)) (fun _ _ _ h => h) (Or.inl ⟨by rfl, ?_⟩) hHeld ?_ ?_
           rotate_left
           ·rintro w' ⟨s0, s1, s2, s3, s4, s5⟩
            go_simp
            first | (with_reducible rfl) | (rw [if_neg (by simp only [ByteArray.size_extract, ByteArray.size_append] at * <;> omega)]; try with_reducible rfl)
           rotate_left
           ·simp only [Act.put, List.setIfInBounds_toArray, List.set_cons_zero, List.set_cons_succ, i64_w, i32_w]
            rfl
           refine take_ (i := 1) (N := some 37) (v := ?_) (a' := ?_) #[true, true, true, true, true, true, true, false, false, false, false, false, false, false, false] rfl rfl (qq HT_.out HW_.out (by kernel_rfl)) (fun _ _ _ h => h) (Or.inl ⟨by rfl, ?_⟩) hHeld ?_ ?_
           rotate_left
           ·rintro w' ⟨s0, s1, s2, s3, s4, s5⟩
            go_simp
            first | (with_reducible rfl) | (rw [if_neg (by simp only [ByteArray.size_extract, ByteArray.size_append] at * <;> omega)]; try with_reducible rfl)
           rotate_left
           ·simp only [Act.put, List.setIfInBounds_toArray, List.set_cons_zero, List.set_cons_succ, i64_w, i32_w]
            rfl
           refine join_ (σ := Nat) 2 #[true, true, true, true, true, true, true, true, true, true, true, true, true, false, false] (fun s_ => [(43, .int .i64 t534), (44, .tuple #[.agg #[.int .i64 t535, .int .i64 t536, .int .i64 t537], .bool false]), (12, .pointer (some ⟨s_, 0, none⟩)), (35, .tuple #[.agg #[.int .i64 t535, .int .i64 t536, .int .i64 t537], .bool false]), (45, .agg #[.int .i64 t535, .int .i64 t536, .int .i64 t537]), (46, .bool false)]) (fun s_ w' => (w'.cell? ⟨gb529, 0, none⟩ = some (.int .i64 t523) ∧ w'.cell? ⟨gb529, 1, none⟩ = some (.int .i64 t524) ∧ w'.cell? ⟨gb529, 2, none⟩ = some (.slice Ao12 t525.length co12) ∧ w'.cell? ⟨gb522, 0, none⟩ = some (.int .i64 x523000_2) ∧ w'.cell? ⟨gb522, 1, none⟩ = some (.int .i64 x523001_2) ∧ w'.cell? ⟨gb522, 2, none⟩ = some (.int .i64 x523002_2)) ∧ (Kd.R k27 27 w' w.heap.size (fun k_ => k_ ≠ gb522 ∧ k_ ≠ s_) u10 x10_2) ∧ (Kd.R (Kd.int .u8) 5 w' w.heap.size (fun _ => True) (.slice Ao12 t525.length co12) t525) ∧ (w'.heap[gb522]? = some (.cells #[.int .i64 x523000_2, .int .i64 x523001_2, .int .i64 x523002_2] 27 (0, 0))) ∧ (w'.heap[gb529]? = some (.cells #[.int .i64 t523, .int .i64 t524, .slice Ao12 t525.length co12] 57 (0, 0))) ∧ (w'.heap[s_]? = some (.cells #[.int .i64 0, .int .i64 0, .int .i64 0] 27 (0, 0))) ∧ (w.heap.size ≤ s_) ∧ (w.heap.size ≤ s_) ∧ (gb522 ≠ s_) ∧ (s_ ≠ gb522) ∧ (gb529 ≠ s_) ∧ (s_ ≠ gb529) ∧ (Below w.heap.size w w')) ?_ ?_
           rotate_left
           ·intro hCont
            refine two_ (i := 7) (j := 12) (Ni := some 43) (Nj := some 12) #[true, true, true, true, true, true, true, true, false, false, false, false, false, false, false] #[true, true, true, true, true, true, true, false, false, false, false, false, true, false, false] rfl rfl rfl rfl (qWB HT_.out (by kernel_rfl)) (by decide) (by decide) (fun K hK => ?_) (fun K hK => ?_)
            ·skip
             refine goes_ Tryd.func63 (by kernel_rfl) rfl #[.string (a2.extract (x11_2 : Int).toNat ((wrap64 (x11_2 + 1)) : Int).toNat)] (by rfl) rfl rfl (by (try simp only [List.map_toArray, List.map_cons, List.map_nil]); first | done | rfl | (simp only [List.length_drop, List.length_take]; rfl)) ?_
             with_reducible refine (qz.calls k2 (a2.extract (x11_2 : Int).toNat ((wrap64 (x11_2 + 1)) : Int).toNat) t534 _ A24.out).mono ?_
             rintro e w' ⟨rfl, ⟨nd, rfl⟩⟩
             refine ⟨_, rfl, ?_⟩
             refine hK.out _ _ ⟨(qI BK529.out 0).trans rfl, (qI BK529.out 1).trans rfl, (qI BK529.out 2).trans rfl, (qI BK522.out 0).trans rfl, (qI BK522.out 1).trans rfl, (qI BK522.out 2).trans rfl⟩ (fun hHeld => ?_)
             clear hK K
             refine norm_ (a' := ?_) ?_ ?_
             rotate_left
             ·show Act.put _ (some 43) _ = _
              simp only [Act.put, List.setIfInBounds_toArray, List.set_cons_zero, List.set_cons_succ, i64_w, i32_w]
              rfl
             refine two_ (i := 8) (j := 12) (Ni := some 44) (Nj := some 12) #[true, true, true, true, true, true, true, true, true, false, false, false, false, false, false] #[true, true, true, true, true, true, true, true, false, false, false, false, true, false, false] rfl rfl rfl rfl (qWB HT_.out (by kernel_rfl)) (by decide) (by decide) (fun K hK => ?_) (fun K hK => ?_)
             ·skip
              refine goes_ Tryd.func60 (by kernel_rfl) rfl #[.agg #[.int .i64 t523, .int .i64 t524, .slice Ao12 t525.length co12], .agg #[.int .i64 x523000_2, .int .i64 x523001_2, .int .i64 x523002_2], .int .i64 t534] (by rfl) rfl rfl (by (try simp only [List.map_toArray, List.map_cons, List.map_nil]); first | done | rfl | (simp only [List.length_drop, List.length_take]; rfl)) ?_
              with_reducible refine (qPA.calls k2 t523 t524 _ _ t525 x523000_2 x523001_2 x523002_2 t534 t535 t536 t537 false _ ?side1 ?side2 A25.out).mono ?_
              (case side1 => repeat (first | exact (Kd.qh HO_530002.out).2.2 | (with_reducible refine Kd.qOA ?_ _) | (with_reducible refine Kd.qNA ?_ _) | (with_reducible refine Kd.qXA ?_)))
              (case side2 => exact (Kd.qh HO_530002.out).2.1)
              rintro e w42 ⟨rfl, hb⟩
              refine ⟨_, rfl, ?_⟩
              have n0_ := Aside0.mk (Kd.qi (by (with_reducible repeat (first | apply Kd.qT | apply Kd.qS | apply Kd.qZ)); exact HO_10.out) hb)
              have n1_ := Aside0.mk (Kd.qi (by (with_reducible repeat (first | apply Kd.qT | apply Kd.qS | apply Kd.qZ)); exact HO_530002.out) hb)
              have n2_ := Aside0.mk (qK (g := gb522) (o := .cells #[.int .i64 x523000_2, .int .i64 x523001_2, .int .i64 x523002_2] 27 (0, 0)) (by (with_reducible repeat (first | refine qC ?_ _ | refine qD ?_ | refine qB ?_ _)); exact BK522.out) hb)
              have n3_ := Aside0.mk (qK (g := gb529) (o := .cells #[.int .i64 t523, .int .i64 t524, .slice Ao12 t525.length co12] 57 (0, 0)) (by (with_reducible repeat (first | refine qC ?_ _ | refine qD ?_ | refine qB ?_ _)); exact BK529.out) hb)
              have n4_ := Aside0.mk (qL (by repeat (first | (with_reducible first | exact HB.out | apply qF | apply qA | apply qE | refine qG ?_ GE522.out | refine qG ?_ GE529.out) | exact HB.out)) hb)
              clear HO_10
              clear HO_530002
              clear BK522
              clear BK529
              clear HB
              have HO_10 := n0_
              have HO_530002 := n1_
              have BK522 := n2_
              have BK529 := n3_
              have HB := n4_
              clear n0_ n1_ n2_ n3_ n4_
              (try clear hb)
              (try clear hb2)
              (try clear hk)
              (try clear hi)
              refine hK.out _ _ ⟨(qI BK529.out 0).trans rfl, (qI BK529.out 1).trans rfl, (qI BK529.out 2).trans rfl, (qI BK522.out 0).trans rfl, (qI BK522.out 1).trans rfl, (qI BK522.out 2).trans rfl⟩ (fun hHeld => ?_)
              clear hK K
              refine norm_ (a' := ?_) ?_ ?_
              rotate_left
              ·show Act.put _ (some 44) _ = _
               simp only [Act.put, List.setIfInBounds_toArray, List.set_cons_zero, List.set_cons_succ, i64_w, i32_w]
               rfl
              refine pS (i := 9) (N := some 35) #[true, true, true, true, true, true, true, true, true, true, false, false, false, false, false] HT_ ?_
              refine pS (i := 10) (N := some 45) #[true, true, true, true, true, true, true, true, true, true, true, false, false, false, false] HT_ ?_
              refine pS (i := 11) (N := some 46) #[true, true, true, true, true, true, true, true, true, true, true, true, false, false, false] HT_ ?_
              refine one_ (i := 12) (N := some 12) #[true, true, true, true, true, true, true, true, true, true, true, true, true, false, false] rfl rfl (qWA HT_.out (by kernel_rfl)) (by decide) (fun K hK => ?_)
              refine qmA ?hg (N := 12) ?hd (cs := #[.int .i64 0, .int .i64 0, .int .i64 0]) (t := 27) ?hr ?_; (case hd => rfl); (case hg => rfl); (case hr => first | (go_simp; done) | (go_simp; rfl))
              intro gb539 hg w43 hbox hb
              have n0_ := Aside0.mk (Kd.qi (Kd.qnA (by (with_reducible repeat (first | apply Kd.qT | apply Kd.qS | apply Kd.qZ)); exact HO_10.out) gb539 (Nat.le_of_eq hg.symm)) hb)
              have n1_ := Aside0.mk (Kd.qi (by (with_reducible repeat (first | apply Kd.qT | apply Kd.qS | apply Kd.qZ)); exact HO_530002.out) hb)
              have n2_ := Aside0.mk (qK (g := gb522) (o := .cells #[.int .i64 x523000_2, .int .i64 x523001_2, .int .i64 x523002_2] 27 (0, 0)) (by (with_reducible repeat (first | refine qC ?_ _ | refine qD ?_ | refine qB ?_ _)); exact BK522.out) hb)
              have n3_ := Aside0.mk (qK (g := gb529) (o := .cells #[.int .i64 t523, .int .i64 t524, .slice Ao12 t525.length co12] 57 (0, 0)) (by (with_reducible repeat (first | refine qC ?_ _ | refine qD ?_ | refine qB ?_ _)); exact BK529.out) hb)
              have n4_ := Aside0.mk (qL (by repeat (first | (with_reducible first | exact HB.out | apply qF | apply qA | apply qE | refine qG ?_ GE522.out | refine qG ?_ GE529.out) | exact HB.out)) hb)
              have n5_ := Aside0.mk (hbox)
              have n6_ := Aside0.mk ((by rw [hg]; exact (qJ (by repeat (first | (with_reducible first | exact HB.out | apply qF | apply qA | apply qE | refine qG ?_ GE522.out | refine qG ?_ GE529.out) | exact HB.out))) : w.heap.size ≤ gb539))
              have n7_ := Aside0.mk ((by rw [hg]; exact (qJ (by repeat (first | (with_reducible first | exact HB.out | apply qF | apply qA | apply qE | refine qG ?_ GE522.out | refine qG ?_ GE529.out) | exact HB.out))) : w.heap.size ≤ gb539))
              have n8_ := Aside0.mk ((by rw [hg]; exact Nat.ne_of_lt (qd (g := gb522) (o := .cells #[.int .i64 x523000_2, .int .i64 x523001_2, .int .i64 x523002_2] 27 (0, 0)) (by (with_reducible repeat (first | refine qC ?_ _ | refine qD ?_ | refine qB ?_ _)); exact BK522.out)) : gb522 ≠ gb539))
              have n9_ := Aside0.mk ((by rw [hg]; exact Nat.ne_of_gt (qd (g := gb522) (o := .cells #[.int .i64 x523000_2, .int .i64 x523001_2, .int .i64 x523002_2] 27 (0, 0)) (by (with_reducible repeat (first | refine qC ?_ _ | refine qD ?_ | refine qB ?_ _)); exact BK522.out)) : gb539 ≠ gb522))
              have n10_ := Aside0.mk ((by rw [hg]; exact Nat.ne_of_lt (qd (g := gb529) (o := .cells #[.int .i64 t523, .int .i64 t524, .slice Ao12 t525.length co12] 57 (0, 0)) (by (with_reducible repeat (first | refine qC ?_ _ | refine qD ?_ | refine qB ?_ _)); exact BK529.out)) : gb529 ≠ gb539))
              have n11_ := Aside0.mk ((by rw [hg]; exact Nat.ne_of_gt (qd (g := gb529) (o := .cells #[.int .i64 t523, .int .i64 t524, .slice Ao12 t525.length co12] 57 (0, 0)) (by (with_reducible repeat (first | refine qC ?_ _ | refine qD ?_ | refine qB ?_ _)); exact BK529.out)) : gb539 ≠ gb529))
              clear HO_10
              clear HO_530002
              clear BK522
              clear BK529
              clear HB
              have HO_10 := n0_
              have HO_530002 := n1_
              have BK522 := n2_
              have BK529 := n3_
              have HB := n4_
              have BK539 := n5_
              have GW539 := n6_
              have GE539 := n7_
              have NB522_539 := n8_
              have NB539_522 := n9_
              have NB529_539 := n10_
              have NB539_529 := n11_
              clear n0_ n1_ n2_ n3_ n4_ n5_ n6_ n7_ n8_ n9_ n10_ n11_
              clear hb hbox hg
              refine hK.out _ _ ⟨(qI BK529.out 0).trans rfl, (qI BK529.out 1).trans rfl, (qI BK529.out 2).trans rfl, (qI BK522.out 0).trans rfl, (qI BK522.out 1).trans rfl, (qI BK522.out 2).trans rfl⟩ (fun hHeld => ?_)
              clear hK K
              refine norm_ (a' := ?_) ?_ ?_
              rotate_left
              ·show Act.put _ (some 12) _ = _
               simp only [Act.put, List.setIfInBounds_toArray, List.set_cons_zero, List.set_cons_succ, i64_w, i32_w]
               rfl
              exact norm_ (by simp only [putAll, Act.put, List.setIfInBounds_toArray, List.set_cons_zero, List.set_cons_succ]) (hCont (gb539) _ ⟨hHeld, (by (with_reducible repeat (first | apply Kd.qT | apply Kd.qS | apply Kd.qZ)); exact HO_10.out), (by (with_reducible repeat (first | apply Kd.qT | apply Kd.qS | apply Kd.qZ)); exact HO_530002.out), (by (with_reducible repeat (first | refine qC ?_ _ | refine qD ?_ | refine qB ?_ _)); exact BK522.out), (by (with_reducible repeat (first | refine qC ?_ _ | refine qD ?_ | refine qB ?_ _)); exact BK529.out), (by (with_reducible repeat (first | refine qC ?_ _ | refine qD ?_ | refine qB ?_ _)); exact BK539.out), GW539.out, GE539.out, NB522_539.out, NB539_522.out, NB529_539.out, NB539_529.out, (by repeat (first | (with_reducible first | exact HB.out | apply qF | apply qA | apply qE | refine qG ?_ GE522.out | refine qG ?_ GE529.out | refine qG ?_ GE539.out) | exact HB.out))⟩)
             ·skip
              refine qmA ?hg (N := 12) ?hd (cs := #[.int .i64 0, .int .i64 0, .int .i64 0]) (t := 27) ?hr ?_; (case hd => rfl); (case hg => rfl); (case hr => first | (go_simp; done) | (go_simp; rfl))
              intro gb539 hg w42 hbox hb
              have n0_ := Aside0.mk (Kd.qi (Kd.qnA (by (with_reducible repeat (first | apply Kd.qT | apply Kd.qS | apply Kd.qZ)); exact HO_10.out) gb539 (Nat.le_of_eq hg.symm)) hb)
              have n1_ := Aside0.mk (Kd.qi (by (with_reducible repeat (first | apply Kd.qT | apply Kd.qS | apply Kd.qZ)); exact HO_530002.out) hb)
              have n2_ := Aside0.mk (qK (g := gb522) (o := .cells #[.int .i64 x523000_2, .int .i64 x523001_2, .int .i64 x523002_2] 27 (0, 0)) (by (with_reducible repeat (first | refine qC ?_ _ | refine qD ?_ | refine qB ?_ _)); exact BK522.out) hb)
              have n3_ := Aside0.mk (qK (g := gb529) (o := .cells #[.int .i64 t523, .int .i64 t524, .slice Ao12 t525.length co12] 57 (0, 0)) (by (with_reducible repeat (first | refine qC ?_ _ | refine qD ?_ | refine qB ?_ _)); exact BK529.out) hb)
              have n4_ := Aside0.mk (qL (by repeat (first | (with_reducible first | exact HB.out | apply qF | apply qA | apply qE | refine qG ?_ GE522.out | refine qG ?_ GE529.out) | exact HB.out)) hb)
              have n5_ := Aside0.mk (hbox)
              have n6_ := Aside0.mk ((by rw [hg]; exact (qJ (by repeat (first | (with_reducible first | exact HB.out | apply qF | apply qA | apply qE | refine qG ?_ GE522.out | refine qG ?_ GE529.out) | exact HB.out))) : w.heap.size ≤ gb539))
              have n7_ := Aside0.mk ((by rw [hg]; exact (qJ (by repeat (first | (with_reducible first | exact HB.out | apply qF | apply qA | apply qE | refine qG ?_ GE522.out | refine qG ?_ GE529.out) | exact HB.out))) : w.heap.size ≤ gb539))
              have n8_ := Aside0.mk ((by rw [hg]; exact Nat.ne_of_lt (qd (g := gb522) (o := .cells #[.int .i64 x523000_2, .int .i64 x523001_2, .int .i64 x523002_2] 27 (0, 0)) (by (with_reducible repeat (first | refine qC ?_ _ | refine qD ?_ | refine qB ?_ _)); exact BK522.out)) : gb522 ≠ gb539))
              have n9_ := Aside0.mk ((by rw [hg]; exact Nat.ne_of_gt (qd (g := gb522) (o := .cells #[.int .i64 x523000_2, .int .i64 x523001_2, .int .i64 x523002_2] 27 (0, 0)) (by (with_reducible repeat (first | refine qC ?_ _ | refine qD ?_ | refine qB ?_ _)); exact BK522.out)) : gb539 ≠ gb522))
              have n10_ := Aside0.mk ((by rw [hg]; exact Nat.ne_of_lt (qd (g := gb529) (o := .cells #[.int .i64 t523, .int .i64 t524, .slice Ao12 t525.length co12] 57 (0, 0)) (by (with_reducible repeat (first | refine qC ?_ _ | refine qD ?_ | refine qB ?_ _)); exact BK529.out)) : gb529 ≠ gb539))
              have n11_ := Aside0.mk ((by rw [hg]; exact Nat.ne_of_gt (qd (g := gb529) (o := .cells #[.int .i64 t523, .int .i64 t524, .slice Ao12 t525.length co12] 57 (0, 0)) (by (with_reducible repeat (first | refine qC ?_ _ | refine qD ?_ | refine qB ?_ _)); exact BK529.out)) : gb539 ≠ gb529))
              clear HO_10
              clear HO_530002
              clear BK522
              clear BK529
              clear HB
              have HO_10 := n0_
              have HO_530002 := n1_
              have BK522 := n2_
              have BK529 := n3_
              have HB := n4_
              have BK539 := n5_
              have GW539 := n6_
              have GE539 := n7_
              have NB522_539 := n8_
              have NB539_522 := n9_
              have NB529_539 := n10_
              have NB539_529 := n11_
              clear n0_ n1_ n2_ n3_ n4_ n5_ n6_ n7_ n8_ n9_ n10_ n11_
              clear hb hbox hg
              refine hK.out _ _ ⟨(qI BK529.out 0).trans rfl, (qI BK529.out 1).trans rfl, (qI BK529.out 2).trans rfl, (qI BK522.out 0).trans rfl, (qI BK522.out 1).trans rfl, (qI BK522.out 2).trans rfl⟩ (fun hHeld => ?_)
              clear hK K
              refine norm_ (a' := ?_) ?_ ?_
              rotate_left
              ·show Act.put _ (some 12) _ = _
               simp only [Act.put, List.setIfInBounds_toArray, List.set_cons_zero, List.set_cons_succ, i64_w, i32_w]
               rfl
              refine one_ (i := 8) (N := some 44) #[true, true, true, true, true, true, true, true, true, false, false, false, true, false, false] rfl rfl (qWA HT_.out (by kernel_rfl)) (by decide) (fun K hK => ?_)
              refine goes_ Tryd.func60 (by kernel_rfl) rfl #[.agg #[.int .i64 t523, .int .i64 t524, .slice Ao12 t525.length co12], .agg #[.int .i64 x523000_2, .int .i64 x523001_2, .int .i64 x523002_2], .int .i64 t534] (by rfl) rfl rfl (by (try simp only [List.map_toArray, List.map_cons, List.map_nil]); first | done | rfl | (simp only [List.length_drop, List.length_take]; rfl)) ?_
              with_reducible refine (qPA.calls k2 t523 t524 _ _ t525 x523000_2 x523001_2 x523002_2 t534 t535 t536 t537 false _ ?side1 ?side2 A25.out).mono ?_
              (case side1 => repeat (first | exact (Kd.qh HO_530002.out).2.2 | (with_reducible refine Kd.qOA ?_ _) | (with_reducible refine Kd.qNA ?_ _) | (with_reducible refine Kd.qXA ?_)))
              (case side2 => exact (Kd.qh HO_530002.out).2.1)
              rintro e w43 ⟨rfl, hb⟩
              refine ⟨_, rfl, ?_⟩
              have n0_ := Aside0.mk (Kd.qi (by (with_reducible repeat (first | apply Kd.qT | apply Kd.qS | apply Kd.qZ)); exact HO_10.out) hb)
              have n1_ := Aside0.mk (Kd.qi (by (with_reducible repeat (first | apply Kd.qT | apply Kd.qS | apply Kd.qZ)); exact HO_530002.out) hb)
              have n2_ := Aside0.mk (qK (g := gb522) (o := .cells #[.int .i64 x523000_2, .int .i64 x523001_2, .int .i64 x523002_2] 27 (0, 0)) (by (with_reducible repeat (first | refine qC ?_ _ | refine qD ?_ | refine qB ?_ _)); exact BK522.out) hb)
              have n3_ := Aside0.mk (qK (g := gb529) (o := .cells #[.int .i64 t523, .int .i64 t524, .slice Ao12 t525.length co12] 57 (0, 0)) (by (with_reducible repeat (first | refine qC ?_ _ | refine qD ?_ | refine qB ?_ _)); exact BK529.out) hb)
              have n4_ := Aside0.mk (qK (g := gb539) (o := .cells #[.int .i64 0, .int .i64 0, .int .i64 0] 27 (0, 0)) (by (with_reducible repeat (first | refine qC ?_ _ | refine qD ?_ | refine qB ?_ _)); exact BK539.out) hb)
              have n5_ := Aside0.mk (qL (by repeat (first | (with_reducible first | exact HB.out | apply qF | apply qA | apply qE | refine qG ?_ GE522.out | refine qG ?_ GE529.out | refine qG ?_ GE539.out) | exact HB.out)) hb)
              clear HO_10
              clear HO_530002
              clear BK522
              clear BK529
              clear BK539
              clear HB
              have HO_10 := n0_
              have HO_530002 := n1_
              have BK522 := n2_
              have BK529 := n3_
              have BK539 := n4_
              have HB := n5_
              clear n0_ n1_ n2_ n3_ n4_ n5_
              (try clear hb)
              (try clear hb2)
              (try clear hk)
              (try clear hi)
              refine hK.out _ _ ⟨(qI BK529.out 0).trans rfl, (qI BK529.out 1).trans rfl, (qI BK529.out 2).trans rfl, (qI BK522.out 0).trans rfl, (qI BK522.out 1).trans rfl, (qI BK522.out 2).trans rfl⟩ (fun hHeld => ?_)
              clear hK K
              refine norm_ (a' := ?_) ?_ ?_
              rotate_left
              ·show Act.put _ (some 44) _ = _
               simp only [Act.put, List.setIfInBounds_toArray, List.set_cons_zero, List.set_cons_succ, i64_w, i32_w]
               rfl
              refine pS (i := 9) (N := some 35) #[true, true, true, true, true, true, true, true, true, true, false, false, true, false, false] HT_ ?_
              refine pS (i := 10) (N := some 45) #[true, true, true, true, true, true, true, true, true, true, true, false, true, false, false] HT_ ?_
              refine pS (i := 11) (N := some 46) #[true, true, true, true, true, true, true, true, true, true, true, true, true, false, false] HT_ ?_
              exact norm_ (by simp only [putAll, Act.put, List.setIfInBounds_toArray, List.set_cons_zero, List.set_cons_succ]) (hCont (gb539) _ ⟨hHeld, (by (with_reducible repeat (first | apply Kd.qT | apply Kd.qS | apply Kd.qZ)); exact HO_10.out), (by (with_reducible repeat (first | apply Kd.qT | apply Kd.qS | apply Kd.qZ)); exact HO_530002.out), (by (with_reducible repeat (first | refine qC ?_ _ | refine qD ?_ | refine qB ?_ _)); exact BK522.out), (by (with_reducible repeat (first | refine qC ?_ _ | refine qD ?_ | refine qB ?_ _)); exact BK529.out), (by (with_reducible repeat (first | refine qC ?_ _ | refine qD ?_ | refine qB ?_ _)); exact BK539.out), GW539.out, GE539.out, NB522_539.out, NB539_522.out, NB529_539.out, NB539_529.out, (by repeat (first | (with_reducible first | exact HB.out | apply qF | apply qA | apply qE | refine qG ?_ GE522.out | refine qG ?_ GE529.out | refine qG ?_ GE539.out) | exact HB.out))⟩)
            ·skip
             refine qmA ?hg (N := 12) ?hd (cs := #[.int .i64 0, .int .i64 0, .int .i64 0]) (t := 27) ?hr ?_; (case hd => rfl); (case hg => rfl); (case hr => first | (go_simp; done) | (go_simp; rfl))
             intro gb539 hg w42 hbox hb
             have n0_ := Aside0.mk (Kd.qi (Kd.qnA (by (with_reducible repeat (first | apply Kd.qT | apply Kd.qS | apply Kd.qZ)); exact HO_10.out) gb539 (Nat.le_of_eq hg.symm)) hb)
             have n1_ := Aside0.mk (Kd.qi (by (with_reducible repeat (first | apply Kd.qT | apply Kd.qS | apply Kd.qZ)); exact HO_530002.out) hb)
             have n2_ := Aside0.mk (qK (g := gb522) (o := .cells #[.int .i64 x523000_2, .int .i64 x523001_2, .int .i64 x523002_2] 27 (0, 0)) (by (with_reducible repeat (first | refine qC ?_ _ | refine qD ?_ | refine qB ?_ _)); exact BK522.out) hb)
             have n3_ := Aside0.mk (qK (g := gb529) (o := .cells #[.int .i64 t523, .int .i64 t524, .slice Ao12 t525.length co12] 57 (0, 0)) (by (with_reducible repeat (first | refine qC ?_ _ | refine qD ?_ | refine qB ?_ _)); exact BK529.out) hb)
             have n4_ := Aside0.mk (qL (by repeat (first | (with_reducible first | exact HB.out | apply qF | apply qA | apply qE | refine qG ?_ GE522.out | refine qG ?_ GE529.out) | exact HB.out)) hb)
             have n5_ := Aside0.mk (hbox)
             have n6_ := Aside0.mk ((by rw [hg]; exact (qJ (by repeat (first | (with_reducible first | exact HB.out | apply qF | apply qA | apply qE | refine qG ?_ GE522.out | refine qG ?_ GE529.out) | exact HB.out))) : w.heap.size ≤ gb539))
             have n7_ := Aside0.mk ((by rw [hg]; exact (qJ (by repeat (first | (with_reducible first | exact HB.out | apply qF | apply qA | apply qE | refine qG ?_ GE522.out | refine qG ?_ GE529.out) | exact HB.out))) : w.heap.size ≤ gb539))
             have n8_ := Aside0.mk ((by rw [hg]; exact Nat.ne_of_lt (qd (g := gb522) (o := .cells #[.int .i64 x523000_2, .int .i64 x523001_2, .int .i64 x523002_2] 27 (0, 0)) (by (with_reducible repeat (first | refine qC ?_ _ | refine qD ?_ | refine qB ?_ _)); exact BK522.out)) : gb522 ≠ gb539))
             have n9_ := Aside0.mk ((by rw [hg]; exact Nat.ne_of_gt (qd (g := gb522) (o := .cells #[.int .i64 x523000_2, .int .i64 x523001_2, .int .i64 x523002_2] 27 (0, 0)) (by (with_reducible repeat (first | refine qC ?_ _ | refine qD ?_ | refine qB ?_ _)); exact BK522.out)) : gb539 ≠ gb522))
             have n10_ := Aside0.mk ((by rw [hg]; exact Nat.ne_of_lt (qd (g := gb529) (o := .cells #[.int .i64 t523, .int .i64 t524, .slice Ao12 t525.length co12] 57 (0, 0)) (by (with_reducible repeat (first | refine qC ?_ _ | refine qD ?_ | refine qB ?_ _)); exact BK529.out)) : gb529 ≠ gb539))
             have n11_ := Aside0.mk ((by rw [hg]; exact Nat.ne_of_gt (qd (g := gb529) (o := .cells #[.int .i64 t523, .int .i64 t524, .slice Ao12 t525.length co12] 57 (0, 0)) (by (with_reducible repeat (first | refine qC ?_ _ | refine qD ?_ | refine qB ?_ _)); exact BK529.out)) : gb539 ≠ gb529))
             clear HO_10
             clear HO_530002
             clear BK522
             clear BK529
             clear HB
             have HO_10 := n0_
             have HO_530002 := n1_
             have BK522 := n2_
             have BK529 := n3_
             have HB := n4_
             have BK539 := n5_
             have GW539 := n6_
             have GE539 := n7_
             have NB522_539 := n8_
             have NB539_522 := n9_
             have NB529_539 := n10_
             have NB539_529 := n11_
             clear n0_ n1_ n2_ n3_ n4_ n5_ n6_ n7_ n8_ n9_ n10_ n11_
             clear hb hbox hg
             refine hK.out _ _ ⟨(qI BK529.out 0).trans rfl, (qI BK529.out 1).trans rfl, (qI BK529.out 2).trans rfl, (qI BK522.out 0).trans rfl, (qI BK522.out 1).trans rfl, (qI BK522.out 2).trans rfl⟩ (fun hHeld => ?_)
             clear hK K
             refine norm_ (a' := ?_) ?_ ?_
             rotate_left
             ·show Act.put _ (some 12) _ = _
              simp only [Act.put, List.setIfInBounds_toArray, List.set_cons_zero, List.set_cons_succ, i64_w, i32_w]
              rfl
             refine one_ (i := 7) (N := some 43) #[true, true, true, true, true, true, true, true, false, false, false, false, true, false, false] rfl rfl (qWA HT_.out (by kernel_rfl)) (by decide) (fun K hK => ?_)
             refine goes_ Tryd.func63 (by kernel_rfl) rfl #[.string (a2.extract (x11_2 : Int).toNat ((wrap64 (x11_2 + 1)) : Int).toNat)] (by rfl) rfl rfl (by (try simp only [List.map_toArray, List.map_cons, List.map_nil]); first | done | rfl | (simp only [List.length_drop, List.length_take]; rfl)) ?_
             with_reducible refine (qz.calls k2 (a2.extract (x11_2 : Int).toNat ((wrap64 (x11_2 + 1)) : Int).toNat) t534 _ A24.out).mono ?_
             rintro e w' ⟨rfl, ⟨nd, rfl⟩⟩
             refine ⟨_, rfl, ?_⟩
             refine hK.out _ _ ⟨(qI BK529.out 0).trans rfl, (qI BK529.out 1).trans rfl, (qI BK529.out 2).trans rfl, (qI BK522.out 0).trans rfl, (qI BK522.out 1).trans rfl, (qI BK522.out 2).trans rfl⟩ (fun hHeld => ?_)
             clear hK K
             refine norm_ (a' := ?_) ?_ ?_
             rotate_left
             ·show Act.put _ (some 43) _ = _
              simp only [Act.put, List.setIfInBounds_toArray, List.set_cons_zero, List.set_cons_succ, i64_w, i32_w]
              rfl
             refine one_ (i := 8) (N := some 44) #[true, true, true, true, true, true, true, true, true, false, false, false, true, false, false] rfl rfl (qWA HT_.out (by kernel_rfl)) (by decide) (fun K hK => ?_)
             refine goes_ Tryd.func60 (by kernel_rfl) rfl #[.agg #[.int .i64 t523, .int .i64 t524, .slice Ao12 t525.length co12], .agg #[.int .i64 x523000_2, .int .i64 x523001_2, .int .i64 x523002_2], .int .i64 t534] (by rfl) rfl rfl (by (try simp only [List.map_toArray, List.map_cons, List.map_nil]); first | done | rfl | (simp only [List.length_drop, List.length_take]; rfl)) ?_
             with_reducible refine (qPA.calls k2 t523 t524 _ _ t525 x523000_2 x523001_2 x523002_2 t534 t535 t536 t537 false _ ?side1 ?side2 A25.out).mono ?_
             (case side1 => repeat (first | exact (Kd.qh HO_530002.out).2.2 | (with_reducible refine Kd.qOA ?_ _) | (with_reducible refine Kd.qNA ?_ _) | (with_reducible refine Kd.qXA ?_)))
             (case side2 => exact (Kd.qh HO_530002.out).2.1)
             rintro e w43 ⟨rfl, hb⟩
             refine ⟨_, rfl, ?_⟩
             have n0_ := Aside0.mk (Kd.qi (by (with_reducible repeat (first | apply Kd.qT | apply Kd.qS | apply Kd.qZ)); exact HO_10.out) hb)
             have n1_ := Aside0.mk (Kd.qi (by (with_reducible repeat (first | apply Kd.qT | apply Kd.qS | apply Kd.qZ)); exact HO_530002.out) hb)
             have n2_ := Aside0.mk (qK (g := gb522) (o := .cells #[.int .i64 x523000_2, .int .i64 x523001_2, .int .i64 x523002_2] 27 (0, 0)) (by (with_reducible repeat (first | refine qC ?_ _ | refine qD ?_ | refine qB ?_ _)); exact BK522.out) hb)
             have n3_ := Aside0.mk (qK (g := gb529) (o := .cells #[.int .i64 t523, .int .i64 t524, .slice Ao12 t525.length co12] 57 (0, 0)) (by (with_reducible repeat (first | refine qC ?_ _ | refine qD ?_ | refine qB ?_ _)); exact BK529.out) hb)
             have n4_ := Aside0.mk (qK (g := gb539) (o := .cells #[.int .i64 0, .int .i64 0, .int .i64 0] 27 (0, 0)) (by (with_reducible repeat (first | refine qC ?_ _ | refine qD ?_ | refine qB ?_ _)); exact BK539.out) hb)
             have n5_ := Aside0.mk (qL (by repeat (first | (with_reducible first | exact HB.out | apply qF | apply qA | apply qE | refine qG ?_ GE522.out | refine qG ?_ GE529.out | refine qG ?_ GE539.out) | exact HB.out)) hb)
             clear HO_10
             clear HO_530002
             clear BK522
             clear BK529
             clear BK539
             clear HB
             have HO_10 := n0_
             have HO_530002 := n1_
             have BK522 := n2_
             have BK529 := n3_
             have BK539 := n4_
             have HB := n5_
             clear n0_ n1_ n2_ n3_ n4_ n5_
             (try clear hb)
             (try clear hb2)
             (try clear hk)
             (try clear hi)
             refine hK.out _ _ ⟨(qI BK529.out 0).trans rfl, (qI BK529.out 1).trans rfl, (qI BK529.out 2).trans rfl, (qI BK522.out 0).trans rfl, (qI BK522.out 1).trans rfl, (qI BK522.out 2).trans rfl⟩ (fun hHeld => ?_)
             clear hK K
             refine norm_ (a' := ?_) ?_ ?_
             rotate_left
             ·show Act.put _ (some 44) _ = _
              simp only [Act.put, List.setIfInBounds_toArray, List.set_cons_zero, List.set_cons_succ, i64_w, i32_w]
              rfl
             refine pS (i := 9) (N := some 35) #[true, true, true, true, true, true, true, true, true, true, false, false, true, false, false] HT_ ?_
             refine pS (i := 10) (N := some 45) #[true, true, true, true, true, true, true, true, true, true, true, false, true, false, false] HT_ ?_
             refine pS (i := 11) (N := some 46) #[true, true, true, true, true, true, true, true, true, true, true, true, true, false, false] HT_ ?_
             exact norm_ (by simp only [putAll, Act.put, List.setIfInBounds_toArray, List.set_cons_zero, List.set_cons_succ]) (hCont (gb539) _ ⟨hHeld, (by (with_reducible repeat (first | apply Kd.qT | apply Kd.qS | apply Kd.qZ)); exact HO_10.out), (by (with_reducible repeat (first | apply Kd.qT | apply Kd.qS | apply Kd.qZ)); exact HO_530002.out), (by (with_reducible repeat (first | refine qC ?_ _ | refine qD ?_ | refine qB ?_ _)); exact BK522.out), (by (with_reducible repeat (first | refine qC ?_ _ | refine qD ?_ | refine qB ?_ _)); exact BK529.out), (by (with_reducible repeat (first | refine qC ?_ _ | refine qD ?_ | refine qB ?_ _)); exact BK539.out), GW539.out, GE539.out, NB522_539.out, NB539_522.out, NB529_539.out, NB539_529.out, (by repeat (first | (with_reducible first | exact HB.out | apply qF | apply qA | apply qE | refine qG ?_ GE522.out | refine qG ?_ GE529.out | refine qG ?_ GE539.out) | exact HB.out))⟩)
           rintro gb539 w44 ⟨hS_, h0_, h1_, h2_, h3_, h4_, h5_, h6_, h7_, h8_, h9_, h10_, h11_⟩
           have n0_ : Aside0 (Kd.R k27 27 w44 w.heap.size (fun k_ => k_ ≠ gb522 ∧ k_ ≠ gb539) u10 x10_2) := ⟨h0_⟩
           have n1_ : Aside0 (Kd.R (Kd.int .u8) 5 w44 w.heap.size (fun _ => True) (.slice Ao12 t525.length co12) t525) := ⟨h1_⟩
           have n2_ : Aside0 (w44.heap[gb522]? = some (.cells #[.int .i64 x523000_2, .int .i64 x523001_2, .int .i64 x523002_2] 27 (0, 0))) := ⟨h2_⟩
           have n3_ : Aside0 (w44.heap[gb529]? = some (.cells #[.int .i64 t523, .int .i64 t524, .slice Ao12 t525.length co12] 57 (0, 0))) := ⟨h3_⟩
           have n4_ : Aside0 (w44.heap[gb539]? = some (.cells #[.int .i64 0, .int .i64 0, .int .i64 0] 27 (0, 0))) := ⟨h4_⟩
           have n5_ : Aside0 (w.heap.size ≤ gb539) := ⟨h5_⟩
           have n6_ : Aside0 (w.heap.size ≤ gb539) := ⟨h6_⟩
           have n7_ : Aside0 (gb522 ≠ gb539) := ⟨h7_⟩
           have n8_ : Aside0 (gb539 ≠ gb522) := ⟨h8_⟩
           have n9_ : Aside0 (gb529 ≠ gb539) := ⟨h9_⟩
           have n10_ : Aside0 (gb539 ≠ gb529) := ⟨h10_⟩
           have n11_ : Aside0 (Below w.heap.size w w44) := ⟨h11_⟩
           clear HO_10
           clear HO_530002
           clear BK522
           clear BK529
           clear HB
           clear h0_ h1_ h2_ h3_ h4_ h5_ h6_ h7_ h8_ h9_ h10_ h11_
           have HO_10 := n0_
           have HO_530002 := n1_
           have BK522 := n2_
           have BK529 := n3_
           have BK539 := n4_
           have GW539 := n5_
           have GE539 := n6_
           have NB522_539 := n7_
           have NB539_522 := n8_
           have NB529_539 := n9_
           have NB539_529 := n10_
           have HB := n11_
           clear n0_ n1_ n2_ n3_ n4_ n5_ n6_ n7_ n8_ n9_ n10_ n11_
           have hHeld : w44.cell? ⟨gb529, 0, none⟩ = some (.int .i64 t523) ∧ w44.cell? ⟨gb529, 1, none⟩ = some (.int .i64 t524) ∧ w44.cell? ⟨gb529, 2, none⟩ = some (.slice Ao12 t525.length co12) ∧ w44.cell? ⟨gb522, 0, none⟩ = some (.int .i64 x523000_2) ∧ w44.cell? ⟨gb522, 1, none⟩ = some (.int .i64 x523001_2) ∧ w44.cell? ⟨gb522, 2, none⟩ = some (.int .i64 x523002_2) := hS_
           refine norm_ (a' := ?_) ?_ ?_
           rotate_left
           ·simp only [putAll, Act.put, List.setIfInBounds_toArray, List.set_cons_zero, List.set_cons_succ]
            rfl
           refine one_ (i := 13) (N := none) #[true, true, true, true, true, true, true, true, true, true, true, true, true, true, false] rfl rfl (qWA HT_.out (by kernel_rfl)) (by decide) (fun K hK => ?_)
           have hs45 : w44.cell? ⟨gb539, 0, none⟩ = some (.int .i64 0) := (qI BK539.out 0).trans rfl
           have hfs45 := qH BK539.out 0
           have hns45_0 := NB522_539.out
           have hns45_1 := NB529_539.out
           have hms45_0 := NB539_522.out
           have hms45_1 := NB539_529.out
           have hs46 : w44.cell? ⟨gb539, 1, none⟩ = some (.int .i64 0) := (qI BK539.out 1).trans rfl
           have hfs46 := qH BK539.out 1
           have hns46_0 := NB522_539.out
           have hns46_1 := NB529_539.out
           have hms46_0 := NB539_522.out
           have hms46_1 := NB539_529.out
           have hs47 : w44.cell? ⟨gb539, 2, none⟩ = some (.int .i64 0) := (qI BK539.out 2).trans rfl
           have hfs47 := qH BK539.out 2
           have hns47_0 := NB522_539.out
           have hns47_1 := NB529_539.out
           have hms47_0 := NB539_522.out
           have hms47_1 := NB539_529.out
           refine skip_ (w1 := ?_) (by rfl) rfl ?_ ?_
           rotate_left
           ·go_simp
            rfl
           refine hK.out _ _ ⟨((qa (p := ⟨gb539, _, none⟩) NB529_539.out _).trans (((qa (p := ⟨gb539, _, none⟩) NB529_539.out _).trans (((qa (p := ⟨gb539, _, none⟩) NB529_539.out _).trans (hHeld.1)))))), ((qa (p := ⟨gb539, _, none⟩) NB529_539.out _).trans (((qa (p := ⟨gb539, _, none⟩) NB529_539.out _).trans (((qa (p := ⟨gb539, _, none⟩) NB529_539.out _).trans (hHeld.2.1)))))), ((qa (p := ⟨gb539, _, none⟩) NB529_539.out _).trans (((qa (p := ⟨gb539, _, none⟩) NB529_539.out _).trans (((qa (p := ⟨gb539, _, none⟩) NB529_539.out _).trans (hHeld.2.2.1)))))), ((qa (p := ⟨gb539, _, none⟩) NB522_539.out _).trans (((qa (p := ⟨gb539, _, none⟩) NB522_539.out _).trans (((qa (p := ⟨gb539, _, none⟩) NB522_539.out _).trans (hHeld.2.2.2.1)))))), ((qa (p := ⟨gb539, _, none⟩) NB522_539.out _).trans (((qa (p := ⟨gb539, _, none⟩) NB522_539.out _).trans (((qa (p := ⟨gb539, _, none⟩) NB522_539.out _).trans (hHeld.2.2.2.2.1)))))), ((qa (p := ⟨gb539, _, none⟩) NB522_539.out _).trans (((qa (p := ⟨gb539, _, none⟩) NB522_539.out _).trans (((qa (p := ⟨gb539, _, none⟩) NB522_539.out _).trans (hHeld.2.2.2.2.2))))))⟩ (fun hHeld => ?_)
           clear hK K
           refine pS (i := 14) (N := some 13) #[true, true, true, true, true, true, true, true, true, true, true, true, true, true, true] HT_ ?_
           refine done_ (qsA HT_.out (by kernel_rfl)) ?_
           try go_wp2
           go_ret2
           exact ⟨_, by first | rfl | (simp [qN, qM] <;> rfl) | (simp [*, qN, qM] <;> rfl), by first | exact Kd.R_nil _ _ _ _ _ | exact Kd.N_nil _ _ _ _ _ | exact Kd.V_nil _ _ _ _ _ | exact Kd.Q_nil _ _ _ _ _ | exact Kd.S_nil _ _ _ _ _, by repeat (first | (with_reducible first | exact HB.out | apply qF | apply qA | apply qE | refine qG ?_ GE522.out | refine qG ?_ GE529.out | refine qG ?_ GE539.out) | exact HB.out)⟩
         ·rw [if_neg c23] at H
          exact absurd H (by simp)
        ·rw [if_neg c22] at H
         exact absurd H (by simp)
       ·rw [if_neg c21] at H
        exact absurd H (by simp)
      ·rw [if_neg c20] at H
       have c20b0 : decide (x11_2 < (a2.size : Int)) = false := decide_eq_false c20
       clear c20
       simp only [Option.some.injEq, Prod.mk.injEq] at H
       obtain ⟨rfl, rfl⟩ := H
       go_wp2
       go_ret2
       exact ⟨_, by first | rfl | (simp [qN, qM] <;> rfl) | (simp [*, qN, qM] <;> rfl), by (with_reducible repeat (first | apply Kd.qT | apply Kd.qS | apply Kd.qZ)); exact Kd.qHA HO_10.out (fun _ hk => trivial), by repeat (first | (with_reducible first | exact HB.out | apply qF | apply qA | apply qE | refine qG ?_ GE522.out | refine qG ?_ GE529.out) | exact HB.out)⟩
end Go.Proofs.YtbpfhpjbeomfcaaDoor.P
namespace Go.Proofs.YtbpfhpjbeomfcaaDoor.P
open Go.RowKit Go.Proofs.YtbpfhpjbeomfcaaDoorW.PrintWords Go.Proofs.YtbpfhpjbeomfcaaDoorW.PrintLast Go.Proofs.YtbpfhpjbeomfcaaDoorW.PrintMore
attribute [local go_sem] qx qv qGA qFA qm ql qw qu   -- for this text's walks alone
set_option linter.unusedVariables false
set_option linter.unusedSimpArgs false
def qCA.f (k : Nat) (a0 : ByteArray) (a1_0 : Int) (a1_1 : Int) (a1_2 : Int) (a2 : ByteArray) : Option (Int × Int × Int × Bool) := (qb.f k a0 a1_0 a1_1 a1_2 a2).bind fun bt595 => (if bt595.2 = true then (if 0 ≤ (a2.size : Int) then (if (a2.size : Int) < (bt595.1.length : Int) then (some ((qg bt595.1 (a2.size : Int)).f0, (qg bt595.1 (a2.size : Int)).f1, (qg bt595.1 (a2.size : Int)).f2, true)) else (none)) else (none)) else (some (0, 0, 0, false)))
set_option maxHeartbeats 8000000 in
set_option maxRecDepth 100000 in
theorem qCA.calls (k : Nat) (a0 : ByteArray) (a1_0 : Int) (a1_1 : Int) (a1_2 : Int) (a2 : ByteArray) (r1 : Int) (r2 : Int) (r3 : Int) (r4 : Bool) (w : World) (h : qCA.f k a0 a1_0 a1_1 a1_2 a2 = some (r1, r2, r3, r4)) :
  Calls Tryd.prog 35 #[.string a0, .agg #[.int .i64 a1_0, .int .i64 a1_1, .int .i64 a1_2], .string a2] w fun e w' => e = .returned (.tuple #[.agg #[.int .i64 r1, .int .i64 r2, .int .i64 r3], .bool r4]) ∧ Below w.heap.size w w' := by
 have hu27 := Tryd.underlying27
 have HB := Aside0.mk (Below.refl w.heap.size w)
 have H : ((qb.f k a0 a1_0 a1_1 a1_2 a2).bind fun bt595 => (if bt595.2 = true then (if 0 ≤ (a2.size : Int) then (if (a2.size : Int) < (bt595.1.length : Int) then (some ((qg bt595.1 (a2.size : Int)).f0, (qg bt595.1 (a2.size : Int)).f1, (qg bt595.1 (a2.size : Int)).f2, true)) else (none)) else (none)) else (some (0, 0, 0, false)))) = some (r1, r2, r3, r4) := h
 clear h
 replace H := Option.bind_eq_some_iff.mp H
 obtain ⟨⟨t595, t598⟩, A40, H⟩ := H
 replace H : (if t598 = true then (if 0 ≤ (a2.size : Int) then (if (a2.size : Int) < (t595.length : Int) then (some ((qg t595 (a2.size : Int)).f0, (qg t595 (a2.size : Int)).f1, (qg t595 (a2.size : Int)).f2, true)) else (none)) else (none)) else (some (0, 0, 0, false))) = some (r1, r2, r3, r4) := H
 have A4 := Aside0.mk A40
 clear A40
 by_cases c5 : t598 = true
 ·subst c5
  have H1 : (if 0 ≤ (a2.size : Int) then (if (a2.size : Int) < (t595.length : Int) then (some ((qg t595 (a2.size : Int)).f0, (qg t595 (a2.size : Int)).f1, (qg t595 (a2.size : Int)).f2, true)) else (none)) else (none)) = some (r1, r2, r3, r4) := by rw [if_pos rfl] at H; exact H
  clear H
  have H := H1
  clear H1
  by_cases c6 : 0 ≤ (a2.size : Int)
  ·rw [if_pos c6] at H
   have c6b0 : decide (0 ≤ (a2.size : Int)) = true := decide_eq_true c6
   have c6b1 : decide (0 ≤ a2.size) = true := decide_eq_true (by omega)
   clear c6
   by_cases c7 : (a2.size : Int) < (t595.length : Int)
   ·rw [if_pos c7] at H
    have c7b0 : decide ((a2.size : Int) < (t595.length : Int)) = true := decide_eq_true c7
    have c7b1 : decide (a2.size < t595.length) = true := decide_eq_true (Int.ofNat_lt.mp c7)
    clear c7
    simp only [Option.some.injEq, Prod.mk.injEq] at H
    obtain ⟨rfl, rfl, rfl, rfl⟩ := H
    go_enter Tryd.func35, Tryd.ntmps35
    go_wp2_with (first | ((with_reducible refine qc (N := 4) rfl ?_); refine qY ?hg (N := 4) ?hd (cs := #[.int .i64 a1_0, .int .i64 a1_1, .int .i64 a1_2]) (t := 27) ?hr ?_; (case hd => rfl); (case hg => rfl); (case hr => first | (go_simp; done) | (go_simp; rfl)); intro gb593 hg w8 hbox hb; have n0_ := Aside0.mk (qL (by repeat (first | (with_reducible first | exact HB.out | apply qF | apply qA | apply qE) | exact HB.out)) hb); have n1_ := Aside0.mk (hbox); have n2_ := Aside0.mk ((by rw [hg]; exact (qJ (by repeat (first | (with_reducible first | exact HB.out | apply qF | apply qA | apply qE) | exact HB.out))) : w.heap.size ≤ gb593)); have n3_ := Aside0.mk ((by rw [hg]; exact (qJ (by repeat (first | (with_reducible first | exact HB.out | apply qF | apply qA | apply qE) | exact HB.out))) : w.heap.size ≤ gb593)); clear HB; have HB := n0_; have BK593 := n1_; have GW593 := n2_; have GE593 := n3_; clear n0_ n1_ n2_ n3_; clear hb hbox hg) | ((with_reducible refine qc (N := 6) rfl ?_); refine qY ?hg (N := 6) ?hd (cs := #[.int .i64 0, .int .i64 0, .int .i64 0]) (t := 27) ?hr ?_; (case hd => rfl); (case hg => rfl); (case hr => first | (go_simp; done) | (go_simp; rfl)); intro gb594 hg w9 hbox hb; have n0_ := Aside0.mk (qK (g := gb593) (o := .cells #[.int .i64 a1_0, .int .i64 a1_1, .int .i64 a1_2] 27 (0, 0)) (by (with_reducible repeat (first | refine qC ?_ _ | refine qD ?_ | refine qB ?_ _)); exact BK593.out) hb); have n1_ := Aside0.mk (qL (by repeat (first | (with_reducible first | exact HB.out | apply qF | apply qA | apply qE | refine qG ?_ GE593.out) | exact HB.out)) hb); have n2_ := Aside0.mk (hbox); have n3_ := Aside0.mk ((by rw [hg]; exact (qJ (by repeat (first | (with_reducible first | exact HB.out | apply qF | apply qA | apply qE | refine qG ?_ GE593.out) | exact HB.out))) : w.heap.size ≤ gb594)); have n4_ := Aside0.mk ((by rw [hg]; exact (qJ (by repeat (first | (with_reducible first | exact HB.out | apply qF | apply qA | apply qE | refine qG ?_ GE593.out) | exact HB.out))) : w.heap.size ≤ gb594)); have n5_ := Aside0.mk ((by rw [hg]; exact Nat.ne_of_lt (qd (g := gb593) (o := .cells #[.int .i64 a1_0, .int .i64 a1_1, .int .i64 a1_2] 27 (0, 0)) (by (with_reducible repeat (first | refine qC ?_ _ | refine qD ?_ | refine qB ?_ _)); exact BK593.out)) : gb593 ≠ gb594)); have n6_ := Aside0.mk ((by rw [hg]; exact Nat.ne_of_gt (qd (g := gb593) (o := .cells #[.int .i64 a1_0, .int .i64 a1_1, .int .i64 a1_2] 27 (0, 0)) (by (with_reducible repeat (first | refine qC ?_ _ | refine qD ?_ | refine qB ?_ _)); exact BK593.out)) : gb594 ≠ gb593)); clear BK593; clear HB; have BK593 := n0_; have HB := n1_; have BK594 := n2_; have GW594 := n3_; have GE594 := n4_; have NB593_594 := n5_; have NB594_593 := n6_; clear n0_ n1_ n2_ n3_ n4_ n5_ n6_; clear hb hbox hg; have hnb10 := NB593_594.out; have hnc10 := NB594_593.out; have hcz11_0 : w9.cell? ⟨gb593, 0, none⟩ = some (.int .i64 a1_0) := (qI BK593.out 0).trans rfl; have hcz11_1 : w9.cell? ⟨gb593, 1, none⟩ = some (.int .i64 a1_1) := (qI BK593.out 1).trans rfl; have hcz11_2 : w9.cell? ⟨gb593, 2, none⟩ = some (.int .i64 a1_2) := (qI BK593.out 2).trans rfl; have hfz11_0 := qH BK593.out 0; have hfz11_1 := qH BK593.out 1; have hfz11_2 := qH BK593.out 2) | ((with_reducible refine qX (f := 67) rfl ?_); refine qo (some 14) rfl rfl Tryd.func67 (by kernel_rfl) rfl #[.string a0, .agg #[.int .i64 a1_0, .int .i64 a1_1, .int .i64 a1_2], .string a2] rfl (by (try simp only [List.map_toArray, List.map_cons, List.map_nil]); first | done | rfl | (simp only [List.length_drop, List.length_take]; rfl)) ?_; (with_reducible refine (qb.calls k a0 a1_0 a1_1 a1_2 a2 t595 true _ A4.out).mono ?_); rintro e w12 ⟨v596, rfl, ho0, hb⟩; refine ⟨_, rfl, ?_⟩; have n0_ := Aside0.mk (Kd.qMA (Kd.qHB (Kd.qHB ho0 (g := gb593) (o := .cells #[.int .i64 a1_0, .int .i64 a1_1, .int .i64 a1_2] 27 (0, 0)) (by (with_reducible repeat (first | refine qC ?_ _ | refine qD ?_ | refine qB ?_ _)); exact BK593.out)) (g := gb594) (o := .cells #[.int .i64 0, .int .i64 0, .int .i64 0] 27 (0, 0)) (by (with_reducible repeat (first | refine qC ?_ _ | refine qD ?_ | refine qB ?_ _)); exact BK594.out)) (qJ (by repeat (first | (with_reducible first | exact HB.out | apply qF | apply qA | apply qE | refine qG ?_ GE593.out | refine qG ?_ GE594.out) | exact HB.out)))); have n1_ := Aside0.mk (qK (g := gb593) (o := .cells #[.int .i64 a1_0, .int .i64 a1_1, .int .i64 a1_2] 27 (0, 0)) (by (with_reducible repeat (first | refine qC ?_ _ | refine qD ?_ | refine qB ?_ _)); exact BK593.out) hb); have n2_ := Aside0.mk (qK (g := gb594) (o := .cells #[.int .i64 0, .int .i64 0, .int .i64 0] 27 (0, 0)) (by (with_reducible repeat (first | refine qC ?_ _ | refine qD ?_ | refine qB ?_ _)); exact BK594.out) hb); have n3_ := Aside0.mk (qL (by repeat (first | (with_reducible first | exact HB.out | apply qF | apply qA | apply qE | refine qG ?_ GE593.out | refine qG ?_ GE594.out) | exact HB.out)) hb); clear BK593; clear BK594; clear HB; have HO597 := n0_; have BK593 := n1_; have BK594 := n2_; have HB := n3_; clear n0_ n1_ n2_ n3_; (try clear hb); (try clear hb2); (try clear hk); (try clear hi); (try clear ho0); obtain ⟨Ao13, co13, eo13⟩ := Kd.qRA HO597.out; subst eo13; have p599 : 0 ≤ ((a2.size : Int) : Int) := of_decide_eq_true (by first | (with_reducible assumption) | assumption); have q599 : (a2.size : Int) < (t595.length : Int) := of_decide_eq_true (by first | (with_reducible assumption) | assumption); obtain ⟨ad599, e599, hx599_0, hx599_1, hx599_2⟩ := qkB (Kd.qh HO597.out).2.2 (a2.size : Int) p599 q599; cases e599; (try simp only [Int.toNat_natCast] at hx599_0); (try simp only [Int.toNat_natCast] at hx599_1); (try simp only [Int.toNat_natCast] at hx599_2); replace p599 := eq_true p599; replace q599 := eq_true q599; have hcz14_0 : w12.cell? ⟨gb594, 0, none⟩ = some (.int .i64 0) := (qI BK594.out 0).trans rfl; have hcz14_1 : w12.cell? ⟨gb594, 1, none⟩ = some (.int .i64 0) := (qI BK594.out 1).trans rfl; have hcz14_2 : w12.cell? ⟨gb594, 2, none⟩ = some (.int .i64 0) := (qI BK594.out 2).trans rfl; have hfz14_0 := qH BK594.out 0; have hfz14_1 := qH BK594.out 1; have hfz14_2 := qH BK594.out 2))
    refine bodyPost_ret (qDA rfl _ _ gb594 27 #[.int .i64 ((qg t595 (a2.size : Int)).f0), .int .i64 ((qg t595 (a2.size : Int)).f1), .int .i64 ((qg t595 (a2.size : Int)).f2)] (0, 0) _ rfl (by (with_reducible repeat (first | refine qC ?_ _ | refine qD ?_ | refine qB ?_ _)); refine qO (cs := #[.int .i64 ((qg t595 (a2.size : Int)).f0), .int .i64 ((qg t595 (a2.size : Int)).f1), .int .i64 0]) ?_ 2 _ rfl; (with_reducible repeat (first | refine qC ?_ _ | refine qD ?_ | refine qB ?_ _)); refine qO (cs := #[.int .i64 ((qg t595 (a2.size : Int)).f0), .int .i64 0, .int .i64 0]) ?_ 1 _ rfl; (with_reducible repeat (first | refine qC ?_ _ | refine qD ?_ | refine qB ?_ _)); refine qO (cs := #[.int .i64 0, .int .i64 0, .int .i64 0]) ?_ 0 _ rfl; (with_reducible repeat (first | refine qC ?_ _ | refine qD ?_ | refine qB ?_ _)); exact BK594.out) Tryd.underlying27 rfl (by kernel_rfl)) rfl ?_
    exact ⟨by first | rfl | (simp [qN, qM] <;> rfl) | (simp [*, qN, qM] <;> rfl), by repeat (first | (with_reducible first | exact HB.out | apply qF | apply qA | apply qE | refine qG ?_ GE593.out | refine qG ?_ GE594.out) | exact HB.out)⟩
   ·rw [if_neg c7] at H
    exact absurd H (by simp)
  ·rw [if_neg c6] at H
   exact absurd H (by simp)
 ·replace c5 := Bool.eq_false_iff.mpr c5
  subst c5
  have H1 : (some (0, 0, 0, false)) = some (r1, r2, r3, r4) := by rw [if_neg (show ¬ (false = true) by decide)] at H; exact H
  clear H
  have H := H1
  clear H1
  simp only [Option.some.injEq, Prod.mk.injEq] at H
  obtain ⟨rfl, rfl, rfl, rfl⟩ := H
  go_enter Tryd.func35, Tryd.ntmps35
  go_wp2_with (first | ((with_reducible refine qc (N := 4) rfl ?_); refine qY ?hg (N := 4) ?hd (cs := #[.int .i64 a1_0, .int .i64 a1_1, .int .i64 a1_2]) (t := 27) ?hr ?_; (case hd => rfl); (case hg => rfl); (case hr => first | (go_simp; done) | (go_simp; rfl)); intro gb593 hg w15 hbox hb; have n0_ := Aside0.mk (qL (by repeat (first | (with_reducible first | exact HB.out | apply qF | apply qA | apply qE) | exact HB.out)) hb); have n1_ := Aside0.mk (hbox); have n2_ := Aside0.mk ((by rw [hg]; exact (qJ (by repeat (first | (with_reducible first | exact HB.out | apply qF | apply qA | apply qE) | exact HB.out))) : w.heap.size ≤ gb593)); have n3_ := Aside0.mk ((by rw [hg]; exact (qJ (by repeat (first | (with_reducible first | exact HB.out | apply qF | apply qA | apply qE) | exact HB.out))) : w.heap.size ≤ gb593)); clear HB; have HB := n0_; have BK593 := n1_; have GW593 := n2_; have GE593 := n3_; clear n0_ n1_ n2_ n3_; clear hb hbox hg) | ((with_reducible refine qc (N := 6) rfl ?_); refine qY ?hg (N := 6) ?hd (cs := #[.int .i64 0, .int .i64 0, .int .i64 0]) (t := 27) ?hr ?_; (case hd => rfl); (case hg => rfl); (case hr => first | (go_simp; done) | (go_simp; rfl)); intro gb594 hg w16 hbox hb; have n0_ := Aside0.mk (qK (g := gb593) (o := .cells #[.int .i64 a1_0, .int .i64 a1_1, .int .i64 a1_2] 27 (0, 0)) (by (with_reducible repeat (first | refine qC ?_ _ | refine qD ?_ | refine qB ?_ _)); exact BK593.out) hb); have n1_ := Aside0.mk (qL (by repeat (first | (with_reducible first | exact HB.out | apply qF | apply qA | apply qE | refine qG ?_ GE593.out) | exact HB.out)) hb); have n2_ := Aside0.mk (hbox); have n3_ := Aside0.mk ((by rw [hg]; exact (qJ (by repeat (first | (with_reducible first | exact HB.out | apply qF | apply qA | apply qE | refine qG ?_ GE593.out) | exact HB.out))) : w.heap.size ≤ gb594)); have n4_ := Aside0.mk ((by rw [hg]; exact (qJ (by repeat (first | (with_reducible first | exact HB.out | apply qF | apply qA | apply qE | refine qG ?_ GE593.out) | exact HB.out))) : w.heap.size ≤ gb594)); have n5_ := Aside0.mk ((by rw [hg]; exact Nat.ne_of_lt (qd (g := gb593) (o := .cells #[.int .i64 a1_0, .int .i64 a1_1, .int .i64 a1_2] 27 (0, 0)) (by (with_reducible repeat (first | refine qC ?_ _ | refine qD ?_ | refine qB ?_ _)); exact BK593.out)) : gb593 ≠ gb594)); have n6_ := Aside0.mk ((by rw [hg]; exact Nat.ne_of_gt (qd (g := gb593) (o := .cells #[.int .i64 a1_0, .int .i64 a1_1, .int .i64 a1_2] 27 (0, 0)) (by (with_reducible repeat (first | refine qC ?_ _ | refine qD ?_ | refine qB ?_ _)); exact BK593.out)) : gb594 ≠ gb593)); clear BK593; clear HB; have BK593 := n0_; have HB := n1_; have BK594 := n2_; have GW594 := n3_; have GE594 := n4_; have NB593_594 := n5_; have NB594_593 := n6_; clear n0_ n1_ n2_ n3_ n4_ n5_ n6_; clear hb hbox hg; have hnb17 := NB593_594.out; have hnc17 := NB594_593.out; have hcz18_0 : w16.cell? ⟨gb593, 0, none⟩ = some (.int .i64 a1_0) := (qI BK593.out 0).trans rfl; have hcz18_1 : w16.cell? ⟨gb593, 1, none⟩ = some (.int .i64 a1_1) := (qI BK593.out 1).trans rfl; have hcz18_2 : w16.cell? ⟨gb593, 2, none⟩ = some (.int .i64 a1_2) := (qI BK593.out 2).trans rfl; have hfz18_0 := qH BK593.out 0; have hfz18_1 := qH BK593.out 1; have hfz18_2 := qH BK593.out 2) | ((with_reducible refine qX (f := 67) rfl ?_); refine qo (some 14) rfl rfl Tryd.func67 (by kernel_rfl) rfl #[.string a0, .agg #[.int .i64 a1_0, .int .i64 a1_1, .int .i64 a1_2], .string a2] rfl (by (try simp only [List.map_toArray, List.map_cons, List.map_nil]); first | done | rfl | (simp only [List.length_drop, List.length_take]; rfl)) ?_; (with_reducible refine (qb.calls k a0 a1_0 a1_1 a1_2 a2 t595 false _ A4.out).mono ?_); rintro e w19 ⟨v596, rfl, ho0, hb⟩; refine ⟨_, rfl, ?_⟩; have n0_ := Aside0.mk (Kd.qMA (Kd.qHB (Kd.qHB ho0 (g := gb593) (o := .cells #[.int .i64 a1_0, .int .i64 a1_1, .int .i64 a1_2] 27 (0, 0)) (by (with_reducible repeat (first | refine qC ?_ _ | refine qD ?_ | refine qB ?_ _)); exact BK593.out)) (g := gb594) (o := .cells #[.int .i64 0, .int .i64 0, .int .i64 0] 27 (0, 0)) (by (with_reducible repeat (first | refine qC ?_ _ | refine qD ?_ | refine qB ?_ _)); exact BK594.out)) (qJ (by repeat (first | (with_reducible first | exact HB.out | apply qF | apply qA | apply qE | refine qG ?_ GE593.out | refine qG ?_ GE594.out) | exact HB.out)))); have n1_ := Aside0.mk (qK (g := gb593) (o := .cells #[.int .i64 a1_0, .int .i64 a1_1, .int .i64 a1_2] 27 (0, 0)) (by (with_reducible repeat (first | refine qC ?_ _ | refine qD ?_ | refine qB ?_ _)); exact BK593.out) hb); have n2_ := Aside0.mk (qK (g := gb594) (o := .cells #[.int .i64 0, .int .i64 0, .int .i64 0] 27 (0, 0)) (by (with_reducible repeat (first | refine qC ?_ _ | refine qD ?_ | refine qB ?_ _)); exact BK594.out) hb); have n3_ := Aside0.mk (qL (by repeat (first | (with_reducible first | exact HB.out | apply qF | apply qA | apply qE | refine qG ?_ GE593.out | refine qG ?_ GE594.out) | exact HB.out)) hb); clear BK593; clear BK594; clear HB; have HO597 := n0_; have BK593 := n1_; have BK594 := n2_; have HB := n3_; clear n0_ n1_ n2_ n3_; (try clear hb); (try clear hb2); (try clear hk); (try clear hi); (try clear ho0); have hcz20_0 : w19.cell? ⟨gb594, 0, none⟩ = some (.int .i64 0) := (qI BK594.out 0).trans rfl; have hcz20_1 : w19.cell? ⟨gb594, 1, none⟩ = some (.int .i64 0) := (qI BK594.out 1).trans rfl; have hcz20_2 : w19.cell? ⟨gb594, 2, none⟩ = some (.int .i64 0) := (qI BK594.out 2).trans rfl; have hfz20_0 := qH BK594.out 0; have hfz20_1 := qH BK594.out 1; have hfz20_2 := qH BK594.out 2))
  refine bodyPost_ret (qDA rfl _ _ gb594 27 #[.int .i64 0, .int .i64 0, .int .i64 0] (0, 0) _ rfl (by (with_reducible repeat (first | refine qC ?_ _ | refine qD ?_ | refine qB ?_ _)); refine qO (cs := #[.int .i64 0, .int .i64 0, .int .i64 0]) ?_ 2 _ rfl; (with_reducible repeat (first | refine qC ?_ _ | refine qD ?_ | refine qB ?_ _)); refine qO (cs := #[.int .i64 0, .int .i64 0, .int .i64 0]) ?_ 1 _ rfl; (with_reducible repeat (first | refine qC ?_ _ | refine qD ?_ | refine qB ?_ _)); refine qO (cs := #[.int .i64 0, .int .i64 0, .int .i64 0]) ?_ 0 _ rfl; (with_reducible repeat (first | refine qC ?_ _ | refine qD ?_ | refine qB ?_ _)); exact BK594.out) Tryd.underlying27 rfl (by kernel_rfl)) rfl ?_
  exact ⟨by first | rfl | (simp [qN, qM] <;> rfl) | (simp [*, qN, qM] <;> rfl), by repeat (first | (with_reducible first | exact HB.out | apply qF | apply qA | apply qE | refine qG ?_ GE593.out | refine qG ?_ GE594.out) | exact HB.out)⟩
end Go.Proofs.YtbpfhpjbeomfcaaDoor.P
namespace Go.Proofs.YtbpfhpjbeomfcaaDoor.P
open Go.RowKit Go.Proofs.YtbpfhpjbeomfcaaDoorW.PrintWords Go.Proofs.YtbpfhpjbeomfcaaDoorW.PrintLast Go.Proofs.YtbpfhpjbeomfcaaDoorW.PrintMore
attribute [local go_sem] qx qv qGA qFA qm ql qw qu   -- for this text's walks alone
set_option linter.unusedVariables false
set_option linter.unusedSimpArgs false
def qLA.f (a0 : Int) (a1 : Int) (a2 : Int) : Option (Bool) := if a1 ≤ a0 then (some (decide (a0 ≤ a2))) else (some false)
set_option maxHeartbeats 8000000 in
set_option maxRecDepth 100000 in
theorem qLA.calls (a0 : Int) (a1 : Int) (a2 : Int) (r : Bool) (w : World) (h : qLA.f a0 a1 a2 = some r) :
  Calls Tryd.prog 82 #[.int .i64 a0, .int .i64 a1, .int .i64 a2] w fun e w' => e = .returned (.bool r) ∧ Drawn0 w w' := by
 have H : (if a1 ≤ a0 then (some (decide (a0 ≤ a2))) else (some false)) = some r := h
 clear h
 by_cases c4 : a1 ≤ a0
 ·rw [if_pos c4] at H
  have c4b0 : decide (a1 ≤ a0) = true := decide_eq_true c4
  clear c4
  obtain rfl := Option.some.inj H
  go_enter Tryd.func82, Tryd.ntmps82
  go_wp2
  go_ret
  exact ⟨by first | rfl | (simp; done) | (simp [*]; done), by repeat (first | exact Drawn0.refl _ | apply Drawn0.step)⟩
 ·rw [if_neg c4] at H
  have c4b0 : decide (a1 ≤ a0) = false := decide_eq_false c4
  clear c4
  obtain rfl := Option.some.inj H
  go_enter Tryd.func82, Tryd.ntmps82
  go_wp2
  go_ret
  exact ⟨by first | rfl | (simp; done) | (simp [*]; done), by repeat (first | exact Drawn0.refl _ | apply Drawn0.step)⟩
end Go.Proofs.YtbpfhpjbeomfcaaDoor.P
namespace Go.Proofs
open Go.Shelf
def Tryd.lays138_ren : Go.Shelf.Ren := ⟨fun | 138 => 78 | 195 => 103 | 218 => 104 | 143 => 105 | 219 => 139 | 217 => 154 | 225 => 155 | 224 => 156 | 267 => 157 | 266 => 163 | 314 => 164 | n => n, fun | 9 => 9 | 3 => 3 | 4 => 4 | 5 => 5 | 0 => 0 | 46 => 110 | 146 => 163 | 51 => 128 | n => n, fun | 1 => 0 | n => n⟩
theorem Tryd.lays138 : Go.Proofs.Lays.n138 Tryd.prog Tryd.lays138_ren := {
 mixed := by kernel_rfl
 f138 := Tryd.func78.trans (congrArg some (by kernel_rfl))
 f143 := Tryd.func105.trans (congrArg some (by kernel_rfl))
 f195 := Tryd.func103.trans (congrArg some (by kernel_rfl))
 f217 := Tryd.func154.trans (congrArg some (by kernel_rfl))
 f218 := Tryd.func104.trans (congrArg some (by kernel_rfl))
 f219 := Tryd.func139.trans (congrArg some (by kernel_rfl))
 f224 := Tryd.func156.trans (congrArg some (by kernel_rfl))
 f225 := Tryd.func155.trans (congrArg some (by kernel_rfl))
 f266 := Tryd.func163.trans (congrArg some (by kernel_rfl))
 f267 := Tryd.func157.trans (congrArg some (by kernel_rfl))
 f314 := Tryd.func164.trans (congrArg some (by kernel_rfl))
 t0 := Tryd.underlying0
 a0 := Tryd.isAgg0
 z0 := Tryd.sizeOf0
 v0 := Tryd.zeroValue0
 t3 := Tryd.underlying3
 a3 := Tryd.isAgg3
 z3 := Tryd.sizeOf3
 v3 := Tryd.zeroValue3
 t4 := Tryd.underlying4
 a4 := Tryd.isAgg4
 z4 := Tryd.sizeOf4
 v4 := Tryd.zeroValue4
 t5 := Tryd.underlying5
 a5 := Tryd.isAgg5
 z5 := Tryd.sizeOf5
 v5 := Tryd.zeroValue5
 t9 := Tryd.underlying9
 a9 := Tryd.isAgg9
 z9 := Tryd.sizeOf9
 v9 := Tryd.zeroValue9
 t46 := Tryd.underlying110
 a46 := Tryd.isAgg110
 z46 := Tryd.sizeOf110
 v46 := Tryd.zeroValue110
 t51 := Tryd.underlying128
 a51 := Tryd.isAgg128
 z51 := Tryd.sizeOf128
 v51 := Tryd.zeroValue128
 t146 := Tryd.underlying163
 a146 := Tryd.isAgg163
 z146 := Tryd.sizeOf163
 v146 := Tryd.zeroValue163
 g1 := by kernel_rfl }
open Go.RowKit Go.Lib in
theorem Tryd.strings_Count_one (s : ByteArray) (c : UInt8) (w : World) :
  Calls Tryd.prog 78 #[.string s, .string ⟨#[c]⟩] w fun e w' => e = .returned (.int .i64 (Lib.countByte s.data.toList c)) ∧ w' = w := Any.strings_Count_one Tryd.lays138 s c w
def Tryd.lays146_ren : Go.Shelf.Ren := ⟨fun | 146 => 101 | 221 => 131 | 268 => 149 | 138 => 78 | 143 => 105 | 195 => 103 | 197 => 151 | 218 => 104 | 219 => 139 | 260 => 160 | 217 => 154 | 225 => 155 | 224 => 156 | 267 => 157 | 266 => 163 | 314 => 164 | n => n, fun | 9 => 9 | 31 => 60 | 3 => 3 | 4 => 4 | 0 => 0 | 105 => 155 | 21 => 21 | 5 => 5 | 46 => 110 | 119 => 165 | 139 => 168 | 138 => 167 | 146 => 163 | 51 => 128 | n => n, fun | 1 => 0 | 3 => 1 | 4 => 2 | n => n⟩
theorem Tryd.lays146 : Go.Proofs.Lays.n146 Tryd.prog Tryd.lays146_ren := {
 mixed := by kernel_rfl
 f138 := Tryd.func78.trans (congrArg some (by kernel_rfl))
 f143 := Tryd.func105.trans (congrArg some (by kernel_rfl))
 f146 := Tryd.func101.trans (congrArg some (by kernel_rfl))
 f195 := Tryd.func103.trans (congrArg some (by kernel_rfl))
 f197 := Tryd.func151.trans (congrArg some (by kernel_rfl))
 f217 := Tryd.func154.trans (congrArg some (by kernel_rfl))
 f218 := Tryd.func104.trans (congrArg some (by kernel_rfl))
 f219 := Tryd.func139.trans (congrArg some (by kernel_rfl))
 f221 := Tryd.func131.trans (congrArg some (by kernel_rfl))
 f224 := Tryd.func156.trans (congrArg some (by kernel_rfl))
 f225 := Tryd.func155.trans (congrArg some (by kernel_rfl))
 f260 := Tryd.func160.trans (congrArg some (by kernel_rfl))
 f266 := Tryd.func163.trans (congrArg some (by kernel_rfl))
 f267 := Tryd.func157.trans (congrArg some (by kernel_rfl))
 f268 := Tryd.func149.trans (congrArg some (by kernel_rfl))
 f314 := Tryd.func164.trans (congrArg some (by kernel_rfl))
 t0 := Tryd.underlying0
 a0 := Tryd.isAgg0
 z0 := Tryd.sizeOf0
 v0 := Tryd.zeroValue0
 t3 := Tryd.underlying3
 a3 := Tryd.isAgg3
 z3 := Tryd.sizeOf3
 v3 := Tryd.zeroValue3
 t4 := Tryd.underlying4
 a4 := Tryd.isAgg4
 z4 := Tryd.sizeOf4
 v4 := Tryd.zeroValue4
 t5 := Tryd.underlying5
 a5 := Tryd.isAgg5
 z5 := Tryd.sizeOf5
 v5 := Tryd.zeroValue5
 t9 := Tryd.underlying9
 a9 := Tryd.isAgg9
 z9 := Tryd.sizeOf9
 v9 := Tryd.zeroValue9
 t21 := Tryd.underlying21
 a21 := Tryd.isAgg21
 z21 := Tryd.sizeOf21
 v21 := Tryd.zeroValue21
 t31 := Tryd.underlying60
 a31 := Tryd.isAgg60
 z31 := Tryd.sizeOf60
 v31 := Tryd.zeroValue60
 t46 := Tryd.underlying110
 a46 := Tryd.isAgg110
 z46 := Tryd.sizeOf110
 v46 := Tryd.zeroValue110
 t51 := Tryd.underlying128
 a51 := Tryd.isAgg128
 z51 := Tryd.sizeOf128
 v51 := Tryd.zeroValue128
 t105 := Tryd.underlying155
 a105 := Tryd.isAgg155
 z105 := Tryd.sizeOf155
 v105 := Tryd.zeroValue155
 t119 := Tryd.underlying165
 a119 := Tryd.isAgg165
 z119 := Tryd.sizeOf165
 t138 := Tryd.underlying167
 a138 := Tryd.isAgg167
 z138 := Tryd.sizeOf167
 v138 := Tryd.zeroValue167
 t139 := Tryd.underlying168
 a139 := Tryd.isAgg168
 z139 := Tryd.sizeOf168
 v139 := Tryd.zeroValue168
 t146 := Tryd.underlying163
 a146 := Tryd.isAgg163
 z146 := Tryd.sizeOf163
 v146 := Tryd.zeroValue163
 g1 := by kernel_rfl
 g3 := by kernel_rfl
 g4 := by kernel_rfl }
open Go.RowKit Go.Lib in
theorem Tryd.strings_Split (s sep : ByteArray) (m : Int) (w : World) (hs : s.size < 4294967281) (hm : w.cell? ⟨0, 0, none⟩ = some (.int .i64 m)) (h1 : 1 ≤ sep.size) :
  Calls Tryd.prog 101 #[.string s, .string sep] w fun e w' =>
   e = .returned (.slice (some ⟨w.heap.size, 0, none⟩) (Lib.countB s sep + 1) (Lib.countB s sep + 1)) ∧ w' = w.alloc (.cells ((Lib.splitB sep 0 (Lib.countB s sep) s).map Value.string).toArray 9) := Any.strings_Split Tryd.lays146 (by kernel_rfl) s sep m w hs hm h1
def Tryd.lays160_ren : Go.Shelf.Ren := ⟨fun | 160 => 102 | 232 => 133 | 231 => 132 | 227 => 134 | 234 => 136 | 233 => 135 | 236 => 138 | 235 => 137 | 228 => 150 | 271 => 153 | 151 => 152 | 197 => 151 | 120 => 162 | 152 => 161 | 260 => 160 | 137 => 165 | 119 => 166 | 224 => 156 | 225 => 155 | 217 => 154 | 266 => 163 | n => n, fun | 9 => 9 | 4 => 4 | 3 => 3 | 5 => 5 | 117 => 140 | 116 => 139 | 0 => 0 | 124 => 143 | 21 => 21 | 105 => 155 | 46 => 110 | 119 => 165 | 139 => 168 | 138 => 167 | n => n, fun | 3 => 1 | 4 => 2 | n => n⟩
theorem Tryd.lays160 : Go.Proofs.Lays.n160 Tryd.prog Tryd.lays160_ren := {
 mixed := by kernel_rfl
 f119 := Tryd.func166.trans (congrArg some (by kernel_rfl))
 f120 := Tryd.func162.trans (congrArg some (by kernel_rfl))
 f137 := Tryd.func165.trans (congrArg some (by kernel_rfl))
 f151 := Tryd.func152.trans (congrArg some (by kernel_rfl))
 f152 := Tryd.func161.trans (congrArg some (by kernel_rfl))
 f160 := Tryd.func102.trans (congrArg some (by kernel_rfl))
 f197 := Tryd.func151.trans (congrArg some (by kernel_rfl))
 f217 := Tryd.func154.trans (congrArg some (by kernel_rfl))
 f224 := Tryd.func156.trans (congrArg some (by kernel_rfl))
 f225 := Tryd.func155.trans (congrArg some (by kernel_rfl))
 f227 := Tryd.func134.trans (congrArg some (by kernel_rfl))
 f228 := Tryd.func150.trans (congrArg some (by kernel_rfl))
 f231 := Tryd.func132.trans (congrArg some (by kernel_rfl))
 f232 := Tryd.func133.trans (congrArg some (by kernel_rfl))
 f233 := Tryd.func135.trans (congrArg some (by kernel_rfl))
 f234 := Tryd.func136.trans (congrArg some (by kernel_rfl))
 f235 := Tryd.func137.trans (congrArg some (by kernel_rfl))
 f236 := Tryd.func138.trans (congrArg some (by kernel_rfl))
 f260 := Tryd.func160.trans (congrArg some (by kernel_rfl))
 f266 := Tryd.func163.trans (congrArg some (by kernel_rfl))
 f271 := Tryd.func153.trans (congrArg some (by kernel_rfl))
 t0 := Tryd.underlying0
 a0 := Tryd.isAgg0
 z0 := Tryd.sizeOf0
 v0 := Tryd.zeroValue0
 t3 := Tryd.underlying3
 a3 := Tryd.isAgg3
 z3 := Tryd.sizeOf3
 v3 := Tryd.zeroValue3
 t4 := Tryd.underlying4
 a4 := Tryd.isAgg4
 z4 := Tryd.sizeOf4
 v4 := Tryd.zeroValue4
 t5 := Tryd.underlying5
 a5 := Tryd.isAgg5
 z5 := Tryd.sizeOf5
 v5 := Tryd.zeroValue5
 t9 := Tryd.underlying9
 a9 := Tryd.isAgg9
 z9 := Tryd.sizeOf9
 v9 := Tryd.zeroValue9
 t21 := Tryd.underlying21
 a21 := Tryd.isAgg21
 z21 := Tryd.sizeOf21
 v21 := Tryd.zeroValue21
 t46 := Tryd.underlying110
 a46 := Tryd.isAgg110
 z46 := Tryd.sizeOf110
 v46 := Tryd.zeroValue110
 t105 := Tryd.underlying155
 a105 := Tryd.isAgg155
 z105 := Tryd.sizeOf155
 v105 := Tryd.zeroValue155
 t116 := Tryd.underlying139
 a116 := Tryd.isAgg139
 z116 := Tryd.sizeOf139
 t117 := Tryd.underlying140
 a117 := Tryd.isAgg140
 z117 := Tryd.sizeOf140
 v117 := Tryd.zeroValue140
 t119 := Tryd.underlying165
 a119 := Tryd.isAgg165
 z119 := Tryd.sizeOf165
 t124 := Tryd.underlying143
 a124 := Tryd.isAgg143
 z124 := Tryd.sizeOf143
 v124 := Tryd.zeroValue143
 t138 := Tryd.underlying167
 a138 := Tryd.isAgg167
 z138 := Tryd.sizeOf167
 v138 := Tryd.zeroValue167
 t139 := Tryd.underlying168
 a139 := Tryd.isAgg168
 z139 := Tryd.sizeOf168
 v139 := Tryd.zeroValue168
 g3 := by kernel_rfl
 g4 := by kernel_rfl }
end Go.Proofs
namespace Go.Proofs.YtbpfhpjbeomfcaaDoor
open Go.RowKit Go.Proofs.YtbpfhpjbeomfcaaDoorW.PrintWords Go.Proofs.YtbpfhpjbeomfcaaDoorW.PrintLast
set_option linter.unusedVariables false
set_option linter.unusedSimpArgs false
def strings_Split.f (a0 a1 : ByteArray) : Option (List ByteArray) := if a0.size < 4294967281 ∧ 1 ≤ a1.size then some (Lib.splitB a1 0 (Lib.countB a0 a1) a0) else none
theorem strings_Split.calls (a0 a1 : ByteArray) (r : List ByteArray) (w : World) (hL : Laid w) (h : strings_Split.f a0 a1 = some r) :
  Calls Tryd.prog 101 #[.string a0, .string a1] w fun e w' => ∃ v0_ : Value, e = .returned v0_ ∧ Kd.R Kd.string 9 w' w.heap.size (fun _ => True) v0_ r ∧ Below w.heap.size w w' := by
 unfold strings_Split.f at h
 split at h
 ·rename_i hs
  obtain rfl := Option.some.inj h
  obtain ⟨m, hm⟩ := hL
  have hlen := Lib.splitB_all a1 hs.2 0 _ a0 rfl
  have hle := Lib.countB_le a1 hs.2 a0.size a0 (Nat.le_refl _)
  refine (Tryd.strings_Split a0 a1 m w hs.1 hm hs.2).mono fun e w' ⟨h1, h2⟩ => ⟨_, h1, ?_, ?_⟩
  ·subst h2
   generalize Lib.splitB a1 0 (Lib.countB a0 a1) a0 = l at *
   rw [← hlen]
   refine Kd.R_of_own ⟨by rw [encs_length, Nat.mul_one], .inr ⟨w.heap.size, l.length, (l.map Value.string).toArray, rfl, Nat.le_refl _, ?_, Nat.le_refl _, ?_, ?_, ?_⟩⟩ (fun _ _ => trivial)
   ·exact qeB _ _
   ·unfold maxLen; omega
   ·simp
   ·simp only [encs, Nat.mul_one]
    rw [List.take_of_length_le (by simp)]
  ·subst h2
   exact qF (Below.refl _ _) _
 ·cases h
end Go.Proofs.YtbpfhpjbeomfcaaDoor
namespace Go.Proofs.YtbpfhpjbeomfcaaDoor
open Go.RowKit Go.Proofs.YtbpfhpjbeomfcaaDoorW.PrintWords Go.Proofs.YtbpfhpjbeomfcaaDoorW.PrintLast
set_option linter.unusedVariables false
set_option linter.unusedSimpArgs false
def qIA.f (a0 a1 : ByteArray) : Option ByteArray := if a0.size ≤ 9223372036854775807 ∧ a1.size < 4294967281 ∧ (a1.data.toList.all fun b => decide (b.toNat < 128)) = true then some ⟨(Lib.trimS a0.data.toList a1.data.toList).toArray⟩ else none
theorem qIA.calls (a0 a1 : ByteArray) (r : ByteArray) (w : World) (h : qIA.f a0 a1 = some r) :
  Calls Tryd.prog 102 #[.string a0, .string a1] w fun e w' => e = .returned (.string r) ∧ Below w.heap.size w w' := by
 unfold qIA.f at h
 split at h
 ·rename_i hs
  obtain rfl := Option.some.inj h
  exact Any.strings_Trim_laid Tryd.lays160 (by kernel_rfl) a0 a1 w hs.1 hs.2.1 (ascii_of_all hs.2.2)
 ·cases h
end Go.Proofs.YtbpfhpjbeomfcaaDoor
namespace Go.Proofs.YtbpfhpjbeomfcaaDoor.P
open Go.RowKit Go.Proofs.YtbpfhpjbeomfcaaDoorW.PrintWords Go.Proofs.YtbpfhpjbeomfcaaDoorW.PrintLast Go.Proofs.YtbpfhpjbeomfcaaDoorW.PrintMore
attribute [local go_sem] qx qv qGA qFA qm ql qw qu   -- for this text's walks alone
set_option linter.unusedVariables false
set_option linter.unusedSimpArgs false
def qBA.l0 : Nat → ByteArray → Int → List ByteArray → Int → Int → Option (List ByteArray × Bool)
 | 0, _, _, _, _, _ => none
 | k + 1, x1, x7, x11, x17, x18 => if x18 < x17 then (if 0 ≤ x18 then (if x18 < (x11.length : Int) then (if ((rdOf ByteArray.empty x11 x18).size : Int) = x7 then ((qIA.f (rdOf ByteArray.empty x11 x18) x1).bind fun t125 => (if t125.toList = ([] : List UInt8) then (qBA.l0 k x1 x7 x11 x17 (wrap64 (x18 + 1))) else (some (([] : List ByteArray), false)))) else (some (([] : List ByteArray), false))) else (none)) else (none)) else ((qLA.f (x11.length : Int) 1 7).bind fun t126 => (if t126 = true then ((qLA.f x7 1 7).bind fun t127 => (if t127 = true then (some (x11, decide ((wrap64 (x7 * (x11.length : Int))) ≤ 36))) else (some (x11, false)))) else (some (x11, false))))
def qBA.f (k : Nat) (a0 : ByteArray) (a1 : ByteArray) : Option (List ByteArray × Bool) := (strings_Split.f a0 (⟨#[47]⟩ : ByteArray)).bind fun t120 => (if 0 < (t120.length : Int) then (qBA.l0 k a1 ((rdOf ByteArray.empty t120 0).size : Int) t120 (t120.length : Int) 0) else (none))
set_option maxHeartbeats 8000000 in
set_option maxRecDepth 100000 in
theorem qBA.calls (k : Nat) (a0 : ByteArray) (a1 : ByteArray) (r1 : List ByteArray) (r2 : Bool) (w : World) (hL : Laid w) (h : qBA.f k a0 a1 = some (r1, r2)) :
  Calls Tryd.prog 77 #[.string a0, .string a1] w fun e w' => ∃ v0_ : Value, e = .returned (.tuple #[v0_, .bool r2]) ∧ Kd.R Kd.string 9 w' w.heap.size (fun _ => True) v0_ r1 ∧ Below w.heap.size w w' := by
 have HLD := Aside0.mk hL
 clear hL
 have HB := Aside0.mk (Below.refl w.heap.size w)
 have H : ((strings_Split.f a0 (⟨#[47]⟩ : ByteArray)).bind fun t120 => (if 0 < (t120.length : Int) then (qBA.l0 k a1 ((rdOf ByteArray.empty t120 0).size : Int) t120 (t120.length : Int) 0) else (none))) = some (r1, r2) := h
 clear h
 replace H := Option.bind_eq_some_iff.mp H
 obtain ⟨t120, A30, H⟩ := H
 replace H : (if 0 < (t120.length : Int) then (qBA.l0 k a1 ((rdOf ByteArray.empty t120 0).size : Int) t120 (t120.length : Int) 0) else (none)) = some (r1, r2) := H
 have A3 := Aside0.mk A30
 clear A30
 by_cases c4 : 0 < (t120.length : Int)
 ·rw [if_pos c4] at H
  have c4b0 : decide (0 < (t120.length : Int)) = true := decide_eq_true c4
  have c4b1 : decide (0 < t120.length) = true := decide_eq_true (by omega)
  clear c4
  have H' := Aside0.mk H
  clear H
  go_enter Tryd.func77, Tryd.ntmps77
  go_wp2_with (first | ((with_reducible refine qX (f := 101) rfl ?_); refine qo (some 11) rfl rfl Tryd.func101 (by kernel_rfl) rfl #[.string a0, .string (⟨#[47]⟩ : ByteArray)] rfl (by (try simp only [List.map_toArray, List.map_cons, List.map_nil]); first | done | rfl | (simp only [List.length_drop, List.length_take]; rfl)) ?_; (with_reducible refine (strings_Split.calls a0 (⟨#[47]⟩ : ByteArray) t120 _ ?side1 A3.out).mono ?_); (case side1 => first | exact HLD.out | exact Laid.below HLD.out (by repeat (first | (with_reducible first | exact HB.out | apply qF | apply qA | apply qE) | exact HB.out))); rintro e w5 ⟨v121, rfl, ho0, hb⟩; refine ⟨_, rfl, ?_⟩; have n0_ := Aside0.mk (Kd.qMA ho0 (qJ (by repeat (first | (with_reducible first | exact HB.out | apply qF | apply qA | apply qE) | exact HB.out)))); have n1_ := Aside0.mk (qL (by repeat (first | (with_reducible first | exact HB.out | apply qF | apply qA | apply qE) | exact HB.out)) hb); clear HB; have HO122 := n0_; have HB := n1_; clear n0_ n1_; (try clear hb); (try clear hb2); (try clear hk); (try clear hi); (try clear ho0); obtain ⟨Ao6, co6, eo6⟩ := Kd.qRA HO122.out; subst eo6; have p123 : 0 ≤ (0 : Int) := (by omega); have q123 : 0 < (t120.length : Int) := of_decide_eq_true (by first | (with_reducible assumption) | assumption); obtain ⟨ad123, e123, hx123_0⟩ := Kd.qwA (Kd.qh HO122.out).2.2 0 p123 q123; cases e123; have qi123 : (0 < t120.length) = True := eq_true (by omega); (try rw [show ((0 : Int)).toNat = 0 from rfl] at hx123_0); (try rw [Addr.add_zero'] at hx123_0); replace p123 := eq_true p123; replace q123 := eq_true q123))
  go_loopg [18] k (fun kq v18 w' => ∃ (x18_1 : Int), v18 = .int .i64 x18_1 ∧ Aside0 (qBA.l0 kq a1 ((rdOf ByteArray.empty t120 0).size : Int) t120 (t120.length : Int) x18_1 = some (r1, r2)) ∧ Aside0 (kq ≤ k) ∧ Aside0 (Kd.R Kd.string 9 w' w.heap.size (fun _ => True) (.slice (some ad123) t120.length co6) t120) ∧ Aside0 (Below w.heap.size w w'))
  case atStart => exact ⟨(0), (by first | rfl | (simp; done) | (simp [*]; done)), H', ⟨Nat.le_refl _⟩, ⟨by (with_reducible repeat (first | apply Kd.qT | apply Kd.qS | apply Kd.qZ)); exact HO122.out⟩, ⟨by repeat (first | (with_reducible first | exact HB.out | apply qF | apply qA | apply qE) | exact HB.out)⟩⟩
  case round =>
   clear H'
   try clear c1
   try clear p1
   try clear q1
   try clear hx1
   try clear qi1
   try clear p2
   try clear c4
   try clear c4b0
   try clear c4b1
   try clear hx123_0
   try clear p123
   try clear q123
   obtain ⟨x18_1, rfl, HA, HK1, HO_11, HB⟩ := hrel
   cases gk with
   | zero => exact absurd HA.out (by simp [qBA.l0])
   | succ k1 =>
    have H := HA.out
    clear HA
    simp only [qBA.l0] at H
    by_cases c7 : x18_1 < (t120.length : Int)
    ·rw [if_pos c7] at H
     have c7b0 : decide (x18_1 < (t120.length : Int)) = true := decide_eq_true c7
     clear c7
     by_cases c8 : 0 ≤ x18_1
     ·rw [if_pos c8] at H
      have c8b0 : decide (0 ≤ x18_1) = true := decide_eq_true c8
      clear c8
      by_cases c9 : x18_1 < (t120.length : Int)
      ·rw [if_pos c9] at H
       have c9b0 : decide (x18_1 < (t120.length : Int)) = true := decide_eq_true c9
       clear c9
       by_cases c10 : ((rdOf ByteArray.empty t120 x18_1).size : Int) = ((rdOf ByteArray.empty t120 0).size : Int)
       ·rw [if_pos c10] at H
        have c10b0 : (((rdOf ByteArray.empty t120 x18_1).size : Int) == ((rdOf ByteArray.empty t120 0).size : Int)) = true := beq_iff_eq.mpr c10
        have c10b1 : (((rdOf ByteArray.empty t120 x18_1).size : Int) != ((rdOf ByteArray.empty t120 0).size : Int)) = false := bne_eq_false_iff_eq.mpr c10
        have c10b2 : ((rdOf ByteArray.empty t120 x18_1).size == (rdOf ByteArray.empty t120 0).size) = true := by first | simpa using c10 | (simp at c10 ⊢; omega)
        clear c10
        replace H := Option.bind_eq_some_iff.mp H
        obtain ⟨t125, A110, H⟩ := H
        replace H : (if t125.toList = ([] : List UInt8) then (qBA.l0 k1 a1 ((rdOf ByteArray.empty t120 0).size : Int) t120 (t120.length : Int) (wrap64 (x18_1 + 1))) else (some (([] : List ByteArray), false))) = some (r1, r2) := H
        have A11 := Aside0.mk A110
        clear A110
        by_cases c12 : t125.toList = ([] : List UInt8)
        ·rw [if_pos c12] at H
         have c12b0 : (t125.toList == ([] : List UInt8)) = true := beq_iff_eq.mpr c12
         have c12b1 : (t125.toList != ([] : List UInt8)) = false := bne_eq_false_iff_eq.mpr c12
         clear c12
         have H' := Aside0.mk H
         clear H
         have p124 : 0 ≤ (x18_1 : Int) := of_decide_eq_true (by first | (with_reducible assumption) | assumption)
         have q124 : x18_1 < (t120.length : Int) := of_decide_eq_true (by first | (with_reducible assumption) | assumption)
         obtain ⟨ad124, e124, hx124_0⟩ := Kd.qwA (Kd.qh HO_11.out).2.2 x18_1 p124 q124
         obtain rfl : ad123 = ad124 := (by injection e124)
         replace p124 := eq_true p124
         replace q124 := eq_true q124
         go_wp2_with (first | (go_at_call 102; (with_reducible refine (qIA.calls (rdOf ByteArray.empty t120 x18_1) a1 t125 _ A11.out).mono ?_); rintro e w13 ⟨rfl, hb⟩; have n0_ := Aside0.mk (Kd.qi (by (with_reducible repeat (first | apply Kd.qT | apply Kd.qS | apply Kd.qZ)); exact HO_11.out) hb); have n1_ := Aside0.mk (qL (by repeat (first | (with_reducible first | exact HB.out | apply qF | apply qA | apply qE) | exact HB.out)) hb); clear HO_11; clear HB; have HO_11 := n0_; have HB := n1_; clear n0_ n1_; (try clear hb); (try clear hb2); (try clear hk); (try clear hi)))
         go_roundg k1
         case measure => have := HK1.out; omega
         case rel => exact ⟨(wrap64 (x18_1 + 1)), (by first | rfl | (simp; done) | (simp [*]; done)), H', ⟨by have := HK1.out; omega⟩, ⟨by (with_reducible repeat (first | apply Kd.qT | apply Kd.qS | apply Kd.qZ)); exact HO_11.out⟩, ⟨by repeat (first | (with_reducible first | exact HB.out | apply qF | apply qA | apply qE) | exact HB.out)⟩⟩
        ·rw [if_neg c12] at H
         have c12b0 : (t125.toList == ([] : List UInt8)) = false := beq_eq_false_iff_ne.mpr c12
         have c12b1 : (t125.toList != ([] : List UInt8)) = true := bne_iff_ne.mpr c12
         simp only [Option.some.injEq, Prod.mk.injEq] at H
         obtain ⟨rfl, rfl⟩ := H
         have p124 : 0 ≤ (x18_1 : Int) := of_decide_eq_true (by first | (with_reducible assumption) | assumption)
         have q124 : x18_1 < (t120.length : Int) := of_decide_eq_true (by first | (with_reducible assumption) | assumption)
         obtain ⟨ad124, e124, hx124_0⟩ := Kd.qwA (Kd.qh HO_11.out).2.2 x18_1 p124 q124
         obtain rfl : ad123 = ad124 := (by injection e124)
         replace p124 := eq_true p124
         replace q124 := eq_true q124
         go_wp2_with (first | (go_at_call 102; (with_reducible refine (qIA.calls (rdOf ByteArray.empty t120 x18_1) a1 t125 _ A11.out).mono ?_); rintro e w14 ⟨rfl, hb⟩; have n0_ := Aside0.mk (Kd.qi (by (with_reducible repeat (first | apply Kd.qT | apply Kd.qS | apply Kd.qZ)); exact HO_11.out) hb); have n1_ := Aside0.mk (qL (by repeat (first | (with_reducible first | exact HB.out | apply qF | apply qA | apply qE) | exact HB.out)) hb); clear HO_11; clear HB; have HO_11 := n0_; have HB := n1_; clear n0_ n1_; (try clear hb); (try clear hb2); (try clear hk); (try clear hi)))
         go_ret2
         exact ⟨_, by first | rfl | (simp [qN, qM] <;> rfl) | (simp [*, qN, qM] <;> rfl), by first | exact Kd.R_nil _ _ _ _ _ | exact Kd.N_nil _ _ _ _ _ | exact Kd.V_nil _ _ _ _ _ | exact Kd.Q_nil _ _ _ _ _ | exact Kd.S_nil _ _ _ _ _, by repeat (first | (with_reducible first | exact HB.out | apply qF | apply qA | apply qE) | exact HB.out)⟩
       ·rw [if_neg c10] at H
        have c10b0 : (((rdOf ByteArray.empty t120 x18_1).size : Int) == ((rdOf ByteArray.empty t120 0).size : Int)) = false := beq_eq_false_iff_ne.mpr c10
        have c10b1 : (((rdOf ByteArray.empty t120 x18_1).size : Int) != ((rdOf ByteArray.empty t120 0).size : Int)) = true := bne_iff_ne.mpr c10
        have c10b2 : ((rdOf ByteArray.empty t120 x18_1).size == (rdOf ByteArray.empty t120 0).size) = false := by first | simpa using c10 | (simp at c10 ⊢; omega)
        simp only [Option.some.injEq, Prod.mk.injEq] at H
        obtain ⟨rfl, rfl⟩ := H
        have p124 : 0 ≤ (x18_1 : Int) := of_decide_eq_true (by first | (with_reducible assumption) | assumption)
        have q124 : x18_1 < (t120.length : Int) := of_decide_eq_true (by first | (with_reducible assumption) | assumption)
        obtain ⟨ad124, e124, hx124_0⟩ := Kd.qwA (Kd.qh HO_11.out).2.2 x18_1 p124 q124
        obtain rfl : ad123 = ad124 := (by injection e124)
        replace p124 := eq_true p124
        replace q124 := eq_true q124
        go_wp2
        go_ret2
        exact ⟨_, by first | rfl | (simp [qN, qM] <;> rfl) | (simp [*, qN, qM] <;> rfl), by first | exact Kd.R_nil _ _ _ _ _ | exact Kd.N_nil _ _ _ _ _ | exact Kd.V_nil _ _ _ _ _ | exact Kd.Q_nil _ _ _ _ _ | exact Kd.S_nil _ _ _ _ _, by repeat (first | (with_reducible first | exact HB.out | apply qF | apply qA | apply qE) | exact HB.out)⟩
      ·rw [if_neg c9] at H
       exact absurd H (by simp)
     ·rw [if_neg c8] at H
      exact absurd H (by simp)
    ·rw [if_neg c7] at H
     have c7b0 : decide (x18_1 < (t120.length : Int)) = false := decide_eq_false c7
     clear c7
     replace H := Option.bind_eq_some_iff.mp H
     obtain ⟨t126, A150, H⟩ := H
     replace H : (if t126 = true then ((qLA.f ((rdOf ByteArray.empty t120 0).size : Int) 1 7).bind fun t127 => (if t127 = true then (some (t120, decide ((wrap64 (((rdOf ByteArray.empty t120 0).size : Int) * (t120.length : Int))) ≤ 36))) else (some (t120, false)))) else (some (t120, false))) = some (r1, r2) := H
     have A15 := Aside0.mk A150
     clear A150
     by_cases c16 : t126 = true
     ·subst c16
      have H1 : ((qLA.f ((rdOf ByteArray.empty t120 0).size : Int) 1 7).bind fun t127 => (if t127 = true then (some (t120, decide ((wrap64 (((rdOf ByteArray.empty t120 0).size : Int) * (t120.length : Int))) ≤ 36))) else (some (t120, false)))) = some (r1, r2) := by rw [if_pos rfl] at H; exact H
      clear H
      have H := H1
      clear H1
      replace H := Option.bind_eq_some_iff.mp H
      obtain ⟨t127, A170, H⟩ := H
      replace H : (if t127 = true then (some (t120, decide ((wrap64 (((rdOf ByteArray.empty t120 0).size : Int) * (t120.length : Int))) ≤ 36))) else (some (t120, false))) = some (r1, r2) := H
      have A17 := Aside0.mk A170
      clear A170
      by_cases c18 : t127 = true
      ·subst c18
       have H1 : (some (t120, decide ((wrap64 (((rdOf ByteArray.empty t120 0).size : Int) * (t120.length : Int))) ≤ 36))) = some (r1, r2) := by rw [if_pos rfl] at H; exact H
       clear H
       have H := H1
       clear H1
       simp only [Option.some.injEq, Prod.mk.injEq] at H
       obtain ⟨rfl, rfl⟩ := H
       go_wp2_with (first | ((with_reducible refine qX (f := 82) rfl ?_); refine qo (some 36) rfl rfl Tryd.func82 (by kernel_rfl) rfl #[.int .i64 (t120.length : Int), .int .i64 1, .int .i64 7] rfl (by (try simp only [List.map_toArray, List.map_cons, List.map_nil]); first | done | rfl | (simp only [List.length_drop, List.length_take]; rfl)) ?_; (with_reducible refine (qLA.calls (t120.length : Int) 1 7 true _ A15.out).mono ?_); rintro e w' ⟨rfl, ⟨nd, rfl⟩⟩; refine ⟨_, rfl, ?_⟩) | (go_at_call 82; (with_reducible refine (qLA.calls ((rdOf ByteArray.empty t120 0).size : Int) 1 7 true _ A17.out).mono ?_); rintro e w' ⟨rfl, ⟨nd, rfl⟩⟩))
       go_ret2
       exact ⟨_, by first | rfl | (simp [qN, qM] <;> rfl) | (simp [*, qN, qM] <;> rfl), by (with_reducible repeat (first | apply Kd.qT | apply Kd.qS | apply Kd.qZ)); exact HO_11.out, by repeat (first | (with_reducible first | exact HB.out | apply qF | apply qA | apply qE) | exact HB.out)⟩
      ·replace c18 := Bool.eq_false_iff.mpr c18
       subst c18
       have H1 : (some (t120, false)) = some (r1, r2) := by rw [if_neg (show ¬ (false = true) by decide)] at H; exact H
       clear H
       have H := H1
       clear H1
       simp only [Option.some.injEq, Prod.mk.injEq] at H
       obtain ⟨rfl, rfl⟩ := H
       go_wp2_with (first | ((with_reducible refine qX (f := 82) rfl ?_); refine qo (some 36) rfl rfl Tryd.func82 (by kernel_rfl) rfl #[.int .i64 (t120.length : Int), .int .i64 1, .int .i64 7] rfl (by (try simp only [List.map_toArray, List.map_cons, List.map_nil]); first | done | rfl | (simp only [List.length_drop, List.length_take]; rfl)) ?_; (with_reducible refine (qLA.calls (t120.length : Int) 1 7 true _ A15.out).mono ?_); rintro e w' ⟨rfl, ⟨nd, rfl⟩⟩; refine ⟨_, rfl, ?_⟩) | (go_at_call 82; (with_reducible refine (qLA.calls ((rdOf ByteArray.empty t120 0).size : Int) 1 7 false _ A17.out).mono ?_); rintro e w' ⟨rfl, ⟨nd, rfl⟩⟩))
       go_ret2
       exact ⟨_, by first | rfl | (simp [qN, qM] <;> rfl) | (simp [*, qN, qM] <;> rfl), by (with_reducible repeat (first | apply Kd.qT | apply Kd.qS | apply Kd.qZ)); exact HO_11.out, by repeat (first | (with_reducible first | exact HB.out | apply qF | apply qA | apply qE) | exact HB.out)⟩
     ·replace c16 := Bool.eq_false_iff.mpr c16
      subst c16
      have H1 : (some (t120, false)) = some (r1, r2) := by rw [if_neg (show ¬ (false = true) by decide)] at H; exact H
      clear H
      have H := H1
      clear H1
      simp only [Option.some.injEq, Prod.mk.injEq] at H
      obtain ⟨rfl, rfl⟩ := H
      go_wp2_with (first | ((with_reducible refine qX (f := 82) rfl ?_); refine qo (some 36) rfl rfl Tryd.func82 (by kernel_rfl) rfl #[.int .i64 (t120.length : Int), .int .i64 1, .int .i64 7] rfl (by (try simp only [List.map_toArray, List.map_cons, List.map_nil]); first | done | rfl | (simp only [List.length_drop, List.length_take]; rfl)) ?_; (with_reducible refine (qLA.calls (t120.length : Int) 1 7 false _ A15.out).mono ?_); rintro e w' ⟨rfl, ⟨nd, rfl⟩⟩; refine ⟨_, rfl, ?_⟩))
      go_ret2
      exact ⟨_, by first | rfl | (simp [qN, qM] <;> rfl) | (simp [*, qN, qM] <;> rfl), by (with_reducible repeat (first | apply Kd.qT | apply Kd.qS | apply Kd.qZ)); exact HO_11.out, by repeat (first | (with_reducible first | exact HB.out | apply qF | apply qA | apply qE) | exact HB.out)⟩
 ·rw [if_neg c4] at H
  exact absurd H (by simp)
end Go.Proofs.YtbpfhpjbeomfcaaDoor.P
namespace Go.Proofs.YtbpfhpjbeomfcaaDoor
open Go.RowKit Go.Proofs.YtbpfhpjbeomfcaaDoorW.PrintWords Go.Proofs.YtbpfhpjbeomfcaaDoorW.PrintLast
set_option linter.unusedVariables false
set_option linter.unusedSimpArgs false
def qQA.f (a0 a1 : ByteArray) : Option Int := match a1.data.toList with | [c] => some (Lib.countByte a0.data.toList c) | _ => none
theorem qQA.calls (a0 a1 : ByteArray) (r : Int) (w : World) (h : qQA.f a0 a1 = some r) :
  Calls Tryd.prog 78 #[.string a0, .string a1] w fun e w' => e = .returned (.int .i64 r) ∧ Drawn0 w w' := by
 unfold qQA.f at h
 split at h
 ·rename_i c hc
  obtain rfl := Option.some.inj h
  obtain ⟨⟨l⟩⟩ := a1
  obtain rfl : l = [c] := hc
  exact (Tryd.strings_Count_one a0 c w).mono fun e w' ⟨h1, h2⟩ => ⟨h1, by rw [h2]; exact Drawn0.refl w⟩
 ·cases h
end Go.Proofs.YtbpfhpjbeomfcaaDoor
namespace Go.Proofs.YtbpfhpjbeomfcaaDoor.P
open Go.RowKit Go.Proofs.YtbpfhpjbeomfcaaDoorW.PrintWords Go.Proofs.YtbpfhpjbeomfcaaDoorW.PrintLast Go.Proofs.YtbpfhpjbeomfcaaDoorW.PrintMore
attribute [local go_sem] qx qv qGA qFA qm ql qw qu   -- for this text's walks alone
set_option linter.unusedVariables false
set_option linter.unusedSimpArgs false
def qeA.f (k : Nat) (a0 : ByteArray) : Option (List ByteArray × Bool) := (qBA.f k a0 (⟨#[46, 35, 45, 111]⟩ : ByteArray)).bind fun bt128 => (if bt128.2 = true then ((qQA.f a0 (⟨#[111]⟩ : ByteArray)).bind fun t132 => (some (bt128.1, decide (t132 ≤ 1)))) else (some (bt128.1, false)))
set_option maxHeartbeats 8000000 in
set_option maxRecDepth 100000 in
theorem qeA.calls (k : Nat) (a0 : ByteArray) (r1 : List ByteArray) (r2 : Bool) (w : World) (hL : Laid w) (h : qeA.f k a0 = some (r1, r2)) :
  Calls Tryd.prog 54 #[.string a0] w fun e w' => ∃ v0_ : Value, e = .returned (.tuple #[v0_, .bool r2]) ∧ Kd.R Kd.string 9 w' w.heap.size (fun _ => True) v0_ r1 ∧ Below w.heap.size w w' := by
 have HLD := Aside0.mk hL
 clear hL
 have HB := Aside0.mk (Below.refl w.heap.size w)
 have H : ((qBA.f k a0 (⟨#[46, 35, 45, 111]⟩ : ByteArray)).bind fun bt128 => (if bt128.2 = true then ((qQA.f a0 (⟨#[111]⟩ : ByteArray)).bind fun t132 => (some (bt128.1, decide (t132 ≤ 1)))) else (some (bt128.1, false)))) = some (r1, r2) := h
 clear h
 replace H := Option.bind_eq_some_iff.mp H
 obtain ⟨⟨t128, t129⟩, A20, H⟩ := H
 replace H : (if t129 = true then ((qQA.f a0 (⟨#[111]⟩ : ByteArray)).bind fun t132 => (some (t128, decide (t132 ≤ 1)))) else (some (t128, false))) = some (r1, r2) := H
 have A2 := Aside0.mk A20
 clear A20
 by_cases c3 : t129 = true
 ·subst c3
  have H1 : ((qQA.f a0 (⟨#[111]⟩ : ByteArray)).bind fun t132 => (some (t128, decide (t132 ≤ 1)))) = some (r1, r2) := by rw [if_pos rfl] at H; exact H
  clear H
  have H := H1
  clear H1
  replace H := Option.bind_eq_some_iff.mp H
  obtain ⟨t132, A40, H⟩ := H
  replace H : (some (t128, decide (t132 ≤ 1))) = some (r1, r2) := H
  have A4 := Aside0.mk A40
  clear A40
  simp only [Option.some.injEq, Prod.mk.injEq] at H
  obtain ⟨rfl, rfl⟩ := H
  go_enter Tryd.func54, Tryd.ntmps54
  go_wp2_with (first | ((with_reducible refine qX (f := 77) rfl ?_); refine qo (some 8) rfl rfl Tryd.func77 (by kernel_rfl) rfl #[.string a0, .string (⟨#[46, 35, 45, 111]⟩ : ByteArray)] rfl (by (try simp only [List.map_toArray, List.map_cons, List.map_nil]); first | done | rfl | (simp only [List.length_drop, List.length_take]; rfl)) ?_; (with_reducible refine (qBA.calls k a0 (⟨#[46, 35, 45, 111]⟩ : ByteArray) t128 true _ ?side1 A2.out).mono ?_); (case side1 => first | exact HLD.out | exact Laid.below HLD.out (by repeat (first | (with_reducible first | exact HB.out | apply qF | apply qA | apply qE) | exact HB.out))); rintro e w5 ⟨v130, rfl, ho0, hb⟩; refine ⟨_, rfl, ?_⟩; have n0_ := Aside0.mk (Kd.qMA ho0 (qJ (by repeat (first | (with_reducible first | exact HB.out | apply qF | apply qA | apply qE) | exact HB.out)))); have n1_ := Aside0.mk (qL (by repeat (first | (with_reducible first | exact HB.out | apply qF | apply qA | apply qE) | exact HB.out)) hb); clear HB; have HO131 := n0_; have HB := n1_; clear n0_ n1_; (try clear hb); (try clear hb2); (try clear hk); (try clear hi); (try clear ho0)) | (go_at_call 78; (with_reducible refine (qQA.calls a0 (⟨#[111]⟩ : ByteArray) t132 _ A4.out).mono ?_); rintro e w' ⟨rfl, ⟨nd, rfl⟩⟩))
  go_ret2
  exact ⟨_, by first | rfl | (simp [qN, qM] <;> rfl) | (simp [*, qN, qM] <;> rfl), by (with_reducible repeat (first | apply Kd.qT | apply Kd.qS | apply Kd.qZ)); exact HO131.out, by repeat (first | (with_reducible first | exact HB.out | apply qF | apply qA | apply qE) | exact HB.out)⟩
 ·replace c3 := Bool.eq_false_iff.mpr c3
  subst c3
  have H1 : (some (t128, false)) = some (r1, r2) := by rw [if_neg (show ¬ (false = true) by decide)] at H; exact H
  clear H
  have H := H1
  clear H1
  simp only [Option.some.injEq, Prod.mk.injEq] at H
  obtain ⟨rfl, rfl⟩ := H
  go_enter Tryd.func54, Tryd.ntmps54
  go_wp2_with (first | ((with_reducible refine qX (f := 77) rfl ?_); refine qo (some 8) rfl rfl Tryd.func77 (by kernel_rfl) rfl #[.string a0, .string (⟨#[46, 35, 45, 111]⟩ : ByteArray)] rfl (by (try simp only [List.map_toArray, List.map_cons, List.map_nil]); first | done | rfl | (simp only [List.length_drop, List.length_take]; rfl)) ?_; (with_reducible refine (qBA.calls k a0 (⟨#[46, 35, 45, 111]⟩ : ByteArray) t128 false _ ?side1 A2.out).mono ?_); (case side1 => first | exact HLD.out | exact Laid.below HLD.out (by repeat (first | (with_reducible first | exact HB.out | apply qF | apply qA | apply qE) | exact HB.out))); rintro e w6 ⟨v130, rfl, ho0, hb⟩; refine ⟨_, rfl, ?_⟩; have n0_ := Aside0.mk (Kd.qMA ho0 (qJ (by repeat (first | (with_reducible first | exact HB.out | apply qF | apply qA | apply qE) | exact HB.out)))); have n1_ := Aside0.mk (qL (by repeat (first | (with_reducible first | exact HB.out | apply qF | apply qA | apply qE) | exact HB.out)) hb); clear HB; have HO131 := n0_; have HB := n1_; clear n0_ n1_; (try clear hb); (try clear hb2); (try clear hk); (try clear hi); (try clear ho0)))
  go_ret2
  exact ⟨_, by first | rfl | (simp [qN, qM] <;> rfl) | (simp [*, qN, qM] <;> rfl), by (with_reducible repeat (first | apply Kd.qT | apply Kd.qS | apply Kd.qZ)); exact HO131.out, by repeat (first | (with_reducible first | exact HB.out | apply qF | apply qA | apply qE) | exact HB.out)⟩
end Go.Proofs.YtbpfhpjbeomfcaaDoor.P
namespace Go.Proofs.YtbpfhpjbeomfcaaDoor.P
open Go.RowKit Go.Proofs.YtbpfhpjbeomfcaaDoorW.PrintWords Go.Proofs.YtbpfhpjbeomfcaaDoorW.PrintLast Go.Proofs.YtbpfhpjbeomfcaaDoorW.PrintMore
attribute [local go_sem] qx qv qGA qFA qm ql qw qu   -- for this text's walks alone
set_option linter.unusedVariables false
set_option linter.unusedSimpArgs false
def qr.f (l0 : List ByteArray) (a1 : Int) (a2 : Int) : Option (Bool) := (qLA.f a2 0 (wrap64 ((l0.length : Int) - 1))).bind fun t187 => (if t187 = true then (if 0 < (l0.length : Int) then ((qLA.f a1 0 (wrap64 (((rdOf ByteArray.empty l0 0).size : Int) - 1))).bind fun t189 => (some t189)) else (none)) else (some false))
set_option maxHeartbeats 8000000 in
set_option maxRecDepth 100000 in
theorem qr.calls (A0 : Option Addr) (c0 : Nat) (l0 : List ByteArray) (a1 : Int) (a2 : Int) (r : Bool) (w : World) (hr0 : Kd.C Kd.string w A0 l0.length l0) (hc0 : l0.length ≤ c0) (h : qr.f l0 a1 a2 = some r) :
  Calls Tryd.prog 83 #[.slice A0 l0.length c0, .int .i64 a1, .int .i64 a2] w fun e w' => e = .returned (.bool r) ∧ Drawn0 w w' := by
 have HR0 := Aside0.mk hr0
 have HC0 := Aside0.mk hc0
 clear hr0 hc0
 have H : ((qLA.f a2 0 (wrap64 ((l0.length : Int) - 1))).bind fun t187 => (if t187 = true then (if 0 < (l0.length : Int) then ((qLA.f a1 0 (wrap64 (((rdOf ByteArray.empty l0 0).size : Int) - 1))).bind fun t189 => (some t189)) else (none)) else (some false))) = some r := h
 clear h
 replace H := Option.bind_eq_some_iff.mp H
 obtain ⟨t187, A40, H⟩ := H
 replace H : (if t187 = true then (if 0 < (l0.length : Int) then ((qLA.f a1 0 (wrap64 (((rdOf ByteArray.empty l0 0).size : Int) - 1))).bind fun t189 => (some t189)) else (none)) else (some false)) = some r := H
 have A4 := Aside0.mk A40
 clear A40
 by_cases c5 : t187 = true
 ·subst c5
  have H1 : (if 0 < (l0.length : Int) then ((qLA.f a1 0 (wrap64 (((rdOf ByteArray.empty l0 0).size : Int) - 1))).bind fun t189 => (some t189)) else (none)) = some r := by rw [if_pos rfl] at H; exact H
  clear H
  have H := H1
  clear H1
  by_cases c6 : 0 < (l0.length : Int)
  ·rw [if_pos c6] at H
   have c6b0 : decide (0 < (l0.length : Int)) = true := decide_eq_true c6
   have c6b1 : decide (0 < l0.length) = true := decide_eq_true (by omega)
   clear c6
   replace H := Option.bind_eq_some_iff.mp H
   obtain ⟨t189, A70, H⟩ := H
   replace H : (some t189) = some r := H
   have A7 := Aside0.mk A70
   clear A70
   obtain rfl := Option.some.inj H
   go_enter Tryd.func83, Tryd.ntmps83
   go_wp2_with (first | ((with_reducible refine qX (f := 82) rfl ?_); refine qo (some 11) rfl rfl Tryd.func82 (by kernel_rfl) rfl #[.int .i64 a2, .int .i64 0, .int .i64 (wrap64 ((l0.length : Int) - 1))] rfl (by (try simp only [List.map_toArray, List.map_cons, List.map_nil]); first | done | rfl | (simp only [List.length_drop, List.length_take]; rfl)) ?_; (with_reducible refine (qLA.calls a2 0 (wrap64 ((l0.length : Int) - 1)) true _ A4.out).mono ?_); rintro e w' ⟨rfl, ⟨nd, rfl⟩⟩; refine ⟨_, rfl, ?_⟩; have p188 : 0 ≤ (0 : Int) := (by omega); have q188 : 0 < (l0.length : Int) := of_decide_eq_true (by first | (with_reducible assumption) | assumption); obtain ⟨ad188, e188, hx188_0⟩ := Kd.qwA HR0.out 0 p188 q188; cases e188; have qi188 : (0 < l0.length) = True := eq_true (by omega); (try rw [show ((0 : Int)).toNat = 0 from rfl] at hx188_0); (try rw [Addr.add_zero'] at hx188_0); replace p188 := eq_true p188; replace q188 := eq_true q188) | (go_at_call 82; (with_reducible refine (qLA.calls a1 0 (wrap64 (((rdOf ByteArray.empty l0 0).size : Int) - 1)) t189 _ A7.out).mono ?_); rintro e w' ⟨rfl, ⟨nd, rfl⟩⟩))
   go_ret
   exact ⟨by first | rfl | (simp; done) | (simp [*]; done), by repeat (first | exact Drawn0.refl _ | apply Drawn0.step)⟩
  ·rw [if_neg c6] at H
   exact absurd H (by simp)
 ·replace c5 := Bool.eq_false_iff.mpr c5
  subst c5
  have H1 : (some false) = some r := by rw [if_neg (show ¬ (false = true) by decide)] at H; exact H
  clear H
  have H := H1
  clear H1
  obtain rfl := Option.some.inj H
  go_enter Tryd.func83, Tryd.ntmps83
  go_wp2_with (first | ((with_reducible refine qX (f := 82) rfl ?_); refine qo (some 11) rfl rfl Tryd.func82 (by kernel_rfl) rfl #[.int .i64 a2, .int .i64 0, .int .i64 (wrap64 ((l0.length : Int) - 1))] rfl (by (try simp only [List.map_toArray, List.map_cons, List.map_nil]); first | done | rfl | (simp only [List.length_drop, List.length_take]; rfl)) ?_; (with_reducible refine (qLA.calls a2 0 (wrap64 ((l0.length : Int) - 1)) false _ A4.out).mono ?_); rintro e w' ⟨rfl, ⟨nd, rfl⟩⟩; refine ⟨_, rfl, ?_⟩))
  go_ret
  exact ⟨by first | rfl | (simp; done) | (simp [*]; done), by repeat (first | exact Drawn0.refl _ | apply Drawn0.step)⟩
end Go.Proofs.YtbpfhpjbeomfcaaDoor.P
namespace Go.Proofs.YtbpfhpjbeomfcaaDoor.P
open Go.RowKit Go.Proofs.YtbpfhpjbeomfcaaDoorW.PrintWords Go.Proofs.YtbpfhpjbeomfcaaDoorW.PrintLast Go.Proofs.YtbpfhpjbeomfcaaDoorW.PrintMore
attribute [local go_sem] qx qv qGA qFA qm ql qw qu   -- for this text's walks alone
set_option linter.unusedVariables false
set_option linter.unusedSimpArgs false
def qJA.f (l0 : List ByteArray) (a1 : Int) (a2 : Int) : Option (Int) := (qr.f l0 a1 a2).bind fun t190 => (if t190 = true then (if 0 ≤ a2 then (if a2 < (l0.length : Int) then (if 0 ≤ a1 then (if a1 < ((rdOf ByteArray.empty l0 a2).size : Int) then (some (bt (rdOf ByteArray.empty l0 a2) a1)) else (none)) else (none)) else (none)) else (none)) else (some 0))
set_option maxHeartbeats 8000000 in
set_option maxRecDepth 100000 in
theorem qJA.calls (A0 : Option Addr) (c0 : Nat) (l0 : List ByteArray) (a1 : Int) (a2 : Int) (r : Int) (w : World) (hr0 : Kd.C Kd.string w A0 l0.length l0) (hc0 : l0.length ≤ c0) (h : qJA.f l0 a1 a2 = some r) :
  Calls Tryd.prog 71 #[.slice A0 l0.length c0, .int .i64 a1, .int .i64 a2] w fun e w' => e = .returned (.int .u8 r) ∧ Drawn0 w w' := by
 have HR0 := Aside0.mk hr0
 have HC0 := Aside0.mk hc0
 clear hr0 hc0
 have H : ((qr.f l0 a1 a2).bind fun t190 => (if t190 = true then (if 0 ≤ a2 then (if a2 < (l0.length : Int) then (if 0 ≤ a1 then (if a1 < ((rdOf ByteArray.empty l0 a2).size : Int) then (some (bt (rdOf ByteArray.empty l0 a2) a1)) else (none)) else (none)) else (none)) else (none)) else (some 0))) = some r := h
 clear h
 replace H := Option.bind_eq_some_iff.mp H
 obtain ⟨t190, A40, H⟩ := H
 replace H : (if t190 = true then (if 0 ≤ a2 then (if a2 < (l0.length : Int) then (if 0 ≤ a1 then (if a1 < ((rdOf ByteArray.empty l0 a2).size : Int) then (some (bt (rdOf ByteArray.empty l0 a2) a1)) else (none)) else (none)) else (none)) else (none)) else (some 0)) = some r := H
 have A4 := Aside0.mk A40
 clear A40
 by_cases c5 : t190 = true
 ·subst c5
  have H1 : (if 0 ≤ a2 then (if a2 < (l0.length : Int) then (if 0 ≤ a1 then (if a1 < ((rdOf ByteArray.empty l0 a2).size : Int) then (some (bt (rdOf ByteArray.empty l0 a2) a1)) else (none)) else (none)) else (none)) else (none)) = some r := by rw [if_pos rfl] at H; exact H
  clear H
  have H := H1
  clear H1
  by_cases c6 : 0 ≤ a2
  ·rw [if_pos c6] at H
   have c6b0 : decide (0 ≤ a2) = true := decide_eq_true c6
   clear c6
   by_cases c7 : a2 < (l0.length : Int)
   ·rw [if_pos c7] at H
    have c7b0 : decide (a2 < (l0.length : Int)) = true := decide_eq_true c7
    clear c7
    by_cases c8 : 0 ≤ a1
    ·rw [if_pos c8] at H
     have c8b0 : decide (0 ≤ a1) = true := decide_eq_true c8
     clear c8
     by_cases c9 : a1 < ((rdOf ByteArray.empty l0 a2).size : Int)
     ·rw [if_pos c9] at H
      have c9b0 : decide (a1 < ((rdOf ByteArray.empty l0 a2).size : Int)) = true := decide_eq_true c9
      clear c9
      obtain rfl := Option.some.inj H
      go_enter Tryd.func71, Tryd.ntmps71
      go_wp2_with (first | ((with_reducible refine qX (f := 83) rfl ?_); refine qo (some 10) rfl rfl Tryd.func83 (by kernel_rfl) rfl #[.slice A0 l0.length c0, .int .i64 a1, .int .i64 a2] rfl (by (try simp only [List.map_toArray, List.map_cons, List.map_nil]); first | done | rfl | (simp only [List.length_drop, List.length_take]; rfl)) ?_; (with_reducible refine (qr.calls _ _ l0 a1 a2 true _ ?side1 ?side2 A4.out).mono ?_); (case side1 => repeat (first | exact HR0.out | (with_reducible refine Kd.qOA ?_ _) | (with_reducible refine Kd.qNA ?_ _) | (with_reducible refine Kd.qXA ?_))); (case side2 => exact HC0.out); rintro e w' ⟨rfl, ⟨nd, rfl⟩⟩; refine ⟨_, rfl, ?_⟩; have p191 : 0 ≤ (a2 : Int) := of_decide_eq_true (by first | (with_reducible assumption) | assumption); have q191 : a2 < (l0.length : Int) := of_decide_eq_true (by first | (with_reducible assumption) | assumption); obtain ⟨ad191, e191, hx191_0⟩ := Kd.qwA HR0.out a2 p191 q191; cases e191; replace p191 := eq_true p191; replace q191 := eq_true q191; have p10 : 0 ≤ (a1 : Int) := of_decide_eq_true (by first | (with_reducible assumption) | assumption); have q10 : a1 < ((rdOf ByteArray.empty l0 a2).size : Int) := of_decide_eq_true (by first | (with_reducible assumption) | assumption); have hx10 := bt_at (rdOf ByteArray.empty l0 a2) a1; replace p10 := eq_true p10; replace q10 := eq_true q10))
      go_ret
      exact ⟨by first | rfl | (simp; done) | (simp [*]; done), by repeat (first | exact Drawn0.refl _ | apply Drawn0.step)⟩
     ·rw [if_neg c9] at H
      exact absurd H (by simp)
    ·rw [if_neg c8] at H
     exact absurd H (by simp)
   ·rw [if_neg c7] at H
    exact absurd H (by simp)
  ·rw [if_neg c6] at H
   exact absurd H (by simp)
 ·replace c5 := Bool.eq_false_iff.mpr c5
  subst c5
  have H1 : (some 0) = some r := by rw [if_neg (show ¬ (false = true) by decide)] at H; exact H
  clear H
  have H := H1
  clear H1
  obtain rfl := Option.some.inj H
  go_enter Tryd.func71, Tryd.ntmps71
  go_wp2_with (first | ((with_reducible refine qX (f := 83) rfl ?_); refine qo (some 10) rfl rfl Tryd.func83 (by kernel_rfl) rfl #[.slice A0 l0.length c0, .int .i64 a1, .int .i64 a2] rfl (by (try simp only [List.map_toArray, List.map_cons, List.map_nil]); first | done | rfl | (simp only [List.length_drop, List.length_take]; rfl)) ?_; (with_reducible refine (qr.calls _ _ l0 a1 a2 false _ ?side1 ?side2 A4.out).mono ?_); (case side1 => repeat (first | exact HR0.out | (with_reducible refine Kd.qOA ?_ _) | (with_reducible refine Kd.qNA ?_ _) | (with_reducible refine Kd.qXA ?_))); (case side2 => exact HC0.out); rintro e w' ⟨rfl, ⟨nd, rfl⟩⟩; refine ⟨_, rfl, ?_⟩))
  go_ret
  exact ⟨by first | rfl | (simp; done) | (simp [*]; done), by repeat (first | exact Drawn0.refl _ | apply Drawn0.step)⟩
end Go.Proofs.YtbpfhpjbeomfcaaDoor.P
namespace Go.Proofs.YtbpfhpjbeomfcaaDoor.P
open Go.RowKit Go.Proofs.YtbpfhpjbeomfcaaDoorW.PrintWords Go.Proofs.YtbpfhpjbeomfcaaDoorW.PrintLast Go.Proofs.YtbpfhpjbeomfcaaDoorW.PrintMore
attribute [local go_sem] qx qv qGA qFA qm ql qw qu   -- for this text's walks alone
set_option linter.unusedVariables false
set_option linter.unusedSimpArgs false
def qbA.f (a0_0 : Int) (a0_1 : Int) (a0_2 : Int) : Option ((List (S96))) := if a0_2 = 1 then (some (([(⟨a0_0, a0_1⟩ : S96), (⟨wrap64 (a0_0 + 1), a0_1⟩ : S96)] : List (S96)))) else (if a0_2 = 2 then (some (([(⟨a0_0, a0_1⟩ : S96), (⟨a0_0, wrap64 (a0_1 + 1)⟩ : S96)] : List (S96)))) else (some (([(⟨a0_0, a0_1⟩ : S96)] : List (S96)))))
set_option maxHeartbeats 8000000 in
set_option maxRecDepth 100000 in
theorem qbA.calls (a0_0 : Int) (a0_1 : Int) (a0_2 : Int) (r : List (S96)) (w : World) (h : qbA.f a0_0 a0_1 a0_2 = some r) :
  Calls Tryd.prog 85 #[.agg #[.int .i64 a0_0, .int .i64 a0_1, .int .i64 a0_2]] w fun e w' => ∃ v0_ : Value, e = .returned (v0_) ∧ Kd.R k96 96 w' w.heap.size (fun _ => True) v0_ r ∧ Below w.heap.size w w' := by
 have hu27 := Tryd.underlying27
 have hu96 := Tryd.underlying96
 have HB := Aside0.mk (Below.refl w.heap.size w)
 have H : (if a0_2 = 1 then (some (([(⟨a0_0, a0_1⟩ : S96), (⟨wrap64 (a0_0 + 1), a0_1⟩ : S96)] : List (S96)))) else (if a0_2 = 2 then (some (([(⟨a0_0, a0_1⟩ : S96), (⟨a0_0, wrap64 (a0_1 + 1)⟩ : S96)] : List (S96)))) else (some (([(⟨a0_0, a0_1⟩ : S96)] : List (S96)))))) = some r := h
 clear h
 by_cases c2 : a0_2 = 1
 ·rw [if_pos c2] at H
  have c2b0 : (a0_2 == 1) = true := beq_iff_eq.mpr c2
  have c2b1 : (a0_2 != 1) = false := bne_eq_false_iff_eq.mpr c2
  clear c2
  obtain ⟨y193, hy193⟩ : ∃ y_ : List (S96), y_ = (([(⟨a0_0, a0_1⟩ : S96), (⟨wrap64 (a0_0 + 1), a0_1⟩ : S96)] : List (S96))) := ⟨_, rfl⟩
  replace H : (some y193) = some r := by first | (rw [hy193]; with_reducible exact H) | (have H2_ := (Option.bind_some _ _).symm.trans H; rw [hy193]; with_reducible exact H2_) | (have H2_ := (Option.bind_some _ _).symm.trans H; with_reducible exact H2_) | with_reducible exact H | (rw [hy193]; exact H) | exact H
  have Ny193 := Aside0.mk hy193
  clear hy193
  obtain rfl := Option.some.inj H
  go_enter Tryd.func85, Tryd.ntmps85
  go_wp2_with (first | ((with_reducible refine qc (N := 1) rfl ?_); refine qY ?hg (N := 1) ?hd (cs := #[.int .i64 a0_0, .int .i64 a0_1, .int .i64 a0_2]) (t := 27) ?hr ?_; (case hd => rfl); (case hg => rfl); (case hr => first | (go_simp; done) | (go_simp; rfl)); intro gb192 hg w3 hbox hb; have n0_ := Aside0.mk (qL (by repeat (first | (with_reducible first | exact HB.out | apply qF | apply qA | apply qE) | exact HB.out)) hb); have n1_ := Aside0.mk (hbox); have n2_ := Aside0.mk ((by rw [hg]; exact (qJ (by repeat (first | (with_reducible first | exact HB.out | apply qF | apply qA | apply qE) | exact HB.out))) : w.heap.size ≤ gb192)); have n3_ := Aside0.mk ((by rw [hg]; exact (qJ (by repeat (first | (with_reducible first | exact HB.out | apply qF | apply qA | apply qE) | exact HB.out))) : w.heap.size ≤ gb192)); clear HB; have HB := n0_; have BK192 := n1_; have GW192 := n2_; have GE192 := n3_; clear n0_ n1_ n2_ n3_; clear hb hbox hg; have hcz4_0 : w3.cell? ⟨gb192, 0, none⟩ = some (.int .i64 a0_0) := (qI BK192.out 0).trans rfl; have hcz4_1 : w3.cell? ⟨gb192, 1, none⟩ = some (.int .i64 a0_1) := (qI BK192.out 1).trans rfl; have hcz4_2 : w3.cell? ⟨gb192, 2, none⟩ = some (.int .i64 a0_2) := (qI BK192.out 2).trans rfl; have hfz4_0 := qH BK192.out 0; have hfz4_1 := qH BK192.out 1; have hfz4_2 := qH BK192.out 2) | ((with_reducible refine qc (N := 18) rfl ?_); refine Kd.R_lit k96 _ 96 ?hg (N := 18) ?hd (xs := ([(⟨a0_0, a0_1⟩ : S96), (⟨wrap64 (a0_0 + 1), a0_1⟩ : S96)] : List (S96))) (inner := [.int .i64 a0_0, .int .i64 a0_1, .int .i64 (wrap64 (a0_0 + 1)), .int .i64 a0_1]) (ok := fun _ => True) (okp := fun _ => True) ?hr ?hp (fun _ hk => hk) trivial (Below.refl _ _) (Nat.le_refl _) (by simp) ?_; (case hd => rfl); (case hg => rfl); (case hr => first | (go_simp; done) | (go_simp; rfl)); (case hp => exact (Reps.c2 (show Kd.M k96 _ _ _ (⟨a0_0, a0_1⟩ : S96) [.int .i64 a0_0, .int .i64 a0_1] from (qTB _ _ _ (⟨a0_0, a0_1⟩ : S96) )) (Reps.c2 (show Kd.M k96 _ _ _ (⟨wrap64 (a0_0 + 1), a0_1⟩ : S96) [.int .i64 (wrap64 (a0_0 + 1)), .int .i64 a0_1] from (qTB _ _ _ (⟨wrap64 (a0_0 + 1), a0_1⟩ : S96) )) (Reps.none _ _)))); intro v194 w5 ho6 hb hg_ hnew_; clear hg_ hnew_; (first | rw [← Ny193.out] at ho6 | (simp only [Int.reduceToNat] at ho6; rw [← Ny193.out] at ho6)); have n0_ := Aside0.mk (Kd.qMA ho6 (qJ (by repeat (first | (with_reducible first | exact HB.out | apply qF | apply qA | apply qE | refine qG ?_ GE192.out) | exact HB.out)))); have n1_ := Aside0.mk (qK (g := gb192) (o := .cells #[.int .i64 a0_0, .int .i64 a0_1, .int .i64 a0_2] 27 (0, 0)) (by (with_reducible repeat (first | refine qC ?_ _ | refine qD ?_ | refine qB ?_ _)); exact BK192.out) hb); have n2_ := Aside0.mk (qL (by repeat (first | (with_reducible first | exact HB.out | apply qF | apply qA | apply qE | refine qG ?_ GE192.out) | exact HB.out)) hb); clear BK192; clear HB; have HO195 := n0_; have BK192 := n1_; have HB := n2_; clear n0_ n1_ n2_; clear hb ho6))
  go_ret
  exact ⟨_, by first | rfl | (simp [qN, qM] <;> rfl) | (simp [*, qN, qM] <;> rfl), by (with_reducible repeat (first | apply Kd.qT | apply Kd.qS | apply Kd.qZ)); exact HO195.out, by repeat (first | (with_reducible first | exact HB.out | apply qF | apply qA | apply qE | refine qG ?_ GE192.out) | exact HB.out)⟩
 ·rw [if_neg c2] at H
  have c2b0 : (a0_2 == 1) = false := beq_eq_false_iff_ne.mpr c2
  have c2b1 : (a0_2 != 1) = true := bne_iff_ne.mpr c2
  by_cases c7 : a0_2 = 2
  ·rw [if_pos c7] at H
   have c7b0 : (a0_2 == 2) = true := beq_iff_eq.mpr c7
   have c7b1 : (a0_2 != 2) = false := bne_eq_false_iff_eq.mpr c7
   clear c7
   obtain ⟨y196, hy196⟩ : ∃ y_ : List (S96), y_ = (([(⟨a0_0, a0_1⟩ : S96), (⟨a0_0, wrap64 (a0_1 + 1)⟩ : S96)] : List (S96))) := ⟨_, rfl⟩
   replace H : (some y196) = some r := by first | (rw [hy196]; with_reducible exact H) | (have H2_ := (Option.bind_some _ _).symm.trans H; rw [hy196]; with_reducible exact H2_) | (have H2_ := (Option.bind_some _ _).symm.trans H; with_reducible exact H2_) | with_reducible exact H | (rw [hy196]; exact H) | exact H
   have Ny196 := Aside0.mk hy196
   clear hy196
   obtain rfl := Option.some.inj H
   go_enter Tryd.func85, Tryd.ntmps85
   go_wp2_with (first | ((with_reducible refine qc (N := 1) rfl ?_); refine qY ?hg (N := 1) ?hd (cs := #[.int .i64 a0_0, .int .i64 a0_1, .int .i64 a0_2]) (t := 27) ?hr ?_; (case hd => rfl); (case hg => rfl); (case hr => first | (go_simp; done) | (go_simp; rfl)); intro gb192 hg w8 hbox hb; have n0_ := Aside0.mk (qL (by repeat (first | (with_reducible first | exact HB.out | apply qF | apply qA | apply qE) | exact HB.out)) hb); have n1_ := Aside0.mk (hbox); have n2_ := Aside0.mk ((by rw [hg]; exact (qJ (by repeat (first | (with_reducible first | exact HB.out | apply qF | apply qA | apply qE) | exact HB.out))) : w.heap.size ≤ gb192)); have n3_ := Aside0.mk ((by rw [hg]; exact (qJ (by repeat (first | (with_reducible first | exact HB.out | apply qF | apply qA | apply qE) | exact HB.out))) : w.heap.size ≤ gb192)); clear HB; have HB := n0_; have BK192 := n1_; have GW192 := n2_; have GE192 := n3_; clear n0_ n1_ n2_ n3_; clear hb hbox hg; have hcz9_0 : w8.cell? ⟨gb192, 0, none⟩ = some (.int .i64 a0_0) := (qI BK192.out 0).trans rfl; have hcz9_1 : w8.cell? ⟨gb192, 1, none⟩ = some (.int .i64 a0_1) := (qI BK192.out 1).trans rfl; have hcz9_2 : w8.cell? ⟨gb192, 2, none⟩ = some (.int .i64 a0_2) := (qI BK192.out 2).trans rfl; have hfz9_0 := qH BK192.out 0; have hfz9_1 := qH BK192.out 1; have hfz9_2 := qH BK192.out 2) | ((with_reducible refine qc (N := 32) rfl ?_); refine Kd.R_lit k96 _ 96 ?hg (N := 32) ?hd (xs := ([(⟨a0_0, a0_1⟩ : S96), (⟨a0_0, wrap64 (a0_1 + 1)⟩ : S96)] : List (S96))) (inner := [.int .i64 a0_0, .int .i64 a0_1, .int .i64 a0_0, .int .i64 (wrap64 (a0_1 + 1))]) (ok := fun _ => True) (okp := fun _ => True) ?hr ?hp (fun _ hk => hk) trivial (Below.refl _ _) (Nat.le_refl _) (by simp) ?_; (case hd => rfl); (case hg => rfl); (case hr => first | (go_simp; done) | (go_simp; rfl)); (case hp => exact (Reps.c2 (show Kd.M k96 _ _ _ (⟨a0_0, a0_1⟩ : S96) [.int .i64 a0_0, .int .i64 a0_1] from (qTB _ _ _ (⟨a0_0, a0_1⟩ : S96) )) (Reps.c2 (show Kd.M k96 _ _ _ (⟨a0_0, wrap64 (a0_1 + 1)⟩ : S96) [.int .i64 a0_0, .int .i64 (wrap64 (a0_1 + 1))] from (qTB _ _ _ (⟨a0_0, wrap64 (a0_1 + 1)⟩ : S96) )) (Reps.none _ _)))); intro v197 w10 ho11 hb hg_ hnew_; clear hg_ hnew_; (first | rw [← Ny196.out] at ho11 | (simp only [Int.reduceToNat] at ho11; rw [← Ny196.out] at ho11)); have n0_ := Aside0.mk (Kd.qMA ho11 (qJ (by repeat (first | (with_reducible first | exact HB.out | apply qF | apply qA | apply qE | refine qG ?_ GE192.out) | exact HB.out)))); have n1_ := Aside0.mk (qK (g := gb192) (o := .cells #[.int .i64 a0_0, .int .i64 a0_1, .int .i64 a0_2] 27 (0, 0)) (by (with_reducible repeat (first | refine qC ?_ _ | refine qD ?_ | refine qB ?_ _)); exact BK192.out) hb); have n2_ := Aside0.mk (qL (by repeat (first | (with_reducible first | exact HB.out | apply qF | apply qA | apply qE | refine qG ?_ GE192.out) | exact HB.out)) hb); clear BK192; clear HB; have HO198 := n0_; have BK192 := n1_; have HB := n2_; clear n0_ n1_ n2_; clear hb ho11))
   go_ret
   exact ⟨_, by first | rfl | (simp [qN, qM] <;> rfl) | (simp [*, qN, qM] <;> rfl), by (with_reducible repeat (first | apply Kd.qT | apply Kd.qS | apply Kd.qZ)); exact HO198.out, by repeat (first | (with_reducible first | exact HB.out | apply qF | apply qA | apply qE | refine qG ?_ GE192.out) | exact HB.out)⟩
  ·rw [if_neg c7] at H
   have c7b0 : (a0_2 == 2) = false := beq_eq_false_iff_ne.mpr c7
   have c7b1 : (a0_2 != 2) = true := bne_iff_ne.mpr c7
   obtain ⟨y199, hy199⟩ : ∃ y_ : List (S96), y_ = (([(⟨a0_0, a0_1⟩ : S96)] : List (S96))) := ⟨_, rfl⟩
   replace H : (some y199) = some r := by first | (rw [hy199]; with_reducible exact H) | (have H2_ := (Option.bind_some _ _).symm.trans H; rw [hy199]; with_reducible exact H2_) | (have H2_ := (Option.bind_some _ _).symm.trans H; with_reducible exact H2_) | with_reducible exact H | (rw [hy199]; exact H) | exact H
   have Ny199 := Aside0.mk hy199
   clear hy199
   obtain rfl := Option.some.inj H
   go_enter Tryd.func85, Tryd.ntmps85
   go_wp2_with (first | ((with_reducible refine qc (N := 1) rfl ?_); refine qY ?hg (N := 1) ?hd (cs := #[.int .i64 a0_0, .int .i64 a0_1, .int .i64 a0_2]) (t := 27) ?hr ?_; (case hd => rfl); (case hg => rfl); (case hr => first | (go_simp; done) | (go_simp; rfl)); intro gb192 hg w12 hbox hb; have n0_ := Aside0.mk (qL (by repeat (first | (with_reducible first | exact HB.out | apply qF | apply qA | apply qE) | exact HB.out)) hb); have n1_ := Aside0.mk (hbox); have n2_ := Aside0.mk ((by rw [hg]; exact (qJ (by repeat (first | (with_reducible first | exact HB.out | apply qF | apply qA | apply qE) | exact HB.out))) : w.heap.size ≤ gb192)); have n3_ := Aside0.mk ((by rw [hg]; exact (qJ (by repeat (first | (with_reducible first | exact HB.out | apply qF | apply qA | apply qE) | exact HB.out))) : w.heap.size ≤ gb192)); clear HB; have HB := n0_; have BK192 := n1_; have GW192 := n2_; have GE192 := n3_; clear n0_ n1_ n2_ n3_; clear hb hbox hg; have hcz13_0 : w12.cell? ⟨gb192, 0, none⟩ = some (.int .i64 a0_0) := (qI BK192.out 0).trans rfl; have hcz13_1 : w12.cell? ⟨gb192, 1, none⟩ = some (.int .i64 a0_1) := (qI BK192.out 1).trans rfl; have hcz13_2 : w12.cell? ⟨gb192, 2, none⟩ = some (.int .i64 a0_2) := (qI BK192.out 2).trans rfl; have hfz13_0 := qH BK192.out 0; have hfz13_1 := qH BK192.out 1; have hfz13_2 := qH BK192.out 2) | ((with_reducible refine qc (N := 38) rfl ?_); refine Kd.R_lit k96 _ 96 ?hg (N := 38) ?hd (xs := ([(⟨a0_0, a0_1⟩ : S96)] : List (S96))) (inner := [.int .i64 a0_0, .int .i64 a0_1]) (ok := fun _ => True) (okp := fun _ => True) ?hr ?hp (fun _ hk => hk) trivial (Below.refl _ _) (Nat.le_refl _) (by simp) ?_; (case hd => rfl); (case hg => rfl); (case hr => first | (go_simp; done) | (go_simp; rfl)); (case hp => exact (Reps.c2 (show Kd.M k96 _ _ _ (⟨a0_0, a0_1⟩ : S96) [.int .i64 a0_0, .int .i64 a0_1] from (qTB _ _ _ (⟨a0_0, a0_1⟩ : S96) )) (Reps.none _ _))); intro v200 w14 ho15 hb hg_ hnew_; clear hg_ hnew_; (first | rw [← Ny199.out] at ho15 | (simp only [Int.reduceToNat] at ho15; rw [← Ny199.out] at ho15)); have n0_ := Aside0.mk (Kd.qMA ho15 (qJ (by repeat (first | (with_reducible first | exact HB.out | apply qF | apply qA | apply qE | refine qG ?_ GE192.out) | exact HB.out)))); have n1_ := Aside0.mk (qK (g := gb192) (o := .cells #[.int .i64 a0_0, .int .i64 a0_1, .int .i64 a0_2] 27 (0, 0)) (by (with_reducible repeat (first | refine qC ?_ _ | refine qD ?_ | refine qB ?_ _)); exact BK192.out) hb); have n2_ := Aside0.mk (qL (by repeat (first | (with_reducible first | exact HB.out | apply qF | apply qA | apply qE | refine qG ?_ GE192.out) | exact HB.out)) hb); clear BK192; clear HB; have HO201 := n0_; have BK192 := n1_; have HB := n2_; clear n0_ n1_ n2_; clear hb ho15))
   go_ret
   exact ⟨_, by first | rfl | (simp [qN, qM] <;> rfl) | (simp [*, qN, qM] <;> rfl), by (with_reducible repeat (first | apply Kd.qT | apply Kd.qS | apply Kd.qZ)); exact HO201.out, by repeat (first | (with_reducible first | exact HB.out | apply qF | apply qA | apply qE | refine qG ?_ GE192.out) | exact HB.out)⟩
end Go.Proofs.YtbpfhpjbeomfcaaDoor.P
namespace Go.Proofs.YtbpfhpjbeomfcaaDoor
open Go.RowKit Go.Proofs.YtbpfhpjbeomfcaaDoor.P Go.Proofs.YtbpfhpjbeomfcaaDoorW.PrintWords Go.Proofs.YtbpfhpjbeomfcaaDoorW.PrintLast
set_option linter.unusedVariables false
set_option linter.unusedSimpArgs false
def PredOn {α : Type} (g : Nat) (lb : Array Value) (enc : α → Value) (p : α → Bool) (l : List α) (w : World) : Prop :=
 ∀ (W : World) (x : α), x ∈ l → Below w.heap.size w W → Calls Tryd.prog g (#[enc x] ++ lb) W fun e w' => e = .returned (.bool (p x)) ∧ Below W.heap.size W w'
theorem PredOn.later {α : Type} {g : Nat} {lb : Array Value} {enc : α → Value} {p : α → Bool} {l : List α} {w w1 : World} (h : PredOn g lb enc p l w) (hb : Below w.heap.size w w1) : PredOn g lb enc p l w1 :=
 fun W x hx hW => h W x hx (qGB hb hb.size hW)
def idxP {α : Type} (p : α → Bool) (l : List α) : Int := match l.findIdx? p with | some i => (i : Int) | none => -1
theorem idxP_hit {α : Type} (p : α → Bool) (l : List α) (k : Nat) (hk : k < l.length) (h0 : ∀ j, (h : j < k) → p (l[j]'(by omega)) = false) (h1 : p l[k] = true) : idxP p l = (k : Int) := by
 unfold idxP
 have : l.findIdx? p = some k := by
  rw [List.findIdx?_eq_some_iff_getElem]
  exact ⟨hk, h1, fun j hj => by rw [h0 j hj]; decide⟩
 rw [this]
theorem idxP_miss {α : Type} (p : α → Bool) (l : List α) (h0 : ∀ j, (h : j < l.length) → p l[j] = false) : idxP p l = -1 := by
 unfold idxP
 have : l.findIdx? p = none := by
  rw [List.findIdx?_eq_none_iff]
  intro x hx
  obtain ⟨j, hj, rfl⟩ := List.getElem_of_mem hx
  exact h0 j hj
 rw [this]
theorem idxP_any {α : Type} (p : α → Bool) (l : List α) : decide (idxP p l ≥ 0) = l.any p := by
 unfold idxP
 cases h : l.findIdx? p with
 | none =>
  rw [List.findIdx?_eq_none_iff] at h
  have : l.any p = false := by rw [List.any_eq_false]; intro x hx; simp [h x hx]
  rw [this]; decide
 | some i =>
  rw [List.findIdx?_eq_some_iff_getElem] at h
  obtain ⟨hi, hp, _⟩ := h
  have : l.any p = true := List.any_eq_true.2 ⟨l[i], List.getElem_mem hi, hp⟩
  rw [this]
  exact decide_eq_true (Int.natCast_nonneg i)
end Go.Proofs.YtbpfhpjbeomfcaaDoor
namespace Go.Proofs.YtbpfhpjbeomfcaaDoor
open Go.RowKit Go.Proofs.YtbpfhpjbeomfcaaDoor.P Go.Proofs.YtbpfhpjbeomfcaaDoorW.PrintWords Go.Proofs.YtbpfhpjbeomfcaaDoorW.PrintLast
set_option linter.unusedVariables false
set_option linter.unusedSimpArgs false
def encCell (x : S96) : Value := .agg #[.int .i64 x.f0, .int .i64 x.f1]
theorem rd_getCell (l : List S96) (j : Nat) (h : j < l.length) : qgB l (j : Int) = l[j] := by
 unfold qgB
 rw [Int.toNat_natCast, List.getD_eq_getElem?_getD, List.getElem?_eq_getElem h]; rfl
set_option maxHeartbeats 1000000 in
theorem indexFunc_Cell (p : S96 → Bool) (g : Nat) (lb : Array Value) (eg : ∀ args w, (callFunc g args).run Tryd.prog w = .ok (.enter g args) w) (A0 : Option Addr) (c0 : Nat) (l : List S96) (w : World)
  (hr : Kd.C k96 w A0 l.length l) (hp : PredOn g lb encCell p l w) :
  Calls Tryd.prog 107 #[.slice A0 l.length c0, .func (.func g) #[] lb] w fun e w' => e = .returned (.int .i64 (idxP p l)) ∧ Below w.heap.size w w' := by
 have HR := Lib.hid hr
 have hn : l.length ≤ 9223372036854775807 := hr.2.1
 clear hr
 have hu := Tryd.underlying96
 go_enter Tryd.func107, Tryd.ntmps107
 go_wp2
 go_loopg [5, 8] l.length (fun gg _ s8 wr => ∃ kk : Nat, kk ≤ l.length ∧ l.length - kk ≤ gg ∧ s8 = .int .i64 kk ∧ Aside0 (Below w.heap.size w wr) ∧ Aside0 (∀ j, (h : j < l.length) → j < kk → p l[j] = false))
 case atStart => exact ⟨0, Nat.zero_le _, by omega, rfl, ⟨Below.refl _ w⟩, ⟨fun j _ hj => absurd hj (Nat.not_lt_zero _)⟩⟩
 case round =>
  obtain ⟨kk, hkk, hg, rfl, BW, A⟩ := hrel
  rename World => wr
  by_cases hlt : kk < l.length
  ·have hltz : (kk : Int) < (l.length : Int) := by omega
   obtain ⟨ad, e, h0, h1⟩ := at_T96 (Kd.qaA HR.out BW.out) (kk : Int) (by omega) hltz
   cases e
   simp only [rd_getCell l kk hlt, Int.toNat_natCast] at h0 h1
   have hcall := hp wr l[kk] (List.getElem_mem hlt) BW.out
   have B := Lib.hid (rfl : l[kk] = l[kk])
   generalize hy : l[kk] = y at h0 h1 hcall
   have HY := Lib.hid hy
   clear hy B
   cases hq : p y with
   | true =>
    rw [hq] at hcall
    have HQ := Lib.hid hq
    have HC := Lib.hid hcall
    clear hq hp hcall
    go_wp2
    refine HC.out.mono ?_
    rintro e w' ⟨rfl, hb'⟩
    clear HC h0 h1 eg
    go_wp2
    go_ret
    exact ⟨ret_i64 (idxP_hit p l kk hlt (fun j hj => A.out j _ hj) (by rw [HY.out]; exact HQ.out)).symm, qGB BW.out BW.out.size hb'⟩
   | false =>
    rw [hq] at hcall
    have HQ := Lib.hid hq
    have HC := Lib.hid hcall
    clear hq hp hcall
    go_wp2
    refine HC.out.mono ?_
    rintro e w' ⟨rfl, hb'⟩
    clear HC h0 h1 eg
    go_wp2
    go_roundg (l.length - (kk + 1))
    case measure => omega
    case rel =>
     refine ⟨kk + 1, by omega, by omega, by go_num, ⟨qGB BW.out BW.out.size hb'⟩, ⟨fun j h hj => ?_⟩⟩
     by_cases e : j = kk
     ·subst e
      rw [HY.out]; exact HQ.out
     ·exact A.out j h (by omega)
  ·have hltz : ¬ (kk : Int) < (l.length : Int) := by omega
   have hke : kk = l.length := by omega
   subst hke
   clear hp
   go_wp2
   go_ret
   exact ⟨ret_i64 (idxP_miss p l (fun j h => A.out j h h)).symm, BW.out⟩
theorem containsFunc_Cell (p : S96 → Bool) (g : Nat) (lb : Array Value) (eg : ∀ args w, (callFunc g args).run Tryd.prog w = .ok (.enter g args) w) (A0 : Option Addr) (c0 : Nat) (l : List S96) (w : World)
  (hr : Kd.C k96 w A0 l.length l) (hp : PredOn g lb encCell p l w) :
  Calls Tryd.prog 84 #[.slice A0 l.length c0, .func (.func g) #[] lb] w fun e w' => e = .returned (.bool (l.any p)) ∧ Below w.heap.size w w' := by
 have hcall := fun c => indexFunc_Cell p g lb eg A0 c l w hr hp
 have HA := Lib.hid (idxP_any p l)
 clear hr hp
 go_enter Tryd.func84, Tryd.ntmps84
 go_wp2_with (go_at_call 107; refine (hcall _).mono ?_; rintro e w' ⟨rfl, hb'⟩)
 go_ret
 exact ⟨ret_bool HA.out, hb'⟩
end Go.Proofs.YtbpfhpjbeomfcaaDoor
namespace Go.Proofs.YtbpfhpjbeomfcaaDoor
open Go.RowKit Go.Proofs.YtbpfhpjbeomfcaaDoor.P Go.Proofs.YtbpfhpjbeomfcaaDoorW.PrintWords Go.Proofs.YtbpfhpjbeomfcaaDoorW.PrintLast
set_option linter.unusedVariables false
set_option linter.unusedSimpArgs false
def qLB.f (rows : List ByteArray) (x y : Int) : Option Bool := (qr.f rows x y).bind fun b => if b = true then (qJA.f rows x y).bind fun c => some (c == 35) else some true
def qgA.f (l : List S96) (rows : List ByteArray) : Option Bool := if (l.all fun c => (qLB.f rows c.f0 c.f1).isSome) = true then some (l.any fun c => (qLB.f rows c.f0 c.f1).getD false) else none
set_option maxHeartbeats 1000000 in
set_option maxRecDepth 100000 in
theorem isBox1_calls (x : S96) (b : Nat) (A1 : Option Addr) (c1 : Nat) (rows : List ByteArray) (r : Bool) (w : World) (hr1 : Kd.C Kd.string w A1 rows.length rows) (hc1 : rows.length ≤ c1) (hp : w.cell? ⟨b, 0, none⟩ = some (.slice A1 rows.length c1))
  (h : qLB.f rows x.f0 x.f1 = some r) :
  Calls Tryd.prog 86 (#[encCell x] ++ #[.pointer (some ⟨b, 0, none⟩)]) w fun e w' => e = .returned (.bool r) ∧ Below w.heap.size w w' := by
 have hu := Tryd.underlying96
 have g7 := World.block_lt_of_cell? w _ hp
 have HR := Lib.hid hr1
 clear hr1
 unfold qLB.f at h
 replace h := Option.bind_eq_some_iff.mp h
 obtain ⟨b1, hb1, h⟩ := h
 have HH := fun (W : World) (hw : Below w.heap.size w W) => Lib.hid (qr.calls A1 c1 rows x.f0 x.f1 b1 W (Kd.qaA HR.out hw) hc1 hb1)
 show Calls Tryd.prog 86 #[encCell x, .pointer (some ⟨b, 0, none⟩)] w _
 unfold encCell
 have H := Lib.hid h
 clear h hb1
 cases b1 with
 | false =>
  have H1 := H.out
  rw [if_neg (by decide)] at H1
  obtain rfl := Option.some.inj H1
  clear H H1
  go_enter Tryd.func86, Tryd.ntmps86
  go_wp2_with (first | (go_at_call 83; refine (HH _ (qF (Below.refl _ _) _)).out.mono ?_; rintro e w1 ⟨rfl, ⟨nd, rfl⟩⟩))
  go_ret
  exact ⟨rfl, qA (qF (Below.refl _ _) _) nd⟩
 | true =>
  have H1 := H.out
  rw [if_pos rfl] at H1
  replace H1 := Option.bind_eq_some_iff.mp H1
  obtain ⟨c, hc, H1⟩ := H1
  obtain rfl := Option.some.inj H1
  clear H H1
  have HA := fun (W : World) (hw : Below w.heap.size w W) => Lib.hid (qJA.calls A1 c1 rows x.f0 x.f1 c W (Kd.qaA HR.out hw) hc1 hc)
  clear hc
  go_enter Tryd.func86, Tryd.ntmps86
  go_wp2_with (first | (go_at_call 83; refine (HH _ (qF (Below.refl _ _) _)).out.mono ?_; rintro e w1 ⟨rfl, ⟨nd, rfl⟩⟩) | (go_at_call 71; refine (HA _ (qA (qF (Below.refl _ _) _) _)).out.mono ?_; rintro e w2 ⟨rfl, ⟨nd2, rfl⟩⟩))
  go_ret
  exact ⟨rfl, qA (qF (Below.refl _ _) _) (nd + nd2)⟩
theorem qgA.calls (A0 : Option Addr) (c0 : Nat) (l0 : List S96) (b : Nat) (A1 : Option Addr) (c1 : Nat) (l1 : List ByteArray) (r : Bool) (w : World) (hr0 : Kd.C k96 w A0 l0.length l0) (hc0 : l0.length ≤ c0) (hr1 : Kd.C Kd.string w A1 l1.length l1) (hc1 : l1.length ≤ c1) (hp : w.cell? ⟨b, 0, none⟩ = some (.slice A1 l1.length c1))
  (h : qgA.f l0 l1 = some r) :
  Calls Tryd.prog 84 #[.slice A0 l0.length c0, .func (.func 86) #[] #[.pointer (some ⟨b, 0, none⟩)]] w fun e w' => e = .returned (.bool r) ∧ Below w.heap.size w w' := by
 unfold qgA.f at h
 split at h
 ·rename_i hall
  obtain rfl := Option.some.inj h
  have eg := Go.Proofs.enters_of Tryd.func86 (by kernel_rfl) rfl
  refine containsFunc_Cell (fun c => (qLB.f l1 c.f0 c.f1).getD false) 86 _ eg A0 c0 l0 w hr0 fun W x hx hb => ?_
  have hs := List.all_eq_true.1 hall x hx
  obtain ⟨v, hv⟩ := Option.isSome_iff_exists.1 hs
  have e : (qLB.f l1 x.f0 x.f1).getD false = v := by rw [hv]; rfl
  show Calls _ _ _ _ fun e w' => e = .returned (.bool ((qLB.f l1 x.f0 x.f1).getD false)) ∧ _
  rw [e]
  exact isBox1_calls x b A1 c1 l1 v W (Kd.qaA hr1 hb) hc1 (qpA hb hp) hv
 ·cases h
end Go.Proofs.YtbpfhpjbeomfcaaDoor
namespace Go.Proofs.YtbpfhpjbeomfcaaDoor.P
open Go.RowKit Go.Proofs.YtbpfhpjbeomfcaaDoorW.PrintWords Go.Proofs.YtbpfhpjbeomfcaaDoorW.PrintLast Go.Proofs.YtbpfhpjbeomfcaaDoorW.PrintMore
attribute [local go_sem] qx qv qGA qFA qm ql qw qu   -- for this text's walks alone
set_option linter.unusedVariables false
set_option linter.unusedSimpArgs false
def qW.j0 : Nat → Bool → List ByteArray → Int → Int → Int → Option (Bool)
 | 0, _, _, _, _, _ => none
 | k + 1, x31, x203000, x204000, x204001, x204002 => if x31 = true then (some false) else ((qbA.f x204000 x204001 x204002).bind fun t207 => ((qgA.f t207 x203000).bind fun t210 => (some (!t210))))
def qW.f (k : Nat) (l0 : List ByteArray) (a1_0 : Int) (a1_1 : Int) (a1_2 : Int) : Option (Bool) := (qLA.f a1_2 0 2).bind fun t204 => (if t204 = true then ((qr.f l0 a1_0 a1_1).bind fun t205 => (if t205 = true then (if a1_2 = 0 then ((qJA.f l0 a1_0 a1_1).bind fun t206 => (qW.j0 k (t206 == 45) l0 a1_0 a1_1 a1_2)) else (qW.j0 k false l0 a1_0 a1_1 a1_2)) else (qW.j0 k true l0 a1_0 a1_1 a1_2))) else (qW.j0 k true l0 a1_0 a1_1 a1_2))
set_option maxHeartbeats 8000000 in
set_option maxRecDepth 100000 in
theorem qW.calls (k : Nat) (A0 : Option Addr) (c0 : Nat) (l0 : List ByteArray) (a1_0 : Int) (a1_1 : Int) (a1_2 : Int) (r : Bool) (w : World) (hr0 : Kd.C Kd.string w A0 l0.length l0) (hc0 : l0.length ≤ c0) (h : qW.f k l0 a1_0 a1_1 a1_2 = some r) :
  Calls Tryd.prog 56 #[.slice A0 l0.length c0, .agg #[.int .i64 a1_0, .int .i64 a1_1, .int .i64 a1_2]] w fun e w' => e = .returned (.bool r) ∧ Below w.heap.size w w' := by
 have hu27 := Tryd.underlying27
 have HR0 := Aside0.mk hr0
 have HC0 := Aside0.mk hc0
 clear hr0 hc0
 have HB := Aside0.mk (Below.refl w.heap.size w)
 have H : ((qLA.f a1_2 0 2).bind fun t204 => (if t204 = true then ((qr.f l0 a1_0 a1_1).bind fun t205 => (if t205 = true then (if a1_2 = 0 then ((qJA.f l0 a1_0 a1_1).bind fun t206 => (qW.j0 k (t206 == 45) l0 a1_0 a1_1 a1_2)) else (qW.j0 k false l0 a1_0 a1_1 a1_2)) else (qW.j0 k true l0 a1_0 a1_1 a1_2))) else (qW.j0 k true l0 a1_0 a1_1 a1_2))) = some r := h
 clear h
 have HC3 := Aside0.mk H
 clear H
 go_enter Tryd.func56, Tryd.ntmps56
 go_upto_region 1 with (first | ((with_reducible refine qc (N := 2) rfl ?_); refine qY ?hg (N := 2) ?hd (cs := #[.slice A0 l0.length c0]) (t := 61) ?hr ?_; (case hd => rfl); (case hg => rfl); (case hr => first | (go_simp; done) | (go_simp; rfl)); intro gb202 hg w4 hbox hb; have n0_ := Aside0.mk (qL (by repeat (first | (with_reducible first | exact HB.out | apply qF | apply qA | apply qE) | exact HB.out)) hb); have n1_ := Aside0.mk (hbox); have n2_ := Aside0.mk ((by rw [hg]; exact (qJ (by repeat (first | (with_reducible first | exact HB.out | apply qF | apply qA | apply qE) | exact HB.out))) : w.heap.size ≤ gb202)); have n3_ := Aside0.mk ((by rw [hg]; exact (qJ (by repeat (first | (with_reducible first | exact HB.out | apply qF | apply qA | apply qE) | exact HB.out))) : w.heap.size ≤ gb202)); clear HB; have HB := n0_; have BK202 := n1_; have GW202 := n2_; have GE202 := n3_; clear n0_ n1_ n2_ n3_; clear hb hbox hg) | ((with_reducible refine qc (N := 3) rfl ?_); refine qY ?hg (N := 3) ?hd (cs := #[.int .i64 a1_0, .int .i64 a1_1, .int .i64 a1_2]) (t := 27) ?hr ?_; (case hd => rfl); (case hg => rfl); (case hr => first | (go_simp; done) | (go_simp; rfl)); intro gb203 hg w5 hbox hb; have n0_ := Aside0.mk (qK (g := gb202) (o := .cells #[.slice A0 l0.length c0] 61 (0, 0)) (by (with_reducible repeat (first | refine qC ?_ _ | refine qD ?_ | refine qB ?_ _)); exact BK202.out) hb); have n1_ := Aside0.mk (qL (by repeat (first | (with_reducible first | exact HB.out | apply qF | apply qA | apply qE | refine qG ?_ GE202.out) | exact HB.out)) hb); have n2_ := Aside0.mk (hbox); have n3_ := Aside0.mk ((by rw [hg]; exact (qJ (by repeat (first | (with_reducible first | exact HB.out | apply qF | apply qA | apply qE | refine qG ?_ GE202.out) | exact HB.out))) : w.heap.size ≤ gb203)); have n4_ := Aside0.mk ((by rw [hg]; exact (qJ (by repeat (first | (with_reducible first | exact HB.out | apply qF | apply qA | apply qE | refine qG ?_ GE202.out) | exact HB.out))) : w.heap.size ≤ gb203)); have n5_ := Aside0.mk ((by rw [hg]; exact Nat.ne_of_lt (qd (g := gb202) (o := .cells #[.slice A0 l0.length c0] 61 (0, 0)) (by (with_reducible repeat (first | refine qC ?_ _ | refine qD ?_ | refine qB ?_ _)); exact BK202.out)) : gb202 ≠ gb203)); have n6_ := Aside0.mk ((by rw [hg]; exact Nat.ne_of_gt (qd (g := gb202) (o := .cells #[.slice A0 l0.length c0] 61 (0, 0)) (by (with_reducible repeat (first | refine qC ?_ _ | refine qD ?_ | refine qB ?_ _)); exact BK202.out)) : gb203 ≠ gb202)); clear BK202; clear HB; have BK202 := n0_; have HB := n1_; have BK203 := n2_; have GW203 := n3_; have GE203 := n4_; have NB202_203 := n5_; have NB203_202 := n6_; clear n0_ n1_ n2_ n3_ n4_ n5_ n6_; clear hb hbox hg))
 (try simp only [Act.put, List.setIfInBounds_toArray, List.set_cons_zero, List.set_cons_succ])
 go_cut [31] (fun v31 wc => ∃ (kq : Nat) (x31_2 : Bool), v31 = .bool x31_2 ∧ Aside0 (qW.j0 kq x31_2 l0 a1_0 a1_1 a1_2 = some r) ∧ Aside0 (kq ≤ k) ∧ Aside0 (wc.heap[gb202]? = some (.cells #[(.slice A0 l0.length c0)] 61 (0, 0))) ∧ Aside0 (wc.heap[gb203]? = some (.cells #[.int .i64 a1_0, .int .i64 a1_1, .int .i64 a1_2] 27 (0, 0))) ∧ Aside0 (Below w.heap.size w wc))
 case first =>
  have H := HC3.out
  clear HC3
  replace H := Option.bind_eq_some_iff.mp H
  obtain ⟨t204, A60, H⟩ := H
  replace H : (if t204 = true then ((qr.f l0 a1_0 a1_1).bind fun t205 => (if t205 = true then (if a1_2 = 0 then ((qJA.f l0 a1_0 a1_1).bind fun t206 => (qW.j0 k (t206 == 45) l0 a1_0 a1_1 a1_2)) else (qW.j0 k false l0 a1_0 a1_1 a1_2)) else (qW.j0 k true l0 a1_0 a1_1 a1_2))) else (qW.j0 k true l0 a1_0 a1_1 a1_2)) = some r := H
  have A6 := Aside0.mk A60
  clear A60
  by_cases c7 : t204 = true
  ·subst c7
   have H1 : ((qr.f l0 a1_0 a1_1).bind fun t205 => (if t205 = true then (if a1_2 = 0 then ((qJA.f l0 a1_0 a1_1).bind fun t206 => (qW.j0 k (t206 == 45) l0 a1_0 a1_1 a1_2)) else (qW.j0 k false l0 a1_0 a1_1 a1_2)) else (qW.j0 k true l0 a1_0 a1_1 a1_2))) = some r := by rw [if_pos rfl] at H; exact H
   clear H
   have H := H1
   clear H1
   replace H := Option.bind_eq_some_iff.mp H
   obtain ⟨t205, A80, H⟩ := H
   replace H : (if t205 = true then (if a1_2 = 0 then ((qJA.f l0 a1_0 a1_1).bind fun t206 => (qW.j0 k (t206 == 45) l0 a1_0 a1_1 a1_2)) else (qW.j0 k false l0 a1_0 a1_1 a1_2)) else (qW.j0 k true l0 a1_0 a1_1 a1_2)) = some r := H
   have A8 := Aside0.mk A80
   clear A80
   by_cases c9 : t205 = true
   ·subst c9
    have H1 : (if a1_2 = 0 then ((qJA.f l0 a1_0 a1_1).bind fun t206 => (qW.j0 k (t206 == 45) l0 a1_0 a1_1 a1_2)) else (qW.j0 k false l0 a1_0 a1_1 a1_2)) = some r := by rw [if_pos rfl] at H; exact H
    clear H
    have H := H1
    clear H1
    by_cases c10 : a1_2 = 0
    ·rw [if_pos c10] at H
     have c10b0 : (a1_2 == 0) = true := beq_iff_eq.mpr c10
     have c10b1 : (a1_2 != 0) = false := bne_eq_false_iff_eq.mpr c10
     clear c10
     (first | rw [c10b0] | (simp only [i64_w, i32_w]; rw [c10b0]) | skip)
     replace H := Option.bind_eq_some_iff.mp H
     obtain ⟨t206, A110, H⟩ := H
     replace H : (qW.j0 k (t206 == 45) l0 a1_0 a1_1 a1_2) = some r := H
     have A11 := Aside0.mk A110
     clear A110
     have H' := Aside0.mk H
     clear H
     have hnb12 := NB203_202.out
     have hnc12 := NB202_203.out
     have hcz13_0 : w5.cell? ⟨gb203, 0, none⟩ = some (.int .i64 a1_0) := (qI BK203.out 0).trans rfl
     have hcz13_1 : w5.cell? ⟨gb203, 1, none⟩ = some (.int .i64 a1_1) := (qI BK203.out 1).trans rfl
     have hcz13_2 : w5.cell? ⟨gb203, 2, none⟩ = some (.int .i64 a1_2) := (qI BK203.out 2).trans rfl
     have hfz13_0 := qH BK203.out 0
     have hfz13_1 := qH BK203.out 1
     have hfz13_2 := qH BK203.out 2
     go_wp2_with (first | ((with_reducible refine qX (f := 82) rfl ?_); refine qo (some 7) rfl rfl Tryd.func82 (by kernel_rfl) rfl #[.int .i64 a1_2, .int .i64 0, .int .i64 2] rfl (by (try simp only [List.map_toArray, List.map_cons, List.map_nil]); first | done | rfl | (simp only [List.length_drop, List.length_take]; rfl)) ?_; (with_reducible refine (qLA.calls a1_2 0 2 true _ A6.out).mono ?_); rintro e w' ⟨rfl, ⟨nd, rfl⟩⟩; refine ⟨_, rfl, ?_⟩; have hcz14_0 : w5.cell? ⟨gb202, 0, none⟩ = some (.slice A0 l0.length c0) := (qI BK202.out 0).trans rfl; have hfz14_0 := qH BK202.out 0) | (go_at_call 83; (with_reducible refine (qr.calls _ _ l0 a1_0 a1_1 true _ ?side1 ?side2 A8.out).mono ?_); (case side1 => repeat (first | exact (Kd.qaA HR0.out (by repeat (first | (with_reducible first | exact HB.out | apply qF | apply qA | apply qE | refine qG ?_ GE202.out | refine qG ?_ GE203.out) | exact HB.out))) | (with_reducible refine Kd.qOA ?_ _) | (with_reducible refine Kd.qNA ?_ _) | (with_reducible refine Kd.qXA ?_))); (case side2 => exact HC0.out); rintro e w' ⟨rfl, ⟨nd, rfl⟩⟩) | (go_at_call 71; (with_reducible refine (qJA.calls _ _ l0 a1_0 a1_1 t206 _ ?side1 ?side2 A11.out).mono ?_); (case side1 => repeat (first | exact (Kd.qaA HR0.out (by repeat (first | (with_reducible first | exact HB.out | apply qF | apply qA | apply qE | refine qG ?_ GE202.out | refine qG ?_ GE203.out) | exact HB.out))) | (with_reducible refine Kd.qOA ?_ _) | (with_reducible refine Kd.qNA ?_ _) | (with_reducible refine Kd.qXA ?_))); (case side2 => exact HC0.out); rintro e w' ⟨rfl, ⟨nd, rfl⟩⟩))
     go_meet
     case rel => exact ⟨_, ((t206 == 45)), (by first | rfl | (simp; done) | (simp [*]; done)), H', ⟨by first | omega | exact Nat.le_refl _⟩, ⟨by (with_reducible repeat (first | refine qC ?_ _ | refine qD ?_ | refine qB ?_ _)); exact BK202.out⟩, ⟨by (with_reducible repeat (first | refine qC ?_ _ | refine qD ?_ | refine qB ?_ _)); exact BK203.out⟩, ⟨by repeat (first | (with_reducible first | exact HB.out | apply qF | apply qA | apply qE | refine qG ?_ GE202.out | refine qG ?_ GE203.out) | exact HB.out)⟩⟩
    ·rw [if_neg c10] at H
     have c10b0 : (a1_2 == 0) = false := beq_eq_false_iff_ne.mpr c10
     have c10b1 : (a1_2 != 0) = true := bne_iff_ne.mpr c10
     (first | rw [c10b0] | (simp only [i64_w, i32_w]; rw [c10b0]) | skip)
     have H' := Aside0.mk H
     clear H
     have hnb15 := NB203_202.out
     have hnc15 := NB202_203.out
     have hcz16_0 : w5.cell? ⟨gb203, 0, none⟩ = some (.int .i64 a1_0) := (qI BK203.out 0).trans rfl
     have hcz16_1 : w5.cell? ⟨gb203, 1, none⟩ = some (.int .i64 a1_1) := (qI BK203.out 1).trans rfl
     have hcz16_2 : w5.cell? ⟨gb203, 2, none⟩ = some (.int .i64 a1_2) := (qI BK203.out 2).trans rfl
     have hfz16_0 := qH BK203.out 0
     have hfz16_1 := qH BK203.out 1
     have hfz16_2 := qH BK203.out 2
     go_wp2_with (first | ((with_reducible refine qX (f := 82) rfl ?_); refine qo (some 7) rfl rfl Tryd.func82 (by kernel_rfl) rfl #[.int .i64 a1_2, .int .i64 0, .int .i64 2] rfl (by (try simp only [List.map_toArray, List.map_cons, List.map_nil]); first | done | rfl | (simp only [List.length_drop, List.length_take]; rfl)) ?_; (with_reducible refine (qLA.calls a1_2 0 2 true _ A6.out).mono ?_); rintro e w' ⟨rfl, ⟨nd, rfl⟩⟩; refine ⟨_, rfl, ?_⟩; have hcz17_0 : w5.cell? ⟨gb202, 0, none⟩ = some (.slice A0 l0.length c0) := (qI BK202.out 0).trans rfl; have hfz17_0 := qH BK202.out 0) | (go_at_call 83; (with_reducible refine (qr.calls _ _ l0 a1_0 a1_1 true _ ?side1 ?side2 A8.out).mono ?_); (case side1 => repeat (first | exact (Kd.qaA HR0.out (by repeat (first | (with_reducible first | exact HB.out | apply qF | apply qA | apply qE | refine qG ?_ GE202.out | refine qG ?_ GE203.out) | exact HB.out))) | (with_reducible refine Kd.qOA ?_ _) | (with_reducible refine Kd.qNA ?_ _) | (with_reducible refine Kd.qXA ?_))); (case side2 => exact HC0.out); rintro e w' ⟨rfl, ⟨nd, rfl⟩⟩))
     go_meet
     case rel => exact ⟨_, (false), (by first | rfl | (simp; done) | (simp [*]; done)), H', ⟨by first | omega | exact Nat.le_refl _⟩, ⟨by (with_reducible repeat (first | refine qC ?_ _ | refine qD ?_ | refine qB ?_ _)); exact BK202.out⟩, ⟨by (with_reducible repeat (first | refine qC ?_ _ | refine qD ?_ | refine qB ?_ _)); exact BK203.out⟩, ⟨by repeat (first | (with_reducible first | exact HB.out | apply qF | apply qA | apply qE | refine qG ?_ GE202.out | refine qG ?_ GE203.out) | exact HB.out)⟩⟩
   ·replace c9 := Bool.eq_false_iff.mpr c9
    subst c9
    have H1 : (qW.j0 k true l0 a1_0 a1_1 a1_2) = some r := by rw [if_neg (show ¬ (false = true) by decide)] at H; exact H
    clear H
    have H := H1
    clear H1
    have H' := Aside0.mk H
    clear H
    have hnb18 := NB203_202.out
    have hnc18 := NB202_203.out
    have hcz19_0 : w5.cell? ⟨gb203, 0, none⟩ = some (.int .i64 a1_0) := (qI BK203.out 0).trans rfl
    have hcz19_1 : w5.cell? ⟨gb203, 1, none⟩ = some (.int .i64 a1_1) := (qI BK203.out 1).trans rfl
    have hcz19_2 : w5.cell? ⟨gb203, 2, none⟩ = some (.int .i64 a1_2) := (qI BK203.out 2).trans rfl
    have hfz19_0 := qH BK203.out 0
    have hfz19_1 := qH BK203.out 1
    have hfz19_2 := qH BK203.out 2
    go_wp2_with (first | ((with_reducible refine qX (f := 82) rfl ?_); refine qo (some 7) rfl rfl Tryd.func82 (by kernel_rfl) rfl #[.int .i64 a1_2, .int .i64 0, .int .i64 2] rfl (by (try simp only [List.map_toArray, List.map_cons, List.map_nil]); first | done | rfl | (simp only [List.length_drop, List.length_take]; rfl)) ?_; (with_reducible refine (qLA.calls a1_2 0 2 true _ A6.out).mono ?_); rintro e w' ⟨rfl, ⟨nd, rfl⟩⟩; refine ⟨_, rfl, ?_⟩; have hcz20_0 : w5.cell? ⟨gb202, 0, none⟩ = some (.slice A0 l0.length c0) := (qI BK202.out 0).trans rfl; have hfz20_0 := qH BK202.out 0) | (go_at_call 83; (with_reducible refine (qr.calls _ _ l0 a1_0 a1_1 false _ ?side1 ?side2 A8.out).mono ?_); (case side1 => repeat (first | exact (Kd.qaA HR0.out (by repeat (first | (with_reducible first | exact HB.out | apply qF | apply qA | apply qE | refine qG ?_ GE202.out | refine qG ?_ GE203.out) | exact HB.out))) | (with_reducible refine Kd.qOA ?_ _) | (with_reducible refine Kd.qNA ?_ _) | (with_reducible refine Kd.qXA ?_))); (case side2 => exact HC0.out); rintro e w' ⟨rfl, ⟨nd, rfl⟩⟩))
    go_meet
    case rel => exact ⟨_, (true), (by first | rfl | (simp; done) | (simp [*]; done)), H', ⟨by first | omega | exact Nat.le_refl _⟩, ⟨by (with_reducible repeat (first | refine qC ?_ _ | refine qD ?_ | refine qB ?_ _)); exact BK202.out⟩, ⟨by (with_reducible repeat (first | refine qC ?_ _ | refine qD ?_ | refine qB ?_ _)); exact BK203.out⟩, ⟨by repeat (first | (with_reducible first | exact HB.out | apply qF | apply qA | apply qE | refine qG ?_ GE202.out | refine qG ?_ GE203.out) | exact HB.out)⟩⟩
  ·replace c7 := Bool.eq_false_iff.mpr c7
   subst c7
   have H1 : (qW.j0 k true l0 a1_0 a1_1 a1_2) = some r := by rw [if_neg (show ¬ (false = true) by decide)] at H; exact H
   clear H
   have H := H1
   clear H1
   have H' := Aside0.mk H
   clear H
   have hnb21 := NB203_202.out
   have hnc21 := NB202_203.out
   have hcz22_0 : w5.cell? ⟨gb203, 0, none⟩ = some (.int .i64 a1_0) := (qI BK203.out 0).trans rfl
   have hcz22_1 : w5.cell? ⟨gb203, 1, none⟩ = some (.int .i64 a1_1) := (qI BK203.out 1).trans rfl
   have hcz22_2 : w5.cell? ⟨gb203, 2, none⟩ = some (.int .i64 a1_2) := (qI BK203.out 2).trans rfl
   have hfz22_0 := qH BK203.out 0
   have hfz22_1 := qH BK203.out 1
   have hfz22_2 := qH BK203.out 2
   go_wp2_with (first | ((with_reducible refine qX (f := 82) rfl ?_); refine qo (some 7) rfl rfl Tryd.func82 (by kernel_rfl) rfl #[.int .i64 a1_2, .int .i64 0, .int .i64 2] rfl (by (try simp only [List.map_toArray, List.map_cons, List.map_nil]); first | done | rfl | (simp only [List.length_drop, List.length_take]; rfl)) ?_; (with_reducible refine (qLA.calls a1_2 0 2 false _ A6.out).mono ?_); rintro e w' ⟨rfl, ⟨nd, rfl⟩⟩; refine ⟨_, rfl, ?_⟩))
   go_meet
   case rel => exact ⟨_, (true), (by first | rfl | (simp; done) | (simp [*]; done)), H', ⟨by first | omega | exact Nat.le_refl _⟩, ⟨by (with_reducible repeat (first | refine qC ?_ _ | refine qD ?_ | refine qB ?_ _)); exact BK202.out⟩, ⟨by (with_reducible repeat (first | refine qC ?_ _ | refine qD ?_ | refine qB ?_ _)); exact BK203.out⟩, ⟨by repeat (first | (with_reducible first | exact HB.out | apply qF | apply qA | apply qE | refine qG ?_ GE202.out | refine qG ?_ GE203.out) | exact HB.out)⟩⟩
 case rest =>
  clear HC3
  try clear c1
  try clear c2
  try clear p2
  try clear c5
  try clear c7
  try clear c8
  try clear c9
  try clear c10
  try clear c10b0
  try clear c10b1
  try clear c12
  try clear c15
  try clear c18
  try clear c21
  try clear hcz13_0
  try clear hcz13_1
  try clear hcz13_2
  try clear hcz14_0
  try clear hcz16_0
  try clear hcz16_1
  try clear hcz16_2
  try clear hcz17_0
  try clear hcz19_0
  try clear hcz19_1
  try clear hcz19_2
  try clear hcz20_0
  try clear hcz22_0
  try clear hcz22_1
  try clear hcz22_2
  try clear hfz13_0
  try clear hfz13_1
  try clear hfz13_2
  try clear hfz14_0
  try clear hfz16_0
  try clear hfz16_1
  try clear hfz16_2
  try clear hfz17_0
  try clear hfz19_0
  try clear hfz19_1
  try clear hfz19_2
  try clear hfz20_0
  try clear hfz22_0
  try clear hfz22_1
  try clear hfz22_2
  obtain ⟨kq, x31_2, rfl, HA, HJ2, BK202, BK203, HB⟩ := hcut
  cases kq with
  | zero => exact absurd HA.out (by simp [qW.j0])
  | succ kj2 =>
   have H := HA.out
   clear HA
   simp only [qW.j0] at H
   by_cases c23 : x31_2 = true
   ·subst c23
    have H1 : (some false) = some r := by rw [if_pos rfl] at H; exact H
    clear H
    have H := H1
    clear H1
    obtain rfl := Option.some.inj H
    go_wp2
    go_ret
    exact ⟨by first | rfl | (simp [qN, qM] <;> rfl) | (simp [*, qN, qM] <;> rfl), by repeat (first | (with_reducible first | exact HB.out | apply qF | apply qA | apply qE | refine qG ?_ GE202.out | refine qG ?_ GE203.out) | exact HB.out)⟩
   ·replace c23 := Bool.eq_false_iff.mpr c23
    subst c23
    have H1 : ((qbA.f a1_0 a1_1 a1_2).bind fun t207 => ((qgA.f t207 l0).bind fun t210 => (some (!t210)))) = some r := by rw [if_neg (show ¬ (false = true) by decide)] at H; exact H
    clear H
    have H := H1
    clear H1
    replace H := Option.bind_eq_some_iff.mp H
    obtain ⟨t207, A240, H⟩ := H
    replace H : ((qgA.f t207 l0).bind fun t210 => (some (!t210))) = some r := H
    have A24 := Aside0.mk A240
    clear A240
    replace H := Option.bind_eq_some_iff.mp H
    obtain ⟨t210, A250, H⟩ := H
    replace H : (some (!t210)) = some r := H
    have A25 := Aside0.mk A250
    clear A250
    obtain rfl := Option.some.inj H
    have hnb26 := NB203_202.out
    have hnc26 := NB202_203.out
    have hcz27_0 : wc.cell? ⟨gb203, 0, none⟩ = some (.int .i64 a1_0) := (qI BK203.out 0).trans rfl
    have hcz27_1 : wc.cell? ⟨gb203, 1, none⟩ = some (.int .i64 a1_1) := (qI BK203.out 1).trans rfl
    have hcz27_2 : wc.cell? ⟨gb203, 2, none⟩ = some (.int .i64 a1_2) := (qI BK203.out 2).trans rfl
    have hfz27_0 := qH BK203.out 0
    have hfz27_1 := qH BK203.out 1
    have hfz27_2 := qH BK203.out 2
    go_wp2_with (first | ((with_reducible refine qX (f := 85) rfl ?_); refine qo (some 33) rfl rfl Tryd.func85 (by kernel_rfl) rfl #[.agg #[.int .i64 a1_0, .int .i64 a1_1, .int .i64 a1_2]] rfl (by (try simp only [List.map_toArray, List.map_cons, List.map_nil]); first | done | rfl | (simp only [List.length_drop, List.length_take]; rfl)) ?_; (with_reducible refine (qbA.calls a1_0 a1_1 a1_2 t207 _ A24.out).mono ?_); rintro e w28 ⟨v208, rfl, ho0, hb⟩; refine ⟨_, rfl, ?_⟩; have n0_ := Aside0.mk (Kd.qMA ho0 (qJ (by repeat (first | (with_reducible first | exact HB.out | apply qF | apply qA | apply qE | refine qG ?_ GE202.out | refine qG ?_ GE203.out) | exact HB.out)))); have n1_ := Aside0.mk (qK (g := gb202) (o := .cells #[.slice A0 l0.length c0] 61 (0, 0)) (by (with_reducible repeat (first | refine qC ?_ _ | refine qD ?_ | refine qB ?_ _)); exact BK202.out) hb); have n2_ := Aside0.mk (qK (g := gb203) (o := .cells #[.int .i64 a1_0, .int .i64 a1_1, .int .i64 a1_2] 27 (0, 0)) (by (with_reducible repeat (first | refine qC ?_ _ | refine qD ?_ | refine qB ?_ _)); exact BK203.out) hb); have n3_ := Aside0.mk (qL (by repeat (first | (with_reducible first | exact HB.out | apply qF | apply qA | apply qE | refine qG ?_ GE202.out | refine qG ?_ GE203.out) | exact HB.out)) hb); clear BK202; clear BK203; clear HB; have HO209 := n0_; have BK202 := n1_; have BK203 := n2_; have HB := n3_; clear n0_ n1_ n2_ n3_; (try clear hb); (try clear hb2); (try clear hk); (try clear hi); (try clear ho0); obtain ⟨Ao29, co29, eo29⟩ := Kd.qRA HO209.out; subst eo29) | ((with_reducible refine qX (f := 84) rfl ?_); refine qo (some 35) rfl rfl Tryd.func84 (by kernel_rfl) rfl #[.slice Ao29 t207.length co29, .func (.func 86) #[] #[.pointer (some ⟨gb202, 0, none⟩)]] rfl (by (try simp only [List.map_toArray, List.map_cons, List.map_nil]); first | done | rfl | (simp only [List.length_drop, List.length_take]; rfl)) ?_; (with_reducible refine (qgA.calls _ _ t207 gb202 A0 c0 l0 t210 _ ?side1 ?side2 ?side3 ?side4 ?side5 A25.out).mono ?_); (case side1 => repeat (first | exact (Kd.qh HO209.out).2.2 | (with_reducible refine Kd.qOA ?_ _) | (with_reducible refine Kd.qNA ?_ _) | (with_reducible refine Kd.qXA ?_))); (case side2 => exact (Kd.qh HO209.out).2.1); (case side3 => repeat (first | exact (Kd.qaA HR0.out HB.out) | (with_reducible refine Kd.qOA ?_ _) | (with_reducible refine Kd.qNA ?_ _) | (with_reducible refine Kd.qXA ?_))); (case side4 => exact HC0.out); (case side5 => exact (cell_of_row _ gb202 0 _ _ _ (by (with_reducible repeat (first | refine qC ?_ _ | refine qD ?_ | refine qB ?_ _)); exact BK202.out)).trans rfl); rintro e w30 ⟨rfl, hb⟩; refine ⟨_, rfl, ?_⟩; have n0_ := Aside0.mk (Kd.qi (by (with_reducible repeat (first | apply Kd.qT | apply Kd.qS | apply Kd.qZ)); exact HO209.out) hb); have n1_ := Aside0.mk (qK (g := gb202) (o := .cells #[.slice A0 l0.length c0] 61 (0, 0)) (by (with_reducible repeat (first | refine qC ?_ _ | refine qD ?_ | refine qB ?_ _)); exact BK202.out) hb); have n2_ := Aside0.mk (qK (g := gb203) (o := .cells #[.int .i64 a1_0, .int .i64 a1_1, .int .i64 a1_2] 27 (0, 0)) (by (with_reducible repeat (first | refine qC ?_ _ | refine qD ?_ | refine qB ?_ _)); exact BK203.out) hb); have n3_ := Aside0.mk (qL (by repeat (first | (with_reducible first | exact HB.out | apply qF | apply qA | apply qE | refine qG ?_ GE202.out | refine qG ?_ GE203.out) | exact HB.out)) hb); clear HO209; clear BK202; clear BK203; clear HB; have HO209 := n0_; have BK202 := n1_; have BK203 := n2_; have HB := n3_; clear n0_ n1_ n2_ n3_; (try clear hb); (try clear hb2); (try clear hk); (try clear hi)))
    go_ret
    exact ⟨by first | rfl | (simp [qN, qM] <;> rfl) | (simp [*, qN, qM] <;> rfl), by repeat (first | (with_reducible first | exact HB.out | apply qF | apply qA | apply qE | refine qG ?_ GE202.out | refine qG ?_ GE203.out) | exact HB.out)⟩
end Go.Proofs.YtbpfhpjbeomfcaaDoor.P
namespace Go.Proofs.YtbpfhpjbeomfcaaDoor.P
open Go.RowKit Go.Proofs.YtbpfhpjbeomfcaaDoorW.PrintWords Go.Proofs.YtbpfhpjbeomfcaaDoorW.PrintLast Go.Proofs.YtbpfhpjbeomfcaaDoorW.PrintMore
attribute [local go_sem] qx qv qGA qFA qm ql qw qu   -- for this text's walks alone
set_option linter.unusedVariables false
set_option linter.unusedSimpArgs false
def qZA.f (k : Nat) (a0 : ByteArray) (a1_0 : Int) (a1_1 : Int) (a1_2 : Int) : Option (List ByteArray × Bool) := (qeA.f k a0).bind fun bt267 => (if bt267.2 = true then ((qW.f k bt267.1 a1_0 a1_1 a1_2).bind fun t271 => (some (bt267.1, t271))) else (some (bt267.1, false)))
set_option maxHeartbeats 8000000 in
set_option maxRecDepth 100000 in
theorem qZA.calls (k : Nat) (a0 : ByteArray) (a1_0 : Int) (a1_1 : Int) (a1_2 : Int) (r1 : List ByteArray) (r2 : Bool) (w : World) (hL : Laid w) (h : qZA.f k a0 a1_0 a1_1 a1_2 = some (r1, r2)) :
  Calls Tryd.prog 58 #[.string a0, .agg #[.int .i64 a1_0, .int .i64 a1_1, .int .i64 a1_2]] w fun e w' => ∃ v0_ : Value, e = .returned (.tuple #[v0_, .bool r2]) ∧ Kd.R Kd.string 9 w' w.heap.size (fun _ => True) v0_ r1 ∧ Below w.heap.size w w' := by
 have hu27 := Tryd.underlying27
 have HLD := Aside0.mk hL
 clear hL
 have HB := Aside0.mk (Below.refl w.heap.size w)
 have H : ((qeA.f k a0).bind fun bt267 => (if bt267.2 = true then ((qW.f k bt267.1 a1_0 a1_1 a1_2).bind fun t271 => (some (bt267.1, t271))) else (some (bt267.1, false)))) = some (r1, r2) := h
 clear h
 replace H := Option.bind_eq_some_iff.mp H
 obtain ⟨⟨t267, t268⟩, A30, H⟩ := H
 replace H : (if t268 = true then ((qW.f k t267 a1_0 a1_1 a1_2).bind fun t271 => (some (t267, t271))) else (some (t267, false))) = some (r1, r2) := H
 have A3 := Aside0.mk A30
 clear A30
 by_cases c4 : t268 = true
 ·subst c4
  have H1 : ((qW.f k t267 a1_0 a1_1 a1_2).bind fun t271 => (some (t267, t271))) = some (r1, r2) := by rw [if_pos rfl] at H; exact H
  clear H
  have H := H1
  clear H1
  replace H := Option.bind_eq_some_iff.mp H
  obtain ⟨t271, A50, H⟩ := H
  replace H : (some (t267, t271)) = some (r1, r2) := H
  have A5 := Aside0.mk A50
  clear A50
  simp only [Option.some.injEq, Prod.mk.injEq] at H
  obtain ⟨rfl, rfl⟩ := H
  go_enter Tryd.func58, Tryd.ntmps58
  go_wp2_with (first | ((with_reducible refine qc (N := 3) rfl ?_); refine qY ?hg (N := 3) ?hd (cs := #[.int .i64 a1_0, .int .i64 a1_1, .int .i64 a1_2]) (t := 27) ?hr ?_; (case hd => rfl); (case hg => rfl); (case hr => first | (go_simp; done) | (go_simp; rfl)); intro gb266 hg w6 hbox hb; have n0_ := Aside0.mk (qL (by repeat (first | (with_reducible first | exact HB.out | apply qF | apply qA | apply qE) | exact HB.out)) hb); have n1_ := Aside0.mk (hbox); have n2_ := Aside0.mk ((by rw [hg]; exact (qJ (by repeat (first | (with_reducible first | exact HB.out | apply qF | apply qA | apply qE) | exact HB.out))) : w.heap.size ≤ gb266)); have n3_ := Aside0.mk ((by rw [hg]; exact (qJ (by repeat (first | (with_reducible first | exact HB.out | apply qF | apply qA | apply qE) | exact HB.out))) : w.heap.size ≤ gb266)); clear HB; have HB := n0_; have BK266 := n1_; have GW266 := n2_; have GE266 := n3_; clear n0_ n1_ n2_ n3_; clear hb hbox hg) | ((with_reducible refine qX (f := 54) rfl ?_); refine qo (some 10) rfl rfl Tryd.func54 (by kernel_rfl) rfl #[.string a0] rfl (by (try simp only [List.map_toArray, List.map_cons, List.map_nil]); first | done | rfl | (simp only [List.length_drop, List.length_take]; rfl)) ?_; (with_reducible refine (qeA.calls k a0 t267 true _ ?side1 A3.out).mono ?_); (case side1 => first | exact HLD.out | exact Laid.below HLD.out (by repeat (first | (with_reducible first | exact HB.out | apply qF | apply qA | apply qE) | exact HB.out))); rintro e w7 ⟨v269, rfl, ho0, hb⟩; refine ⟨_, rfl, ?_⟩; have n0_ := Aside0.mk (Kd.qMA ho0 (qJ (by repeat (first | (with_reducible first | exact HB.out | apply qF | apply qA | apply qE | refine qG ?_ GE266.out) | exact HB.out)))); have n1_ := Aside0.mk (qK (g := gb266) (o := .cells #[.int .i64 a1_0, .int .i64 a1_1, .int .i64 a1_2] 27 (0, 0)) (by (with_reducible repeat (first | refine qC ?_ _ | refine qD ?_ | refine qB ?_ _)); exact BK266.out) hb); have n2_ := Aside0.mk (qL (by repeat (first | (with_reducible first | exact HB.out | apply qF | apply qA | apply qE | refine qG ?_ GE266.out) | exact HB.out)) hb); clear BK266; clear HB; have HO270 := n0_; have BK266 := n1_; have HB := n2_; clear n0_ n1_ n2_; (try clear hb); (try clear hb2); (try clear hk); (try clear hi); (try clear ho0); have hcz8_0 : w7.cell? ⟨gb266, 0, none⟩ = some (.int .i64 a1_0) := (qI BK266.out 0).trans rfl; have hcz8_1 : w7.cell? ⟨gb266, 1, none⟩ = some (.int .i64 a1_1) := (qI BK266.out 1).trans rfl; have hcz8_2 : w7.cell? ⟨gb266, 2, none⟩ = some (.int .i64 a1_2) := (qI BK266.out 2).trans rfl; have hfz8_0 := qH BK266.out 0; have hfz8_1 := qH BK266.out 1; have hfz8_2 := qH BK266.out 2; obtain ⟨Ao9, co9, eo9⟩ := Kd.qRA HO270.out; subst eo9) | (go_at_call 56; (with_reducible refine (qW.calls k _ _ t267 a1_0 a1_1 a1_2 t271 _ ?side1 ?side2 A5.out).mono ?_); (case side1 => repeat (first | exact (Kd.qh HO270.out).2.2 | (with_reducible refine Kd.qOA ?_ _) | (with_reducible refine Kd.qNA ?_ _) | (with_reducible refine Kd.qXA ?_))); (case side2 => exact (Kd.qh HO270.out).2.1); rintro e w10 ⟨rfl, hb⟩; have n0_ := Aside0.mk (Kd.qi (by (with_reducible repeat (first | apply Kd.qT | apply Kd.qS | apply Kd.qZ)); exact HO270.out) hb); have n1_ := Aside0.mk (qK (g := gb266) (o := .cells #[.int .i64 a1_0, .int .i64 a1_1, .int .i64 a1_2] 27 (0, 0)) (by (with_reducible repeat (first | refine qC ?_ _ | refine qD ?_ | refine qB ?_ _)); exact BK266.out) hb); have n2_ := Aside0.mk (qL (by repeat (first | (with_reducible first | exact HB.out | apply qF | apply qA | apply qE | refine qG ?_ GE266.out) | exact HB.out)) hb); clear HO270; clear BK266; clear HB; have HO270 := n0_; have BK266 := n1_; have HB := n2_; clear n0_ n1_ n2_; (try clear hb); (try clear hb2); (try clear hk); (try clear hi)))
  go_ret2
  exact ⟨_, by first | rfl | (simp [qN, qM] <;> rfl) | (simp [*, qN, qM] <;> rfl), by (with_reducible repeat (first | apply Kd.qT | apply Kd.qS | apply Kd.qZ)); exact HO270.out, by repeat (first | (with_reducible first | exact HB.out | apply qF | apply qA | apply qE | refine qG ?_ GE266.out) | exact HB.out)⟩
 ·replace c4 := Bool.eq_false_iff.mpr c4
  subst c4
  have H1 : (some (t267, false)) = some (r1, r2) := by rw [if_neg (show ¬ (false = true) by decide)] at H; exact H
  clear H
  have H := H1
  clear H1
  simp only [Option.some.injEq, Prod.mk.injEq] at H
  obtain ⟨rfl, rfl⟩ := H
  go_enter Tryd.func58, Tryd.ntmps58
  go_wp2_with (first | ((with_reducible refine qc (N := 3) rfl ?_); refine qY ?hg (N := 3) ?hd (cs := #[.int .i64 a1_0, .int .i64 a1_1, .int .i64 a1_2]) (t := 27) ?hr ?_; (case hd => rfl); (case hg => rfl); (case hr => first | (go_simp; done) | (go_simp; rfl)); intro gb266 hg w11 hbox hb; have n0_ := Aside0.mk (qL (by repeat (first | (with_reducible first | exact HB.out | apply qF | apply qA | apply qE) | exact HB.out)) hb); have n1_ := Aside0.mk (hbox); have n2_ := Aside0.mk ((by rw [hg]; exact (qJ (by repeat (first | (with_reducible first | exact HB.out | apply qF | apply qA | apply qE) | exact HB.out))) : w.heap.size ≤ gb266)); have n3_ := Aside0.mk ((by rw [hg]; exact (qJ (by repeat (first | (with_reducible first | exact HB.out | apply qF | apply qA | apply qE) | exact HB.out))) : w.heap.size ≤ gb266)); clear HB; have HB := n0_; have BK266 := n1_; have GW266 := n2_; have GE266 := n3_; clear n0_ n1_ n2_ n3_; clear hb hbox hg) | ((with_reducible refine qX (f := 54) rfl ?_); refine qo (some 10) rfl rfl Tryd.func54 (by kernel_rfl) rfl #[.string a0] rfl (by (try simp only [List.map_toArray, List.map_cons, List.map_nil]); first | done | rfl | (simp only [List.length_drop, List.length_take]; rfl)) ?_; (with_reducible refine (qeA.calls k a0 t267 false _ ?side1 A3.out).mono ?_); (case side1 => first | exact HLD.out | exact Laid.below HLD.out (by repeat (first | (with_reducible first | exact HB.out | apply qF | apply qA | apply qE) | exact HB.out))); rintro e w12 ⟨v269, rfl, ho0, hb⟩; refine ⟨_, rfl, ?_⟩; have n0_ := Aside0.mk (Kd.qMA ho0 (qJ (by repeat (first | (with_reducible first | exact HB.out | apply qF | apply qA | apply qE | refine qG ?_ GE266.out) | exact HB.out)))); have n1_ := Aside0.mk (qK (g := gb266) (o := .cells #[.int .i64 a1_0, .int .i64 a1_1, .int .i64 a1_2] 27 (0, 0)) (by (with_reducible repeat (first | refine qC ?_ _ | refine qD ?_ | refine qB ?_ _)); exact BK266.out) hb); have n2_ := Aside0.mk (qL (by repeat (first | (with_reducible first | exact HB.out | apply qF | apply qA | apply qE | refine qG ?_ GE266.out) | exact HB.out)) hb); clear BK266; clear HB; have HO270 := n0_; have BK266 := n1_; have HB := n2_; clear n0_ n1_ n2_; (try clear hb); (try clear hb2); (try clear hk); (try clear hi); (try clear ho0)))
  go_ret2
  exact ⟨_, by first | rfl | (simp [qN, qM] <;> rfl) | (simp [*, qN, qM] <;> rfl), by (with_reducible repeat (first | apply Kd.qT | apply Kd.qS | apply Kd.qZ)); exact HO270.out, by repeat (first | (with_reducible first | exact HB.out | apply qF | apply qA | apply qE | refine qG ?_ GE266.out) | exact HB.out)⟩
end Go.Proofs.YtbpfhpjbeomfcaaDoor.P
namespace Go.Proofs.YtbpfhpjbeomfcaaDoor.P
open Go.RowKit Go.Proofs.YtbpfhpjbeomfcaaDoorW.PrintWords Go.Proofs.YtbpfhpjbeomfcaaDoorW.PrintLast Go.Proofs.YtbpfhpjbeomfcaaDoorW.PrintMore
attribute [local go_sem] qx qv qGA qFA qm ql qw qu   -- for this text's walks alone
set_option linter.unusedVariables false
set_option linter.unusedSimpArgs false
def qoA.f (a0 : Int) (a1 : Int) (a2 : Int) : Option (Int × Int) := if a2 = 110 then (some (a0, wrap64 (a1 - 1))) else (if a2 = 101 then (some (wrap64 (a0 + 1), a1)) else (if a2 = 115 then (some (a0, wrap64 (a1 + 1))) else (some (wrap64 (a0 - 1), a1))))
set_option maxHeartbeats 8000000 in
set_option maxRecDepth 100000 in
theorem qoA.calls (a0 : Int) (a1 : Int) (a2 : Int) (r1 : Int) (r2 : Int) (w : World) (h : qoA.f a0 a1 a2 = some (r1, r2)) :
  Calls Tryd.prog 109 #[.int .i64 a0, .int .i64 a1, .int .u8 a2] w fun e w' => e = .returned (.tuple #[.int .i64 r1, .int .i64 r2]) ∧ Drawn0 w w' := by
 have H : (if a2 = 110 then (some (a0, wrap64 (a1 - 1))) else (if a2 = 101 then (some (wrap64 (a0 + 1), a1)) else (if a2 = 115 then (some (a0, wrap64 (a1 + 1))) else (some (wrap64 (a0 - 1), a1))))) = some (r1, r2) := h
 clear h
 by_cases c4 : a2 = 110
 ·rw [if_pos c4] at H
  have c4b0 : (a2 == 110) = true := beq_iff_eq.mpr c4
  have c4b1 : (a2 != 110) = false := bne_eq_false_iff_eq.mpr c4
  clear c4
  simp only [Option.some.injEq, Prod.mk.injEq] at H
  obtain ⟨rfl, rfl⟩ := H
  go_enter Tryd.func109, Tryd.ntmps109
  go_wp2
  go_ret2
  exact ⟨by first | rfl | (simp; done) | (simp [*]; done), by repeat (first | exact Drawn0.refl _ | apply Drawn0.step)⟩
 ·rw [if_neg c4] at H
  have c4b0 : (a2 == 110) = false := beq_eq_false_iff_ne.mpr c4
  have c4b1 : (a2 != 110) = true := bne_iff_ne.mpr c4
  by_cases c5 : a2 = 101
  ·rw [if_pos c5] at H
   have c5b0 : (a2 == 101) = true := beq_iff_eq.mpr c5
   have c5b1 : (a2 != 101) = false := bne_eq_false_iff_eq.mpr c5
   clear c5
   simp only [Option.some.injEq, Prod.mk.injEq] at H
   obtain ⟨rfl, rfl⟩ := H
   go_enter Tryd.func109, Tryd.ntmps109
   go_wp2
   go_ret2
   exact ⟨by first | rfl | (simp; done) | (simp [*]; done), by repeat (first | exact Drawn0.refl _ | apply Drawn0.step)⟩
  ·rw [if_neg c5] at H
   have c5b0 : (a2 == 101) = false := beq_eq_false_iff_ne.mpr c5
   have c5b1 : (a2 != 101) = true := bne_iff_ne.mpr c5
   by_cases c6 : a2 = 115
   ·rw [if_pos c6] at H
    have c6b0 : (a2 == 115) = true := beq_iff_eq.mpr c6
    have c6b1 : (a2 != 115) = false := bne_eq_false_iff_eq.mpr c6
    clear c6
    simp only [Option.some.injEq, Prod.mk.injEq] at H
    obtain ⟨rfl, rfl⟩ := H
    go_enter Tryd.func109, Tryd.ntmps109
    go_wp2
    go_ret2
    exact ⟨by first | rfl | (simp; done) | (simp [*]; done), by repeat (first | exact Drawn0.refl _ | apply Drawn0.step)⟩
   ·rw [if_neg c6] at H
    have c6b0 : (a2 == 115) = false := beq_eq_false_iff_ne.mpr c6
    have c6b1 : (a2 != 115) = true := bne_iff_ne.mpr c6
    simp only [Option.some.injEq, Prod.mk.injEq] at H
    obtain ⟨rfl, rfl⟩ := H
    go_enter Tryd.func109, Tryd.ntmps109
    go_wp2
    go_ret2
    exact ⟨by first | rfl | (simp; done) | (simp [*]; done), by repeat (first | exact Drawn0.refl _ | apply Drawn0.step)⟩
end Go.Proofs.YtbpfhpjbeomfcaaDoor.P
