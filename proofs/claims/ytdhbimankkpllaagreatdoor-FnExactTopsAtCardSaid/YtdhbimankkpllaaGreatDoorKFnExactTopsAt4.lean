/- The program's TopsAt and the reference's: the same, at all texts, states and cells. -/
import Derived.Test.YtdhbimankkpllaaGreatDoorKFnExactTopsAt3
import Derived.Shelf.SlSortCmp.NoneTotal
import Derived.KernelRfl
import Derived.Shelf.SlGeneric
import Derived.Ground.SlsfProg
import Derived.Test.YtdhbimankkpllaaGreatDoorProg
import Derived.Lib.SlicesCompact
import Derived.WalkKit
import Derived.Deep.MidRow
import Derived.Sort.Row
import Derived.Shelf.Slices.CompactI
import Derived.Ground.Names2Prog
import Derived.ChangeArms
import Derived.ChangeSame
import Derived.Deep.Slices
import Derived.ProofKit
import Derived.OpenShut
import Derived.SizedLaws

namespace Go.Proofs.YtdhbimankkpllaaGreatDoor
open Go.RowKit Go.Proofs.YtdhbimankkpllaaGreatDoor.P Go.Proofs.YtdhbimankkpllaaGreatDoorW.PrintWords Go.Proofs.YtdhbimankkpllaaGreatDoorW.PrintLast Go.Proofs.YtdhbimankkpllaaGreatDoorW.PrintMore
set_option linter.unusedVariables false
set_option linter.unusedSimpArgs false
def askC (a : ByteArray) (s : XS) (x y : Int) : Bool := askS a s && hasB a x y
set_option maxHeartbeats 4000000 in
set_option maxRecDepth 100000 in
theorem reachCell_calls (a : ByteArray) (ha : a.size ≤ 1048576) (s : XS) (x y : Int) (w : World) (hL : Laid w) :
  Calls Tryz.prog 22 #[.string a, .agg #[.int .i64 s.f0, .int .i64 s.f1, .int .i64 s.f2.f0, .int .i64 s.f2.f1, .int .i64 s.f2.f2, .int .i64 s.f2.f3, .int .i64 s.f2.f4, .int .i64 s.f2.f5], .int .i64 x, .int .i64 y] w fun e w' =>
   ∃ v : Value, e = .returned (.tuple #[v, .bool (askC a s x y)]) ∧ (askC a s x y = true → ReachAt w' v (reachW a s)) ∧ Below w.heap.size w w' := by
 have hu_ := Tryz.underlying31
 obtain ⟨rows, ⟨kt, hkt⟩, hrows⟩ := board_ev a ha
 have HT := aM (hkt kt (Nat.le_refl _))
 have HL := aM hL
 have HA := aM ha
 have B := aM (Below.refl w.heap.size w)
 clear hkt hL ha
 unfold askC
 cases hA : askS a s with
 | false =>
  rw [Bool.false_and]
  have HAS := aM hA
  clear hrows hA
  go_enter Tryz.func22, Tryz.ntmps22
  go_wp2_with (first
   | ((with_reducible refine qN (N := 5) rfl ?_); go_loud (refine bE (N := 5) (cs := #[.int .i64 s.f0, .int .i64 s.f1, .int .i64 s.f2.f0, .int .i64 s.f2.f1, .int .i64 s.f2.f2, .int .i64 s.f2.f3, .int .i64 s.f2.f4, .int .i64 s.f2.f5]) (t := 31) ?_; intro gs hgs w1 hbox hb; replace B := aM (ql B.out B.out.size hb); have hz0_ : w1.cell? ⟨gs, 0, none⟩ = some (.int .i64 s.f0) := (qD hbox 0).trans rfl; have hz1_ : w1.cell? ⟨gs, 1, none⟩ = some (.int .i64 s.f1) := (qD hbox 1).trans rfl; have hz2_ : w1.cell? ⟨gs, 2, none⟩ = some (.int .i64 s.f2.f0) := (qD hbox 2).trans rfl; have hz3_ : w1.cell? ⟨gs, 3, none⟩ = some (.int .i64 s.f2.f1) := (qD hbox 3).trans rfl; have hz4_ : w1.cell? ⟨gs, 4, none⟩ = some (.int .i64 s.f2.f2) := (qD hbox 4).trans rfl; have hz5_ : w1.cell? ⟨gs, 5, none⟩ = some (.int .i64 s.f2.f3) := (qD hbox 5).trans rfl; have hz6_ : w1.cell? ⟨gs, 6, none⟩ = some (.int .i64 s.f2.f4) := (qD hbox 6).trans rfl; have hz7_ : w1.cell? ⟨gs, 7, none⟩ = some (.int .i64 s.f2.f5) := (qD hbox 7).trans rfl; clear hbox hb hgs))
   | (go_at_call 30; go_loud (refine (qqB a HA.out s _ (Laid.below HL.out B.out)).mono ?_; rintro e w2 ⟨v, rfl, hv, hb⟩; rw [HAS.out]; replace B := aM (ql B.out B.out.size hb); clear hv hb hz0_ hz1_ hz2_ hz3_ hz4_ hz5_ hz6_ hz7_))
   | (go_at_call 31; go_loud (refine (qsA.calls kt a rows (boardB a) _ (Laid.below HL.out B.out) HT.out).mono ?_; rintro e w3 ⟨v0_, rfl, hR, hb⟩; replace B := aM (ql B.out B.out.size hb); clear hR hb)))
  go_ret2
  refine ⟨_, rfl, ?_, B.out⟩
  intro h
  cases h
 | true =>
  rw [Bool.true_and]
  have HAS := aM hA
  unfold askS at hA
  rw [Bool.and_eq_true] at hA
  obtain rfl := hrows hA.1
  rw [hA.1] at HT
  have HGD := aM (qwC hA.1)
  clear hrows hA
  cases hB : hasB a x y with
  | false =>
   have HB := aM ((qbD HGD.out x y).trans (by rw [hB]))
   clear hB
   go_enter Tryz.func22, Tryz.ntmps22
   go_wp2_with (first
    | ((with_reducible refine qN (N := 5) rfl ?_); go_loud (refine bE (N := 5) (cs := #[.int .i64 s.f0, .int .i64 s.f1, .int .i64 s.f2.f0, .int .i64 s.f2.f1, .int .i64 s.f2.f2, .int .i64 s.f2.f3, .int .i64 s.f2.f4, .int .i64 s.f2.f5]) (t := 31) ?_; intro gs hgs w1 hbox hb; replace B := aM (ql B.out B.out.size hb); have hz0_ : w1.cell? ⟨gs, 0, none⟩ = some (.int .i64 s.f0) := (qD hbox 0).trans rfl; have hz1_ : w1.cell? ⟨gs, 1, none⟩ = some (.int .i64 s.f1) := (qD hbox 1).trans rfl; have hz2_ : w1.cell? ⟨gs, 2, none⟩ = some (.int .i64 s.f2.f0) := (qD hbox 2).trans rfl; have hz3_ : w1.cell? ⟨gs, 3, none⟩ = some (.int .i64 s.f2.f1) := (qD hbox 3).trans rfl; have hz4_ : w1.cell? ⟨gs, 4, none⟩ = some (.int .i64 s.f2.f2) := (qD hbox 4).trans rfl; have hz5_ : w1.cell? ⟨gs, 5, none⟩ = some (.int .i64 s.f2.f3) := (qD hbox 5).trans rfl; have hz6_ : w1.cell? ⟨gs, 6, none⟩ = some (.int .i64 s.f2.f4) := (qD hbox 6).trans rfl; have hz7_ : w1.cell? ⟨gs, 7, none⟩ = some (.int .i64 s.f2.f5) := (qD hbox 7).trans rfl; clear hbox hb hgs))
    | (go_at_call 30; go_loud (refine (qqB a HA.out s _ (Laid.below HL.out B.out)).mono ?_; rintro e w2 ⟨v, rfl, hv, hb⟩; rw [HAS.out]; replace B := aM (ql B.out B.out.size hb); clear hv hb hz0_ hz1_ hz2_ hz3_ hz4_ hz5_ hz6_ hz7_))
    | (go_at_call 31; go_loud (refine (qsA.calls kt a (rowsT a) true _ (Laid.below HL.out B.out) HT.out).mono ?_; rintro e w3 ⟨v0_, rfl, hR, hb⟩; obtain ⟨Ag, cg, rfl, hcg, hCg⟩ := Kd.qdC hR; have HC := aM hCg; have HCG := aM hcg; replace B := aM (ql B.out B.out.size hb); clear hR hb hcg hCg))
    | (go_at_call 32; go_loud (refine (qbA.calls Ag cg (rowsT a) x y false _ HC.out HCG.out HB.out).mono ?_; rintro e w4 ⟨rfl, hd⟩; have hb := hd.below; replace B := aM (ql B.out B.out.size hb); clear hb hd)))
   go_ret2
   refine ⟨_, rfl, ?_, B.out⟩
   intro h
   cases h
  | true =>
   have HB := aM ((qbD HGD.out x y).trans (by rw [hB]))
   clear hB
   go_enter Tryz.func22, Tryz.ntmps22
   go_wp2_with (first
    | ((with_reducible refine qN (N := 5) rfl ?_); go_loud (refine bE (N := 5) (cs := #[.int .i64 s.f0, .int .i64 s.f1, .int .i64 s.f2.f0, .int .i64 s.f2.f1, .int .i64 s.f2.f2, .int .i64 s.f2.f3, .int .i64 s.f2.f4, .int .i64 s.f2.f5]) (t := 31) ?_; intro gs hgs w1 hbox hb; replace B := aM (ql B.out B.out.size hb); have hz0_ : w1.cell? ⟨gs, 0, none⟩ = some (.int .i64 s.f0) := (qD hbox 0).trans rfl; have hz1_ : w1.cell? ⟨gs, 1, none⟩ = some (.int .i64 s.f1) := (qD hbox 1).trans rfl; have hz2_ : w1.cell? ⟨gs, 2, none⟩ = some (.int .i64 s.f2.f0) := (qD hbox 2).trans rfl; have hz3_ : w1.cell? ⟨gs, 3, none⟩ = some (.int .i64 s.f2.f1) := (qD hbox 3).trans rfl; have hz4_ : w1.cell? ⟨gs, 4, none⟩ = some (.int .i64 s.f2.f2) := (qD hbox 4).trans rfl; have hz5_ : w1.cell? ⟨gs, 5, none⟩ = some (.int .i64 s.f2.f3) := (qD hbox 5).trans rfl; have hz6_ : w1.cell? ⟨gs, 6, none⟩ = some (.int .i64 s.f2.f4) := (qD hbox 6).trans rfl; have hz7_ : w1.cell? ⟨gs, 7, none⟩ = some (.int .i64 s.f2.f5) := (qD hbox 7).trans rfl; clear hbox hb hgs))
    | (go_at_call 30; go_loud (refine (qqB a HA.out s _ (Laid.below HL.out B.out)).mono ?_; rintro e w2 ⟨v, rfl, hv, hb⟩; have HV := aM (hv HAS.out); rw [HAS.out]; replace B := aM (ql B.out B.out.size hb); clear hv hb hz0_ hz1_ hz2_ hz3_ hz4_ hz5_ hz6_ hz7_))
    | (go_at_call 31; go_loud (refine (qsA.calls kt a (rowsT a) true _ (Laid.below HL.out B.out) HT.out).mono ?_; rintro e w3 ⟨v0_, rfl, hR, hb⟩; obtain ⟨Ag, cg, rfl, hcg, hCg⟩ := Kd.qdC hR; have HC := aM hCg; have HCG := aM hcg; have n1_ := aM (HV.out.below hb); have n0_ := aM (ql B.out B.out.size hb); clear B HV; have B := n0_; have HV := n1_; clear n0_ n1_ hR hb hcg hCg))
    | (go_at_call 32; go_loud (refine (qbA.calls Ag cg (rowsT a) x y true _ HC.out HCG.out HB.out).mono ?_; rintro e w4 ⟨rfl, hd⟩; have hb := hd.below; have n1_ := aM (HV.out.below hb); have n0_ := aM (ql B.out B.out.size hb); clear B HV; have B := n0_; have HV := n1_; clear n0_ n1_ hb hd)))
   go_ret2
   refine ⟨_, rfl, ?_, B.out⟩
   intro _
   exact HV.out
end Go.Proofs.YtdhbimankkpllaaGreatDoor
namespace Go.Proofs.YtdhbimankkpllaaGreatDoor.P
open Go.RowKit Go.Proofs.YtdhbimankkpllaaGreatDoorW.PrintWords Go.Proofs.YtdhbimankkpllaaGreatDoorW.PrintLast Go.Proofs.YtdhbimankkpllaaGreatDoorW.PrintMore
attribute [local go_sem] qq qo qBA qAA qe qd qp qn
set_option linter.unusedVariables false
set_option linter.unusedSimpArgs false
def qy.f (a0 : Int) : Option (Bool) := some (a0 != a0)
set_option maxHeartbeats 8000000 in
set_option maxRecDepth 100000 in
theorem qy.calls (a0 : Int) (r : Bool) (w : World) (h : qy.f a0 = some r) :
  Calls Tryz.prog 88 #[.int .i64 a0] w fun e w' => e = .returned (.bool r) ∧ Drawn0 w w' := by
 have H : (some (a0 != a0)) = some r := h
 clear h
 obtain rfl := Option.some.inj H
 go_enter Tryz.func88, Tryz.ntmps88
 go_wp2
 go_ret
 exact ⟨by first | rfl | (simp; done) | (simp [*]; done), dR⟩
def qnA.f (a0 : Int) (a1 : Int) : Option (Int) := (qy.f a0).bind fun t399 => ((qy.f a1).bind fun t400 => (if t399 = true then (if t400 = true then (some 0) else (some (-1))) else (if t400 = true then (some 1) else (if a0 < a1 then (some (-1)) else (if a0 > a1 then (some 1) else (some 0))))))
set_option maxHeartbeats 8000000 in
set_option maxRecDepth 100000 in
theorem qnA.calls (a0 : Int) (a1 : Int) (r : Int) (w : World) (h : qnA.f a0 a1 = some r) :
  Calls Tryz.prog 72 #[.int .i64 a0, .int .i64 a1] w fun e w' => e = .returned (.int .i64 r) ∧ Drawn0 w w' := by
 have H : ((qy.f a0).bind fun t399 => ((qy.f a1).bind fun t400 => (if t399 = true then (if t400 = true then (some 0) else (some (-1))) else (if t400 = true then (some 1) else (if a0 < a1 then (some (-1)) else (if a0 > a1 then (some 1) else (some 0))))))) = some r := h
 clear h
 replace H := bO H
 obtain ⟨t399, A3, H⟩ := H
 replace H := bO H
 obtain ⟨t400, A4, H⟩ := H
 by_cases c5 : t399 = true
 ·subst c5
  replace H := iT H
  by_cases c6 : t400 = true
  ·subst c6
   replace H := iT H
   obtain rfl := Option.some.inj H
   go_enter Tryz.func72, Tryz.ntmps72
   go_wp2_with (first | ((with_reducible refine qF (f := 88) rfl ?_); refine qh (some 8) rfl rfl Tryz.func88 (by kernel_rfl) rfl #[.int .i64 a0] rfl gA ?_; (with_reducible refine (qy.calls a0 true _ A3.out).mono ?_); rintro e w' ⟨rfl, ⟨nd, rfl⟩⟩; refine ⟨_, rfl, ?_⟩) | ((with_reducible refine qF (f := 88) rfl ?_); refine qh (some 10) rfl rfl Tryz.func88 (by kernel_rfl) rfl #[.int .i64 a1] rfl gA ?_; (with_reducible refine (qy.calls a1 true _ A4.out).mono ?_); rintro e w' ⟨rfl, ⟨nd, rfl⟩⟩; refine ⟨_, rfl, ?_⟩))
   go_ret
   exact ⟨by first | rfl | (simp; done) | (simp [*]; done), dR⟩
  ·replace c6 := Bool.eq_false_iff.mpr c6
   subst c6
   replace H := iF H
   obtain rfl := Option.some.inj H
   go_enter Tryz.func72, Tryz.ntmps72
   go_wp2_with (first | ((with_reducible refine qF (f := 88) rfl ?_); refine qh (some 8) rfl rfl Tryz.func88 (by kernel_rfl) rfl #[.int .i64 a0] rfl gA ?_; (with_reducible refine (qy.calls a0 true _ A3.out).mono ?_); rintro e w' ⟨rfl, ⟨nd, rfl⟩⟩; refine ⟨_, rfl, ?_⟩) | ((with_reducible refine qF (f := 88) rfl ?_); refine qh (some 10) rfl rfl Tryz.func88 (by kernel_rfl) rfl #[.int .i64 a1] rfl gA ?_; (with_reducible refine (qy.calls a1 false _ A4.out).mono ?_); rintro e w' ⟨rfl, ⟨nd, rfl⟩⟩; refine ⟨_, rfl, ?_⟩))
   go_ret
   exact ⟨by first | rfl | (simp; done) | (simp [*]; done), dR⟩
 ·replace c5 := Bool.eq_false_iff.mpr c5
  subst c5
  replace H := iF H
  by_cases c7 : t400 = true
  ·subst c7
   replace H := iT H
   obtain rfl := Option.some.inj H
   go_enter Tryz.func72, Tryz.ntmps72
   go_wp2_with (first | ((with_reducible refine qF (f := 88) rfl ?_); refine qh (some 8) rfl rfl Tryz.func88 (by kernel_rfl) rfl #[.int .i64 a0] rfl gA ?_; (with_reducible refine (qy.calls a0 false _ A3.out).mono ?_); rintro e w' ⟨rfl, ⟨nd, rfl⟩⟩; refine ⟨_, rfl, ?_⟩) | ((with_reducible refine qF (f := 88) rfl ?_); refine qh (some 10) rfl rfl Tryz.func88 (by kernel_rfl) rfl #[.int .i64 a1] rfl gA ?_; (with_reducible refine (qy.calls a1 true _ A4.out).mono ?_); rintro e w' ⟨rfl, ⟨nd, rfl⟩⟩; refine ⟨_, rfl, ?_⟩))
   go_ret
   exact ⟨by first | rfl | (simp; done) | (simp [*]; done), dR⟩
  ·replace c7 := Bool.eq_false_iff.mpr c7
   subst c7
   replace H := iF H
   by_cases c8 : a0 < a1
   ·rw [if_pos c8] at H
    have c8b0 := decide_eq_true c8
    clear c8
    obtain rfl := Option.some.inj H
    go_enter Tryz.func72, Tryz.ntmps72
    go_wp2_with (first | ((with_reducible refine qF (f := 88) rfl ?_); refine qh (some 8) rfl rfl Tryz.func88 (by kernel_rfl) rfl #[.int .i64 a0] rfl gA ?_; (with_reducible refine (qy.calls a0 false _ A3.out).mono ?_); rintro e w' ⟨rfl, ⟨nd, rfl⟩⟩; refine ⟨_, rfl, ?_⟩) | ((with_reducible refine qF (f := 88) rfl ?_); refine qh (some 10) rfl rfl Tryz.func88 (by kernel_rfl) rfl #[.int .i64 a1] rfl gA ?_; (with_reducible refine (qy.calls a1 false _ A4.out).mono ?_); rintro e w' ⟨rfl, ⟨nd, rfl⟩⟩; refine ⟨_, rfl, ?_⟩))
    go_ret
    exact ⟨by first | rfl | (simp; done) | (simp [*]; done), dR⟩
   ·rw [if_neg c8] at H
    have c8b0 := decide_eq_false c8
    clear c8
    by_cases c9 : a0 > a1
    ·rw [if_pos c9] at H
     have c9b0 := decide_eq_true c9
     clear c9
     obtain rfl := Option.some.inj H
     go_enter Tryz.func72, Tryz.ntmps72
     go_wp2_with (first | ((with_reducible refine qF (f := 88) rfl ?_); refine qh (some 8) rfl rfl Tryz.func88 (by kernel_rfl) rfl #[.int .i64 a0] rfl gA ?_; (with_reducible refine (qy.calls a0 false _ A3.out).mono ?_); rintro e w' ⟨rfl, ⟨nd, rfl⟩⟩; refine ⟨_, rfl, ?_⟩) | ((with_reducible refine qF (f := 88) rfl ?_); refine qh (some 10) rfl rfl Tryz.func88 (by kernel_rfl) rfl #[.int .i64 a1] rfl gA ?_; (with_reducible refine (qy.calls a1 false _ A4.out).mono ?_); rintro e w' ⟨rfl, ⟨nd, rfl⟩⟩; refine ⟨_, rfl, ?_⟩))
     go_ret
     exact ⟨by first | rfl | (simp; done) | (simp [*]; done), dR⟩
    ·rw [if_neg c9] at H
     have c9b0 := decide_eq_false c9
     clear c9
     obtain rfl := Option.some.inj H
     go_enter Tryz.func72, Tryz.ntmps72
     go_wp2_with (first | ((with_reducible refine qF (f := 88) rfl ?_); refine qh (some 8) rfl rfl Tryz.func88 (by kernel_rfl) rfl #[.int .i64 a0] rfl gA ?_; (with_reducible refine (qy.calls a0 false _ A3.out).mono ?_); rintro e w' ⟨rfl, ⟨nd, rfl⟩⟩; refine ⟨_, rfl, ?_⟩) | ((with_reducible refine qF (f := 88) rfl ?_); refine qh (some 10) rfl rfl Tryz.func88 (by kernel_rfl) rfl #[.int .i64 a1] rfl gA ?_; (with_reducible refine (qy.calls a1 false _ A4.out).mono ?_); rintro e w' ⟨rfl, ⟨nd, rfl⟩⟩; refine ⟨_, rfl, ?_⟩))
     go_ret
     exact ⟨by first | rfl | (simp; done) | (simp [*]; done), dR⟩
def qX.l0 : Nat → List Int → List Int → List Int → Int → Int → Option (Int)
 | 0, _, _, _, _, _ => none
 | k + 1, x0, x1, x9, x10, x11 => if x11 < x10 then (if 0 ≤ x11 then (if x11 < (x9.length : Int) then (if x11 ≥ (x1.length : Int) then (some 1) else (if x11 < (x1.length : Int) then ((qnA.f (rd x9 x11) (rd x1 x11)).bind fun t403 => (if t403 = 0 then (qX.l0 k x0 x1 x9 x10 (wrap64 (x11 + 1))) else (some t403))) else (none))) else (none)) else (none)) else (if (x0.length : Int) < (x1.length : Int) then (some (-1)) else (some 0))
def qX.f (k : Nat) (l0 : List Int) (l1 : List Int) : Option (Int) := qX.l0 k l0 l1 l0 (l0.length : Int) 0
set_option maxHeartbeats 8000000 in
set_option maxRecDepth 100000 in
theorem qX.calls (k : Nat) (A0 : Option Addr) (c0 : Nat) (l0 : List Int) (A1 : Option Addr) (c1 : Nat) (l1 : List Int) (r : Int) (w : World) (hr0 : Kd.C (Kd.int .i64) w A0 l0.length l0) (hc0 : l0.length ≤ c0) (hr1 : Kd.C (Kd.int .i64) w A1 l1.length l1) (hc1 : l1.length ≤ c1) (h : qX.f k l0 l1 = some r) :
  Calls Tryz.prog 50 #[.slice A0 l0.length c0, .slice A1 l1.length c1] w fun e w' => e = .returned (.int .i64 r) ∧ Drawn0 w w' := by
 have HR0 := aM hr0
 have HC0 := aM hc0
 clear hr0 hc0
 have HR1 := aM hr1
 have HC1 := aM hc1
 clear hr1 hc1
 have H : (qX.l0 k l0 l1 l0 (l0.length : Int) 0) = some r := h
 clear h
 have H' := aM H
 clear H
 go_enter Tryz.func50, Tryz.ntmps50
 go_wp2
 go_loopg [11] k (fun kq v11 w' => ∃ (x11_1 : Int), v11 = .int .i64 x11_1 ∧ Aside0 (qX.l0 kq l0 l1 l0 (l0.length : Int) x11_1 = some r) ∧ Aside0 (kq ≤ k) ∧ Drawn0 w w')
 case atStart => exact ⟨(0), sD, H', ⟨Nat.le_refl _⟩, dR⟩
 case round =>
  clear H'; (try clear c1); (try clear p2)
  obtain ⟨x11_1, rfl, HA, HK1, ⟨m1, rfl⟩⟩ := hrel
  cases gk with
  | zero => exact absurd HA.out (by simp [qX.l0])
  | succ k1 =>
   have H := HA.out
   clear HA
   simp only [qX.l0] at H
   by_cases c3 : x11_1 < (l0.length : Int)
   ·rw [if_pos c3] at H
    have c3b0 := decide_eq_true c3
    clear c3
    by_cases c4 : 0 ≤ x11_1
    case neg => exact nN c4 H
    rw [if_pos c4] at H
    have c4b0 := decide_eq_true c4
    clear c4
    by_cases c5 : x11_1 < (l0.length : Int)
    case neg => exact nN c5 H
    rw [if_pos c5] at H
    have c5b0 := decide_eq_true c5
    clear c5
    by_cases c6 : x11_1 ≥ (l1.length : Int)
    ·rw [if_pos c6] at H
     have c6b0 := decide_eq_true c6
     clear c6
     obtain rfl := Option.some.inj H
     have p401 : 0 ≤ (x11_1 : Int) := of_decide_eq_true am
     have q401 : x11_1 < (l0.length : Int) := of_decide_eq_true am
     obtain ⟨ad401, e401, hx401_0⟩ := Kd.qjA HR0.out x11_1 p401 q401
     cases e401
     replace p401 := eq_true p401
     replace q401 := eq_true q401
     go_wp2
     go_ret
     exact ⟨by first | rfl | (simp; done) | (simp [*]; done), dR⟩
    ·rw [if_neg c6] at H
     have c6b0 := decide_eq_false c6
     clear c6
     by_cases c7 : x11_1 < (l1.length : Int)
     case neg => exact nN c7 H
     rw [if_pos c7] at H
     have c7b0 := decide_eq_true c7
     clear c7
     replace H := bO H
     obtain ⟨t403, A8, H⟩ := H
     by_cases c9 : t403 = 0
     ·rw [if_pos c9] at H
      have c9b0 := beq_iff_eq.mpr c9
      have c9b1 := bne_eq_false_iff_eq.mpr c9
      clear c9
      have H' := aM H
      clear H
      have p401 : 0 ≤ (x11_1 : Int) := of_decide_eq_true am
      have q401 : x11_1 < (l0.length : Int) := of_decide_eq_true am
      obtain ⟨ad401, e401, hx401_0⟩ := Kd.qjA HR0.out x11_1 p401 q401
      cases e401
      replace p401 := eq_true p401
      replace q401 := eq_true q401
      have p402 : 0 ≤ (x11_1 : Int) := of_decide_eq_true am
      have q402 : x11_1 < (l1.length : Int) := of_decide_eq_true am
      obtain ⟨ad402, e402, hx402_0⟩ := Kd.qjA HR1.out x11_1 p402 q402
      cases e402
      replace p402 := eq_true p402
      replace q402 := eq_true q402
      go_wp2_with (first | ((with_reducible refine qF (f := 72) rfl ?_); refine qh (some 26) rfl rfl Tryz.func72 (by kernel_rfl) rfl #[.int .i64 (rd l0 x11_1), .int .i64 (rd l1 x11_1)] rfl gA ?_; (with_reducible refine (qnA.calls (rd l0 x11_1) (rd l1 x11_1) t403 _ A8.out).mono ?_); rintro e w' ⟨rfl, ⟨nd, rfl⟩⟩; refine ⟨_, rfl, ?_⟩))
      go_roundg k1
      case measure => have := HK1.out; omega
      case rel => exact ⟨(wrap64 (x11_1 + 1)), sD, H', ⟨by have := HK1.out; omega⟩, dR⟩
     ·rw [if_neg c9] at H
      have c9b0 := beq_eq_false_iff_ne.mpr c9
      have c9b1 := bne_iff_ne.mpr c9
      obtain rfl := Option.some.inj H
      have p401 : 0 ≤ (x11_1 : Int) := of_decide_eq_true am
      have q401 : x11_1 < (l0.length : Int) := of_decide_eq_true am
      obtain ⟨ad401, e401, hx401_0⟩ := Kd.qjA HR0.out x11_1 p401 q401
      cases e401
      replace p401 := eq_true p401
      replace q401 := eq_true q401
      have p402 : 0 ≤ (x11_1 : Int) := of_decide_eq_true am
      have q402 : x11_1 < (l1.length : Int) := of_decide_eq_true am
      obtain ⟨ad402, e402, hx402_0⟩ := Kd.qjA HR1.out x11_1 p402 q402
      cases e402
      replace p402 := eq_true p402
      replace q402 := eq_true q402
      go_wp2_with (first | ((with_reducible refine qF (f := 72) rfl ?_); refine qh (some 26) rfl rfl Tryz.func72 (by kernel_rfl) rfl #[.int .i64 (rd l0 x11_1), .int .i64 (rd l1 x11_1)] rfl gA ?_; (with_reducible refine (qnA.calls (rd l0 x11_1) (rd l1 x11_1) t403 _ A8.out).mono ?_); rintro e w' ⟨rfl, ⟨nd, rfl⟩⟩; refine ⟨_, rfl, ?_⟩))
      go_ret
      exact ⟨by first | rfl | (simp; done) | (simp [*]; done), dR⟩
   ·rw [if_neg c3] at H
    have c3b0 := decide_eq_false c3
    clear c3
    by_cases c10 : (l0.length : Int) < (l1.length : Int)
    ·rw [if_pos c10] at H
     have c10b0 := decide_eq_true c10
     have c10b1 : decide (l0.length < l1.length) = true := decide_eq_true (Int.ofNat_lt.mp c10)
     clear c10
     obtain rfl := Option.some.inj H
     go_wp2
     go_ret
     exact ⟨by first | rfl | (simp; done) | (simp [*]; done), dR⟩
    ·rw [if_neg c10] at H
     have c10b0 := decide_eq_false c10
     have c10b1 : decide (l0.length < l1.length) = false := decide_eq_false (fun h => c10 (Int.ofNat_lt.mpr h))
     clear c10
     obtain rfl := Option.some.inj H
     go_wp2
     go_ret
     exact ⟨by first | rfl | (simp; done) | (simp [*]; done), dR⟩
end Go.Proofs.YtdhbimankkpllaaGreatDoor.P
namespace Go.Proofs.YtdhbimankkpllaaGreatDoor
open Go.RowKit Go.Sort Go.Proofs.YtdhbimankkpllaaGreatDoor.P Go.Proofs.YtdhbimankkpllaaGreatDoorW.PrintWords Go.Proofs.YtdhbimankkpllaaGreatDoorW.PrintLast
set_option linter.unusedVariables false
set_option linter.unusedSimpArgs false
def cD (x : S29) : Array Value := #[.int .i64 x.f0, .int .i64 x.f1, .int .i64 x.f2, .int .i64 x.f3, .int .i64 x.f4, .int .i64 x.f5]
set_option maxHeartbeats 2000000 in
set_option maxRecDepth 100000 in
theorem faces_exact (x : S29) (W : World) :
  Calls Tryz.prog 51 #[.agg #[.int .i64 x.f0, .int .i64 x.f1, .int .i64 x.f2, .int .i64 x.f3, .int .i64 x.f4, .int .i64 x.f5]] W fun e w' => e = .returned (.slice (some ⟨W.heap.size + 1, 0, none⟩) 6 6) ∧ w' = (W.alloc (.cells (cD x) 29)).alloc (.cells (cD x) 3) := by
 have hu := Tryz.underlying29
 go_enter Tryz.func51, Tryz.ntmps51
 go_wp2
 go_ret
 exact ⟨rfl, rfl⟩
theorem lit6 {w : World} {g : Nat} {x : S29} {t : TypeId} {fr : Nat × Nat} (h : w.heap[g]? = some (.cells (cD x) t fr)) : Kd.C (Kd.int .i64) w (some ⟨g, 0, none⟩) 6 (facesD x) := by
 refine ⟨rfl, by decide, fun _ => ⟨⟨g, 0, none⟩, rfl, fun j p hp => ⟨[.int .i64 p], rfl, rfl, fun i u hu => ?_⟩⟩⟩
 have hi : i = 0 ∧ u = .int .i64 p := by
  cases i with
  | zero => simp at hu; exact ⟨rfl, hu.symm⟩
  | succ i => simp at hu
 obtain ⟨rfl, rfl⟩ := hi
 have e : (⟨g, 0, none⟩ : Addr).add (j * (Kd.int .i64).sz + 0) = ⟨g, j, none⟩ := by
  rw [show j * (Kd.int .i64).sz + 0 = j from Nat.mul_one j, qC]
 rw [e]
 simp only [World.cell?, h]
 unfold facesD at hp
 rcases j with _ | _ | _ | _ | _ | _ | j
 ·simp at hp; subst hp; rfl
 ·simp at hp; subst hp; rfl
 ·simp at hp; subst hp; rfl
 ·simp at hp; subst hp; rfl
 ·simp at hp; subst hp; rfl
 ·simp at hp; subst hp; rfl
 ·simp at hp
theorem hpAlloc {w : World} {g : Nat} {o o1 : Obj} (h : w.heap[g]? = some o) : (w.alloc o1).heap[g]? = some o := by
 have hg : g < w.heap.size := (Array.getElem?_eq_some_iff.1 h).1
 show (w.heap.push o1)[g]? = _
 rw [Array.getElem?_push, if_neg (by omega)]
 exact h
theorem hpTopA (w : World) (o : Obj) : (w.alloc o).heap[w.heap.size]? = some o := by
 show (w.heap.push o)[w.heap.size]? = _
 rw [Array.getElem?_push, if_pos rfl]
theorem hpTopB (w : World) (o1 o : Obj) : ((w.alloc o1).alloc o).heap[w.heap.size + 1]? = some o := by
 show ((w.heap.push o1).push o)[w.heap.size + 1]? = _
 rw [Array.getElem?_push, if_pos (by rw [Array.size_push])]
def odT1 : Bool × List (List Nat × List Nat) := (true, [([], []), ([0], [0]), ([], []), ([2, 1], [2]), ([1, 3, 3], [1, 3]), ([4, 4, 0, 1, 2, 3, 4], [4])])
def odB1 : List Nat := [0, 1, 0, 7, 15, 31]
theorem odTab1 : rtab .any (opsOf Tryz.f34 1) = odT1 := by kernel_rfl
theorem odBits1 : waitsOk odT1.2 odB1 = true := by kernel_rfl
def odI (x y : S29) (r : Int) (W : World) (b : Nat → Bool) (a : Act) (w' : World) : Prop := ∃ s4 s5 s6 s7 s8 s9 : Value, a = { tmps := #[.agg (cD x), .agg (cD y), .pointer (some ⟨W.heap.size, 0, none⟩), .pointer (some ⟨W.heap.size + 1, 0, none⟩), s4, s5, s6, s7, s8, s9], defers := [] } ∧
 (∃ q os, w' = grow (W.drewN q) os) ∧ w'.heap[W.heap.size]? = some (.cells (cD x) 29) ∧ w'.heap[W.heap.size + 1]? = some (.cells (cD y) 29) ∧
 (b 0 = true → s5 = .agg (cD x)) ∧
 (b 1 = true → ∃ g, s6 = .slice (some ⟨g, 0, none⟩) 6 6 ∧ w'.heap[g]? = some (.cells (cD x) 3)) ∧
 (b 2 = true → s7 = .agg (cD y)) ∧
 (b 3 = true → ∃ g, s8 = .slice (some ⟨g, 0, none⟩) 6 6 ∧ w'.heap[g]? = some (.cells (cD y) 3)) ∧
 (b 4 = true → s9 = .int .i64 r) ∧ (b 5 = true → s4 = .int .i64 r)
theorem cells6 {w : World} {g : Nat} {x : S29} {t : TypeId} {fr : Nat × Nat} (h : w.heap[g]? = some (.cells (cD x) t fr)) : w.cell? ⟨g, 0, none⟩ = some (.int .i64 x.f0) ∧ w.cell? ⟨g, 1, none⟩ = some (.int .i64 x.f1) ∧ w.cell? ⟨g, 2, none⟩ = some (.int .i64 x.f2) ∧ w.cell? ⟨g, 3, none⟩ = some (.int .i64 x.f3) ∧ w.cell? ⟨g, 4, none⟩ = some (.int .i64 x.f4) ∧ w.cell? ⟨g, 5, none⟩ = some (.int .i64 x.f5) := by
 simp only [World.cell?, h]
 exact ⟨rfl, rfl, rfl, rfl, rfl, rfl⟩
set_option maxHeartbeats 4000000 in
set_option maxRecDepth 100000 in
theorem orderDie_grow (k : Nat) (x y : S29) (r : Int) (h : qX.f k (facesD x) (facesD y) = some r) (W : World) :
  Calls Tryz.prog 34 #[.agg #[.int .i64 x.f0, .int .i64 x.f1, .int .i64 x.f2, .int .i64 x.f3, .int .i64 x.f4, .int .i64 x.f5], .agg #[.int .i64 y.f0, .int .i64 y.f1, .int .i64 y.f2, .int .i64 y.f3, .int .i64 y.f4, .int .i64 y.f5]] W fun e w' => e = .returned (.int .i64 r) ∧ ∃ q os', w' = grow (W.drewN q) os' := by
 have hu := Tryz.underlying29
 have H := Lib.hid h
 clear h
 go_enter Tryz.func34, Tryz.ntmps34
 go_wp2
 refine qAB (n := 6) (S := fun _ => True) (ds := []) #[false, false, false, false, false, false] (by kernel_rfl) rfl rfl trivial (fun _ => ?_)
 refine qMA odTab1 odBits1 (fun HT_ HW_ => ?_)
 refine inv_ (B := odB1) [0, 1, 2, 3, 4, 5] (odI x y r W) HT_.out HW_.out (by kernel_rfl) (by kernel_rfl) ?h0 (qO ?s0 (qO ?s1 (qO ?s2 (qO ?s3 (qO ?s4 (qO ?s5 qhB)))))) ?hend
 case h0 =>
  refine ⟨_, _, _, _, _, _, rfl, ⟨1, #[.cells (cD x) 29, .cells (cD y) 29], ?_⟩, ?_, ?_, by simp, by simp, by simp, by simp, by simp, by simp⟩
  ·rw [alloc_eq_grow, alloc_eq_grow, grow_grow]; rfl
  ·exact hpAlloc (hpTopA W _)
  ·exact hpTopB W _ _
 case s0 =>
  rintro b a w' ⟨s4, s5, s6, s7, s8, s9, rfl, ⟨q, os, hw⟩, hx, hy, h0, h1, h2, h3, h4, h5⟩ hi hp hn
  have n1 := hn 1 (by decide)
  obtain ⟨c0, c1, c2, c3, c4, c5⟩ := cells6 hx
  have HW0 := aM hw
  clear hw
  refine ⟨_, rfl, fun K hK => ?_⟩
  refine qNA (w1 := w') (v := .agg (cD x)) rfl rfl ?hr ?_
  case hr => first | (go_simp; done) | (go_simp; rfl)
  refine hK _ _ ⟨s4, .agg (cD x), s6, s7, s8, s9, by rfl, ⟨q, os, HW0.out⟩, hx, hy, fun _ => rfl, fun h => h1 (by simpa [up] using h), fun h => h2 (by simpa [up] using h), fun h => h3 (by simpa [up] using h), fun h => h4 (by simpa [up] using h), fun h => h5 (by simpa [up] using h)⟩
 case s1 =>
  rintro b a w' ⟨s4, s5, s6, s7, s8, s9, rfl, ⟨q, os, hw⟩, hx, hy, h0, h1, h2, h3, h4, h5⟩ hi hp hn
  have p0 := hp 0 (by decide)
  obtain rfl := h0 p0
  refine ⟨_, rfl, fun K hK => ?_⟩
  refine goes_ Tryz.func51 (by kernel_rfl) rfl #[.agg (cD x)] (by rfl) rfl rfl (by (try simp only [List.map_toArray, List.map_cons, List.map_nil]); first | done | rfl | simp) ?_
  refine (faces_exact x w').mono ?_
  rintro e w1 ⟨rfl, rfl⟩
  refine ⟨_, rfl, hK _ _ ⟨s4, .agg (cD x), .slice (some ⟨w'.heap.size + 1, 0, none⟩) 6 6, s7, s8, s9, by rfl, ⟨q, os ++ (#[.cells (cD x) 29] ++ #[.cells (cD x) 3]), by rw [alloc_eq_grow, alloc_eq_grow, grow_grow, hw, grow_grow]⟩, hpAlloc (hpAlloc hx), hpAlloc (hpAlloc hy), fun _ => rfl, fun _ => ⟨_, rfl, ?_⟩, fun h => h2 (by simpa [up] using h), fun h => ?_, fun h => h4 (by simpa [up] using h), fun h => h5 (by simpa [up] using h)⟩⟩
  ·exact hpTopB w' _ _
  ·obtain ⟨g, e, hg⟩ := h3 (by simpa [up] using h)
   exact ⟨g, e, hpAlloc (hpAlloc hg)⟩
 case s2 =>
  rintro b a w' ⟨s4, s5, s6, s7, s8, s9, rfl, ⟨q, os, hw⟩, hx, hy, h0, h1, h2, h3, h4, h5⟩ hi hp hn
  obtain ⟨c0, c1, c2, c3, c4, c5⟩ := cells6 hy
  have HW0 := aM hw
  clear hw
  refine ⟨_, rfl, fun K hK => ?_⟩
  refine qNA (w1 := w') (v := .agg (cD y)) rfl rfl ?hr ?_
  case hr => first | (go_simp; done) | (go_simp; rfl)
  refine hK _ _ ⟨s4, s5, s6, .agg (cD y), s8, s9, by rfl, ⟨q, os, HW0.out⟩, hx, hy, fun h => h0 (by simpa [up] using h), fun h => h1 (by simpa [up] using h), fun _ => rfl, fun h => h3 (by simpa [up] using h), fun h => h4 (by simpa [up] using h), fun h => h5 (by simpa [up] using h)⟩
 case s3 =>
  rintro b a w' ⟨s4, s5, s6, s7, s8, s9, rfl, ⟨q, os, hw⟩, hx, hy, h0, h1, h2, h3, h4, h5⟩ hi hp hn
  have p2 := hp 2 (by decide)
  obtain rfl := h2 p2
  refine ⟨_, rfl, fun K hK => ?_⟩
  refine goes_ Tryz.func51 (by kernel_rfl) rfl #[.agg (cD y)] (by rfl) rfl rfl (by (try simp only [List.map_toArray, List.map_cons, List.map_nil]); first | done | rfl | simp) ?_
  refine (faces_exact y w').mono ?_
  rintro e w1 ⟨rfl, rfl⟩
  refine ⟨_, rfl, hK _ _ ⟨s4, s5, s6, .agg (cD y), .slice (some ⟨w'.heap.size + 1, 0, none⟩) 6 6, s9, by rfl, ⟨q, os ++ (#[.cells (cD y) 29] ++ #[.cells (cD y) 3]), by rw [alloc_eq_grow, alloc_eq_grow, grow_grow, hw, grow_grow]⟩, hpAlloc (hpAlloc hx), hpAlloc (hpAlloc hy), fun h => h0 (by simpa [up] using h), fun h => ?_, fun _ => rfl, fun _ => ⟨_, rfl, ?_⟩, fun h => h4 (by simpa [up] using h), fun h => h5 (by simpa [up] using h)⟩⟩
  ·obtain ⟨g, e, hg⟩ := h1 (by simpa [up] using h)
   exact ⟨g, e, hpAlloc (hpAlloc hg)⟩
  ·exact hpTopB w' _ _
 case s4 =>
  rintro b a w' ⟨s4, s5, s6, s7, s8, s9, rfl, ⟨q, os, hw⟩, hx, hy, h0, h1, h2, h3, h4, h5⟩ hi hp hn
  have p1 := hp 1 (by decide)
  have p3 := hp 3 (by decide)
  obtain ⟨g1, rfl, hg1⟩ := h1 p1
  obtain ⟨g3, rfl, hg3⟩ := h3 p3
  refine ⟨_, rfl, fun K hK => ?_⟩
  refine goes_ Tryz.func50 (by kernel_rfl) rfl #[.slice (some ⟨g1, 0, none⟩) 6 6, .slice (some ⟨g3, 0, none⟩) 6 6] (by rfl) rfl rfl (by (try simp only [List.map_toArray, List.map_cons, List.map_nil]); first | done | rfl | simp) ?_
  refine (qX.calls k _ _ (facesD x) _ _ (facesD y) r _ (lit6 hg1) (Nat.le_refl 6) (lit6 hg3) (Nat.le_refl 6) H.out).mono ?_
  rintro e w1 ⟨rfl, ⟨nd, rfl⟩⟩
  refine ⟨_, rfl, hK _ _ ⟨s4, s5, _, s7, _, .int .i64 r, by rfl, ⟨q + nd, os, by rw [hw, ← World.drewN_drewN]; rfl⟩, hx, hy, fun h => h0 (by simpa [up] using h), fun _ => ⟨g1, rfl, hg1⟩, fun h => h2 (by simpa [up] using h), fun _ => ⟨g3, rfl, hg3⟩, fun _ => rfl, fun h => h5 (by simpa [up] using h)⟩⟩
 case s5 =>
  rintro b a w' ⟨s4, s5, s6, s7, s8, s9, rfl, ⟨q, os, hw⟩, hx, hy, h0, h1, h2, h3, h4, h5⟩ hi hp hn
  have p4 := hp 4 (by decide)
  obtain rfl := h4 p4
  have HW0 := aM hw
  clear hw
  refine ⟨_, rfl, fun K hK => ?_⟩
  refine qNA (w1 := w') (v := .int .i64 r) rfl rfl ?hr ?_
  case hr => first | (go_simp; done) | (go_simp; rfl)
  refine hK _ _ ⟨.int .i64 r, s5, s6, s7, s8, _, by rfl, ⟨q, os, HW0.out⟩, hx, hy, fun h => h0 (by simpa [up] using h), fun h => h1 (by simpa [up] using h), fun h => h2 (by simpa [up] using h), fun h => h3 (by simpa [up] using h), fun h => h4 (by simpa [up] using h), fun _ => rfl⟩
 case hend =>
  rintro b a w1 hall ⟨s4, s5, s6, s7, s8, s9, rfl, hw, hx, hy, h0, h1, h2, h3, h4, h5⟩
  obtain rfl := h5 (hall 5 (by decide))
  have HW1 := aM hw
  clear h0 h1 h2 h3 h4 h5 hall hw hx hy
  go_wp2
  go_ret
  exact ⟨rfl, HW1.out⟩
end Go.Proofs.YtdhbimankkpllaaGreatDoor
namespace Go.Proofs.YtdhbimankkpllaaGreatDoor
open Go.RowKit Go.Proofs.YtdhbimankkpllaaGreatDoor.P Go.Proofs.YtdhbimankkpllaaGreatDoorW.PrintWords Go.Proofs.YtdhbimankkpllaaGreatDoorW.PrintLast
set_option linter.unusedVariables false
set_option linter.unusedSimpArgs false
theorem cmp_eq (a b : Int) : qnA.f a b = some (cmpI a b) := by
 unfold qnA.f qy.f cmpI
 simp only [bne_self_eq_false, Option.bind_some]
 rw [if_neg (by decide), if_neg (by decide)]
 split
 ·rfl
 ·split <;> rfl
theorem rd_is (l : List Int) (i : Nat) {x : Int} (h : i < l.length) (e : l[i] = x) : rd l (i : Int) = x := by
 unfold rd
 rw [Int.toNat_natCast, List.getD_eq_getElem?_getD, List.getElem?_eq_getElem h, e]; rfl
theorem compare_loop (l m : List Int) (hl : l.length ≤ 100000) (hm : m.length ≤ 100000) : ∀ (u v : List Int) (i : Nat), l.drop i = u → m.drop i = v → i ≤ l.length → i ≤ m.length →
  Ev (fun k => qX.l0 k l m l (l.length : Int) (i : Int)) (lexI u v)
 | [], v, i, hu, hv, h1, h2 => by
  have hi := Sorts.qGB hu
  refine Ev.step (f := fun k => _) (fun k => by rw [qX.l0]) (Ev.neg (by omega) ?_)
  match v, hv with
  | [], hv =>
   have := Sorts.qGB hv
   exact Ev.neg (by omega) (Ev.now _)
  | b :: v, hv =>
   obtain ⟨h3, _, _⟩ := Sorts.quA hv
   exact Ev.pos (by omega) (Ev.now _)
 | a :: u, v, i, hu, hv, h1, h2 => by
  obtain ⟨h3, e3, hu'⟩ := Sorts.quA hu
  have ea := rd_is l i h3 e3
  have w : wrap64 ((i : Int) + 1) = ((i + 1 : Nat) : Int) := by unfold wrap64; omega
  clear hu e3
  refine Ev.step (f := fun k => _) (fun k => by rw [qX.l0]) ?_
  rw [w, ea]
  refine Ev.pos (by omega) (Ev.pos (by omega) (Ev.pos (by omega) ?_))
  match v, hv with
  | [], hv =>
   have := Sorts.qGB hv
   exact Ev.pos (by omega) (Ev.now _)
  | b :: v, hv =>
   obtain ⟨h4, e4, hv'⟩ := Sorts.quA hv
   have eb := rd_is m i h4 e4
   have ih := compare_loop l m hl hm u v (i + 1) hu' hv' (by omega) (by omega)
   clear hv e4 hu' hv'
   rw [eb]
   refine Ev.neg (by omega) (Ev.pos (by omega) (Ev.bindc (cmp_eq a b) ?_))
   rw [lexI]
   by_cases h0 : cmpI a b = 0
   case pos => rw [if_pos h0]; exact Ev.pos h0 ih
   rw [if_neg h0]
   exact Ev.neg h0 (Ev.now _)
theorem compare_ev (l m : List Int) (hl : l.length ≤ 100000) (hm : m.length ≤ 100000) : Ev (fun k => qX.f k l m) (lexI l m) :=
 compare_loop l m hl hm l m 0 rfl rfl (by omega) (by omega)
end Go.Proofs.YtdhbimankkpllaaGreatDoor
namespace Go.Proofs
open Go.Shelf
def Tryz.sortD_ren : Go.Shelf.Ren := ⟨fun | 6 => 33 | 15 => 49 | 14 => 48 | 28 => 70 | 29 => 71 | 20 => 62 | 21 => 63 | 22 => 64 | 23 => 65 | 24 => 66 | 25 => 67 | 26 => 68 | 27 => 69 | 46 => 83 | 47 => 84 | 48 => 85 | 49 => 86 | 50 => 87 | 57 => 98 | n => n, fun | 22 => 36 | 24 => 29 | 25 => 75 | 3 => 3 | 39 => 90 | 0 => 0 | 53 => 112 | 55 => 114 | 4 => 4 | 46 => 106 | 45 => 105 | 50 => 98 | 5 => 5 | 9 => 9 | 66 => 125 | 70 => 129 | 76 => 139 | 77 => 94 | n => n, fun | n => n⟩
theorem Tryz.sortD : Go.Proofs.SlLaysF0.n6 Tryz.prog Tryz.sortD_ren := {
 mixed := by kernel_rfl
 f6 := ⟨Tryz.f33.name, by decide, Tryz.func33.trans (congrArg some (by kernel_rfl))⟩
 f14 := ⟨Tryz.f48.name, by decide, Tryz.func48.trans (congrArg some (by kernel_rfl))⟩
 f15 := Tryz.func49.trans (congrArg some (by kernel_rfl))
 f20 := ⟨Tryz.f62.name, by decide, Tryz.func62.trans (congrArg some (by kernel_rfl))⟩
 f21 := ⟨Tryz.f63.name, by decide, Tryz.func63.trans (congrArg some (by kernel_rfl))⟩
 f22 := ⟨Tryz.f64.name, by decide, Tryz.func64.trans (congrArg some (by kernel_rfl))⟩
 f23 := ⟨Tryz.f65.name, by decide, Tryz.func65.trans (congrArg some (by kernel_rfl))⟩
 f24 := ⟨Tryz.f66.name, by decide, Tryz.func66.trans (congrArg some (by kernel_rfl))⟩
 f25 := ⟨Tryz.f67.name, by decide, Tryz.func67.trans (congrArg some (by kernel_rfl))⟩
 f26 := ⟨Tryz.f68.name, by decide, Tryz.func68.trans (congrArg some (by kernel_rfl))⟩
 f27 := ⟨Tryz.f69.name, by decide, Tryz.func69.trans (congrArg some (by kernel_rfl))⟩
 f28 := Tryz.func70.trans (congrArg some (by kernel_rfl))
 f29 := Tryz.func71.trans (congrArg some (by kernel_rfl))
 f46 := ⟨Tryz.f83.name, by decide, Tryz.func83.trans (congrArg some (by kernel_rfl))⟩
 f47 := Tryz.func84.trans (congrArg some (by kernel_rfl))
 f48 := Tryz.func85.trans (congrArg some (by kernel_rfl))
 f49 := ⟨Tryz.f86.name, by decide, Tryz.func86.trans (congrArg some (by kernel_rfl))⟩
 f50 := ⟨Tryz.f87.name, by decide, Tryz.func87.trans (congrArg some (by kernel_rfl))⟩
 f57 := ⟨Tryz.f98.name, by decide, Tryz.func98.trans (congrArg some (by kernel_rfl))⟩
 t0 := Tryz.underlying0
 a0 := Tryz.isAgg0
 z0 := Tryz.sizeOf0
 v0 := Tryz.zeroValue0
 t3 := Tryz.underlying3
 a3 := Tryz.isAgg3
 z3 := Tryz.sizeOf3
 v3 := Tryz.zeroValue3
 t4 := Tryz.underlying4
 a4 := Tryz.isAgg4
 z4 := Tryz.sizeOf4
 v4 := Tryz.zeroValue4
 t5 := Tryz.underlying5
 a5 := Tryz.isAgg5
 z5 := Tryz.sizeOf5
 v5 := Tryz.zeroValue5
 t9 := Tryz.underlying9
 a9 := Tryz.isAgg9
 z9 := Tryz.sizeOf9
 v9 := Tryz.zeroValue9
 t22 := Tryz.underlying36
 a22 := Tryz.isAgg36
 z22 := Tryz.sizeOf36
 v22 := Tryz.zeroValue36
 t25 := Tryz.underlying75
 a25 := Tryz.isAgg75
 z25 := Tryz.sizeOf75
 v25 := Tryz.zeroValue75
 t39 := Tryz.underlying90
 a39 := Tryz.isAgg90
 z39 := Tryz.sizeOf90
 v39 := Tryz.zeroValue90
 t45 := Tryz.underlying105
 a45 := Tryz.isAgg105
 z45 := Tryz.sizeOf105
 v45 := Tryz.zeroValue105
 t46 := Tryz.underlying106
 a46 := Tryz.isAgg106
 z46 := Tryz.sizeOf106
 v46 := Tryz.zeroValue106
 t50 := Tryz.underlying98
 a50 := Tryz.isAgg98
 z50 := Tryz.sizeOf98
 v50 := Tryz.zeroValue98
 t53 := Tryz.underlying112
 a53 := Tryz.isAgg112
 z53 := Tryz.sizeOf112
 v53 := Tryz.zeroValue112
 t55 := Tryz.underlying114
 a55 := Tryz.isAgg114
 z55 := Tryz.sizeOf114
 v55 := Tryz.zeroValue114
 t66 := Tryz.underlying125
 a66 := Tryz.isAgg125
 z66 := Tryz.sizeOf125
 v66 := Tryz.zeroValue125
 t70 := Tryz.underlying129
 a70 := Tryz.isAgg129
 z70 := Tryz.sizeOf129
 v70 := Tryz.zeroValue129
 t76 := Tryz.underlying139
 a76 := Tryz.isAgg139
 z76 := Tryz.sizeOf139
 v76 := Tryz.zeroValue139
 t77 := Tryz.underlying94
 a77 := Tryz.isAgg94
 z77 := Tryz.sizeOf94
 v77 := Tryz.zeroValue94 }
end Go.Proofs
namespace Go.Proofs.YtdhbimankkpllaaGreatDoor
open Go.RowKit Go.Proofs.YtdhbimankkpllaaGreatDoor.P Go.Proofs.YtdhbimankkpllaaGreatDoorW.PrintWords Go.Proofs.YtdhbimankkpllaaGreatDoorW.PrintLast
set_option linter.unusedVariables false
set_option linter.unusedSimpArgs false
def dedD : List DD → List DD
 | [] => []
 | [x] => [x]
 | x :: y :: l => if x = y then dedD (y :: l) else x :: dedD (y :: l)
end Go.Proofs.YtdhbimankkpllaaGreatDoor
namespace Go.Proofs.YtdhbimankkpllaaGreatDoor
open Go.RowKit Go.Proofs.YtdhbimankkpllaaGreatDoor.P Go.Proofs.YtdhbimankkpllaaGreatDoorW.PrintWords Go.Proofs.YtdhbimankkpllaaGreatDoorW.PrintLast
open Go.Lib (keeps compactUpTo)
set_option linter.unusedVariables false
set_option linter.unusedSimpArgs false
instance instDie0 : Inhabited DD := ⟨⟨0, 0, 0, 0, 0, 0⟩⟩
theorem keeps_zero (d : Array DD) : keeps d 0 = true := by simp [keeps]
theorem keeps_one (x y : DD) (l : List DD) : keeps (x :: y :: l).toArray 1 = decide (y ≠ x) := by simp [keeps]
theorem keeps_two (x y : DD) (l : List DD) (j : Nat) : keeps (x :: y :: l).toArray (j + 2) = keeps (y :: l).toArray (j + 1) := by simp [keeps]
theorem compact_two (x y : DD) (l : List DD) : Lib.compact (x :: y :: l) = if x = y then Lib.compact (y :: l) else x :: Lib.compact (y :: l) := by
 have e1 : Lib.compact (y :: l) = y :: (((List.range l.length).filter fun j => keeps (y :: l).toArray (j + 1)).map fun j => (y :: l).toArray[j + 1]!) := by
  unfold Lib.compact compactUpTo
  rw [show (y :: l).length = l.length + 1 from rfl, List.range_succ_eq_map, List.filter_cons, if_pos (keeps_zero _), List.map_cons, List.filter_map, List.map_map]
  rfl
 have e2 : Lib.compact (x :: y :: l) = x :: (if y ≠ x then [y] else []) ++ (((List.range l.length).filter fun j => keeps (y :: l).toArray (j + 1)).map fun j => (y :: l).toArray[j + 1]!) := by
  unfold Lib.compact compactUpTo
  rw [show (x :: y :: l).length = (l.length + 1) + 1 from rfl, List.range_succ_eq_map, List.filter_cons, if_pos (keeps_zero _), List.map_cons, List.filter_map, List.map_map, List.range_succ_eq_map, List.filter_cons]
  have h0 : (keeps (x :: y :: l).toArray ∘ Nat.succ) 0 = decide (y ≠ x) := keeps_one x y l
  rw [h0, List.filter_map]
  have h2 : ((keeps (x :: y :: l).toArray ∘ Nat.succ) ∘ Nat.succ) = fun j => keeps (y :: l).toArray (j + 1) := by
   funext j
   exact keeps_two x y l j
  rw [h2]
  have h3 : ∀ L : List Nat, ((L.map Nat.succ).map ((fun j => (x :: y :: l).toArray[j]!) ∘ Nat.succ)) = L.map fun j => (y :: l).toArray[j + 1]! := by
   intro L
   rw [List.map_map]
   refine List.map_congr_left fun j _ => ?_
   simp
  by_cases h : y = x
  case neg => simp only [ne_eq, h, not_false_eq_true, decide_true, if_true, List.map_cons]; rw [h3]; simp
  subst h
  simp only [ne_eq, not_true_eq_false, decide_false, if_false, Bool.false_eq_true]
  rw [h3]; simp
 rw [e2, e1]
 by_cases h : x = y
 case pos => subst h; simp
 rw [if_neg h, if_pos (fun e => h e.symm)]; rfl
theorem compact_ded : ∀ l : List DD, Lib.compact l = dedD l
 | [] => rfl
 | [x] => by simp [Lib.compact, compactUpTo, keeps, dedD]
 | x :: y :: l => by
  rw [compact_two, compact_ded (y :: l)]
  rw [dedD]
end Go.Proofs.YtdhbimankkpllaaGreatDoor
namespace Go.Proofs.YtdhbimankkpllaaGreatDoor
open Go.RowKit Go.Sort Go.Proofs.YtdhbimankkpllaaGreatDoor.P Go.Proofs.YtdhbimankkpllaaGreatDoorW.PrintWords Go.Proofs.YtdhbimankkpllaaGreatDoorW.PrintLast
set_option linter.unusedVariables false
set_option linter.unusedSimpArgs false
def encDX (x : S29) : List Value := [.int .i64 x.f0, .int .i64 x.f1, .int .i64 x.f2, .int .i64 x.f3, .int .i64 x.f4, .int .i64 x.f5]
def ordDie (x y : S29) : Int := lexI (facesD x) (facesD y)
theorem ordDie_run (x y : S29) : ∃ k, qX.f k (facesD x) (facesD y) = some (ordDie x y) := by
 obtain ⟨k, hk⟩ := compare_ev (facesD x) (facesD y) (by simp [facesD]) (by simp [facesD])
 exact ⟨k, hk k (Nat.le_refl k)⟩
theorem cmpLaysDie (blk off size : Nat) (w : World) : CmpLays Tryz.prog 34 #[] encDX 6 ordDie blk off size w := fun m os dk _ x y => by
 obtain ⟨k, hk⟩ := ordDie_run x y
 exact orderDie_grow k x y _ hk _
theorem ltOf_ordDie : ltOf ordDie = ltD := rfl
theorem swoDie : SWO (ltOf ordDie) where
 irrefl := fun x => ltD_irrefl x
 trans := fun x y z h1 h2 => by
  rw [ltOf_ordDie] at *
  unfold ltD at *
  rw [decide_eq_true_eq] at *
  exact lexI_trans (facesD x) (facesD y) (facesD z) rfl rfl h1 h2
 ntrans := fun x y z h1 h2 => by
  rw [ltOf_ordDie] at *
  unfold ltD at *
  rw [decide_eq_false_iff_not] at *
  exact qNC (facesD x) (facesD y) (facesD z) rfl rfl h1 h2
theorem totDie (x y : S29) (h1 : (ltOf ordDie) x y = false) (h2 : (ltOf ordDie) y x = false) : x = y := ltD_tot x y h1 h2
theorem qyC (x : S29) (m : Nat) (h : m < 6) : (encDX x)[m]? = some ((encDX x)[m]!) := by
 have hm : m < (encDX x).length := h
 rw [List.getElem?_eq_getElem hm, getElem!_pos (encDX x) m hm]
theorem sortD_holds {R : S29 → List Value → Prop} (hR : ∀ x cs, R x cs → cs = encDX x) {w : World} {g : Nat} {cur : Array Value} {t : TypeId} {xs : List S29} {inner : List Value} (hh : w.heap[g]? = some (.cells cur t (0, 0))) (ht : cur.toList.take (xs.length * 6) = inner) (hr : Reps R 6 xs inner) : HoldsK encDX 6 w g 0 xs.toArray := by
 intro t' ht'
 rw [size_flatK] at ht'
 have hlt : t' < xs.length * 6 := by simpa using ht'
 have hj : t' / 6 < xs.length := by omega
 have hc := hR _ _ (hr.2 (t' / 6) xs[t' / 6] (List.getElem?_eq_getElem hj))
 have h1 : cur[t']? = (encDX xs[t' / 6])[t' % 6]? := by
  rw [← hc, List.getElem?_take, if_pos (Nat.mod_lt _ (by decide)), List.getElem?_drop, show t' / 6 * 6 + t' % 6 = t' by omega, ← ht, List.getElem?_take, if_pos hlt, Array.getElem?_toList]
 have e : xs.toArray[t' / 6]! = xs[t' / 6] := by simp [hj]
 refine ⟨?_, by simp [World.frozen?, hh]⟩
 rw [get_flatK _ _ _ _ ht', e]
 simp only [World.cell?, hh, Nat.zero_add]
 rw [h1, qyC _ _ (Nat.mod_lt _ (by decide))]
 rfl
theorem sortD_put {cur : Array Value} {ys : List S29} {n : Nat} (hlen : ys.length = n) (hc : n * 6 ≤ cur.size) (w : World) (base : Nat) (ok : Nat → Prop) :
  Reps (k29.M w base ok) 6 ys ((putCells id 0 (flatK encDX 6 ys.toArray) cur).toList.take (n * 6)) := by
 have hsz : (putCells id 0 (flatK encDX 6 ys.toArray) cur).toList.length = cur.size := by simp [putCells]
 refine ⟨by rw [List.length_take, hsz, hlen]; omega, fun j x hx => ?_⟩
 have hj : j < ys.length := (List.getElem?_eq_some_iff.1 hx).1
 have hv : ys[j] = x := by rw [List.getElem?_eq_getElem hj] at hx; injection hx
 have e : (((putCells id 0 (flatK encDX 6 ys.toArray) cur).toList.take (n * 6)).drop (j * 6)).take 6 = encDX x := by
  refine List.ext_getElem? fun i => ?_
  rw [List.getElem?_take]
  by_cases hi : i < 6
  case neg => rw [if_neg hi, List.getElem?_eq_none (by show 6 ≤ i; omega)]
  rw [if_pos hi, List.getElem?_drop, List.getElem?_take, if_pos (by omega), Array.getElem?_toList]
  have hk : j * 6 + i < (flatK encDX 6 ys.toArray).size := by rw [size_flatK]; simp; omega
  have hk2 : j * 6 + i < ys.toArray.size * 6 := by simp; omega
  simp only [putCells, Array.getElem?_mapIdx]
  rw [Array.getElem?_eq_getElem (show j * 6 + i < cur.size by omega), Option.map_some, if_pos ⟨Nat.zero_le _, by omega⟩, Nat.sub_zero, get_flatK _ _ _ _ hk2, show (j * 6 + i) / 6 = j by omega, show (j * 6 + i) % 6 = i by omega]
  have e2 : ys.toArray[j]! = x := by simp [hj, hv]
  rw [e2, qyC _ _ hi]
  rfl
 rw [e]
 exact qgB w base ok x
def qpC.f (l0 : List S29) : Option (List S29) := if l0.length < 4611686018427387904 then some (l0.mergeSort fun x y => !(ltOf ordDie) y x) else none
theorem qpC.calls (P0_ : Nat → Prop) (u9000_ : Value) (l0 : List S29) (r : List S29) (w0 w : World) (hB : Below w0.heap.size w0 w) (ho0 : Kd.R k29 29 w w0.heap.size P0_ u9000_ l0) (h : qpC.f l0 = some r) :
  Calls Tryz.prog 33 #[u9000_, .func (.func 34) #[] #[]] w fun e w' => e = .returned (.tuple #[]) ∧ Kd.R k29 29 w' w0.heap.size (fun k_ => (P0_ k_ ∨ w.heap.size ≤ k_)) u9000_ r ∧ Below w0.heap.size w0 w' ∧ Kept w w' (fun k_ => P0_ k_) := by
 unfold qpC.f at h
 by_cases hs : l0.length < 4611686018427387904
 case neg => rw [if_neg hs] at h; cases h
 rw [if_pos hs] at h
 obtain rfl := Option.some.inj h
 obtain ⟨hok, inner, hown, hr⟩ := ho0
 have hsz : k29.sz = 6 := rfl
 rcases hown.2 with ⟨hv, hn⟩ | ⟨g, cap, cur, hv, hbase, hheap, hncap, hmax, hsize, htake⟩
 ·subst hv
  have hl : l0 = [] := List.eq_nil_of_length_eq_zero hn
  subst hl
  refine (AnyF.slices_SortFunc_none Tryz.sortD none 0 (.func (.func 34) #[] #[]) w).mono fun e w' hq => ?_
  obtain ⟨he, rfl⟩ := hq
  exact ⟨he, by simpa using Kd.R_nil k29 29 w' w0.heap.size _, hB, Kept.refl _ _⟩
 ·subst hv
  rw [hsz] at htake hsize hr
  have hg : g < w.heap.size := by
   rcases Nat.lt_or_ge g w.heap.size with h1 | h1
   ·exact h1
   ·rw [Array.getElem?_eq_none h1] at hheap; cases hheap
  have eg := Go.Proofs.enters_of Tryz.func34 (by kernel_rfl) rfl
  have hH : HoldsK encDX 6 w g 0 l0.toArray := sortD_holds (fun x cs hx => qvC hx) hheap htake hr
  have hcall := AnyQ.slices_SortFunc_total Tryz.sortD 6 Tryz.isAgg29 Tryz.sizeOf29 encDX (fun _ => rfl) (fun x v hv => by simp [encDX] at hv; rcases hv with rfl | rfl | rfl | rfl | rfl | rfl <;> rfl) ordDie swoDie 34 #[] g 0 cap l0.toArray w eg (cmpLaysDie g 0 _ w) hH hg (by simpa using hs) totDie
  have hcall2 : Calls Tryz.prog 33 #[.slice (some ⟨g, 0, none⟩) l0.length cap, .func (.func 34) #[] #[]] w _ := hcall
  refine hcall2.mono fun e w' hq => ?_
  obtain ⟨he, n, os, rfl⟩ := hq
  have hlen : (l0.mergeSort fun x y => !(ltOf ordDie) y x).length = l0.length := List.length_mergeSort l0
  have hoth : ∀ k, k < w.heap.size → k ≠ g → (sortWorldK encDX 6 w g 0 n (l0.mergeSort fun x y => !(ltOf ordDie) y x).toArray os).heap[k]? = w.heap[k]? := by
   intro k hk hne
   unfold sortWorldK putRowK
   rw [heap_grow_old _ _ (by simpa using hk)]
   simp only [putRow, mapBlock, Array.getElem?_modify, if_neg (Ne.symm hne), heap_ahead]
  have hown' : (sortWorldK encDX 6 w g 0 n (l0.mergeSort fun x y => !(ltOf ordDie) y x).toArray os).heap[g]? = some (.cells (putCells id 0 (flatK encDX 6 (l0.mergeSort fun x y => !(ltOf ordDie) y x).toArray) cur) 29 (0, 0)) := by
   unfold sortWorldK putRowK
   rw [heap_grow_old _ _ (by simpa using hg)]
   simp only [putRow, mapBlock, Array.getElem?_modify, heap_ahead, hheap, if_true, Option.map_some, onCells]
  have hle : l0.length * 6 ≤ cur.size := by rw [hsize]; exact Nat.mul_le_mul_right 6 hncap
  refine ⟨he, ⟨fun k hk => .inl (hok k hk), _, ⟨?_, .inr ⟨g, cap, _, by rw [hlen], hbase, hown', by rw [hlen]; exact hncap, hmax, by rw [hsz, ← hsize]; simp [putCells], by rw [hsz, hlen]⟩⟩, sortD_put hlen hle _ _ _⟩, ⟨hB.os, hB.tape, hB.output, Nat.le_trans hB.size (by unfold sortWorldK putRowK; simp), ?_⟩, ⟨by unfold sortWorldK putRowK; simp, ?_⟩⟩
  ·rw [hsz, hlen, List.length_take]
   simp [putCells]
   omega
  ·intro k hk
   rw [hoth k (Nat.lt_of_lt_of_le hk hB.size) (by omega)]
   exact hB.block k hk
  ·intro k hk hn
   exact hoth k hk (fun e => hn (e ▸ hok g rfl))
end Go.Proofs.YtdhbimankkpllaaGreatDoor
namespace Go.Proofs.YtdhbimankkpllaaGreatDoor.P
open Go Go.RowKit Go.Proofs.YtdhbimankkpllaaGreatDoorW.PrintWords Go.Proofs.YtdhbimankkpllaaGreatDoorW.PrintLast
set_option linter.unusedVariables false
set_option linter.unusedSimpArgs false
theorem eqA29 (d : Nat) (w : World) (x0 y0 : Int) (x1 y1 : Int) (x2 y2 : Int) (x3 y3 : Int) (x4 y4 : Int) (x5 y5 : Int) :
  (Op.equalIn (d + 2) 29 (.agg #[.int .i64 x0, .int .i64 x1, .int .i64 x2, .int .i64 x3, .int .i64 x4, .int .i64 x5]) (.agg #[.int .i64 y0, .int .i64 y1, .int .i64 y2, .int .i64 y3, .int .i64 y4, .int .i64 y5])).run Tryz.prog w = .ok (x0 == y0 && (x1 == y1 && (x2 == y2 && (x3 == y3 && (x4 == y4 && (x5 == y5)))))) w := by
 refine eqA_of Tryz.underlying29 (by kernel_rfl) ?_
 refine qWC (by rfl) (by go_simp; rfl) (by go_simp; rfl) (by go_simp) ?_
 refine qWC (by rfl) (by go_simp; rfl) (by go_simp; rfl) (by go_simp) ?_
 refine qWC (by rfl) (by go_simp; rfl) (by go_simp; rfl) (by go_simp) ?_
 refine qWC (by rfl) (by go_simp; rfl) (by go_simp; rfl) (by go_simp) ?_
 refine qWC (by rfl) (by go_simp; rfl) (by go_simp; rfl) (by go_simp) ?_
 exact eqf_last (by rfl) (by go_simp; rfl) (by go_simp; rfl) (by go_simp)
end Go.Proofs.YtdhbimankkpllaaGreatDoor.P
namespace Go.Proofs.YtdhbimankkpllaaGreatDoor
open Go.RowKit Go.Sort Go.Proofs.YtdhbimankkpllaaGreatDoor.P Go.Proofs.YtdhbimankkpllaaGreatDoorW.PrintWords Go.Proofs.YtdhbimankkpllaaGreatDoorW.PrintLast
open Go.Lib (keeps compactUpTo CompInv keeps_lt_one keeps_pos keeps_neg)
set_option linter.unusedVariables false
set_option linter.unusedSimpArgs false
abbrev DS := S29
theorem eqCD (d : Nat) (w : World) (x y : DS) :
  (Op.equalIn (d + 2) 29 (.agg #[.int .i64 x.f0, .int .i64 x.f1, .int .i64 x.f2, .int .i64 x.f3, .int .i64 x.f4, .int .i64 x.f5]) (.agg #[.int .i64 y.f0, .int .i64 y.f1, .int .i64 y.f2, .int .i64 y.f3, .int .i64 y.f4, .int .i64 y.f5])).run Tryz.prog w = .ok (decide (x = y)) w := by
 rw [eqA29]
 congr 1
 by_cases h : x = y
 case pos => subst h; simp
 rw [decide_eq_false h]
 apply Bool.eq_false_iff.2
 intro h2
 simp only [Bool.and_eq_true, beq_iff_eq] at h2
 exact h (qdD h2.1 h2.2.1 h2.2.2.1 h2.2.2.2.1 h2.2.2.2.2.1 h2.2.2.2.2.2)
theorem at6 {wr : World} {B : Addr} {blk i : Nat} (hB : B = ⟨blk, i * 6, none⟩) {dk : Array DS} (h : HoldsK encDX 6 wr blk 0 dk) (hi : i < dk.size) {x : DS} (hx : dk[i]! = x) :
  (wr.cell? B = some (.int .i64 x.f0) ∧ wr.cell? ⟨B.block, B.off + 1, none⟩ = some (.int .i64 x.f1) ∧ wr.cell? ⟨B.block, B.off + 2, none⟩ = some (.int .i64 x.f2) ∧ wr.cell? ⟨B.block, B.off + 3, none⟩ = some (.int .i64 x.f3) ∧ wr.cell? ⟨B.block, B.off + 4, none⟩ = some (.int .i64 x.f4) ∧ wr.cell? ⟨B.block, B.off + 5, none⟩ = some (.int .i64 x.f5)) ∧
  (wr.frozen? B = false ∧ wr.frozen? ⟨B.block, B.off + 1, none⟩ = false ∧ wr.frozen? ⟨B.block, B.off + 2, none⟩ = false ∧ wr.frozen? ⟨B.block, B.off + 3, none⟩ = false ∧ wr.frozen? ⟨B.block, B.off + 4, none⟩ = false ∧ wr.frozen? ⟨B.block, B.off + 5, none⟩ = false) := by
 subst hB
 have q : ∀ c, c < 6 → _ := fun c hc => h.cell hi hc
 rw [hx] at q
 have e : ∀ c, 0 + i * 6 + c = i * 6 + c := fun c => by omega
 simp only [e] at q
 exact ⟨⟨(q 0 (by omega)).1, (q 1 (by omega)).1, (q 2 (by omega)).1, (q 3 (by omega)).1, (q 4 (by omega)).1, (q 5 (by omega)).1⟩, ⟨(q 0 (by omega)).2, (q 1 (by omega)).2, (q 2 (by omega)).2, (q 3 (by omega)).2, (q 4 (by omega)).2, (q 5 (by omega)).2⟩⟩
theorem ad_at {ad : Addr} {blk : Nat} (had : ad = ⟨blk, 0, none⟩) (i : Nat) : ad.add (i * 6) = ⟨blk, i * 6, none⟩ := by
 subst had
 rw [Addr.add_lit, Nat.zero_add]
theorem ad_at2 {ad ad2 : Addr} {blk k : Nat} (had : ad = ⟨blk, 0, none⟩) (h2 : ad.add (k * 6) = ad2) (i : Nat) : ad2.add (i * 6) = ⟨blk, (k + i) * 6, none⟩ := by
 subst h2
 rw [ad_at had, Addr.add_lit, Nat.add_mul]
theorem setMany_set (d : Array DS) (i : Nat) (u : DS) (hi : i < d.size) : setMany (flatK encDX 6 d) (i * 6) (encDX u) = flatK encDX 6 (d.setIfInBounds i u) := by
 refine ext_get! (by simp) fun t ht => ?_
 have ht' : t < d.size * 6 := by simpa using ht
 have hl : (encDX u).length = 6 := rfl
 rw [get_setMany _ _ _ t (by simpa using ht'), get_flatK _ _ _ t ht', get_flatK _ _ _ t (by simpa using ht'), hl]
 by_cases a : t / 6 = i
 case pos => rw [if_pos ((blk_iff 6 i t (by decide)).2 a), show t - i * 6 = t % 6 by omega, a, show (d.setIfInBounds i u)[i]! = u by simp [hi]]
 rw [if_neg (fun h => a ((blk_iff 6 i t (by decide)).1 h))]
 have e : (d.setIfInBounds i u)[t / 6]! = d[t / 6]! := by
  have h1 : t / 6 < d.size := by omega
  rw [getElem!_pos (d.setIfInBounds i u) (t / 6) (by simpa using h1), getElem!_pos d (t / 6) h1, Array.getElem_setIfInBounds, if_neg (fun h => a h.symm)]
 rw [e]
theorem store_world6 {w wr : World} {q nq blk : Nat} {dk : Array DS} {i : Nat} (hi : i < dk.size) (hwr : wr = putRowK encDX 6 (Sort.ahead w q) blk 0 dk) (u : DS) :
  (wr.drewN nq).setCells blk (i * 6) (encDX u) = putRowK encDX 6 (Sort.ahead w (q + nq)) blk 0 (dk.setIfInBounds i u) := by
 subst hwr
 rw [putRowK_drewN]
 have h := setCells_putRow (Sort.ahead w (q + nq)) blk 0 (encDX u) (i * 6) (flatK encDX 6 dk) (by rw [size_flatK]; show i * 6 + 6 ≤ _; omega)
 rw [Nat.zero_add] at h
 unfold putRowK
 rw [h, setMany_set dk i u hi]
theorem there6 {wr : World} {blk : Nat} {dk : Array DS} (h : HoldsK encDX 6 wr blk 0 dk) (o n : Nat) (hn : o + n ≤ dk.size * 6) : wr.there blk o n := fun j hj => by
 have := h (o + j) (by rw [size_flatK]; omega)
 rw [Nat.zero_add] at this
 exact ⟨by rw [this.1]; rfl, this.2⟩
theorem clear6 (wr : World) (ty : TypeId) (blk o n c : Nat) (hn : 0 < n) (ht : wr.there blk o (n * 6)) :
  (Builtin.clear_ #[36] ty #[.slice (some ⟨blk, o, none⟩) n c]).run Tryz.prog wr = .ok (.tuple #[]) (wr.setCells blk o (List.replicate (n * 6) (.int .i64 0))) := by
 have hzc : (Builtin.zeroCells (Value.agg #[.int .i64 0, .int .i64 0, .int .i64 0, .int .i64 0, .int .i64 0, .int .i64 0]).cells n).toList = List.replicate (n * 6) (Value.int .i64 0) := by
  simp [Builtin.zeroCells, Value.cells]
  apply List.ext_getElem
  ·simp [Nat.mul_comm]
  ·intro i h1 h2
   have : i % 6 = 0 ∨ i % 6 = 1 ∨ i % 6 = 2 ∨ i % 6 = 3 ∨ i % 6 = 4 ∨ i % 6 = 5 := by omega
   rcases this with h | h | h | h | h | h <;> simp [h]
 have hst := run_storeCells_cells (P := Tryz.prog) blk o (List.replicate (n * 6) (Value.int .i64 0)) 0 wr (by simpa using fun j hj => (ht j hj).1) (by simpa using fun j hj => (ht j hj).2) (by intro v hv'; rw [List.eq_of_mem_replicate hv']; rfl)
 simp only [Nat.add_zero] at hst
 obtain ⟨m, rfl⟩ : ∃ m, n = m + 1 := ⟨n - 1, by omega⟩
 simp [Builtin.clear_, run_underlying Tryz.underlying36, Tryz.zeroValue29, hzc, hst]
theorem done6 {w wr : World} {q blk : Nat} {d dk : Array DS} {kk : Nat} (hI : CompInv d d.size kk dk) (hwr : wr = putRowK encDX 6 (Sort.ahead w q) blk 0 dk) :
  ∃ q F, wr.setCells blk (kk * 6) (List.replicate ((d.size - kk) * 6) (.int .i64 0)) = putRow id (Sort.ahead w q) blk 0 F ∧ F.size = d.size * 6 ∧ ∀ i, i < (compactUpTo d d.size).length → ∀ c, c < 6 → F[i * 6 + c]! = (encDX (compactUpTo d d.size)[i]!)[c]! := by
 subst hwr
 have hs := hI.size
 have hk := hI.lt
 have h := setCells_putRow (Sort.ahead w q) blk 0 (List.replicate ((d.size - kk) * 6) (.int .i64 0)) (kk * 6) (flatK encDX 6 dk) (by rw [size_flatK, List.length_replicate]; omega)
 rw [Nat.zero_add] at h
 refine ⟨q, _, h, by rw [size_setMany, size_flatK, hs], fun i hi c hc => ?_⟩
 rw [hI.len] at hi
 rw [get_setMany _ _ _ _ (by rw [size_flatK]; omega), if_neg (by omega), get_flatK _ _ _ _ (by omega), show (i * 6 + c) / 6 = i by omega, show (i * 6 + c) % 6 = c by omega]
 have e : (compactUpTo d d.size)[i]! = dk[i]! := by
  have h2 := hI.low i hi
  obtain ⟨hl, h3⟩ := List.getElem?_eq_some_iff.1 h2
  rw [getElem!_pos (compactUpTo d d.size) i hl, h3]
 rw [e]
attribute [local go_sem high] eqCD
set_option maxHeartbeats 4000000 in
set_option maxRecDepth 100000 in
theorem compactDie_arr (ad : Addr) (blk cap : Nat) (had : ad = ⟨blk, 0, none⟩) (d : Array DS) (w : World) (hH : HoldsK encDX 6 w blk 0 d) (hsz : d.size ≤ 9223372036854775807) (hcap : d.size ≤ cap) :
  Calls Tryz.prog 35 #[.slice (some ad) d.size cap] w fun e w' => e = .returned (.slice (some ad) (compactUpTo d d.size).length cap) ∧ ∃ q F, w' = putRow id (Sort.ahead w q) blk 0 F ∧ F.size = d.size * 6 ∧ ∀ i, i < (compactUpTo d d.size).length → ∀ c, c < 6 → F[i * 6 + c]! = (encDX (compactUpTo d d.size)[i]!)[c]! := by
 have hu := Tryz.underlying29
 have same : ∀ q, (∀ j, j < d.size → keeps d j = true) → (compactUpTo d d.size).length = d.size ∧ ∃ q1 F, w.drewN q = putRow id (Sort.ahead w q1) blk 0 F ∧ F.size = d.size * 6 ∧ ∀ i, i < (compactUpTo d d.size).length → ∀ c, c < 6 → F[i * 6 + c]! = (encDX (compactUpTo d d.size)[i]!)[c]! := by
  intro q hall
  have e : compactUpTo d d.size = d.toList := by rw [Lib.compactUpTo_all d _ hall, Lib.range_map_get]
  refine ⟨by rw [e]; simp, q, flatK encDX 6 d, (putRowK_self encDX 6 (Sort.ahead w q) blk 0 d (holdsK_ahead encDX 6 w q blk 0 d hH)).symm, size_flatK _ _ _, fun i hi c hc => ?_⟩
  rw [e] at hi ⊢
  have hi2 : i < d.size := by simpa using hi
  rw [get_flatK _ _ _ _ (by omega), show (i * 6 + c) / 6 = i by omega, show (i * 6 + c) % 6 = c by omega]
  have e2 : d.toList[i]! = d[i]! := by simp [hi2]
  rw [e2]
 have HS := aM same
 have HAD := aM had
 have HH := aM hH
 clear hH had same
 by_cases h2 : d.size < 2
 ·go_enter Tryz.func35, Tryz.ntmps35
  go_wp2
  go_ret
  obtain ⟨e1, e2⟩ := HS.out 0 (fun j hj => keeps_lt_one d j (by omega))
  exact ⟨by rw [e1]; rfl, e2⟩
 ·go_enter Tryz.func35, Tryz.ntmps35
  go_wp2
  go_loopg [3] d.size (fun g s3 wr => ∃ k q : Nat, 1 ≤ k ∧ k ≤ d.size ∧ d.size - k ≤ g ∧ s3 = .int .i64 k ∧ wr = w.drewN q ∧ ∀ j, j < k → keeps d j = true)
  case atStart => exact ⟨1, 0, Nat.le_refl _, by omega, by omega, rfl, rfl, keeps_lt_one d⟩
  case round =>
   obtain ⟨k, q, hk1, hk, hg, rfl, rfl, hall⟩ := hrel
   have A := aM hall
   clear hall
   by_cases hlt : k < d.size
   ·have HH2 : HoldsK encDX 6 w blk 0 d := HH.out
    obtain ⟨x, hx⟩ : ∃ x, d[k]! = x := ⟨_, rfl⟩
    obtain ⟨y, hy⟩ : ∃ y, d[k - 1]! = y := ⟨_, rfl⟩
    obtain ⟨⟨a0, a1, a2, a3, a4, a5⟩, _⟩ := at6 (ad_at HAD.out k) HH2 hlt hx
    obtain ⟨⟨b0, b1, b2, b3, b4, b5⟩, _⟩ := at6 (ad_at HAD.out (k - 1)) HH2 (show k - 1 < d.size by omega) hy
    have B := aM (show d[k]! = x ∧ d[k - 1]! = y from ⟨hx, hy⟩)
    clear hx hy HH2
    have hwr : IntKind.i64.wrap ((k : Int) - 1) = (k : Int) - 1 := by rw [IntKind.wrap_i64]; omega
    have hm0 : (0 : Int) ≤ (k : Int) - 1 := by omega
    have hm1 : (k : Int) - 1 < (d.size : Int) := by omega
    have hm2 : ((k : Int) - 1).toNat = k - 1 := by omega
    have hm3 : (1 : Int) ≤ (k : Int) := by omega
    go_wp2
    go_quiet (fail)
    by_cases hdup : x = y
    ·subst hdup
     rw [decide_eq_true rfl]
     clear a0 a1 a2 a3 a4 a5 b0 b1 b2 b3 b4 b5 hwr hm0 hm1 hm2 hm3
     go_wp2
     obtain ⟨ad2, had2⟩ : ∃ ad2, ad.add (k * 6) = ad2 := ⟨_, rfl⟩
     have HA2 := aM had2
     rw [had2]
     clear had2
     go_loopg [3, 5] d.size (fun g s3 s5 wr => ∃ (kk k2 q2 : Nat) (dk : Array DS), s3 = .int .i64 kk ∧ s5 = .int .i64 k2 ∧ 1 ≤ k2 ∧ k + k2 ≤ d.size ∧ d.size - (k + k2) ≤ g ∧ Aside0 (wr = putRowK encDX 6 (Sort.ahead w q2) blk 0 dk) ∧ Aside0 (CompInv d (k + k2) kk dk))
     case atStart => exact ⟨k, 1, q + nq, d, rfl, rfl, Nat.le_refl _, by omega, by omega, ⟨(putRowK_self encDX 6 (Sort.ahead w (q + nq)) blk 0 d (holdsK_ahead encDX 6 w (q + nq) blk 0 d HH.out)).symm⟩, ⟨CompInv.start A.out (keeps_neg (by omega) (by rw [B.out.1, B.out.2]))⟩⟩
     case round =>
      obtain ⟨kk, k2, q2, dk, rfl, rfl, h1, hle, hg2, W2, I2⟩ := hrel
      rename World => wr
      have hkk := I2.out.lt
      have hds := I2.out.size
      have hHk : HoldsK encDX 6 wr blk 0 dk := by rw [W2.out]; exact holdsK_putRowK encDX 6 _ blk 0 d dk (holdsK_ahead encDX 6 w q2 blk 0 d HH.out) hds
      have HHK := aM hHk
      clear hHk
      by_cases hlt2 : k + k2 < d.size
      ·obtain ⟨u, hu1⟩ : ∃ u, d[k + k2]! = u := ⟨_, rfl⟩
       obtain ⟨v, hv1⟩ : ∃ v, d[k + k2 - 1]! = v := ⟨_, rfl⟩
       obtain ⟨old, ho1⟩ : ∃ old, dk[kk]! = old := ⟨_, rfl⟩
       obtain ⟨⟨a0, a1, a2, a3, a4, a5⟩, _⟩ := at6 (ad_at2 HAD.out HA2.out k2) HHK.out (show k + k2 < dk.size by omega) ((I2.out.high (k + k2) (by omega)).trans hu1)
       obtain ⟨⟨b0, b1, b2, b3, b4, b5⟩, _⟩ := at6 (ad_at2 HAD.out HA2.out (k2 - 1)) HHK.out (show k + (k2 - 1) < dk.size by omega) ((I2.out.high (k + (k2 - 1)) (by omega)).trans ((show k + (k2 - 1) = k + k2 - 1 by omega) ▸ hv1))
       obtain ⟨⟨c0, c1, c2, c3, c4, c5⟩, f0, f1, f2, f3, f4, f5⟩ := at6 (ad_at HAD.out kk) HHK.out (show kk < dk.size by omega) ho1
       have C := aM (show d[k + k2]! = u ∧ d[k + k2 - 1]! = v from ⟨hu1, hv1⟩)
       clear hu1 hv1 ho1
       have hwr : IntKind.i64.wrap ((k2 : Int) - 1) = (k2 : Int) - 1 := by rw [IntKind.wrap_i64]; omega
       have hm0 : (0 : Int) ≤ (k2 : Int) - 1 := by omega
       have hm1 : (k2 : Int) - 1 < ((d.size - k : Nat) : Int) := by omega
       have hm2 : ((k2 : Int) - 1).toNat = k2 - 1 := by omega
       have hm3 : (1 : Int) ≤ (k2 : Int) := by omega
       have hm4 : (k2 : Int) < ((d.size - k : Nat) : Int) := by omega
       go_wp2
       go_quiet (fail)
       by_cases huv : u = v
       ·subst huv
        rw [decide_eq_true rfl]
        go_wp2
        go_roundg (d.size - (k + (k2 + 1)))
        case measure => omega
        case rel => exact ⟨kk, k2 + 1, q2 + nq, dk, rfl, by go_num, by omega, by omega, Nat.le_refl _, ⟨by rw [W2.out]; exact putRowK_drewN encDX 6 w q2 nq blk 0 dk⟩, ⟨I2.out.skip (keeps_neg (by omega) (by rw [C.out.1, C.out.2]))⟩⟩
       ·rw [decide_eq_false huv]
        have THR := aM (show (wr.drewN nq).there blk (kk * 6) 6 from there6 HHK.out (kk * 6) 6 (by omega))
        go_wp2_with (first
         | ((with_reducible refine qyA (t := 29) (p := 51) rfl ?_); refine wpList_store_mid (by rfl) 29 (.tmp 51) (.tmp 50) (by rfl) blk (kk * 6) #[.int .i64 u.f0, .int .i64 u.f1, .int .i64 u.f2, .int .i64 u.f3, .int .i64 u.f4, .int .i64 u.f5] ?hx ?hy ?ht ?hi ?h1 ?_; (case hy => rfl); (case hi => kernel_rfl); (case h1 => simp [Value.oneCell']); (case hx => show Value.pointer (some (ad.add (kk * 6))) = _; rw [ad_at HAD.out kk]); (case ht => exact THR.out)))
        go_roundg (d.size - (k + (k2 + 1)))
        case measure => omega
        case rel => exact ⟨kk + 1, k2 + 1, q2 + nq, dk.setIfInBounds kk u, by go_num, by go_num, by omega, by omega, Nat.le_refl _, ⟨store_world6 (by omega) W2.out u⟩, ⟨by have := I2.out.keep hlt2 (keeps_pos (by rw [C.out.1, C.out.2]; exact huv)); rwa [C.out.1] at this⟩⟩
      ·have hnl : ¬ k2 < d.size - k := by omega
       have hnl2 : ¬ (k2 : Int) < ((d.size - k : Nat) : Int) := by omega
       have hcl := aM (fun ty => clear6 wr ty blk (kk * 6) (d.size - kk) (cap - kk) (by omega) (there6 HHK.out (kk * 6) ((d.size - kk) * 6) (by omega)))
       go_wp2
       rw [ad_at HAD.out kk, hcl.out]
       go_wp2
       go_ret
       have hI := I2.out
       rw [show k + k2 = d.size by omega] at hI
       exact ⟨by rw [hI.len]; rfl, done6 hI W2.out⟩
    ·rw [decide_eq_false hdup]
     go_wp2
     go_roundg (d.size - (k + 1))
     case measure => omega
     case rel =>
      refine ⟨k + 1, q + nq, by omega, by omega, Nat.le_refl _, by go_num, rfl, fun j hj => ?_⟩
      by_cases e : j = k
      case neg => exact A.out j (by omega)
      subst e
      exact keeps_pos (by rw [B.out.1, B.out.2]; exact hdup)
   ·have : k = d.size := by omega
    subst this
    go_wp2
    go_ret
    obtain ⟨e1, e2⟩ := HS.out q A.out
    exact ⟨by rw [e1]; rfl, e2⟩
end Go.Proofs.YtdhbimankkpllaaGreatDoor
namespace Go.Proofs.YtdhbimankkpllaaGreatDoor
open Go.RowKit Go.Sort Go.Proofs.YtdhbimankkpllaaGreatDoor.P Go.Proofs.YtdhbimankkpllaaGreatDoorW.PrintWords Go.Proofs.YtdhbimankkpllaaGreatDoorW.PrintLast
open Go.Lib (keeps compactUpTo)
set_option linter.unusedVariables false
set_option linter.unusedSimpArgs false
theorem compactD_put {cur F : Array Value} {ys : List DS} {N : Nat} (hF : F.size = N * 6) (hN : N * 6 ≤ cur.size) (hy : ys.length ≤ N) (hc : ∀ i, i < ys.length → ∀ c, c < 6 → F[i * 6 + c]! = (encDX ys[i]!)[c]!) (w : World) (base : Nat) (ok : Nat → Prop) :
  Reps (k29.M w base ok) 6 ys ((putCells id 0 F cur).toList.take (ys.length * 6)) := by
 have hsz : (putCells id 0 F cur).toList.length = cur.size := by simp [putCells]
 refine ⟨by rw [List.length_take, hsz]; omega, fun j x hx => ?_⟩
 have hj : j < ys.length := (List.getElem?_eq_some_iff.1 hx).1
 have hv : ys[j] = x := by rw [List.getElem?_eq_getElem hj] at hx; injection hx
 have e : (((putCells id 0 F cur).toList.take (ys.length * 6)).drop (j * 6)).take 6 = encDX x := by
  refine List.ext_getElem? fun i => ?_
  rw [List.getElem?_take]
  by_cases hi : i < 6
  case neg => rw [if_neg hi, List.getElem?_eq_none (by show 6 ≤ i; omega)]
  rw [if_pos hi, List.getElem?_drop, List.getElem?_take, if_pos (by omega), Array.getElem?_toList]
  simp only [putCells, Array.getElem?_mapIdx]
  rw [Array.getElem?_eq_getElem (show j * 6 + i < cur.size by omega), Option.map_some, if_pos ⟨Nat.zero_le _, by omega⟩, Nat.sub_zero, hc j hj i hi]
  have e2 : ys[j]! = x := by rw [getElem!_pos ys j hj, hv]
  rw [e2, qyC _ _ hi]
  rfl
 rw [e]
 exact qgB w base ok x
theorem compact_len (l : List DS) : (Lib.compact l).length ≤ l.length := by
 unfold Lib.compact compactUpTo
 rw [List.length_map]
 exact Nat.le_trans (List.length_filter_le _ _) (by simp)
set_option maxHeartbeats 1000000 in
theorem compactDie_empty (w : World) : Calls Tryz.prog 35 #[.slice none 0 0] w fun e w' => e = .returned (.slice none 0 0) ∧ w' = w := by
 go_enter Tryz.func35, Tryz.ntmps35
 go_wp2
 go_ret
 exact ⟨rfl, rfl⟩
theorem compactDox.calls (ok : Nat → Prop) (v : Value) (l : List DS) (w0 w : World) (hB : Below w0.heap.size w0 w) (ho : Kd.R k29 29 w w0.heap.size ok v l) :
  Calls Tryz.prog 35 #[v] w fun e w' => ∃ v', e = .returned v' ∧ Kd.R k29 29 w' w0.heap.size ok v' (Lib.compact l) ∧ Below w0.heap.size w0 w' := by
 obtain ⟨hok, inner, hown, hr⟩ := ho
 have hsz : k29.sz = 6 := rfl
 rcases hown.2 with ⟨hv, hn⟩ | ⟨g, cap, cur, hv, hbase, hheap, hncap, hmax, hsize, htake⟩
 ·subst hv
  have hl : l = [] := List.eq_nil_of_length_eq_zero hn
  subst hl
  refine (compactDie_empty w).mono fun e w' hq => ?_
  obtain ⟨he, rfl⟩ := hq
  exact ⟨_, he, Kd.R_nil k29 29 w' w0.heap.size _, hB⟩
 ·subst hv
  rw [hsz] at htake hsize hr
  have hg : g < w.heap.size := by
   rcases Nat.lt_or_ge g w.heap.size with h1 | h1
   ·exact h1
   ·rw [Array.getElem?_eq_none h1] at hheap; cases hheap
  have hH : HoldsK encDX 6 w g 0 l.toArray := sortD_holds (fun x cs hx => qvC hx) hheap htake hr
  have hcall := compactDie_arr ⟨g, 0, none⟩ g cap rfl l.toArray w hH (by have h9 : maxLen ≤ 9223372036854775807 := (by decide); simp only [List.size_toArray]; omega) (by simpa using hncap)
  have hcall2 : Calls Tryz.prog 35 #[.slice (some ⟨g, 0, none⟩) l.length cap] w _ := hcall
  refine hcall2.mono fun e w' hq => ?_
  obtain ⟨he, q, F, rfl, hF, hcells⟩ := hq
  have hsa : l.toArray.size = l.length := rfl
  rw [hsa] at he hF hcells
  have hle := compact_len l
  have hoth : ∀ k, k < w.heap.size → k ≠ g → (putRow id (Sort.ahead w q) g 0 F).heap[k]? = w.heap[k]? := by
   intro k hk hne
   simp only [putRow, mapBlock, Array.getElem?_modify, if_neg (Ne.symm hne), heap_ahead]
  have hown' : (putRow id (Sort.ahead w q) g 0 F).heap[g]? = some (.cells (putCells id 0 F cur) 29 (0, 0)) := by
   simp only [putRow, mapBlock, Array.getElem?_modify, heap_ahead, hheap, if_true, Option.map_some, onCells]
  have hle2 : l.length * 6 ≤ cur.size := by rw [hsize]; exact Nat.mul_le_mul_right 6 hncap
  refine ⟨_, he, ⟨hok, _, ⟨?_, .inr ⟨g, cap, _, rfl, hbase, hown', Nat.le_trans hle hncap, hmax, by rw [hsz, ← hsize]; simp [putCells], by rw [hsz]⟩⟩, compactD_put hF hle2 hle hcells _ _ _⟩, ⟨hB.os, hB.tape, hB.output, Nat.le_trans hB.size (by simp), ?_⟩⟩
  ·rw [hsz, List.length_take]
   simp [putCells]
   have : (compactUpTo l.toArray l.length).length ≤ l.length := hle
   omega
  ·intro k hk
   rw [hoth k (Nat.lt_of_lt_of_le hk hB.size) (by omega)]
   exact hB.block k hk
set_option maxHeartbeats 2000000 in
set_option maxRecDepth 100000 in
theorem sortedDie.calls (v : Value) (l : List DS) (w0 w : World) (hB : Below w0.heap.size w0 w) (ho : Kd.R k29 29 w w0.heap.size (fun _ => True) v l) (hl : l.length < 4611686018427387904) :
  Calls Tryz.prog 24 #[v] w fun e w' => ∃ v', e = .returned v' ∧ Kd.R k29 29 w' w0.heap.size (fun _ => True) v' (Lib.compact (l.mergeSort fun x y => !(ltOf ordDie) y x)) ∧ Below w0.heap.size w0 w' := by
 have HB := aM hB
 have HO := aM ho
 have HF := aM (show qpC.f l = some (l.mergeSort fun x y => !(ltOf ordDie) y x) from if_pos hl)
 clear hB ho hl
 go_enter Tryz.func24, Tryz.ntmps24
 go_wp2_with (first
  | ((with_reducible refine qF (f := 33) rfl ?_); refine qh (some 4) rfl rfl Tryz.func33 (by kernel_rfl) rfl #[v, .func (.func 34) #[] #[]] rfl (by (try simp only [List.map_toArray, List.map_cons, List.map_nil]); first | done | rfl | simp) ?_; refine (qpC.calls (fun _ => True) v l _ w0 w HB.out HO.out HF.out).mono ?_; rintro e w1 ⟨rfl, ho1, hb1, _⟩; refine ⟨_, rfl, ?_⟩; have HO1 := aM (Kd.qY ho1 (ok' := fun _ => True) (fun _ _ => trivial)); have HB1 := aM hb1; clear ho1 hb1)
  | ((with_reducible refine qF (f := 35) rfl ?_); refine qh (some 6) rfl rfl Tryz.func35 (by kernel_rfl) rfl #[v] rfl (by (try simp only [List.map_toArray, List.map_cons, List.map_nil]); first | done | rfl | simp) ?_; refine (compactDox.calls (fun _ => True) v _ w0 _ HB1.out HO1.out).mono ?_; rintro e w2 ⟨v', rfl, ho2, hb2⟩; refine ⟨_, rfl, ?_⟩; have HO2 := aM ho2; have HB2 := aM hb2; clear ho2 hb2))
 go_ret
 exact ⟨_, rfl, HO2.out, HB2.out⟩
end Go.Proofs.YtdhbimankkpllaaGreatDoor
namespace Go.Proofs.YtdhbimankkpllaaGreatDoor.P
open Go.RowKit Go.Proofs.YtdhbimankkpllaaGreatDoorW.PrintWords Go.Proofs.YtdhbimankkpllaaGreatDoorW.PrintLast Go.Proofs.YtdhbimankkpllaaGreatDoorW.PrintMore
attribute [local go_sem] qq qo qBA qAA qe qd qp qn
set_option linter.unusedVariables false
set_option linter.unusedSimpArgs false
def qtA.f (a0_0 : Int) (a0_1 : Int) (a0_2 : Int) (a0_3 : Int) (a0_4 : Int) (a0_5 : Int) (a0_6 : Int) (a0_7 : Int) (a1 : Int) (a2 : Int) : Option (Bool) := if a0_0 = a1 then (some (a0_1 == a2)) else (some false)
set_option maxHeartbeats 8000000 in
set_option maxRecDepth 100000 in
theorem qtA.calls (a0_0 : Int) (a0_1 : Int) (a0_2 : Int) (a0_3 : Int) (a0_4 : Int) (a0_5 : Int) (a0_6 : Int) (a0_7 : Int) (a1 : Int) (a2 : Int) (r : Bool) (w : World) (h : qtA.f a0_0 a0_1 a0_2 a0_3 a0_4 a0_5 a0_6 a0_7 a1 a2 = some r) :
  Calls Tryz.prog 23 #[.agg #[.int .i64 a0_0, .int .i64 a0_1, .int .i64 a0_2, .int .i64 a0_3, .int .i64 a0_4, .int .i64 a0_5, .int .i64 a0_6, .int .i64 a0_7], .int .i64 a1, .int .i64 a2] w fun e w' => e = .returned (.bool r) ∧ Below w.heap.size w w' := by
 have hu31 := Tryz.underlying31
 have HB := aM (Below.refl w.heap.size w)
 have H : (if a0_0 = a1 then (some (a0_1 == a2)) else (some false)) = some r := h
 clear h
 by_cases c4 : a0_0 = a1
 ·rw [if_pos c4] at H
  have c4b0 := beq_iff_eq.mpr c4
  have c4b1 := bne_eq_false_iff_eq.mpr c4
  clear c4
  obtain rfl := Option.some.inj H
  go_enter Tryz.func23, Tryz.ntmps23
  go_wp2_with (first | ((with_reducible refine qN (N := 3) rfl ?_); refine bE (N := 3) (cs := #[.int .i64 a0_0, .int .i64 a0_1, .int .i64 a0_2, .int .i64 a0_3, .int .i64 a0_4, .int .i64 a0_5, .int .i64 a0_6, .int .i64 a0_7]) (t := 31) ?_; intro gb382 hg w5 hbox hb; have BK382 := aM (hbox); have GW382 := aM ((gg hg)); have GE382 := aM ((gg hg)); replace HB := aM (qB bl hb); clear hb hbox hg; (refine cb8 BK382 ?_; intro _ _ _ _ _ _ _ _); (refine cz8 BK382 ?_; intro _ _ _ _ _ _ _ _)))
  go_ret
  exact ⟨sR, bl⟩
 ·rw [if_neg c4] at H
  have c4b0 := beq_eq_false_iff_ne.mpr c4
  have c4b1 := bne_iff_ne.mpr c4
  obtain rfl := Option.some.inj H
  go_enter Tryz.func23, Tryz.ntmps23
  go_wp2_with (first | ((with_reducible refine qN (N := 3) rfl ?_); refine bE (N := 3) (cs := #[.int .i64 a0_0, .int .i64 a0_1, .int .i64 a0_2, .int .i64 a0_3, .int .i64 a0_4, .int .i64 a0_5, .int .i64 a0_6, .int .i64 a0_7]) (t := 31) ?_; intro gb382 hg w7 hbox hb; have BK382 := aM (hbox); have GW382 := aM ((gg hg)); have GE382 := aM ((gg hg)); replace HB := aM (qB bl hb); clear hb hbox hg; (refine cb8 BK382 ?_; intro _ _ _ _ _ _ _ _); (refine cz8 BK382 ?_; intro _ _ _ _ _ _ _ _)))
  go_ret
  exact ⟨sR, bl⟩
end Go.Proofs.YtdhbimankkpllaaGreatDoor.P
namespace Go.Proofs.YtdhbimankkpllaaGreatDoor
open Go.RowKit Go.Sort Go.Proofs.YtdhbimankkpllaaGreatDoor.P Go.Proofs.YtdhbimankkpllaaGreatDoorW.PrintWords Go.Proofs.YtdhbimankkpllaaGreatDoorW.PrintLast Go.Proofs.YtdhbimankkpllaaGreatDoorW.PrintMore
set_option linter.unusedVariables false
set_option linter.unusedSimpArgs false
def diceL (L : List (XS × WB)) (x y : Int) : List DD := (L.filter fun z => decide (z.1.f0 = x) && decide (z.1.f1 = y)).map fun z => z.1.f2
def diceS (l : List DD) : List DD := Lib.compact (l.mergeSort fun p q => !(ltOf ordDie) q p)
def diceB (a : ByteArray) (s : XS) (x y : Int) : List DD × Bool := if askC a s x y = true then (diceS (diceL (reachW a s) x y), true) else ([], false)
theorem qzC (L : List (XS × WB)) (x y : Int) : (diceL L x y).length ≤ L.length := by
 unfold diceL
 rw [List.length_map]
 exact List.length_filter_le _ _
theorem diceL_take (L : List (XS × WB)) (x y : Int) (j : Nat) {z : XS × WB} (hz : L[j]? = some z) : diceL (L.take (j + 1)) x y = if (decide (z.1.f0 = x) && decide (z.1.f1 = y)) = true then diceL (L.take j) x y ++ [z.1.f2] else diceL (L.take j) x y := by
 have hj := (List.getElem?_eq_some_iff.1 hz).1
 unfold diceL
 rw [List.take_succ_eq_append_getElem hj, List.filter_append, List.map_append, (List.getElem?_eq_some_iff.1 hz).2]
 split
 ·rename_i h
  rw [List.filter_cons_of_pos (p := fun z : XS × WB => decide (z.1.f0 = x) && decide (z.1.f1 = y)) h, List.filter_nil]; rfl
 ·rename_i h
  rw [List.filter_cons_of_neg (p := fun z : XS × WB => decide (z.1.f0 = x) && decide (z.1.f1 = y)) h, List.filter_nil]; simp
theorem isAt_eq (z : XS) (x y : Int) : qtA.f z.f0 z.f1 z.f2.f0 z.f2.f1 z.f2.f2 z.f2.f3 z.f2.f4 z.f2.f5 x y = some (decide (z.f0 = x) && decide (z.f1 = y)) := by
 unfold qtA.f
 by_cases h : z.f0 = x
 ·rw [if_pos h, decide_eq_true h, Bool.true_and]
  by_cases h2 : z.f1 = y
  case neg => simp [h2]
  simp [h2]
 ·rw [if_neg h, decide_eq_false h, Bool.false_and]
theorem dcInfo : (Tryz.prog.info? 29).map (fun i => (i.zero, i.size, i.bytes)) = some (some (.agg #[(.int .i64 0), (.int .i64 0), (.int .i64 0), (.int .i64 0), (.int .i64 0), (.int .i64 0)]), 6, 48) := by kernel_rfl
set_option maxHeartbeats 4000000 in
set_option maxRecDepth 100000 in
theorem diceAt_calls (a : ByteArray) (ha : a.size ≤ 1048576) (s : XS) (x y : Int) (w : World) (hL : Laid w) :
  Calls Tryz.prog 12 #[.string a, .agg #[.int .i64 s.f0, .int .i64 s.f1, .int .i64 s.f2.f0, .int .i64 s.f2.f1, .int .i64 s.f2.f2, .int .i64 s.f2.f3, .int .i64 s.f2.f4, .int .i64 s.f2.f5], .int .i64 x, .int .i64 y] w fun e w' =>
   ∃ v : Value, e = .returned (.tuple #[v, .bool (diceB a s x y).2]) ∧ Kd.R k29 29 w' w.heap.size (fun _ => True) v (diceB a s x y).1 ∧ Below w.heap.size w w' := by
 have hu_ := Tryz.underlying31
 have HL := aM hL
 have HA := aM ha
 have B := aM (Below.refl w.heap.size w)
 clear hL ha
 unfold diceB
 cases hA : askC a s x y with
 | false =>
  rw [if_neg (by decide)]
  have HAS := aM hA
  clear hA
  go_enter Tryz.func12, Tryz.ntmps12
  go_wp2_with (first
   | ((with_reducible refine qN (N := 5) rfl ?_); go_loud (refine bE (N := 5) (cs := #[.int .i64 s.f0, .int .i64 s.f1, .int .i64 s.f2.f0, .int .i64 s.f2.f1, .int .i64 s.f2.f2, .int .i64 s.f2.f3, .int .i64 s.f2.f4, .int .i64 s.f2.f5]) (t := 31) ?_; intro gs hgs w1 hbox hb; replace B := aM (ql B.out B.out.size hb); have hz0_ : w1.cell? ⟨gs, 0, none⟩ = some (.int .i64 s.f0) := (qD hbox 0).trans rfl; have hz1_ : w1.cell? ⟨gs, 1, none⟩ = some (.int .i64 s.f1) := (qD hbox 1).trans rfl; have hz2_ : w1.cell? ⟨gs, 2, none⟩ = some (.int .i64 s.f2.f0) := (qD hbox 2).trans rfl; have hz3_ : w1.cell? ⟨gs, 3, none⟩ = some (.int .i64 s.f2.f1) := (qD hbox 3).trans rfl; have hz4_ : w1.cell? ⟨gs, 4, none⟩ = some (.int .i64 s.f2.f2) := (qD hbox 4).trans rfl; have hz5_ : w1.cell? ⟨gs, 5, none⟩ = some (.int .i64 s.f2.f3) := (qD hbox 5).trans rfl; have hz6_ : w1.cell? ⟨gs, 6, none⟩ = some (.int .i64 s.f2.f4) := (qD hbox 6).trans rfl; have hz7_ : w1.cell? ⟨gs, 7, none⟩ = some (.int .i64 s.f2.f5) := (qD hbox 7).trans rfl; clear hbox hb hgs))
   | (go_at_call 22; go_loud (refine (reachCell_calls a HA.out s x y _ (Laid.below HL.out B.out)).mono ?_; rintro e w2 ⟨v, rfl, hv, hb⟩; rw [HAS.out]; replace B := aM (ql B.out B.out.size hb); clear hv hb hz0_ hz1_ hz2_ hz3_ hz4_ hz5_ hz6_ hz7_)))
  go_ret2
  exact ⟨_, rfl, Kd.R_nil _ _ _ _ _, B.out⟩
 | true =>
  rw [if_pos rfl]
  have HAS := aM hA
  have HLEN := aM (show (reachW a s).length ≤ 49000000 by
   unfold askC askS at hA
   rw [Bool.and_eq_true, Bool.and_eq_true] at hA
   exact ((FoundW.start hA.1.2 (0, (-1, 0))).run 49000000 0).len (qwC hA.1.1))
  clear hA
  obtain ⟨L, hL⟩ : ∃ L, reachW a s = L := ⟨_, rfl⟩
  have HR := aM hL
  rw [hL] at HLEN ⊢
  clear hL
  go_enter Tryz.func12, Tryz.ntmps12
  go_wp2_with (first
   | ((with_reducible refine qN (N := 5) rfl ?_); go_loud (refine bE (N := 5) (cs := #[.int .i64 s.f0, .int .i64 s.f1, .int .i64 s.f2.f0, .int .i64 s.f2.f1, .int .i64 s.f2.f2, .int .i64 s.f2.f3, .int .i64 s.f2.f4, .int .i64 s.f2.f5]) (t := 31) ?_; intro gs hgs w1 hbox hb; replace B := aM (ql B.out B.out.size hb); have hz0_ : w1.cell? ⟨gs, 0, none⟩ = some (.int .i64 s.f0) := (qD hbox 0).trans rfl; have hz1_ : w1.cell? ⟨gs, 1, none⟩ = some (.int .i64 s.f1) := (qD hbox 1).trans rfl; have hz2_ : w1.cell? ⟨gs, 2, none⟩ = some (.int .i64 s.f2.f0) := (qD hbox 2).trans rfl; have hz3_ : w1.cell? ⟨gs, 3, none⟩ = some (.int .i64 s.f2.f1) := (qD hbox 3).trans rfl; have hz4_ : w1.cell? ⟨gs, 4, none⟩ = some (.int .i64 s.f2.f2) := (qD hbox 4).trans rfl; have hz5_ : w1.cell? ⟨gs, 5, none⟩ = some (.int .i64 s.f2.f3) := (qD hbox 5).trans rfl; have hz6_ : w1.cell? ⟨gs, 6, none⟩ = some (.int .i64 s.f2.f4) := (qD hbox 6).trans rfl; have hz7_ : w1.cell? ⟨gs, 7, none⟩ = some (.int .i64 s.f2.f5) := (qD hbox 7).trans rfl; clear hbox hb hgs))
   | (go_at_call 22; go_loud (refine (reachCell_calls a HA.out s x y _ (Laid.below HL.out B.out)).mono ?_; rintro e w2 ⟨v, rfl, hv, hb⟩; obtain ⟨g, gm, A0, A1, A2, A3, c0, c1, c2, c3, rfl, hg, hC0, hC1, hC2, hC3, hMp⟩ := hv HAS.out; rw [HAS.out]; rw [HR.out] at hg hC0; have BP := aM hg; have HC0 := aM hC0; have BW := aM (ql B.out B.out.size hb); have B2 := aM (Below.refl w2.heap.size w2); clear B hv hb hg hC0 hC1 hC2 hC3 hMp hz0_ hz1_ hz2_ hz3_ hz4_ hz5_ hz6_ hz7_))
   | ((with_reducible refine qN (N := 25) rfl ?_); go_loud (refine Kd.R_lit k29 w2.heap.size 29 ?hg (N := 25) ?hd (xs := ([] : List DD)) (inner := []) (ok := fun _ => True) (okp := fun _ => True) ?hr ?hp (fun _ hk => hk) trivial B2.out B2.out.size (by simp) ?_; (case hd => rfl); (case hg => rfl); (case hr => exact gS); (case hp => exact Reps.none _ _); intro v3 w3 ho hb hg hnew; have HO := aM ho; clear B2; have B2 := aM hb; have hc0 : w3.cell? ⟨g, 0, none⟩ = some (.slice A0 L.length c0) := (qD (qWA BP.out hb) 0).trans rfl; clear ho hb hg hnew)))
  clear hc0
  obtain ⟨n, hn⟩ : ∃ n, L.length = n := ⟨_, rfl⟩
  rw [hn] at HC0 HLEN BP ⊢
  have HNN := aM hn
  clear hn
  go_loopg [12, 31] n (fun gg v12 v31 wq => ∃ j : Nat, v31 = .int .i64 j ∧ n - j ≤ gg ∧ Aside0 (j ≤ n) ∧ Aside0 (Kd.R k29 29 wq w2.heap.size (fun _ => True) v12 (diceL (L.take j) x y)) ∧ Aside0 (Below w2.heap.size w2 wq))
  case atStart => exact ⟨0, rfl, by omega, ⟨Nat.zero_le _⟩, HO, B2⟩
  case round =>
   clear HO B2
   obtain ⟨j, rfl, hgk, HJ, HO, B2⟩ := hrel
   rename World => wr
   by_cases hj : j < n
   ·have hjz : (j : Int) < (n : Int) := by omega
    have hj0 : (0 : Int) ≤ (j : Int) := by omega
    obtain ⟨⟨z, q⟩, hz⟩ : ∃ z, L[j]? = some z := ⟨_, List.getElem?_eq_getElem (by have := HNN.out; omega)⟩
    have HT := aM (diceL_take L x y j hz)
    have hrx : quB (stW L) (j : Int) = z := by unfold quB; rw [Int.toNat_natCast, List.getD_eq_getElem?_getD, List.getElem?_map, hz]; rfl
    obtain ⟨ad_, e_, hx0_, hx1_, hx2_, hx3_, hx4_, hx5_, hx6_, hx7_⟩ := at_T31 (Kd.qPA HC0.out B2.out) (j : Int) hj0 hjz
    subst e_
    rw [hrx, Int.toNat_natCast] at hx0_ hx1_ hx2_ hx3_ hx4_ hx5_ hx6_ hx7_
    have HLJ := aM (show (diceL (L.take j) x y).length ≤ 49000000 by
     have h1 := qzC (L.take j) x y
     rw [List.length_take] at h1
     have h2 := HLEN.out
     have h3 := HNN.out
     omega)
    have HIS := aM (isAt_eq z x y)
    obtain ⟨A12, c12, e12⟩ := Kd.qi HO.out
    obtain ⟨at_, hat_⟩ : ∃ b, (decide (z.f0 = x) && decide (z.f1 = y)) = b := ⟨_, rfl⟩
    simp only at HT
    rw [hat_] at HT HIS
    subst e12
    clear hz hrx hat_
    cases at_ with
    | true =>
     rw [if_pos rfl] at HT
     go_wp2_with (first
      | ((with_reducible refine qN (N := 14) rfl ?_); go_loud (refine bE (N := 14) (cs := #[.int .i64 0, .int .i64 0, .int .i64 0, .int .i64 0, .int .i64 0, .int .i64 0, .int .i64 0, .int .i64 0]) (t := 31) ?_; intro g14 hg14 w5 hbox hb; have HG14 := aM (show w2.heap.size ≤ g14 by rw [hg14]; exact B2.out.size); have BK14 := aM hbox; replace B2 := aM (ql B2.out B2.out.size hb); replace HO := aM (Kd.qj HO.out hb); clear hbox hb hg14 hx0_ hx1_ hx2_ hx3_ hx4_ hx5_ hx6_ hx7_))
      | ((with_reducible refine qyA (t := 31) (p := 14) rfl ?_); go_loud (refine qBB (t := 31) (p := 14) (v := .tmp 34) (w1 := ((((((((w5.setCell ⟨g14, 0, none⟩ (.int .i64 z.f0)).setCell ⟨g14, 1, none⟩ (.int .i64 z.f1)).setCell ⟨g14, 2, none⟩ (.int .i64 z.f2.f0)).setCell ⟨g14, 3, none⟩ (.int .i64 z.f2.f1)).setCell ⟨g14, 4, none⟩ (.int .i64 z.f2.f2)).setCell ⟨g14, 5, none⟩ (.int .i64 z.f2.f3)).setCell ⟨g14, 6, none⟩ (.int .i64 z.f2.f4)).setCell ⟨g14, 7, none⟩ (.int .i64 z.f2.f5))) rfl rfl rfl (rcStore (own := z) (.tmp 14) (.tmp 34) g14 rfl rfl rfl BK14.out) ?_; intro w6 hw6; have n0_ := rcNew (own := z) BK14.out; have n1_ := rcSet (own := z) HG14.out B2.out; have n2_ := rcRow' HO.out BK14.out (by decide) (rcFar (own := z) w5 g14); rw [← hw6] at n0_ n1_ n2_; clear B2 BK14 HO hw6; have B2 := aM n1_; have BK14 := aM n0_; have HO := aM n2_; clear n0_ n1_ n2_; have hbk := BK14.out; have hz0_ : w6.cell? ⟨g14, 0, none⟩ = some (.int .i64 z.f0) := (qD hbk 0).trans rfl; have hz1_ : w6.cell? ⟨g14, 1, none⟩ = some (.int .i64 z.f1) := (qD hbk 1).trans rfl; have hz2_ : w6.cell? ⟨g14, 2, none⟩ = some (.int .i64 z.f2.f0) := (qD hbk 2).trans rfl; have hz3_ : w6.cell? ⟨g14, 3, none⟩ = some (.int .i64 z.f2.f1) := (qD hbk 3).trans rfl; have hz4_ : w6.cell? ⟨g14, 4, none⟩ = some (.int .i64 z.f2.f2) := (qD hbk 4).trans rfl; have hz5_ : w6.cell? ⟨g14, 5, none⟩ = some (.int .i64 z.f2.f3) := (qD hbk 5).trans rfl; have hz6_ : w6.cell? ⟨g14, 6, none⟩ = some (.int .i64 z.f2.f4) := (qD hbk 6).trans rfl; have hz7_ : w6.cell? ⟨g14, 7, none⟩ = some (.int .i64 z.f2.f5) := (qD hbk 7).trans rfl; clear hbk))
      | (go_at_call 23; go_loud (refine (qtA.calls z.f0 z.f1 z.f2.f0 z.f2.f1 z.f2.f2 z.f2.f3 z.f2.f4 z.f2.f5 x y true _ HIS.out).mono ?_; rintro e w7 ⟨rfl, hb⟩; replace B2 := aM (ql B2.out B2.out.size hb); replace BK14 := aM (qWA BK14.out hb); replace HO := aM (Kd.qj HO.out hb); clear hz0_; clear hz1_; clear hz2_; clear hz3_; clear hz4_; clear hz5_; clear hz6_; clear hz7_; clear hb; have hbk := BK14.out; have hz0_ : w7.cell? ⟨g14, 0, none⟩ = some (.int .i64 z.f0) := (qD hbk 0).trans rfl; have hz1_ : w7.cell? ⟨g14, 1, none⟩ = some (.int .i64 z.f1) := (qD hbk 1).trans rfl; have hz2_ : w7.cell? ⟨g14, 2, none⟩ = some (.int .i64 z.f2.f0) := (qD hbk 2).trans rfl; have hz3_ : w7.cell? ⟨g14, 3, none⟩ = some (.int .i64 z.f2.f1) := (qD hbk 3).trans rfl; have hz4_ : w7.cell? ⟨g14, 4, none⟩ = some (.int .i64 z.f2.f2) := (qD hbk 4).trans rfl; have hz5_ : w7.cell? ⟨g14, 5, none⟩ = some (.int .i64 z.f2.f3) := (qD hbk 5).trans rfl; have hz6_ : w7.cell? ⟨g14, 6, none⟩ = some (.int .i64 z.f2.f4) := (qD hbk 6).trans rfl; have hz7_ : w7.cell? ⟨g14, 7, none⟩ = some (.int .i64 z.f2.f5) := (qD hbk 7).trans rfl; clear hbk))
      | ((with_reducible refine qdA (b := .append) (xs := #[.tmp 39, .tmp 42]) rfl ?_); at_builtin; go_loud (refine Kd.qYC k29 (w0 := w2) w2.heap.size rfl (.tmp 39) (.tmp 42) 36 29 (.agg #[(.int .i64 0), (.int .i64 0), (.int .i64 0), (.int .i64 0), (.int .i64 0), (.int .i64 0)]) 48 rfl Tryz.underlying36 dcInfo rfl (by decide) (by omega) _ (diceL (L.take j) x y) z.f2 [.int .i64 z.f2.f0, .int .i64 z.f2.f1, .int .i64 z.f2.f2, .int .i64 z.f2.f3, .int .i64 z.f2.f4, .int .i64 z.f2.f5] (fun _ => True) (fun _ => False) rfl rfl ?aP (fun _ hk => hk.elim) ?aF HO.out B2.out B2.out.size ?aL ?_; (case aP => exact qgB _ _ _ z.f2); (case aF => exact (fun _ _ => trivial)); (case aL => have h_ := HLJ.out; omega); intro v8 w8 ho hb hg hat; clear HO B2; have HO := aM ho; have B2 := aM hb; clear ho hb hg hat hz0_ hz1_ hz2_ hz3_ hz4_ hz5_ hz6_ hz7_)))
     go_roundg (n - (j + 1))
     case measure => omega
     case rel => exact ⟨j + 1, by first | (push_cast; rfl) | (show Value.int .i64 (wrap64 ((j : Int) + 1)) = _; rw [show wrap64 ((j : Int) + 1) = ((j + 1 : Nat) : Int) by have h1 := HLEN.out; unfold wrap64; omega]), by omega, ⟨by omega⟩, ⟨by rw [HT.out]; exact HO.out⟩, B2⟩
    | false =>
     rw [if_neg (by decide)] at HT
     go_wp2_with (first
      | ((with_reducible refine qN (N := 14) rfl ?_); go_loud (refine bE (N := 14) (cs := #[.int .i64 0, .int .i64 0, .int .i64 0, .int .i64 0, .int .i64 0, .int .i64 0, .int .i64 0, .int .i64 0]) (t := 31) ?_; intro g14 hg14 w5 hbox hb; have HG14 := aM (show w2.heap.size ≤ g14 by rw [hg14]; exact B2.out.size); have BK14 := aM hbox; replace B2 := aM (ql B2.out B2.out.size hb); replace HO := aM (Kd.qj HO.out hb); clear hbox hb hg14 hx0_ hx1_ hx2_ hx3_ hx4_ hx5_ hx6_ hx7_))
      | ((with_reducible refine qyA (t := 31) (p := 14) rfl ?_); go_loud (refine qBB (t := 31) (p := 14) (v := .tmp 34) (w1 := ((((((((w5.setCell ⟨g14, 0, none⟩ (.int .i64 z.f0)).setCell ⟨g14, 1, none⟩ (.int .i64 z.f1)).setCell ⟨g14, 2, none⟩ (.int .i64 z.f2.f0)).setCell ⟨g14, 3, none⟩ (.int .i64 z.f2.f1)).setCell ⟨g14, 4, none⟩ (.int .i64 z.f2.f2)).setCell ⟨g14, 5, none⟩ (.int .i64 z.f2.f3)).setCell ⟨g14, 6, none⟩ (.int .i64 z.f2.f4)).setCell ⟨g14, 7, none⟩ (.int .i64 z.f2.f5))) rfl rfl rfl (rcStore (own := z) (.tmp 14) (.tmp 34) g14 rfl rfl rfl BK14.out) ?_; intro w6 hw6; have n0_ := rcNew (own := z) BK14.out; have n1_ := rcSet (own := z) HG14.out B2.out; have n2_ := rcRow' HO.out BK14.out (by decide) (rcFar (own := z) w5 g14); rw [← hw6] at n0_ n1_ n2_; clear B2 BK14 HO hw6; have B2 := aM n1_; have BK14 := aM n0_; have HO := aM n2_; clear n0_ n1_ n2_; have hbk := BK14.out; have hz0_ : w6.cell? ⟨g14, 0, none⟩ = some (.int .i64 z.f0) := (qD hbk 0).trans rfl; have hz1_ : w6.cell? ⟨g14, 1, none⟩ = some (.int .i64 z.f1) := (qD hbk 1).trans rfl; have hz2_ : w6.cell? ⟨g14, 2, none⟩ = some (.int .i64 z.f2.f0) := (qD hbk 2).trans rfl; have hz3_ : w6.cell? ⟨g14, 3, none⟩ = some (.int .i64 z.f2.f1) := (qD hbk 3).trans rfl; have hz4_ : w6.cell? ⟨g14, 4, none⟩ = some (.int .i64 z.f2.f2) := (qD hbk 4).trans rfl; have hz5_ : w6.cell? ⟨g14, 5, none⟩ = some (.int .i64 z.f2.f3) := (qD hbk 5).trans rfl; have hz6_ : w6.cell? ⟨g14, 6, none⟩ = some (.int .i64 z.f2.f4) := (qD hbk 6).trans rfl; have hz7_ : w6.cell? ⟨g14, 7, none⟩ = some (.int .i64 z.f2.f5) := (qD hbk 7).trans rfl; clear hbk))
      | (go_at_call 23; go_loud (refine (qtA.calls z.f0 z.f1 z.f2.f0 z.f2.f1 z.f2.f2 z.f2.f3 z.f2.f4 z.f2.f5 x y false _ HIS.out).mono ?_; rintro e w7 ⟨rfl, hb⟩; have n0_ := aM (ql B2.out B2.out.size hb); have n2_ := aM (Kd.qj HO.out hb); clear B2 BK14 HO hz0_ hz1_ hz2_ hz3_ hz4_ hz5_ hz6_ hz7_; have B2 := n0_; have HO := n2_; clear n0_ n2_ hb)))
     go_roundg (n - (j + 1))
     case measure => omega
     case rel => exact ⟨j + 1, by first | (push_cast; rfl) | (show Value.int .i64 (wrap64 ((j : Int) + 1)) = _; rw [show wrap64 ((j : Int) + 1) = ((j + 1 : Nat) : Int) by have h1 := HLEN.out; unfold wrap64; omega]), by omega, ⟨by omega⟩, ⟨by rw [HT.out]; exact HO.out⟩, B2⟩
   ·have hjz : ¬ (j : Int) < (n : Int) := by omega
    have hall : L.take j = L := List.take_of_length_le (by have := HNN.out; omega)
    rw [hall] at HO
    have HDL := aM (show (diceL L x y).length < 4611686018427387904 by
     have h1 := qzC L x y
     have h2 := HLEN.out
     have h3 := HNN.out
     omega)
    go_wp2_with (first
     | ((with_reducible refine qF (f := 24) rfl ?_); go_loud (refine qh (some 46) rfl rfl Tryz.func24 (by kernel_rfl) rfl #[_] rfl (by (try simp only [List.map_toArray, List.map_cons, List.map_nil]); first | done | rfl | simp) ?_; refine (sortedDie.calls _ (diceL L x y) w2 wr B2.out HO.out HDL.out).mono ?_; rintro e w9 ⟨v', rfl, ho2, hb2⟩; refine ⟨_, rfl, ?_⟩; have HO2 := aM ho2; have HB2 := aM hb2; clear ho2 hb2)))
    go_ret2
    exact ⟨_, rfl, Kd.qHA HO2.out BW.out.size, ql BW.out BW.out.size HB2.out⟩
namespace P
end P
end Go.Proofs.YtdhbimankkpllaaGreatDoor
namespace Go.Proofs.YtdhbimankkpllaaGreatDoor
open Go.RowKit Go.Sort Go.Proofs.YtdhbimankkpllaaGreatDoorW.PrintWords Go.Proofs.YtdhbimankkpllaaGreatDoorW.PrintLast
set_option linter.unusedVariables false
set_option linter.unusedSimpArgs false
theorem sortI_reps {xs : List Int} {cs : List Value} {w : World} {base : Nat} {ok : Nat → Prop} (h : Reps ((Kd.int .i64).M w base ok) 1 xs cs) : cs = xs.map (Value.int .i64) := by
 obtain ⟨hl, hc⟩ := h
 rw [Nat.mul_one] at hl
 refine List.ext_getElem? fun i => ?_
 rw [List.getElem?_map]
 by_cases hi : i < xs.length
 case pos => have h1 : (cs.drop (i * 1)).take 1 = [Value.int .i64 xs[i]] := hc i xs[i] (List.getElem?_eq_getElem hi); rw [List.getElem?_eq_getElem hi, Option.map_some]; (have h2 : ((cs.drop (i * 1)).take 1)[0]? = some (Value.int .i64 xs[i]) := by rw [h1]; rfl); rw [List.getElem?_take, if_pos (by omega), List.getElem?_drop] at h2; simpa using h2
 rw [List.getElem?_eq_none (by omega), List.getElem?_eq_none (by omega)]; rfl
theorem sortI_made {xs : List Int} {w : World} {base : Nat} {ok : Nat → Prop} : Reps ((Kd.int .i64).M w base ok) 1 xs (xs.map (Value.int .i64)) := by
 refine ⟨by simp, fun j p hp => ?_⟩
 show _ = [Value.int .i64 p]
 have hj : j < xs.length := (List.getElem?_eq_some_iff.1 hp).1
 have hv : xs[j] = p := by rw [List.getElem?_eq_getElem hj] at hp; injection hp
 rw [Nat.mul_one, List.drop_eq_getElem_cons (by simpa using hj)]
 simp [hv]
theorem sortI_holds {w : World} {g : Nat} {cur : Array Value} {t : TypeId} {xs : List Int} (hh : w.heap[g]? = some (.cells cur t (0, 0))) (ht : cur.toList.take xs.length = xs.map (Value.int .i64)) : Holds (Value.int .i64) w g 0 xs.toArray := by
 intro j hj
 have hj' : j < xs.length := by simpa using hj
 have h1 : cur[j]? = some (Value.int .i64 xs[j]) := by
  have : (cur.toList.take xs.length)[j]? = some (Value.int .i64 xs[j]) := by rw [ht, List.getElem?_map, List.getElem?_eq_getElem hj']; rfl
  rw [List.getElem?_take, if_pos hj'] at this
  simpa using this
 refine ⟨?_, ?_⟩
 ·simp only [World.cell?, hh, Nat.zero_add]
  rw [h1]
  simp [hj']
 ·simp [World.frozen?, hh]
end Go.Proofs.YtdhbimankkpllaaGreatDoor
namespace Go.Proofs
open Go.Shelf
def Tryz.compI_ren : Go.Shelf.Ren := ⟨fun | 20 => 21 | n => n, fun | 22 => 26 | 3 => 3 | 4 => 4 | 0 => 0 | n => n, fun | n => n⟩
theorem Tryz.compI : Go.Proofs.Lays2.n20 Tryz.prog Tryz.compI_ren := {
 mixed := by kernel_rfl
 f20 := Tryz.func21.trans (congrArg some (by kernel_rfl))
 t0 := Tryz.underlying0
 a0 := Tryz.isAgg0
 z0 := Tryz.sizeOf0
 v0 := Tryz.zeroValue0
 t3 := Tryz.underlying3
 a3 := Tryz.isAgg3
 z3 := Tryz.sizeOf3
 v3 := Tryz.zeroValue3
 t4 := Tryz.underlying4
 a4 := Tryz.isAgg4
 z4 := Tryz.sizeOf4
 v4 := Tryz.zeroValue4
 t22 := Tryz.underlying26
 a22 := Tryz.isAgg26
 z22 := Tryz.sizeOf26
 v22 := Tryz.zeroValue26
 i3 := by kernel_rfl }
end Go.Proofs
namespace Go.Proofs.YtdhbimankkpllaaGreatDoor
open Go.RowKit Go.Sort Go.Proofs.YtdhbimankkpllaaGreatDoorW.PrintWords Go.Proofs.YtdhbimankkpllaaGreatDoorW.PrintLast
open Go.Lib (keeps compactUpTo)
set_option linter.unusedVariables false
set_option linter.unusedSimpArgs false
theorem compactI_len (l : List Int) : (Lib.compact l).length ≤ l.length := by
 unfold Lib.compact compactUpTo
 rw [List.length_map]
 exact Nat.le_trans (List.length_filter_le _ _) (by simp)
theorem compactI_put {cur : Array Value} {ys : List Int} {F : Array Int} (hF : F.toList.take ys.length = ys) (hN : F.size ≤ cur.size) (hy : ys.length ≤ F.size) :
  (putCells (Value.int .i64) 0 F cur).toList.take ys.length = ys.map (Value.int .i64) := by
 refine List.ext_getElem? fun i => ?_
 rw [List.getElem?_map, List.getElem?_take]
 by_cases hi : i < ys.length
 ·have hf : F[i]? = some ys[i] := by
   have : (F.toList.take ys.length)[i]? = some ys[i] := by rw [hF]; exact List.getElem?_eq_getElem hi
   rw [List.getElem?_take, if_pos hi] at this
   simpa using this
  rw [if_pos hi, List.getElem?_eq_getElem hi, Option.map_some, Array.getElem?_toList]
  simp only [putCells, Array.getElem?_mapIdx]
  rw [Array.getElem?_eq_getElem (show i < cur.size by omega), Option.map_some, if_pos ⟨Nat.zero_le _, by omega⟩, Nat.sub_zero]
  have hb : F[i]! = ys[i] := by simp [getElem!_def, hf]
  rw [hb]
 ·rw [if_neg hi, List.getElem?_eq_none (by omega)]; rfl
theorem compactIox.calls (ok : Nat → Prop) (v : Value) (l : List Int) (w0 w : World) (hB : Below w0.heap.size w0 w) (ho : Kd.R (Kd.int .i64) 3 w w0.heap.size ok v l) :
  Calls Tryz.prog 21 #[v] w fun e w' => ∃ v', e = .returned v' ∧ Kd.R (Kd.int .i64) 3 w' w0.heap.size ok v' (Lib.compact l) ∧ Below w0.heap.size w0 w' ∧ v'.ownBlock = v.ownBlock := by
 obtain ⟨hok, inner, hown, hr⟩ := ho
 have hi := sortI_reps hr
 have hsz : (Kd.int .i64).sz = 1 := rfl
 rcases hown.2 with ⟨hv, hn⟩ | ⟨g, cap, cur, hv, hbase, hheap, hncap, hmax, hsize, htake⟩
 ·subst hv
  have hl : l = [] := List.eq_nil_of_length_eq_zero hn
  subst hl
  refine (Any.slices_Compact_int_empty Tryz.compI none 0 w).mono fun e w' hq => ?_
  obtain ⟨he, rfl⟩ := hq
  exact ⟨_, he, Kd.R_nil (Kd.int .i64) 3 w' w0.heap.size _, hB, rfl⟩
 ·subst hv
  rw [hsz, Nat.mul_one] at htake hsize
  have ht : cur.toList.take l.length = l.map (Value.int .i64) := by rw [htake, hi]
  have hg : g < w.heap.size := by
   rcases Nat.lt_or_ge g w.heap.size with h1 | h1
   ·exact h1
   ·rw [Array.getElem?_eq_none h1] at hheap; cases hheap
  have hmx : l.length ≤ 9223372036854775807 := Nat.le_trans hncap (Nat.le_trans hmax (by decide))
  refine (Any.slices_Compact_int Tryz.compI g 0 cap l w (sortI_holds hheap ht) hmx hncap).mono fun e w' hq => ?_
  obtain ⟨he, q, rfl⟩ := hq
  have hle := compactI_len l
  generalize hF : (Lib.compact l ++ List.replicate (l.length - (Lib.compact l).length) 0).toArray = F
  have hFs : F.size = l.length := by rw [← hF]; simp; omega
  have hFt : F.toList.take (Lib.compact l).length = Lib.compact l := by rw [← hF]; simp
  have hoth : ∀ k, k < w.heap.size → k ≠ g → (putRow (Value.int .i64) (Sort.ahead w q) g 0 F).heap[k]? = w.heap[k]? := by
   intro k hk hne
   simp only [putRow, mapBlock, Array.getElem?_modify, if_neg (Ne.symm hne), heap_ahead]
  have hown' : (putRow (Value.int .i64) (Sort.ahead w q) g 0 F).heap[g]? = some (.cells (putCells (Value.int .i64) 0 F cur) 3 (0, 0)) := by
   simp only [putRow, mapBlock, Array.getElem?_modify, heap_ahead, hheap, if_true, Option.map_some, onCells]
  refine ⟨_, he, ⟨hok, (Lib.compact l).map (Value.int .i64), ⟨by simp [hsz], .inr ⟨g, cap, _, rfl, hbase, hown', Nat.le_trans hle hncap, hmax, by rw [hsz, Nat.mul_one]; simpa [putCells] using hsize, ?_⟩⟩, sortI_made⟩, ⟨hB.os, hB.tape, hB.output, Nat.le_trans hB.size (by simp), ?_⟩, rfl⟩
  ·rw [hsz, Nat.mul_one]
   exact compactI_put hFt (by omega) (by omega)
  ·intro k hk
   rw [hoth k (Nat.lt_of_lt_of_le hk hB.size) (by omega)]
   exact hB.block k hk
end Go.Proofs.YtdhbimankkpllaaGreatDoor
namespace Go.Proofs.YtdhbimankkpllaaGreatDoor
open Go.RowKit Go.Sort Go.Proofs.YtdhbimankkpllaaGreatDoor.P Go.Proofs.YtdhbimankkpllaaGreatDoorW.PrintWords Go.Proofs.YtdhbimankkpllaaGreatDoorW.PrintLast Go.Proofs.YtdhbimankkpllaaGreatDoorW.PrintMore
set_option linter.unusedVariables false
set_option linter.unusedSimpArgs false
theorem storeD_event {ops : Array Oper} {rest : List Oper} {o : Oper} {a : Act} {Q : Exit → Act → World → Prop} {w : World} {g : Nat} {v0 v1 v2 v3 v4 v5 : Value} (x : DD) (p v : Operand) (hg : o.guard = none) (ho : o.op = .store 29 p v) (hd : o.dst = none) (hp : a.eval p = .pointer (some ⟨g, 0, none⟩))
  (hv : a.eval v = .agg #[.int .i64 x.f0, .int .i64 x.f1, .int .i64 x.f2, .int .i64 x.f3, .int .i64 x.f4, .int .i64 x.f5]) (hb : w.heap[g]? = some (.cells #[v0, v1, v2, v3, v4, v5] 29 (0, 0)))
  (h : ∀ w1, w1.heap[g]? = some (.cells #[.int .i64 x.f0, .int .i64 x.f1, .int .i64 x.f2, .int .i64 x.f3, .int .i64 x.f4, .int .i64 x.f5] 29 (0, 0)) → (∀ k, k ≠ g → w1.heap[k]? = w.heap[k]?) → (∀ W : World, Below W.heap.size W w → W.heap.size ≤ g → Below W.heap.size W w1) → wpList Tryz.prog ops Q rest a w1) : wpList Tryz.prog ops Q (o :: rest) a w := by
 refine wpList_store_mid hg 29 p v ho g 0 #[.int .i64 x.f0, .int .i64 x.f1, .int .i64 x.f2, .int .i64 x.f3, .int .i64 x.f4, .int .i64 x.f5] hp hv ?_ (by kernel_rfl) (by simp [Value.oneCell']) ?_
 ·intro j hj
  have hj' : j < 6 := hj
  rw [Nat.zero_add]
  refine ⟨?_, qJ hb j⟩
  rw [qD hb j, Array.getElem?_eq_getElem (show j < (#[v0, v1, v2, v3, v4, v5] : Array Value).size from hj')]
  rfl
 ·rw [hd]
  have h1 := qr (cs' := #[.int .i64 x.f0, v1, v2, v3, v4, v5]) hb 0 (.int .i64 x.f0) rfl
  have h2 := qr (cs' := #[.int .i64 x.f0, .int .i64 x.f1, v2, v3, v4, v5]) h1 1 (.int .i64 x.f1) rfl
  have h3 := qr (cs' := #[.int .i64 x.f0, .int .i64 x.f1, .int .i64 x.f2, v3, v4, v5]) h2 2 (.int .i64 x.f2) rfl
  have h4 := qr (cs' := #[.int .i64 x.f0, .int .i64 x.f1, .int .i64 x.f2, .int .i64 x.f3, v4, v5]) h3 3 (.int .i64 x.f3) rfl
  have h5 := qr (cs' := #[.int .i64 x.f0, .int .i64 x.f1, .int .i64 x.f2, .int .i64 x.f3, .int .i64 x.f4, v5]) h4 4 (.int .i64 x.f4) rfl
  have h6 := qr (cs' := #[.int .i64 x.f0, .int .i64 x.f1, .int .i64 x.f2, .int .i64 x.f3, .int .i64 x.f4, .int .i64 x.f5]) h5 5 (.int .i64 x.f5) rfl
  refine h _ h6 (fun k hk => ?_) (fun W hB hW => ?_)
  ·exact (Below.heap_setCell _ _ _ k hk).trans ((Below.heap_setCell _ _ _ k hk).trans ((Below.heap_setCell _ _ _ k hk).trans ((Below.heap_setCell _ _ _ k hk).trans ((Below.heap_setCell _ _ _ k hk).trans (Below.heap_setCell _ _ _ k hk)))))
  ·exact qw (qw (qw (qw (qw (qw hB hW) hW) hW) hW) hW) hW
theorem tcInfo : (Tryz.prog.info? 3).map (fun i => (i.zero, i.size, i.bytes)) = some (some (.int .i64 0), 1, 8) := by kernel_rfl
def topsB (a : ByteArray) (s : XS) (x y : Int) : List Int × Bool := if askC a s x y = true then (Lib.compact ((diceB a s x y).1.map fun d => d.f0), true) else ([], false)
theorem diceB_len (a : ByteArray) (s : XS) (x y : Int) : (diceB a s x y).1.length ≤ 49000000 := by
 unfold diceB
 split
 ·rename_i hA
  unfold askC askS at hA
  rw [Bool.and_eq_true, Bool.and_eq_true] at hA
  have h0 := ((FoundW.start hA.1.2 (0, (-1, 0))).run 49000000 0).len (qwC hA.1.1)
  have h1 := compact_len ((diceL (reachW a s) x y).mergeSort fun p q => !(ltOf ordDie) q p)
  rw [List.length_mergeSort] at h1
  exact Nat.le_trans h1 (Nat.le_trans (qzC _ _ _) h0)
 ·simp
theorem diceB_ask (a : ByteArray) (s : XS) (x y : Int) : (diceB a s x y).2 = askC a s x y := by
 unfold diceB
 cases askC a s x y with
 | true => rfl
 | false => rfl
set_option maxHeartbeats 4000000 in
set_option maxRecDepth 100000 in
theorem topsAt_calls (a : ByteArray) (ha : a.size ≤ 1048576) (s : XS) (x y : Int) (w : World) (hL : Laid w) :
  Calls Tryz.prog 7 #[.string a, .agg #[.int .i64 s.f0, .int .i64 s.f1, .int .i64 s.f2.f0, .int .i64 s.f2.f1, .int .i64 s.f2.f2, .int .i64 s.f2.f3, .int .i64 s.f2.f4, .int .i64 s.f2.f5], .int .i64 x, .int .i64 y] w fun e w' =>
   ∃ v : Value, e = .returned (.tuple #[v, .bool (topsB a s x y).2]) ∧ Kd.R (Kd.int .i64) 3 w' w.heap.size (fun _ => True) v (topsB a s x y).1 ∧ Below w.heap.size w w' := by
 have hu_ := Tryz.underlying31
 have hu2_ := Tryz.underlying29
 have HL := aM hL
 have HA := aM ha
 have B := aM (Below.refl w.heap.size w)
 clear hL ha
 have HQ := aM (diceB_ask a s x y)
 have HLEN := aM (diceB_len a s x y)
 unfold topsB
 obtain ⟨l, hl⟩ : ∃ l, (diceB a s x y).1 = l := ⟨_, rfl⟩
 have HDL := aM hl
 rw [hl] at HLEN ⊢
 clear hl
 cases hA : askC a s x y with
 | false =>
  rw [if_neg (by decide)]
  rw [hA] at HQ
  clear hA
  go_enter Tryz.func7, Tryz.ntmps7
  go_wp2_with (first
   | ((with_reducible refine qN (N := 5) rfl ?_); go_loud (refine bE (N := 5) (cs := #[.int .i64 s.f0, .int .i64 s.f1, .int .i64 s.f2.f0, .int .i64 s.f2.f1, .int .i64 s.f2.f2, .int .i64 s.f2.f3, .int .i64 s.f2.f4, .int .i64 s.f2.f5]) (t := 31) ?_; intro gs hgs w1 hbox hb; replace B := aM (ql B.out B.out.size hb); have hz0_ : w1.cell? ⟨gs, 0, none⟩ = some (.int .i64 s.f0) := (qD hbox 0).trans rfl; have hz1_ : w1.cell? ⟨gs, 1, none⟩ = some (.int .i64 s.f1) := (qD hbox 1).trans rfl; have hz2_ : w1.cell? ⟨gs, 2, none⟩ = some (.int .i64 s.f2.f0) := (qD hbox 2).trans rfl; have hz3_ : w1.cell? ⟨gs, 3, none⟩ = some (.int .i64 s.f2.f1) := (qD hbox 3).trans rfl; have hz4_ : w1.cell? ⟨gs, 4, none⟩ = some (.int .i64 s.f2.f2) := (qD hbox 4).trans rfl; have hz5_ : w1.cell? ⟨gs, 5, none⟩ = some (.int .i64 s.f2.f3) := (qD hbox 5).trans rfl; have hz6_ : w1.cell? ⟨gs, 6, none⟩ = some (.int .i64 s.f2.f4) := (qD hbox 6).trans rfl; have hz7_ : w1.cell? ⟨gs, 7, none⟩ = some (.int .i64 s.f2.f5) := (qD hbox 7).trans rfl; clear hbox hb hgs))
   | (go_at_call 12; go_loud (refine (diceAt_calls a HA.out s x y _ (Laid.below HL.out B.out)).mono ?_; rintro e w2 ⟨v, rfl, hR, hb⟩; rw [HQ.out]; replace B := aM (ql B.out B.out.size hb); clear hR hb hz0_ hz1_ hz2_ hz3_ hz4_ hz5_ hz6_ hz7_)))
  go_ret2
  exact ⟨_, rfl, Kd.R_nil _ _ _ _ _, B.out⟩
 | true =>
  rw [if_pos rfl]
  rw [hA] at HQ
  clear hA
  go_enter Tryz.func7, Tryz.ntmps7
  go_wp2_with (first
   | ((with_reducible refine qN (N := 5) rfl ?_); go_loud (refine bE (N := 5) (cs := #[.int .i64 s.f0, .int .i64 s.f1, .int .i64 s.f2.f0, .int .i64 s.f2.f1, .int .i64 s.f2.f2, .int .i64 s.f2.f3, .int .i64 s.f2.f4, .int .i64 s.f2.f5]) (t := 31) ?_; intro gs hgs w1 hbox hb; replace B := aM (ql B.out B.out.size hb); have hz0_ : w1.cell? ⟨gs, 0, none⟩ = some (.int .i64 s.f0) := (qD hbox 0).trans rfl; have hz1_ : w1.cell? ⟨gs, 1, none⟩ = some (.int .i64 s.f1) := (qD hbox 1).trans rfl; have hz2_ : w1.cell? ⟨gs, 2, none⟩ = some (.int .i64 s.f2.f0) := (qD hbox 2).trans rfl; have hz3_ : w1.cell? ⟨gs, 3, none⟩ = some (.int .i64 s.f2.f1) := (qD hbox 3).trans rfl; have hz4_ : w1.cell? ⟨gs, 4, none⟩ = some (.int .i64 s.f2.f2) := (qD hbox 4).trans rfl; have hz5_ : w1.cell? ⟨gs, 5, none⟩ = some (.int .i64 s.f2.f3) := (qD hbox 5).trans rfl; have hz6_ : w1.cell? ⟨gs, 6, none⟩ = some (.int .i64 s.f2.f4) := (qD hbox 6).trans rfl; have hz7_ : w1.cell? ⟨gs, 7, none⟩ = some (.int .i64 s.f2.f5) := (qD hbox 7).trans rfl; clear hbox hb hgs))
   | (go_at_call 12; go_loud (refine (diceAt_calls a HA.out s x y _ (Laid.below HL.out B.out)).mono ?_; rintro e w2 ⟨v, rfl, hR, hb⟩; rw [HQ.out]; rw [HDL.out] at hR; obtain ⟨Av, cv, ev⟩ := Kd.qi hR; subst ev; have HD := aM (Kd.qHA hR B.out.size); replace B := aM (ql B.out B.out.size hb); clear hR hb hz0_ hz1_ hz2_ hz3_ hz4_ hz5_ hz6_ hz7_))
   | ((with_reducible refine qN (N := 25) rfl ?_); go_loud (refine Kd.R_lit (Kd.int .i64) w.heap.size 3 ?hg (N := 25) ?hd (xs := ([] : List Int)) (inner := []) (ok := fun _ => True) (okp := fun _ => True) ?hr ?hp (fun _ hk => hk) trivial B.out B.out.size (by simp) ?_; (case hd => rfl); (case hg => rfl); (case hr => exact gS); (case hp => exact Reps.none _ _); intro v3 w3 ho hb hg hnew; have HO := aM ho; have n1_ := aM (plLit0 HD.out hg); clear B HD; have B := aM hb; have HD := n1_; clear ho hb hg hnew n1_)))
  obtain ⟨n, hn⟩ : ∃ n, l.length = n := ⟨_, rfl⟩
  rw [hn] at HLEN HD ⊢
  have HNN := aM hn
  clear hn
  go_loopg [12, 28] n (fun gg v12 v28 wq => ∃ j : Nat, v28 = .int .i64 j ∧ n - j ≤ gg ∧ Aside0 (j ≤ n) ∧ Aside0 (Kd.R (Kd.int .i64) 3 wq w.heap.size (fun _ => True) v12 ((l.take j).map fun d : DD => d.f0)) ∧ Aside0 (Kd.R k29 29 wq w.heap.size (fun _ => True) (.slice Av n cv) l) ∧ Aside0 (Below w.heap.size w wq))
  case atStart => exact ⟨0, rfl, by omega, ⟨Nat.zero_le _⟩, HO, HD, B⟩
  case round =>
   clear HO HD B
   obtain ⟨j, rfl, hgk, HJ, HO, HD, B⟩ := hrel
   rename World => wr
   by_cases hj : j < n
   ·have hjz : (j : Int) < (n : Int) := by omega
    have hj0 : (0 : Int) ≤ (j : Int) := by omega
    have hjl : j < l.length := by have := HNN.out; omega
    obtain ⟨z, hz⟩ : ∃ z, l[j] = z := ⟨_, rfl⟩
    have HT := aM (show (l.take (j + 1)).map (fun d : DD => d.f0) = (l.take j).map (fun d : DD => d.f0) ++ [z.f0] by rw [List.take_succ_eq_append_getElem hjl, List.map_append, hz]; rfl)
    have hrx : qZ l (j : Int) = z := by unfold qZ; rw [Int.toNat_natCast, List.getD_eq_getElem?_getD, List.getElem?_eq_getElem hjl, hz]; rfl
    obtain ⟨ad_, e_, hx0_, hx1_, hx2_, hx3_, hx4_, hx5_⟩ := qPD (Kd.qE HD.out).2.2 (j : Int) hj0 (by omega)
    subst e_
    rw [hrx, Int.toNat_natCast] at hx0_ hx1_ hx2_ hx3_ hx4_ hx5_
    obtain ⟨A12, c12, e12⟩ := Kd.qi HO.out
    have htl : ((l.take j).map fun d : DD => d.f0).length = j := by rw [List.length_map, List.length_take]; omega
    rw [htl] at e12
    subst e12
    have HTL := aM htl
    clear hz hrx htl
    go_wp2_with (first
     | ((with_reducible refine qN (N := 14) rfl ?_); go_loud (refine bE (N := 14) (cs := #[.int .i64 0, .int .i64 0, .int .i64 0, .int .i64 0, .int .i64 0, .int .i64 0]) (t := 29) ?_; intro g14 hg14 w5 hbox hb; have HG14 := aM (show w.heap.size ≤ g14 by rw [hg14]; exact B.out.size); have N14 := aM (show some g14 ≠ (Value.slice (some ad_) n cv).ownBlock by intro e_; have e2_ : g14 = ad_.block := (by simpa [Value.ownBlock] using e_); have h_ := Kd.R_lt HD.out ad_.block rfl; omega); have BK14 := aM hbox; replace B := aM (ql B.out B.out.size hb); replace HO := aM (Kd.qj HO.out hb); replace HD := aM (Kd.qj HD.out hb); clear hbox hb hg14 hx0_ hx1_ hx2_ hx3_ hx4_ hx5_))
     | ((with_reducible refine qyA (t := 29) (p := 14) rfl ?_); go_loud (refine storeD_event z (.tmp 14) (.tmp 31) rfl rfl rfl rfl rfl BK14.out ?_; intro w6 hk6 hf6 hb6; have n1_ := aM (hb6 w B.out HG14.out); have n2_ := aM (rcRow' HO.out BK14.out (by decide) hf6); have n3_ := aM (rcRow HD.out rfl N14.out hf6); clear B BK14 HO HD; have B := n1_; have BK14 := aM hk6; have HO := n2_; have HD := n3_; clear n1_ n2_ n3_ hf6 hb6; have hz0_ : w6.cell? ⟨g14, 0, none⟩ = some (.int .i64 z.f0) := (qD hk6 0).trans rfl; clear hk6))
     | ((with_reducible refine qdA (b := .append) (xs := #[.tmp 32, .tmp 35]) rfl ?_); at_builtin; go_loud (refine Kd.qYC (Kd.int .i64) (w0 := w) w.heap.size rfl (.tmp 32) (.tmp 35) 26 3 (.int .i64 0) 8 rfl Tryz.underlying26 tcInfo rfl (by decide) (by omega) _ ((l.take j).map fun d : DD => d.f0) z.f0 [.int .i64 z.f0] (fun _ => True) (fun _ => False) rfl rfl ?aP (fun _ hk => hk.elim) ?aF HO.out B.out B.out.size ?aL ?_; (case aP => rfl); (case aF => exact (fun _ _ => trivial)); (case aL => rw [HTL.out]; have h_ := HLEN.out; omega); intro v8 w8 ho hb hg hat; have n1_ := aM (Kd.qoA HD.out (Kd.qeA HO.out) (by decide) hg); clear HO B HD; have HO := aM ho; have B := aM hb; have HD := n1_; clear ho hb hg hat hz0_ n1_)))
    go_roundg (n - (j + 1))
    case measure => omega
    case rel => exact ⟨j + 1, by first | (push_cast; rfl) | (show Value.int .i64 (wrap64 ((j : Int) + 1)) = _; rw [show wrap64 ((j : Int) + 1) = ((j + 1 : Nat) : Int) by have h1 := HLEN.out; unfold wrap64; omega]), by omega, ⟨by omega⟩, ⟨by rw [HT.out]; exact HO.out⟩, HD, B⟩
   ·have hjz : ¬ (j : Int) < (n : Int) := by omega
    have hall : l.take j = l := List.take_of_length_le (by have := HNN.out; omega)
    rw [hall] at HO
    go_wp2_with (first
     | ((with_reducible refine qF (f := 21) rfl ?_); go_loud (refine qh (some 39) rfl rfl Tryz.func21 (by kernel_rfl) rfl #[_] rfl (by (try simp only [List.map_toArray, List.map_cons, List.map_nil]); first | done | rfl | simp) ?_; refine (compactIox.calls (fun _ => True) _ _ w _ B.out HO.out).mono ?_; rintro e w9 ⟨v', rfl, ho2, hb2, _⟩; refine ⟨_, rfl, ?_⟩; have HO2 := aM ho2; have HB2 := aM hb2; clear ho2 hb2)))
    go_ret2
    exact ⟨_, rfl, HO2.out, HB2.out⟩
namespace P
def qqA.f (a : ByteArray) (s0 s1 s2 s3 s4 s5 s6 s7 x y : Int) : Option (List Int × Bool) := if a.size ≤ 1048576 then some (topsB a ⟨s0, s1, ⟨s2, s3, s4, s5, s6, s7⟩⟩ x y) else none
theorem qqA.calls (a0 : ByteArray) (a1_0 a1_1 a1_2 a1_3 a1_4 a1_5 a1_6 a1_7 : Int) (a2 a3 : Int) (r1 : List Int) (r2 : Bool) (w : World) (hL : Laid w) (h : qqA.f a0 a1_0 a1_1 a1_2 a1_3 a1_4 a1_5 a1_6 a1_7 a2 a3 = some (r1, r2)) :
  Calls Tryz.prog 7 #[.string a0, .agg #[.int .i64 a1_0, .int .i64 a1_1, .int .i64 a1_2, .int .i64 a1_3, .int .i64 a1_4, .int .i64 a1_5, .int .i64 a1_6, .int .i64 a1_7], .int .i64 a2, .int .i64 a3] w fun e w' => ∃ v0_ : Value, e = .returned (.tuple #[v0_, .bool r2]) ∧ Kd.R (Kd.int .i64) 3 w' w.heap.size (fun _ => True) v0_ r1 ∧ Below w.heap.size w w' := by
 unfold qqA.f at h
 split at h
 case isFalse => cases h
 rename_i hs
 injection h with h
 have h1 := congrArg Prod.fst h
 have h2 := congrArg Prod.snd h
 subst h1 h2
 exact topsAt_calls a0 hs ⟨a1_0, a1_1, ⟨a1_2, a1_3, a1_4, a1_5, a1_6, a1_7⟩⟩ a2 a3 w hL
end P
end Go.Proofs.YtdhbimankkpllaaGreatDoor
namespace Go.Proofs.YtdhbimankkpllaaGreatDoor.P
open Go.RowKit Go.Proofs.YtdhbimankkpllaaGreatDoorW.PrintWords Go.Proofs.YtdhbimankkpllaaGreatDoorW.PrintLast Go.Proofs.YtdhbimankkpllaaGreatDoorW.PrintMore
attribute [local go_sem] qq qo qBA qAA qe qd qp qn
set_option linter.unusedVariables false
set_option linter.unusedSimpArgs false
mutual
def qV.j0 : Nat → ByteArray → Int → Int → List Int → Bool → List Int → Bool → Int → Int → Int → Int → Int → Int → Int → Int → Option (Bool)
 | 0, _, _, _, _, _, _, _, _, _, _, _, _, _, _, _ => none
 | k + 1, x0, x2, x3, x9, x10, x11, x46, x430000, x430001, x430002, x430003, x430004, x430005, x430006, x430007 => if x46 = true then (some false) else ((qx.f k x11 1).bind fun bt455 => ((qt.f k bt455.2 1).bind fun t457 => (if t457 < 0 then (some false) else (if t457 = bt455.1 then ((qcA.f x430000 x430001 x430002 x430003 x430004 x430005 x430006 x430007).bind fun bt458 => ((qqA.f x0 bt458.1 bt458.2.1 bt458.2.2.1 bt458.2.2.2.1 bt458.2.2.2.2.1 bt458.2.2.2.2.2.1 bt458.2.2.2.2.2.2.1 bt458.2.2.2.2.2.2.2 x2 x3).bind fun bt466 => ((qFA.f k bt466.1 x9).bind fun t470 => (if t470 = true then (qV.j1 k bt455.2 bt455.1 (bt466.2 != x10)) else (qV.j1 k bt455.2 bt455.1 true))))) else (some false)))))
def qV.j1 : Nat → List Int → Int → Bool → Option (Bool)
 | 0, _, _, _ => none
 | k + 1, x11, x13, x75 => if x75 = true then (some false) else ((qt.f k x11 1).bind fun t471 => (if t471 < 0 then (some false) else (if t471 = x13 then (some true) else (some false))))
end
def qV.f (k : Nat) (a0 : ByteArray) (a1_0 : Int) (a1_1 : Int) (a1_2 : Int) (a1_3 : Int) (a1_4 : Int) (a1_5 : Int) (a1_6 : Int) (a1_7 : Int) (a2 : Int) (a3 : Int) : Option (Bool) := if (a0.size : Int) > 1048576 then (some true) else ((qcA.f a1_0 a1_1 a1_2 a1_3 a1_4 a1_5 a1_6 a1_7).bind fun bt430 => ((qKA.f k a0 bt430.1 bt430.2.1 bt430.2.2.1 bt430.2.2.2.1 bt430.2.2.2.2.1 bt430.2.2.2.2.2.1 bt430.2.2.2.2.2.2.1 bt430.2.2.2.2.2.2.2 a2 a3).bind fun bt438 => ((qcA.f a1_0 a1_1 a1_2 a1_3 a1_4 a1_5 a1_6 a1_7).bind fun bt442 => ((qqA.f a0 bt442.1 bt442.2.1 bt442.2.2.1 bt442.2.2.2.1 bt442.2.2.2.2.1 bt442.2.2.2.2.2.1 bt442.2.2.2.2.2.2.1 bt442.2.2.2.2.2.2.2 a2 a3).bind fun bt450 => ((qFA.f k bt450.1 bt438.1).bind fun t454 => (if t454 = true then (qV.j0 k a0 a2 a3 bt438.1 bt438.2 bt450.1 (bt450.2 != bt438.2) a1_0 a1_1 a1_2 a1_3 a1_4 a1_5 a1_6 a1_7) else (qV.j0 k a0 a2 a3 bt438.1 bt438.2 bt450.1 true a1_0 a1_1 a1_2 a1_3 a1_4 a1_5 a1_6 a1_7)))))))
set_option maxHeartbeats 8000000 in
set_option maxRecDepth 100000 in
theorem qV.calls (k : Nat) (a0 : ByteArray) (a1_0 : Int) (a1_1 : Int) (a1_2 : Int) (a1_3 : Int) (a1_4 : Int) (a1_5 : Int) (a1_6 : Int) (a1_7 : Int) (a2 : Int) (a3 : Int) (r : Bool) (w : World) (hL : Laid w) (h : qV.f k a0 a1_0 a1_1 a1_2 a1_3 a1_4 a1_5 a1_6 a1_7 a2 a3 = some r) :
  Calls Tryz.prog 3 #[.string a0, .agg #[.int .i64 a1_0, .int .i64 a1_1, .int .i64 a1_2, .int .i64 a1_3, .int .i64 a1_4, .int .i64 a1_5, .int .i64 a1_6, .int .i64 a1_7], .int .i64 a2, .int .i64 a3] w fun e w' => e = .returned (.bool r) ∧ Below w.heap.size w w' := by
 have hu25 := Tryz.underlying25
 have HLD := aM hL
 clear hL
 have HB := aM (Below.refl w.heap.size w)
 have H : (if (a0.size : Int) > 1048576 then (some true) else ((qcA.f a1_0 a1_1 a1_2 a1_3 a1_4 a1_5 a1_6 a1_7).bind fun bt430 => ((qKA.f k a0 bt430.1 bt430.2.1 bt430.2.2.1 bt430.2.2.2.1 bt430.2.2.2.2.1 bt430.2.2.2.2.2.1 bt430.2.2.2.2.2.2.1 bt430.2.2.2.2.2.2.2 a2 a3).bind fun bt438 => ((qcA.f a1_0 a1_1 a1_2 a1_3 a1_4 a1_5 a1_6 a1_7).bind fun bt442 => ((qqA.f a0 bt442.1 bt442.2.1 bt442.2.2.1 bt442.2.2.2.1 bt442.2.2.2.2.1 bt442.2.2.2.2.2.1 bt442.2.2.2.2.2.2.1 bt442.2.2.2.2.2.2.2 a2 a3).bind fun bt450 => ((qFA.f k bt450.1 bt438.1).bind fun t454 => (if t454 = true then (qV.j0 k a0 a2 a3 bt438.1 bt438.2 bt450.1 (bt450.2 != bt438.2) a1_0 a1_1 a1_2 a1_3 a1_4 a1_5 a1_6 a1_7) else (qV.j0 k a0 a2 a3 bt438.1 bt438.2 bt450.1 true a1_0 a1_1 a1_2 a1_3 a1_4 a1_5 a1_6 a1_7)))))))) = some r := h
 clear h
 by_cases c5 : (a0.size : Int) > 1048576
 ·rw [if_pos c5] at H
  have c5b0 := decide_eq_true c5
  have c5b1 : decide (1048576 < a0.size) = true := decide_eq_true (by omega)
  clear c5
  obtain rfl := Option.some.inj H
  go_enter Tryz.func3, Tryz.ntmps3
  go_wp2_with (first | ((with_reducible refine qN (N := 5) rfl ?_); refine bE (N := 5) (cs := #[.int .i64 a1_0, .int .i64 a1_1, .int .i64 a1_2, .int .i64 a1_3, .int .i64 a1_4, .int .i64 a1_5, .int .i64 a1_6, .int .i64 a1_7]) (t := 25) ?_; intro gb429 hg w6 hbox hb; have BK429 := aM (hbox); have GW429 := aM ((gg hg)); have GE429 := aM ((gg hg)); replace HB := aM (qB bl hb); clear hb hbox hg))
  go_ret
  exact ⟨sR, bl⟩
 ·rw [if_neg c5] at H
  have c5b0 := decide_eq_false c5
  have c5b1 : decide (1048576 < a0.size) = false := decide_eq_false (by omega)
  clear c5
  replace H := bO H
  obtain ⟨⟨t430, t431, t432, t433, t434, t435, t436, t437⟩, A7, H⟩ := H
  dsimp only at H A7
  replace H := bO H
  obtain ⟨⟨t438, t441⟩, A8, H⟩ := H
  dsimp only at H A8
  replace H := bO H
  obtain ⟨⟨t442, t443, t444, t445, t446, t447, t448, t449⟩, A9, H⟩ := H
  dsimp only at H A9
  replace H := bO H
  obtain ⟨⟨t450, t453⟩, A10, H⟩ := H
  dsimp only at H A10
  have HC11 := aM H
  clear H
  go_enter Tryz.func3, Tryz.ntmps3
  go_upto_region 5 with (first | ((with_reducible refine qN (N := 5) rfl ?_); refine bE (N := 5) (cs := #[.int .i64 a1_0, .int .i64 a1_1, .int .i64 a1_2, .int .i64 a1_3, .int .i64 a1_4, .int .i64 a1_5, .int .i64 a1_6, .int .i64 a1_7]) (t := 25) ?_; intro gb429 hg w12 hbox hb; have BK429 := aM (hbox); have GW429 := aM ((gg hg)); have GE429 := aM ((gg hg)); replace HB := aM (qB bl hb); clear hb hbox hg; (refine cb8 BK429 ?_; intro hcz13_0 hcz13_1 hcz13_2 hcz13_3 hcz13_4 hcz13_5 hcz13_6 hcz13_7); (refine cz8 BK429 ?_; intro hfz13_0 hfz13_1 hfz13_2 hfz13_3 hfz13_4 hfz13_5 hfz13_6 hfz13_7)) | ((with_reducible refine qF (f := 6) rfl ?_); refine qh (some 23) rfl rfl Tryz.func6 (by kernel_rfl) rfl #[.agg #[.int .i64 a1_0, .int .i64 a1_1, .int .i64 a1_2, .int .i64 a1_3, .int .i64 a1_4, .int .i64 a1_5, .int .i64 a1_6, .int .i64 a1_7]] rfl gA ?_; (with_reducible refine (qcA.calls a1_0 a1_1 a1_2 a1_3 a1_4 a1_5 a1_6 a1_7 t430 t431 t432 t433 t434 t435 t436 t437 _ A7.out).mono ?_); rintro e w14 ⟨rfl, hb⟩; refine ⟨_, rfl, ?_⟩; replace BK429 := aM (bb BK429 hb); replace HB := aM (qB bl hb); (try clear hb); (try clear hb2); (try clear hk); (try clear hi)) | ((with_reducible refine qF (f := 5) rfl ?_); refine qh (some 26) rfl rfl Tryz.func5 (by kernel_rfl) rfl #[.string a0, .agg #[.int .i64 t430, .int .i64 t431, .int .i64 t432, .int .i64 t433, .int .i64 t434, .int .i64 t435, .int .i64 t436, .int .i64 t437], .int .i64 a2, .int .i64 a3] rfl gA ?_; (with_reducible refine (qKA.calls k a0 t430 t431 t432 t433 t434 t435 t436 t437 a2 a3 t438 t441 _ A8.out).mono ?_); rintro e w15 ⟨v439, rfl, ho0, hb⟩; refine ⟨_, rfl, ?_⟩; have HO440 := aM (Kd.qHA ho0 (qT bl)); replace BK429 := aM (bb BK429 hb); replace HB := aM (qB bl hb); (try clear hb); (try clear hb2); (try clear hk); (try clear hi); (try clear ho0); (refine cb8 BK429 ?_; intro hcz16_0 hcz16_1 hcz16_2 hcz16_3 hcz16_4 hcz16_5 hcz16_6 hcz16_7); (refine cz8 BK429 ?_; intro hfz16_0 hfz16_1 hfz16_2 hfz16_3 hfz16_4 hfz16_5 hfz16_6 hfz16_7)) | ((with_reducible refine qF (f := 6) rfl ?_); refine qh (some 32) rfl rfl Tryz.func6 (by kernel_rfl) rfl #[.agg #[.int .i64 a1_0, .int .i64 a1_1, .int .i64 a1_2, .int .i64 a1_3, .int .i64 a1_4, .int .i64 a1_5, .int .i64 a1_6, .int .i64 a1_7]] rfl gA ?_; (with_reducible refine (qcA.calls a1_0 a1_1 a1_2 a1_3 a1_4 a1_5 a1_6 a1_7 t442 t443 t444 t445 t446 t447 t448 t449 _ A9.out).mono ?_); rintro e w17 ⟨rfl, hb⟩; refine ⟨_, rfl, ?_⟩; replace HO440 := aM (Kd.qj (rR HO440) hb); replace BK429 := aM (bb BK429 hb); replace HB := aM (qB bl hb); (try clear hb); (try clear hb2); (try clear hk); (try clear hi)) | ((with_reducible refine qF (f := 7) rfl ?_); refine qh (some 35) rfl rfl Tryz.func7 (by kernel_rfl) rfl #[.string a0, .agg #[.int .i64 t442, .int .i64 t443, .int .i64 t444, .int .i64 t445, .int .i64 t446, .int .i64 t447, .int .i64 t448, .int .i64 t449], .int .i64 a2, .int .i64 a3] rfl gA ?_; (with_reducible refine (qqA.calls a0 t442 t443 t444 t445 t446 t447 t448 t449 a2 a3 t450 t453 _ ?side1 A10.out).mono ?_); (case side1 => first | (with_reducible exact HLD.out) | exact Laid.below HLD.out bl); rintro e w18 ⟨v451, rfl, ho0, hb⟩; refine ⟨_, rfl, ?_⟩; have HO452 := aM (Kd.qHA (Kd.qLB ho0 (Kd.R_lt (rR HO440))) (qT bl)); replace HO440 := aM (Kd.qYA (rR HO440) (Kd.qMB ho0) hb); replace BK429 := aM (bb BK429 hb); replace HB := aM (qB bl hb); (try clear hb); (try clear hb2); (try clear hk); (try clear hi); (try clear ho0)))
  (try simp only [Act.put, List.setIfInBounds_toArray, List.set_cons_zero, List.set_cons_succ])
  go_cut [46] (fun v46 wc => ∃ (kq : Nat) (x46_10 : Bool), v46 = .bool x46_10 ∧ Aside0 (qV.j0 kq a0 a2 a3 t438 t441 t450 x46_10 a1_0 a1_1 a1_2 a1_3 a1_4 a1_5 a1_6 a1_7 = some r) ∧ Aside0 (kq ≤ k) ∧ Aside0 (Kd.R (Kd.int .i64) 3 wc w.heap.size (fun k_ => some k_ ≠ (v451 : Value).ownBlock) v439 t438) ∧ Aside0 (Kd.R (Kd.int .i64) 3 wc w.heap.size (fun k_ => some k_ ≠ (v439 : Value).ownBlock) v451 t450) ∧ Aside0 (wc.heap[gb429]? = some (.cells #[.int .i64 a1_0, .int .i64 a1_1, .int .i64 a1_2, .int .i64 a1_3, .int .i64 a1_4, .int .i64 a1_5, .int .i64 a1_6, .int .i64 a1_7] 25 (0, 0))) ∧ Aside0 (Below w.heap.size w wc))
  case first =>
   have H := HC11.out
   clear HC11
   replace H := bO H
   obtain ⟨t454, A19, H⟩ := H
   by_cases c20 : t454 = true
   ·subst c20
    replace H := iT H
    have H' := aM H
    clear H
    obtain ⟨Ao21, co21, eo21⟩ := Kd.qi HO452.out
    subst eo21
    obtain ⟨Ao22, co22, eo22⟩ := Kd.qi HO440.out
    subst eo22
    go_wp2_with (first | ((with_reducible refine qF (f := 8) rfl ?_); refine qh (some 40) rfl rfl Tryz.func8 (by kernel_rfl) rfl #[.slice Ao21 t450.length co21, .slice Ao22 t438.length co22] rfl gA ?_; (with_reducible refine (qFA.calls k _ _ t450 _ _ t438 true _ ?side1 ?side2 ?side3 ?side4 A19.out).mono ?_); (case side1 => repeat (first | exact (Kd.qE HO452.out).2.2 | (with_reducible refine Kd.qc ?_ _) | (with_reducible refine Kd.qb ?_ _) | (with_reducible refine Kd.qu ?_))); (case side2 => exact (Kd.qE HO452.out).2.1); (case side3 => repeat (first | exact (Kd.qE HO440.out).2.2 | (with_reducible refine Kd.qc ?_ _) | (with_reducible refine Kd.qb ?_ _) | (with_reducible refine Kd.qu ?_))); (case side4 => exact (Kd.qE HO440.out).2.1); rintro e w' ⟨rfl, ⟨nd, rfl⟩⟩; refine ⟨_, rfl, ?_⟩))
    go_meet
    case rel => exact ⟨_, ((t453 != t441)), sD, H', ⟨by first | omega | exact Nat.le_refl _⟩, ⟨by (with_reducible repeat (first | apply Kd.qR | apply Kd.qU | apply Kd.qQ)); exact Kd.qY HO440.out (fun _ hk => hk.2)⟩, ⟨by (with_reducible repeat (first | apply Kd.qR | apply Kd.qU | apply Kd.qQ)); exact Kd.qY HO452.out (fun _ hk => hk.2)⟩, ⟨rB BK429⟩, ⟨bl⟩⟩
   ·replace c20 := Bool.eq_false_iff.mpr c20
    subst c20
    replace H := iF H
    have H' := aM H
    clear H
    obtain ⟨Ao23, co23, eo23⟩ := Kd.qi HO452.out
    subst eo23
    obtain ⟨Ao24, co24, eo24⟩ := Kd.qi HO440.out
    subst eo24
    go_wp2_with (first | ((with_reducible refine qF (f := 8) rfl ?_); refine qh (some 40) rfl rfl Tryz.func8 (by kernel_rfl) rfl #[.slice Ao23 t450.length co23, .slice Ao24 t438.length co24] rfl gA ?_; (with_reducible refine (qFA.calls k _ _ t450 _ _ t438 false _ ?side1 ?side2 ?side3 ?side4 A19.out).mono ?_); (case side1 => repeat (first | exact (Kd.qE HO452.out).2.2 | (with_reducible refine Kd.qc ?_ _) | (with_reducible refine Kd.qb ?_ _) | (with_reducible refine Kd.qu ?_))); (case side2 => exact (Kd.qE HO452.out).2.1); (case side3 => repeat (first | exact (Kd.qE HO440.out).2.2 | (with_reducible refine Kd.qc ?_ _) | (with_reducible refine Kd.qb ?_ _) | (with_reducible refine Kd.qu ?_))); (case side4 => exact (Kd.qE HO440.out).2.1); rintro e w' ⟨rfl, ⟨nd, rfl⟩⟩; refine ⟨_, rfl, ?_⟩))
    go_meet
    case rel => exact ⟨_, (true), sD, H', ⟨by first | omega | exact Nat.le_refl _⟩, ⟨by (with_reducible repeat (first | apply Kd.qR | apply Kd.qU | apply Kd.qQ)); exact Kd.qY HO440.out (fun _ hk => hk.2)⟩, ⟨by (with_reducible repeat (first | apply Kd.qR | apply Kd.qU | apply Kd.qQ)); exact Kd.qY HO452.out (fun _ hk => hk.2)⟩, ⟨rB BK429⟩, ⟨bl⟩⟩
  case rest =>
   clear HC11; (try clear c2); (try clear p2); (try clear c3); (try clear c5); (try clear c5b0); (try clear c5b1); (try clear c6); (try clear c7); (try clear c8); (try clear c20); (try clear hcz13_0 hcz13_1 hcz13_2 hcz13_3 hcz13_4 hcz13_5 hcz13_6 hcz13_7); (try clear hcz16_0 hcz16_1 hcz16_2 hcz16_3 hcz16_4 hcz16_5 hcz16_6 hcz16_7); (try clear hfz13_0 hfz13_1 hfz13_2 hfz13_3 hfz13_4 hfz13_5 hfz13_6 hfz13_7); (try clear hfz16_0 hfz16_1 hfz16_2 hfz16_3 hfz16_4 hfz16_5 hfz16_6 hfz16_7)
   obtain ⟨kq, x46_10, rfl, HA, HJ10, HO_9, HO_11, BK429, HB⟩ := hcut
   cases kq with
   | zero => exact absurd HA.out (by simp [qV.j0])
   | succ kj10 =>
    have H := HA.out
    clear HA
    simp only [qV.j0] at H
    by_cases c25 : x46_10 = true
    ·subst c25
     replace H := iT H
     obtain rfl := Option.some.inj H
     go_wp2
     go_ret
     exact ⟨sR, bl⟩
    ·replace c25 := Bool.eq_false_iff.mpr c25
     subst c25
     replace H := iF H
     replace H := bO H
     obtain ⟨⟨t455, t456⟩, A26, H⟩ := H
     dsimp only at H A26
     replace H := bO H
     obtain ⟨t457, A27, H⟩ := H
     by_cases c28 : t457 < 0
     ·rw [if_pos c28] at H
      have c28b0 := decide_eq_true c28
      clear c28
      obtain rfl := Option.some.inj H
      obtain ⟨Ao29, co29, eo29⟩ := Kd.qi HO_11.out
      subst eo29
      go_wp2_with (first | ((with_reducible refine qF (f := 9) rfl ?_); refine qh (some 49) rfl rfl Tryz.func9 (by kernel_rfl) rfl #[.slice Ao29 t450.length co29, .int .i64 1] rfl gA ?_; (with_reducible refine (qx.calls kj10 (fun k_ => some k_ = (.slice Ao29 t450.length co29 : Value).ownBlock) (.slice Ao29 t450.length co29) t450 1 t455 t456 w _ ?side1 ?side2 A26.out).mono ?_); (case side1 => repeat (first | (with_reducible first | exact HB.out | apply qQA | apply qVA | apply qm | refine qw ?_ GE429.out) | exact HB.out)); (case side2 => exact Kd.qSC rfl HO_11.out); rintro e w30 ⟨rfl, hy0, hb, hkp⟩; refine ⟨_, rfl, ?_⟩; replace HO_9 := aM (Kd.qY (ok' := fun k_ => some k_ ≠ (.slice Ao29 t450.length co29 : Value).ownBlock) (Kd.qKD (HO_9.out) hkp (fun k_ hk_ hs_ => (hk_) hs_)) (fun k_ hk_ => hk_.1)); replace BK429 := aM (qXC (rB BK429) hkp (fun hs_ => (fun e_ => (Kd.R_ne HO_11.out BK429.out (by decide)) e_) hs_)); replace HO_11 := aM (Kd.qfD rfl hy0 (fun k_ e_ => HO_11.out.1 k_ e_)); replace HB := aM (hb); (try clear hb); (try clear hkp); (try clear hy0)) | ((with_reducible refine qF (f := 10) rfl ?_); refine qh (some 52) rfl rfl Tryz.func10 (by kernel_rfl) rfl #[.slice Ao29 t456.length co29, .int .i64 1] rfl (by (try simp only [List.map_toArray, List.map_cons, List.map_nil]); first | done | (rw [show t456.length = t450.length from (Kd.qE HO_11.out).1.symm] <;> rfl) | rfl | (simp only [List.length_drop, List.length_take]; rfl)) ?_; (with_reducible refine (qt.calls kj10 _ _ t456 1 t457 _ ?side1 ?side2 A27.out).mono ?_); (case side1 => repeat (first | exact (Kd.qE HO_11.out).2.2 | (with_reducible refine Kd.qc ?_ _) | (with_reducible refine Kd.qb ?_ _) | (with_reducible refine Kd.qu ?_))); (case side2 => rw [show t456.length = t450.length from (Kd.qE HO_11.out).1.symm]; exact (Kd.qE HO_11.out).2.1); rintro e w' ⟨rfl, ⟨nd, rfl⟩⟩; refine ⟨_, rfl, ?_⟩))
      go_ret
      exact ⟨sR, bl⟩
     ·rw [if_neg c28] at H
      have c28b0 := decide_eq_false c28
      clear c28
      by_cases c31 : t457 = t455
      ·rw [if_pos c31] at H
       have c31b0 := beq_iff_eq.mpr c31
       have c31b1 := bne_eq_false_iff_eq.mpr c31
       clear c31
       replace H := bO H
       obtain ⟨⟨t458, t459, t460, t461, t462, t463, t464, t465⟩, A32, H⟩ := H
       dsimp only at H A32
       replace H := bO H
       obtain ⟨⟨t466, t469⟩, A33, H⟩ := H
       dsimp only at H A33
       have HC34 := aM H
       clear H
       obtain ⟨Ao35, co35, eo35⟩ := Kd.qi HO_11.out
       subst eo35
       go_upto_region 16 with (first | ((with_reducible refine qF (f := 9) rfl ?_); refine qh (some 49) rfl rfl Tryz.func9 (by kernel_rfl) rfl #[.slice Ao35 t450.length co35, .int .i64 1] rfl gA ?_; (with_reducible refine (qx.calls kj10 (fun k_ => some k_ = (.slice Ao35 t450.length co35 : Value).ownBlock) (.slice Ao35 t450.length co35) t450 1 t455 t456 w _ ?side1 ?side2 A26.out).mono ?_); (case side1 => repeat (first | (with_reducible first | exact HB.out | apply qQA | apply qVA | apply qm | refine qw ?_ GE429.out) | exact HB.out)); (case side2 => exact Kd.qSC rfl HO_11.out); rintro e w36 ⟨rfl, hy0, hb, hkp⟩; refine ⟨_, rfl, ?_⟩; replace HO_9 := aM (Kd.qY (ok' := fun k_ => some k_ ≠ (.slice Ao35 t450.length co35 : Value).ownBlock) (Kd.qKD (HO_9.out) hkp (fun k_ hk_ hs_ => (hk_) hs_)) (fun k_ hk_ => hk_.1)); replace BK429 := aM (qXC (rB BK429) hkp (fun hs_ => (fun e_ => (Kd.R_ne HO_11.out BK429.out (by decide)) e_) hs_)); replace HO_11 := aM (Kd.qfD rfl hy0 (fun k_ e_ => HO_11.out.1 k_ e_)); replace HB := aM (hb); (try clear hb); (try clear hkp); (try clear hy0)) | ((with_reducible refine qF (f := 10) rfl ?_); refine qh (some 52) rfl rfl Tryz.func10 (by kernel_rfl) rfl #[.slice Ao35 t456.length co35, .int .i64 1] rfl (by (try simp only [List.map_toArray, List.map_cons, List.map_nil]); first | done | (rw [show t456.length = t450.length from (Kd.qE HO_11.out).1.symm] <;> rfl) | rfl | (simp only [List.length_drop, List.length_take]; rfl)) ?_; (with_reducible refine (qt.calls kj10 _ _ t456 1 t457 _ ?side1 ?side2 A27.out).mono ?_); (case side1 => repeat (first | exact (Kd.qE HO_11.out).2.2 | (with_reducible refine Kd.qc ?_ _) | (with_reducible refine Kd.qb ?_ _) | (with_reducible refine Kd.qu ?_))); (case side2 => rw [show t456.length = t450.length from (Kd.qE HO_11.out).1.symm]; exact (Kd.qE HO_11.out).2.1); rintro e w' ⟨rfl, ⟨nd, rfl⟩⟩; refine ⟨_, rfl, ?_⟩; (refine cb8 BK429 ?_; intro hcz37_0 hcz37_1 hcz37_2 hcz37_3 hcz37_4 hcz37_5 hcz37_6 hcz37_7); (refine cz8 BK429 ?_; intro hfz37_0 hfz37_1 hfz37_2 hfz37_3 hfz37_4 hfz37_5 hfz37_6 hfz37_7)) | ((with_reducible refine qF (f := 6) rfl ?_); refine qh (some 61) rfl rfl Tryz.func6 (by kernel_rfl) rfl #[.agg #[.int .i64 a1_0, .int .i64 a1_1, .int .i64 a1_2, .int .i64 a1_3, .int .i64 a1_4, .int .i64 a1_5, .int .i64 a1_6, .int .i64 a1_7]] rfl gA ?_; (with_reducible refine (qcA.calls a1_0 a1_1 a1_2 a1_3 a1_4 a1_5 a1_6 a1_7 t458 t459 t460 t461 t462 t463 t464 t465 _ A32.out).mono ?_); rintro e w38 ⟨rfl, hb⟩; refine ⟨_, rfl, ?_⟩; replace HO_9 := aM (Kd.qj (rR HO_9) hb); replace HO_11 := aM (Kd.qj (rR HO_11) hb); replace BK429 := aM (bb BK429 hb); replace HB := aM (qB bl hb); (try clear hb); (try clear hb2); (try clear hk); (try clear hi)) | ((with_reducible refine qF (f := 7) rfl ?_); refine qh (some 64) rfl rfl Tryz.func7 (by kernel_rfl) rfl #[.string a0, .agg #[.int .i64 t458, .int .i64 t459, .int .i64 t460, .int .i64 t461, .int .i64 t462, .int .i64 t463, .int .i64 t464, .int .i64 t465], .int .i64 a2, .int .i64 a3] rfl gA ?_; (with_reducible refine (qqA.calls a0 t458 t459 t460 t461 t462 t463 t464 t465 a2 a3 t466 t469 _ ?side1 A33.out).mono ?_); (case side1 => first | (with_reducible exact HLD.out) | exact Laid.below HLD.out bl); rintro e w39 ⟨v467, rfl, ho0, hb⟩; refine ⟨_, rfl, ?_⟩; have HO468 := aM (Kd.qHA (Kd.qLB (Kd.qLB ho0 (Kd.R_lt (rR HO_9))) (Kd.R_lt (rR HO_11))) (qT bl)); replace HO_9 := aM (Kd.qYA (rR HO_9) (Kd.qMB ho0) hb); replace HO_11 := aM (Kd.qYA (rR HO_11) (Kd.qMB ho0) hb); replace BK429 := aM (bb BK429 hb); replace HB := aM (qB bl hb); (try clear hb); (try clear hb2); (try clear hk); (try clear hi); (try clear ho0)))
       (try simp only [Act.put, List.setIfInBounds_toArray, List.set_cons_zero, List.set_cons_succ])
       go_cut [75] (fun v75 wc => ∃ (kq : Nat) (x75_33 : Bool), v75 = .bool x75_33 ∧ Aside0 (qV.j1 kq t456 t455 x75_33 = some r) ∧ Aside0 (kq ≤ kj10) ∧ Aside0 (Kd.R (Kd.int .i64) 3 wc w.heap.size (fun _ => True) (.slice Ao35 t450.length co35) t456) ∧ Aside0 (wc.heap[gb429]? = some (.cells #[.int .i64 a1_0, .int .i64 a1_1, .int .i64 a1_2, .int .i64 a1_3, .int .i64 a1_4, .int .i64 a1_5, .int .i64 a1_6, .int .i64 a1_7] 25 (0, 0))) ∧ Aside0 (Below w.heap.size w wc))
       case first =>
        have H := HC34.out
        clear HC34
        replace H := bO H
        obtain ⟨t470, A40, H⟩ := H
        by_cases c41 : t470 = true
        ·subst c41
         replace H := iT H
         have H' := aM H
         clear H
         obtain ⟨Ao42, co42, eo42⟩ := Kd.qi HO468.out
         subst eo42
         obtain ⟨Ao43, co43, eo43⟩ := Kd.qi HO_9.out
         subst eo43
         go_wp2_with (first | ((with_reducible refine qF (f := 8) rfl ?_); refine qh (some 69) rfl rfl Tryz.func8 (by kernel_rfl) rfl #[.slice Ao42 t466.length co42, .slice Ao43 t438.length co43] rfl gA ?_; (with_reducible refine (qFA.calls kj10 _ _ t466 _ _ t438 true _ ?side1 ?side2 ?side3 ?side4 A40.out).mono ?_); (case side1 => repeat (first | exact (Kd.qE HO468.out).2.2 | (with_reducible refine Kd.qc ?_ _) | (with_reducible refine Kd.qb ?_ _) | (with_reducible refine Kd.qu ?_))); (case side2 => exact (Kd.qE HO468.out).2.1); (case side3 => repeat (first | exact (Kd.qE HO_9.out).2.2 | (with_reducible refine Kd.qc ?_ _) | (with_reducible refine Kd.qb ?_ _) | (with_reducible refine Kd.qu ?_))); (case side4 => exact (Kd.qE HO_9.out).2.1); rintro e w' ⟨rfl, ⟨nd, rfl⟩⟩; refine ⟨_, rfl, ?_⟩))
         go_meet
         case rel => exact ⟨_, ((t469 != t441)), sD, H', ⟨by have := HJ10.out; first | omega | exact Nat.le_refl _⟩, ⟨by (with_reducible repeat (first | apply Kd.qR | apply Kd.qU | apply Kd.qQ)); exact Kd.qY HO_11.out (fun _ hk => trivial)⟩, ⟨rB BK429⟩, ⟨bl⟩⟩
        ·replace c41 := Bool.eq_false_iff.mpr c41
         subst c41
         replace H := iF H
         have H' := aM H
         clear H
         obtain ⟨Ao44, co44, eo44⟩ := Kd.qi HO468.out
         subst eo44
         obtain ⟨Ao45, co45, eo45⟩ := Kd.qi HO_9.out
         subst eo45
         go_wp2_with (first | ((with_reducible refine qF (f := 8) rfl ?_); refine qh (some 69) rfl rfl Tryz.func8 (by kernel_rfl) rfl #[.slice Ao44 t466.length co44, .slice Ao45 t438.length co45] rfl gA ?_; (with_reducible refine (qFA.calls kj10 _ _ t466 _ _ t438 false _ ?side1 ?side2 ?side3 ?side4 A40.out).mono ?_); (case side1 => repeat (first | exact (Kd.qE HO468.out).2.2 | (with_reducible refine Kd.qc ?_ _) | (with_reducible refine Kd.qb ?_ _) | (with_reducible refine Kd.qu ?_))); (case side2 => exact (Kd.qE HO468.out).2.1); (case side3 => repeat (first | exact (Kd.qE HO_9.out).2.2 | (with_reducible refine Kd.qc ?_ _) | (with_reducible refine Kd.qb ?_ _) | (with_reducible refine Kd.qu ?_))); (case side4 => exact (Kd.qE HO_9.out).2.1); rintro e w' ⟨rfl, ⟨nd, rfl⟩⟩; refine ⟨_, rfl, ?_⟩))
         go_meet
         case rel => exact ⟨_, (true), sD, H', ⟨by have := HJ10.out; first | omega | exact Nat.le_refl _⟩, ⟨by (with_reducible repeat (first | apply Kd.qR | apply Kd.qU | apply Kd.qQ)); exact Kd.qY HO_11.out (fun _ hk => trivial)⟩, ⟨rB BK429⟩, ⟨bl⟩⟩
       case rest =>
        clear HC34; (try clear c1); (try clear c2); (try clear p2); (try clear c3); (try clear c4); (try clear c5); (try clear c5b0); (try clear c5b1); (try clear c6); (try clear c7); (try clear c8); (try clear c9); (try clear c10); (try clear c20); (try clear c25); (try clear c28); (try clear c28b0); (try clear c31); (try clear c31b0); (try clear c31b1); (try clear c41); (try clear hcz13_0 hcz13_1 hcz13_2 hcz13_3 hcz13_4 hcz13_5 hcz13_6 hcz13_7); (try clear hcz16_0 hcz16_1 hcz16_2 hcz16_3 hcz16_4 hcz16_5 hcz16_6 hcz16_7); (try clear hcz37_0 hcz37_1 hcz37_2 hcz37_3 hcz37_4 hcz37_5 hcz37_6 hcz37_7); (try clear hfz13_0 hfz13_1 hfz13_2 hfz13_3 hfz13_4 hfz13_5 hfz13_6 hfz13_7); (try clear hfz16_0 hfz16_1 hfz16_2 hfz16_3 hfz16_4 hfz16_5 hfz16_6 hfz16_7); (try clear hfz37_0 hfz37_1 hfz37_2 hfz37_3 hfz37_4 hfz37_5 hfz37_6 hfz37_7); (try clear p2)
        obtain ⟨kq, x75_33, rfl, HA, HJ33, HO_11, BK429, HB⟩ := hcut
        have hl11_33 := (Kd.qE HO_11.out).1
        rw [hl11_33] at HO_11
        (try simp only [hl11_33])
        (try simp only [hl11_33] at BK429)
        cases kq with
        | zero => exact absurd HA.out (by simp [qV.j1])
        | succ kj33 =>
         have H := HA.out
         clear HA
         simp only [qV.j1] at H
         by_cases c46 : x75_33 = true
         ·subst c46
          replace H := iT H
          obtain rfl := Option.some.inj H
          go_wp2
          go_ret
          exact ⟨sR, bl⟩
         ·replace c46 := Bool.eq_false_iff.mpr c46
          subst c46
          replace H := iF H
          replace H := bO H
          obtain ⟨t471, A47, H⟩ := H
          by_cases c48 : t471 < 0
          ·rw [if_pos c48] at H
           have c48b0 := decide_eq_true c48
           clear c48
           obtain rfl := Option.some.inj H
           go_wp2_with (first | ((with_reducible refine qF (f := 10) rfl ?_); refine qh (some 78) rfl rfl Tryz.func10 (by kernel_rfl) rfl #[.slice Ao35 t456.length co35, .int .i64 1] rfl gA ?_; (with_reducible refine (qt.calls kj33 _ _ t456 1 t471 _ ?side1 ?side2 A47.out).mono ?_); (case side1 => repeat (first | exact (Kd.qE HO_11.out).2.2 | (with_reducible refine Kd.qc ?_ _) | (with_reducible refine Kd.qb ?_ _) | (with_reducible refine Kd.qu ?_))); (case side2 => exact (Kd.qE HO_11.out).2.1); rintro e w' ⟨rfl, ⟨nd, rfl⟩⟩; refine ⟨_, rfl, ?_⟩))
           go_ret
           exact ⟨sR, bl⟩
          ·rw [if_neg c48] at H
           have c48b0 := decide_eq_false c48
           clear c48
           by_cases c49 : t471 = t455
           ·rw [if_pos c49] at H
            have c49b0 := beq_iff_eq.mpr c49
            have c49b1 := bne_eq_false_iff_eq.mpr c49
            clear c49
            obtain rfl := Option.some.inj H
            go_wp2_with (first | ((with_reducible refine qF (f := 10) rfl ?_); refine qh (some 78) rfl rfl Tryz.func10 (by kernel_rfl) rfl #[.slice Ao35 t456.length co35, .int .i64 1] rfl gA ?_; (with_reducible refine (qt.calls kj33 _ _ t456 1 t471 _ ?side1 ?side2 A47.out).mono ?_); (case side1 => repeat (first | exact (Kd.qE HO_11.out).2.2 | (with_reducible refine Kd.qc ?_ _) | (with_reducible refine Kd.qb ?_ _) | (with_reducible refine Kd.qu ?_))); (case side2 => exact (Kd.qE HO_11.out).2.1); rintro e w' ⟨rfl, ⟨nd, rfl⟩⟩; refine ⟨_, rfl, ?_⟩))
            go_ret
            exact ⟨sR, bl⟩
           ·rw [if_neg c49] at H
            have c49b0 := beq_eq_false_iff_ne.mpr c49
            have c49b1 := bne_iff_ne.mpr c49
            obtain rfl := Option.some.inj H
            go_wp2_with (first | ((with_reducible refine qF (f := 10) rfl ?_); refine qh (some 78) rfl rfl Tryz.func10 (by kernel_rfl) rfl #[.slice Ao35 t456.length co35, .int .i64 1] rfl gA ?_; (with_reducible refine (qt.calls kj33 _ _ t456 1 t471 _ ?side1 ?side2 A47.out).mono ?_); (case side1 => repeat (first | exact (Kd.qE HO_11.out).2.2 | (with_reducible refine Kd.qc ?_ _) | (with_reducible refine Kd.qb ?_ _) | (with_reducible refine Kd.qu ?_))); (case side2 => exact (Kd.qE HO_11.out).2.1); rintro e w' ⟨rfl, ⟨nd, rfl⟩⟩; refine ⟨_, rfl, ?_⟩))
            go_ret
            exact ⟨sR, bl⟩
      ·rw [if_neg c31] at H
       have c31b0 := beq_eq_false_iff_ne.mpr c31
       have c31b1 := bne_iff_ne.mpr c31
       obtain rfl := Option.some.inj H
       obtain ⟨Ao50, co50, eo50⟩ := Kd.qi HO_11.out
       subst eo50
       go_wp2_with (first | ((with_reducible refine qF (f := 9) rfl ?_); refine qh (some 49) rfl rfl Tryz.func9 (by kernel_rfl) rfl #[.slice Ao50 t450.length co50, .int .i64 1] rfl gA ?_; (with_reducible refine (qx.calls kj10 (fun k_ => some k_ = (.slice Ao50 t450.length co50 : Value).ownBlock) (.slice Ao50 t450.length co50) t450 1 t455 t456 w _ ?side1 ?side2 A26.out).mono ?_); (case side1 => repeat (first | (with_reducible first | exact HB.out | apply qQA | apply qVA | apply qm | refine qw ?_ GE429.out) | exact HB.out)); (case side2 => exact Kd.qSC rfl HO_11.out); rintro e w51 ⟨rfl, hy0, hb, hkp⟩; refine ⟨_, rfl, ?_⟩; replace HO_9 := aM (Kd.qY (ok' := fun k_ => some k_ ≠ (.slice Ao50 t450.length co50 : Value).ownBlock) (Kd.qKD (HO_9.out) hkp (fun k_ hk_ hs_ => (hk_) hs_)) (fun k_ hk_ => hk_.1)); replace BK429 := aM (qXC (rB BK429) hkp (fun hs_ => (fun e_ => (Kd.R_ne HO_11.out BK429.out (by decide)) e_) hs_)); replace HO_11 := aM (Kd.qfD rfl hy0 (fun k_ e_ => HO_11.out.1 k_ e_)); replace HB := aM (hb); (try clear hb); (try clear hkp); (try clear hy0)) | ((with_reducible refine qF (f := 10) rfl ?_); refine qh (some 52) rfl rfl Tryz.func10 (by kernel_rfl) rfl #[.slice Ao50 t456.length co50, .int .i64 1] rfl (by (try simp only [List.map_toArray, List.map_cons, List.map_nil]); first | done | (rw [show t456.length = t450.length from (Kd.qE HO_11.out).1.symm] <;> rfl) | rfl | (simp only [List.length_drop, List.length_take]; rfl)) ?_; (with_reducible refine (qt.calls kj10 _ _ t456 1 t457 _ ?side1 ?side2 A27.out).mono ?_); (case side1 => repeat (first | exact (Kd.qE HO_11.out).2.2 | (with_reducible refine Kd.qc ?_ _) | (with_reducible refine Kd.qb ?_ _) | (with_reducible refine Kd.qu ?_))); (case side2 => rw [show t456.length = t450.length from (Kd.qE HO_11.out).1.symm]; exact (Kd.qE HO_11.out).2.1); rintro e w' ⟨rfl, ⟨nd, rfl⟩⟩; refine ⟨_, rfl, ?_⟩))
       go_ret
       exact ⟨sR, bl⟩
def qV.Pure : Prop := ∀ (a0 : ByteArray) (a1_0 : Int) (a1_1 : Int) (a1_2 : Int) (a1_3 : Int) (a1_4 : Int) (a1_5 : Int) (a1_6 : Int) (a1_7 : Int) (a2 : Int) (a3 : Int), a0.size ≤ 140737488351232 → (Lit.int .i64 a1_0).wf = true → (Lit.int .i64 a1_1).wf = true → (Lit.int .i64 a1_2).wf = true → (Lit.int .i64 a1_3).wf = true → (Lit.int .i64 a1_4).wf = true → (Lit.int .i64 a1_5).wf = true → (Lit.int .i64 a1_6).wf = true → (Lit.int .i64 a1_7).wf = true → (Lit.int .i64 a2).wf = true → (Lit.int .i64 a3).wf = true → ∃ k, qV.f k a0 a1_0 a1_1 a1_2 a1_3 a1_4 a1_5 a1_6 a1_7 a2 a3 = some true
end Go.Proofs.YtdhbimankkpllaaGreatDoor.P
namespace Go.Proofs.YtdhbimankkpllaaGreatDoor
open Go.ChangeShapes Go.WideShapes Go.Deep Go.RowKit Go.Proofs.YtdhbimankkpllaaGreatDoorW.PrintWords
set_option linter.unusedVariables false
set_option linter.unusedSimpArgs false
theorem list_of_8 : ∀ zs : List Int, zs.length = 8 → ∃ x0 x1 x2 x3 x4 x5 x6 x7 : Int, zs = [x0, x1, x2, x3, x4, x5, x6, x7]
 | [x0, x1, x2, x3, x4, x5, x6, x7], _ => ⟨x0, x1, x2, x3, x4, x5, x6, x7, rfl⟩
def laidB (P : Program) : List Field → Nat → Nat → Bool
 | [], o, n => decide (o = n)
 | f :: fs, o, n => decide (f.offset = o) && laidB P fs (o + P.cellsOf f.type) n
def flatB (P : Program) : Nat → TypeId → Bool
 | 0, _ => false
 | m + 1, t => match P.underlying t with
  | some (.int .i64) => decide (P.cellsOf t = 1)
  | some (.struct fs) => laidB P fs.toList 0 (P.cellsOf t) && fs.toList.all fun f => flatB P m f.type
  | _ => false
section
variable {H : Type} {enc : TypeId × Value → H} {P : Program} {w : World} {base : Nat} {spare : Nat → Bool} {held : Bool}
theorem fields_flat {n : Nat} (cs : List Value) (rd : TypeId → List Value → Option (DataW H × List MemPlace)) :
  ∀ (fs : List Field) (o : Nat) (xs : List (DataW H × List MemPlace)), laidB P fs o n = true → xs.length = fs.length →
   (∀ (i : Nat) (f : Field), fs[i]? = some f → rd f.type ((cs.drop f.offset).take (P.cellsOf f.type)) = xs[i]?) →
   (∀ f ∈ fs, ∀ cs' x, rd f.type cs' = some x → cs'.length = P.cellsOf f.type ∧ ∃ zs : List Int, cs' = zs.map (Value.int .i64) ∧ ∀ z ∈ zs, (Lit.int .i64 z).wf = true) →
   o ≤ n ∧ ∃ zs : List Int, (cs.drop o).take (n - o) = zs.map (Value.int .i64) ∧ ∀ z ∈ zs, (Lit.int .i64 z).wf = true
 | [], o, xs, hl, hx, hr, hi => by
  have : o = n := by simpa [laidB] using hl
  subst this
  exact ⟨Nat.le_refl _, [], by simp, by simp⟩
 | f :: fs, o, xs, hl, hx, hr, hi => by
  simp only [laidB, Bool.and_eq_true, decide_eq_true_eq] at hl
  obtain ⟨ho, hl⟩ := hl
  match xs, hx with
  | x :: xs, hx =>
   have h0 := hr 0 f rfl
   rw [ho] at h0
   obtain ⟨hlen, zs, hz, hw⟩ := hi f (by simp) _ x h0
   obtain ⟨hle, ws, hw2, hw3⟩ := fields_flat cs rd fs (o + P.cellsOf f.type) xs hl (by simpa using hx) (fun i g hg => by have := hr (i + 1) g (by simpa using hg); simpa using this) (fun g hg => hi g (by simp [hg]))
   refine ⟨by omega, zs ++ ws, ?_, fun z hz' => ?_⟩
   ·rw [List.map_append, ← hz, ← hw2, ← List.drop_drop, show n - o = P.cellsOf f.type + (n - (o + P.cellsOf f.type)) by omega, List.take_add]
   ·rcases List.mem_append.1 hz' with h | h
    ·exact hw z h
    ·exact hw3 z h
theorem trod_flat (m : Nat) : ∀ {t : TypeId} {fuel : Nat} {cs : List Value} {x : DataW H × List MemPlace}, flatB P m t = true → DataW.trod enc P w base spare held fuel t cs = some x → (∃ k, P.underlying t = some (.int k)) → cs.length = 1 ∧ ∃ zs : List Int, cs = zs.map (Value.int .i64) ∧ ∀ z ∈ zs, (Lit.int .i64 z).wf = true := by
 intro t fuel cs x hf h ⟨k, hk⟩
 cases m with
 | zero => simp [flatB] at hf
 | succ m =>
  unfold flatB at hf
  rw [hk] at hf
  have : k = .i64 := by
   cases k <;> first | rfl | (simp at hf)
  subst this
  obtain ⟨n, rfl, _, hw⟩ := DataW.trod_int hk h
  exact ⟨rfl, [n], rfl, by simpa using hw⟩
theorem trod_flat_all (m : Nat) : ∀ {t : TypeId} {fuel : Nat} {cs : List Value} {x : DataW H × List MemPlace}, flatB P m t = true → DataW.trod enc P w base spare held fuel t cs = some x →
  cs.length = P.cellsOf t ∧ ∃ zs : List Int, cs = zs.map (Value.int .i64) ∧ ∀ z ∈ zs, (Lit.int .i64 z).wf = true := by
 induction m with
 | zero => intro t fuel cs x hf h; simp [flatB] at hf
 | succ m ih =>
  intro t fuel cs x hf h
  have hf0 := hf
  unfold flatB at hf
  split at hf
  ·rename_i hu
   obtain ⟨hl, hz⟩ := trod_flat (m + 1) hf0 h ⟨_, hu⟩
   exact ⟨by rw [hl, of_decide_eq_true hf], hz⟩
  ·rename_i fs hu
   rw [Bool.and_eq_true, List.all_eq_true] at hf
   obtain ⟨hl, ha⟩ := hf
   obtain ⟨xs, n, _, _, hlen, hxl, hg⟩ := DataW.trod_struct hu h
   obtain ⟨_, zs, hz, hw⟩ := fields_flat (n := P.cellsOf t) cs (fun t cs => DataW.trod enc P w base spare held n t cs) fs.toList 0 xs hl (by simpa using hxl)
    (fun i f hf => hg i f (by simpa using hf)) (fun f hf cs' x hx => ih (ha f hf) hx)
   refine ⟨hlen, zs, ?_, hw⟩
   rw [← hz, List.drop_zero, Nat.sub_zero, ← hlen, List.take_length]
  ·cases hf
theorem open_flat {r : Reach} {b0 m : Nat} {t : TypeId} {fs : Array Field} {v : Value} {d : DataW H} {p : List MemPlace} (hu : P.underlying t = some (.struct fs)) (hf : flatB P m t = true)
  (hv : Value.okWide P w r b0 t v) (h : DataW.Trod enc P w base spare held t v d p) : ∃ zs : List Int, v = .agg (zs.map (Value.int .i64)).toArray ∧ zs.length = P.cellsOf t ∧ ∀ z ∈ zs, (Lit.int .i64 z).wf = true := by
 obtain ⟨cs, rfl, hsz⟩ := okWide_struct hu hv
 obtain ⟨fuel, hf'⟩ := h
 obtain ⟨hl, zs, hz, hw⟩ := trod_flat_all m hf hf'
 simp only [Value.cells] at hz hl
 refine ⟨zs, ?_, by rw [← hl, hz, List.length_map], hw⟩
 rw [← hz]
end
end Go.Proofs.YtdhbimankkpllaaGreatDoor
namespace Go.Proofs.YtdhbimankkpllaaGreatDoor
open Go.RowKit Go.Proofs.YtdhbimankkpllaaGreatDoor.P Go.Proofs.YtdhbimankkpllaaGreatDoorW.PrintWords Go.Proofs.YtdhbimankkpllaaGreatDoorW.PrintLast
set_option linter.unusedVariables false
set_option linter.unusedSimpArgs false
abbrev WN := S68
def er (n : WN) : XS × WB := (n.f0, (n.f1, (n.f3, n.f4)))
def codesY (a : ByteArray) (L : List (XS × WB)) : List Int := L.map fun z => codeY a z.1
theorem rdWN (l : List WN) (i : Nat) (h : i < l.length) : qA l (i : Int) = l[i] := by
 unfold qA
 simp [h]
theorem qZD (l : List WN) (i : Nat) (h : i < l.length) (v : WN) (hv : er v = er l[i]) : (l.set i v).map er = l.map er := by
 rw [List.map_set, hv]
 apply List.ext_getElem?
 intro j
 rw [List.getElem?_set]
 by_cases e : i = j
 case pos => subst e; rw [if_pos rfl, if_pos (by rw [List.length_map]; exact h), List.getElem?_map, List.getElem?_eq_getElem h]; rfl
 rw [if_neg e]
theorem er_get {x5 : List WN} {L : List (XS × WB)} (h : x5.map er = L) {i : Nat} (hi : i < x5.length) {z : XS × WB} (hz : L[i]? = some z) : er x5[i] = z := by
 rw [← h, List.getElem?_map, List.getElem?_eq_getElem hi] at hz
 exact Option.some.inj hz
theorem plc_not (n : Int) : ∀ (l : List Int) (i : Nat), ¬ n ∈ l → plc n l i = -1
 | [], _, _ => rfl
 | x :: l, i, h => by
  rw [List.mem_cons, not_or] at h
  unfold plc
  rw [if_neg (fun e => h.1 (by first | exact e | exact e.symm))]
  exact plc_not n l (i + 1) h.2
def nx (n : WN) (d v : Int) : WN := ⟨n.f0, n.f1, n.f2, n.f3, n.f4, ⟨if d = 0 then v else n.f5.f0, if d = 1 then v else n.f5.f1, if d = 2 then v else n.f5.f2, if d = 3 then v else n.f5.f3⟩⟩
def nw (n m : WN) : WN := ⟨n.f0, n.f1, wrap64 (n.f2 + m.f2), n.f3, n.f4, n.f5⟩
theorem wy_j2 (W H : Int) (cs : List Int) (x5 : List WN) (x6 : List Int) (i d at_ : Nat) (hi : i < x5.length) (hat : at_ < x5.length) (hd : d < 4) :
  ∃ y5, y5.map er = x5.map er ∧ ∀ R, Ev (fun k => qI.l1 k y5 x6 (i : Int) ((d + 1 : Nat) : Int) W H cs) R → Ev (fun k => qI.j2 k x5 x6 (i : Int) (d : Int) (at_ : Int) W H cs) R := by
 have w : wrap64 ((d : Int) + 1) = ((d + 1 : Nat) : Int) := by unfold wrap64; omega
 by_cases he : x5[at_].f1 = wrap64 (x5[i].f1 + 1)
 ·obtain ⟨y, hy⟩ : ∃ y, x5.set at_ (nw x5[at_] x5[i]) = y := ⟨_, rfl⟩
  have hyl : i < y.length := by rw [← hy, List.length_set]; exact hi
  refine ⟨y.set i (nx y[i] (d : Int) (at_ : Int)), ?_, fun R hR => Ev.step (f := fun k => _) (fun k => by rw [qI.j2]) ?_⟩
  ·refine (qZD y i hyl (nx y[i] (d : Int) (at_ : Int)) rfl).trans ?_
   rw [← hy]
   exact qZD x5 at_ hat (nw x5[at_] x5[i]) rfl
  ·simp only [w, Int.toNat_natCast, rdWN x5 at_ hat, rdWN x5 i hi]
   refine Ev.pos (by omega) (Ev.pos (by omega) (Ev.pos (by omega) (Ev.pos (by omega) (Ev.pos he (Ev.bindc (a := y) (by rw [← hy]; rfl) ?_)))))
   simp only [rdWN y i hyl]
   exact Ev.pos (by omega) (Ev.pos (by omega) hR)
 ·refine ⟨x5.set i (nx x5[i] (d : Int) (at_ : Int)), qZD x5 i hi (nx x5[i] (d : Int) (at_ : Int)) rfl, fun R hR => Ev.step (f := fun k => _) (fun k => by rw [qI.j2]) ?_⟩
  simp only [w, Int.toNat_natCast, rdWN x5 at_ hat, rdWN x5 i hi]
  exact Ev.pos (by omega) (Ev.pos (by omega) (Ev.pos (by omega) (Ev.pos (by omega) (Ev.neg he (Ev.pos (by omega) (Ev.pos (by omega) hR))))))
theorem codes_mem {a : ByteArray} (g : Gnd a) {L : List (XS × WB)} (h : FoundW a L) {z : XS} (hz : stateB a z = true) : codeY a z ∈ codesY a L ↔ z ∈ L.map Prod.fst := by
 constructor
 ·intro hm
  obtain ⟨y, hy, e⟩ := List.mem_map.1 hm
  have := codeY_inj g (h.ok y hy) hz e
  subst this
  exact List.mem_map.2 ⟨y, hy, rfl⟩
 ·intro hm
  obtain ⟨y, hy, rfl⟩ := List.mem_map.1 hm
  exact List.mem_map.2 ⟨y, hy, rfl⟩
theorem wy_l1 {a : ByteArray} (g : Gnd a) (x5 : List WN) (L : List (XS × WB)) (hL : x5.map er = L) (hF : FoundW a L) (i : Nat) (x : XS) (p : WB) (hx : L[i]? = some (x, p)) (hp : 0 ≤ p.1 ∧ p.1 ≤ 49000000) (d : Nat) (hd : d < 4) :
  ∃ y5, y5.map er = Bfs.put L (rollO a x (d : Int)) ((p.1.toNat : Int) + 1, ((i : Int), (d : Int))) ∧ ∀ R, Ev (fun k => qI.l1 k y5 (codesY a (Bfs.put L (rollO a x (d : Int)) ((p.1.toNat : Int) + 1, ((i : Int), (d : Int))))) (i : Int) ((d + 1 : Nat) : Int) (wideT a : Int) (highT a : Int) (csOf a)) R →
   Ev (fun k => qI.l1 k x5 (codesY a L) (i : Int) (d : Int) (wideT a : Int) (highT a : Int) (csOf a)) R := by
 have w : wrap64 ((d : Int) + 1) = ((d + 1 : Nat) : Int) := by unfold wrap64; omega
 have hlen : x5.length = L.length := by rw [← hL, List.length_map]
 have hn := hF.len g
 have hi : i < x5.length := by rw [hlen]; exact (List.getElem?_eq_some_iff.1 hx).1
 have hi5 := er_get hL hi hx
 obtain ⟨y, hy⟩ : ∃ y, x5.set i (nx x5[i] (d : Int) (-1)) = y := ⟨_, rfl⟩
 have hyl : i < y.length := by rw [← hy, List.length_set]; exact hi
 have hyL : y.map er = L := by rw [← hy, ← hL]; exact qZD x5 i hi (nx x5[i] (d : Int) (-1)) rfl
 have hyi := er_get hyL hyl hx
 have hy0 : y[i].f0 = x := congrArg Prod.fst hyi
 have hy1 : y[i].f1 = p.1 := congrArg (fun z => z.2.1) hyi
 have hylen : y.length = x5.length := by rw [← hy, List.length_set]
 have hroll := specRoll_eq g x (d : Int)
 have hxs : stateB a x = true := hF.ok (x, p) (List.mem_of_getElem? hx)
 have hcl : (codesY a L).length ≤ 100000000 := by unfold codesY; rw [List.length_map]; omega
 have pre : ∀ R, Ev (fun k => (qpA.f (wideT a : Int) (highT a : Int) (csOf a) x.f0 x.f1 x.f2.f0 x.f2.f1 x.f2.f2 x.f2.f3 x.f2.f4 x.f2.f5 (d : Int)).bind fun bt169 => (if bt169.2.2.2.2.2.2.2.2 = true then ((qv.f k (wideT a : Int) (highT a : Int) (csOf a) bt169.1 bt169.2.1 bt169.2.2.1 bt169.2.2.2.1 bt169.2.2.2.2.1 bt169.2.2.2.2.2.1 bt169.2.2.2.2.2.2.1 bt169.2.2.2.2.2.2.2.1).bind fun t179 => ((qJA.f k (codesY a L) t179).bind fun t180 => (if t180 < 0 then (if y.length < 1099511627776 then ((qv.f k (wideT a : Int) (highT a : Int) (csOf a) bt169.1 bt169.2.1 bt169.2.2.1 bt169.2.2.2.1 bt169.2.2.2.2.1 bt169.2.2.2.2.2.1 bt169.2.2.2.2.2.2.1 bt169.2.2.2.2.2.2.2.1).bind fun t185 => (if (codesY a L).length < 17592186044416 then (qI.j2 k (y ++ [(⟨⟨bt169.1, bt169.2.1, ⟨bt169.2.2.1, bt169.2.2.2.1, bt169.2.2.2.2.1, bt169.2.2.2.2.2.1, bt169.2.2.2.2.2.2.1, bt169.2.2.2.2.2.2.2.1⟩⟩, wrap64 (p.1 + 1), 0, (i : Int), (d : Int), ⟨0, 0, 0, 0⟩⟩ : WN)]) (codesY a L ++ [t185]) (i : Int) (d : Int) (x5.length : Int) (wideT a : Int) (highT a : Int) (csOf a)) else (none))) else (none)) else (qI.j2 k y (codesY a L) (i : Int) (d : Int) t180 (wideT a : Int) (highT a : Int) (csOf a))))) else (qI.l1 k y (codesY a L) (i : Int) ((d + 1 : Nat) : Int) (wideT a : Int) (highT a : Int) (csOf a)))) R →
   Ev (fun k => qI.l1 k x5 (codesY a L) (i : Int) (d : Int) (wideT a : Int) (highT a : Int) (csOf a)) R := by
  intro R hR
  refine Ev.step (f := fun k => _) (fun k => by rw [qI.l1]) ?_
  simp only [w, Int.toNat_natCast, rdWN x5 i hi]
  refine Ev.pos (by omega) (Ev.pos (by omega) (Ev.pos (by omega) (Ev.pos (by omega) (Ev.bindc (a := y) (by rw [← hy]; rfl) ?_))))
  simp only [rdWN y i hyl, hy0, hy1]
  exact hR
 cases hf : floorB a (rollS x (d : Int)).f0 (rollS x (d : Int)).f1 with
 | false =>
  rw [if_neg (by rw [hf]; decide)] at hroll
  have hro : rollO a x (d : Int) = none := by unfold rollO; rw [if_neg (by rw [hf]; decide)]
  rw [hro]
  exact ⟨y, hyL, fun R hR => pre R (Ev.bindc hroll (Ev.neg (by decide) hR))⟩
 | true =>
  rw [if_pos hf] at hroll
  have hro : rollO a x (d : Int) = some (rollS x (d : Int)) := by unfold rollO; rw [if_pos hf]
  have hz := qBC hxs hro
  have hc := wyCodeY_ev g hz
  have hpl := wyPlace_ev (codesY a L) hcl (codeY a (rollS x (d : Int)))
  rw [hro]
  by_cases hm : rollS x (d : Int) ∈ L.map Prod.fst
  ·obtain ⟨j, hj, hj2, _⟩ := plc_mem _ _ 0 ((codes_mem g hF hz).2 hm)
   rw [Nat.zero_add] at hj2
   have hjl : j < y.length := by unfold codesY at hj; rw [List.length_map] at hj; omega
   obtain ⟨y5, h5, hs⟩ := wy_j2 (wideT a : Int) (highT a : Int) (csOf a) y (codesY a L) i d j hyl hjl hd
   rw [Bfs.put_met hm]
   rw [hj2] at hpl
   exact ⟨y5, h5.trans hyL, fun R hR => pre R (Ev.bindc hroll (Ev.pos rfl (Ev.bind hc (Ev.bind hpl (Ev.neg (by omega) (hs R hR))))))⟩
  ·have hnm : ¬ codeY a (rollS x (d : Int)) ∈ codesY a L := fun q => hm ((codes_mem g hF hz).1 q)
   rw [plc_not _ _ 0 hnm] at hpl
   rw [Bfs.qTD hm]
   have hw : wrap64 (p.1 + 1) = (p.1.toNat : Int) + 1 := by unfold wrap64; omega
   obtain ⟨y5, h5, hs⟩ := wy_j2 (wideT a : Int) (highT a : Int) (csOf a) (y ++ [(⟨rollS x (d : Int), wrap64 (p.1 + 1), 0, (i : Int), (d : Int), ⟨0, 0, 0, 0⟩⟩ : WN)]) (codesY a L ++ [codeY a (rollS x (d : Int))]) i d x5.length (by rw [List.length_append]; omega) (by rw [List.length_append, hylen]; simp) hd
   refine ⟨y5, h5.trans (by rw [List.map_append, hyL, hw]; rfl), fun R hR => pre R (Ev.bindc hroll (Ev.pos rfl (Ev.bind hc (Ev.bind hpl (Ev.pos (by omega) (Ev.pos (by omega) (Ev.bind hc (Ev.pos (by omega) (hs R ?_)))))))))⟩
   unfold codesY at hR ⊢
   rw [List.map_append] at hR
   exact hR
theorem wy_dirs {a : ByteArray} (g : Gnd a) (i : Nat) (x : XS) (p : WB) (hp : 0 ≤ p.1 ∧ p.1 ≤ 49000000) : ∀ (n d : Nat) (x5 : List WN) (L : List (XS × WB)), d + n = 4 → x5.map er = L → FoundW a L → L[i]? = some (x, p) →
  ∃ y5, y5.map er = Bfs.puts L (stepsW a i x p n d) ∧ ∀ R, Ev (fun k => qI.l0 k y5 (codesY a (Bfs.puts L (stepsW a i x p n d))) ((i + 1 : Nat) : Int) (wideT a : Int) (highT a : Int) (csOf a)) R →
   Ev (fun k => qI.l1 k x5 (codesY a L) (i : Int) (d : Int) (wideT a : Int) (highT a : Int) (csOf a)) R
 | 0, d, x5, L, hd, hL, hF, hx => by
  have hn := hF.len g
  have hi := (List.getElem?_eq_some_iff.1 hx).1
  have w : wrap64 ((i : Int) + 1) = ((i + 1 : Nat) : Int) := by unfold wrap64; omega
  refine ⟨x5, hL, fun R hR => Ev.step (f := fun k => _) (fun k => by rw [qI.l1]) ?_⟩
  rw [w]
  exact Ev.neg (by omega) hR
 | n + 1, d, x5, L, hd, hL, hF, hx => by
  obtain ⟨y5, h5, hs⟩ := wy_l1 g x5 L hL hF i x p hx hp d (by omega)
  have hxs : stateB a x = true := hF.ok (x, p) (List.mem_of_getElem? hx)
  obtain ⟨z5, h6, hs2⟩ := wy_dirs g i x p hp n (d + 1) y5 _ (by omega) h5 (hF.put _ _ fun z hz => qBC hxs hz) (putW_get hx _ _)
  exact ⟨z5, h6, fun R hR => hs R (hs2 R hR)⟩
theorem wy_run {a : ByteArray} (g : Gnd a) : ∀ (n i : Nat) (L : List (XS × WB)) (x5 : List WN), FoundW a L → FarOk L i → i ≤ L.length → 49000000 ≤ i + n → x5.map er = L →
  ∃ R, R.map er = Bfs.run (nextW a) n i L ∧ Ev (fun k => qI.l0 k x5 (codesY a L) (i : Int) (wideT a : Int) (highT a : Int) (csOf a)) R
 | 0, i, L, x5, hF, hf, hi, hn, hL => by
  have hl := hF.len g
  have hlen : x5.length = L.length := by rw [← hL, List.length_map]
  exact ⟨x5, hL, Ev.step (f := fun k => _) (fun k => by rw [qI.l0]) (Ev.neg (by omega) (Ev.now _))⟩
 | n + 1, i, L, x5, hF, hf, hi, hn, hL => by
  have hl := hF.len g
  have hlen : x5.length = L.length := by rw [← hL, List.length_map]
  unfold Bfs.run
  by_cases h : i < L.length
  ·rw [if_pos h]
   obtain ⟨⟨x, p⟩, hx⟩ : ∃ z, L[i]? = some z := ⟨_, List.getElem?_eq_getElem h⟩
   have hp := hf (x, p) (List.mem_of_getElem? hx)
   have hr : Bfs.round (nextW a) i L = Bfs.puts L (stepsW a i x p 4 0) := by unfold Bfs.round; rw [hx]; rfl
   obtain ⟨y5, h5, hs⟩ := wy_dirs g i x p ⟨hp.1, by have := hp.2; simp only at this; omega⟩ 4 0 x5 L rfl hL hF hx
   have hF2 : FoundW a (Bfs.puts L (stepsW a i x p 4 0)) := by rw [← hr]; exact hF.round i
   have hle : i + 1 ≤ (Bfs.puts L (stepsW a i x p 4 0)).length := by
    obtain ⟨t, ht⟩ := Bfs.puts_prefix (stepsW a i x p 4 0) L
    rw [← ht, List.length_append]; omega
   obtain ⟨R, h6, hR⟩ := wy_run g n (i + 1) _ y5 hF2 (hf.puts hx) hle (by omega) h5
   rw [hr]
   refine ⟨R, h6, Ev.step (f := fun k => _) (fun k => by rw [qI.l0]) (Ev.pos (by omega) ?_)⟩
   exact hs R hR
  ·rw [if_neg h]
   exact ⟨x5, hL, Ev.step (f := fun k => _) (fun k => by rw [qI.l0]) (Ev.neg (by omega) (Ev.now _))⟩
theorem wyAll_ev {a : ByteArray} (g : Gnd a) {s : XS} (h : stateB a s = true) :
  ∃ R, R.map er = reachW a s ∧ Ev (fun k => qI.f k (wideT a : Int) (highT a : Int) (csOf a) s.f0 s.f1 s.f2.f0 s.f2.f1 s.f2.f2 s.f2.f3 s.f2.f4 s.f2.f5) R := by
 obtain ⟨R, h1, h2⟩ := wy_run g 49000000 0 [(s, (0, (-1, 0)))] [(⟨s, 0, 1, -1, 0, ⟨0, 0, 0, 0⟩⟩ : WN)] (FoundW.start h _) (fun z hz => by rw [List.mem_singleton] at hz; subst hz; exact ⟨Int.le_refl _, Int.le_refl _⟩) (Nat.zero_le _) (by omega) rfl
 unfold qI.f
 exact ⟨R, h1, Ev.bind (wyCodeY_ev g h) h2⟩
theorem rd_isD (l : List Int) (i : Nat) {x : Int} (h : i < l.length) (e : l[i] = x) : rd l (i : Int) = x := by
 unfold rd
 rw [Int.toNat_natCast, List.getD_eq_getElem?_getD, List.getElem?_eq_getElem h, e]; rfl
theorem less_loop (l m : List Int) (hl : l.length ≤ 100000) (hm : m.length = l.length) : ∀ (u v : List Int) (i : Nat), l.drop i = u → m.drop i = v → i ≤ l.length →
  Ev (fun k => qa.l0 k l m (l.length : Int) (i : Int)) (decide (lexI u v < 0))
 | [], v, i, hu, hv, h1 => by
  have hi := Sorts.qGB hu
  have hv' : v = [] := by rw [← hv]; exact List.drop_eq_nil_of_le (by omega)
  subst hv'
  refine Ev.step (f := fun k => _) (fun k => by rw [qa.l0]) ?_
  exact Ev.neg (by omega) (Ev.some_ rfl)
 | a :: u, v, i, hu, hv, h1 => by
  obtain ⟨h3, e3, hu'⟩ := Sorts.quA hu
  have ea := rd_isD l i h3 e3
  have w : wrap64 ((i : Int) + 1) = ((i + 1 : Nat) : Int) := by unfold wrap64; omega
  clear hu e3
  refine Ev.step (f := fun k => _) (fun k => by rw [qa.l0]) ?_
  rw [w, ea]
  refine Ev.pos (by omega) (Ev.pos (by omega) (Ev.pos (by omega) (Ev.pos (by omega) ?_)))
  match v, hv with
  | [], hv =>
   have := Sorts.qGB hv
   omega
  | b :: v, hv =>
   obtain ⟨h4, e4, hv'⟩ := Sorts.quA hv
   have eb := rd_isD m i h4 e4
   have ih := less_loop l m hl hm u v (i + 1) hu' hv' (by omega)
   clear hv e4 hu' hv'
   rw [eb]
   have hn := qJB a b u v
   by_cases h0 : a = b
   ·refine Ev.pos h0 ?_
    rw [show decide (lexI (a :: u) (b :: v) < 0) = decide (lexI u v < 0) from decide_eq_decide.2 (by omega)]
    exact ih
   ·refine Ev.neg h0 (Ev.some_ ?_)
    exact decide_eq_decide.2 (by omega)
theorem diLess_ev (x y : DD) : Ev (fun k => qa.f k x.f0 x.f1 x.f2 x.f3 x.f4 x.f5 y.f0 y.f1 y.f2 y.f3 y.f4 y.f5) (ltD x y) := by
 unfold qa.f
 exact Ev.bindc (show qIA.f _ _ _ _ _ _ = some (facesD x) from rfl) (Ev.bindc (show qIA.f _ _ _ _ _ _ = some (facesD y) from rfl) (less_loop (facesD x) (facesD y) (by simp [facesD]) rfl (facesD x) (facesD y) 0 rfl rfl (by simp)))
theorem boAsked_ev (a : ByteArray) (s : XS) : ∃ (w h : Int) (cs : List Int), Ev (fun k => qDA.f k a s.f0 s.f1 s.f2.f0 s.f2.f1 s.f2.f2 s.f2.f3 s.f2.f4 s.f2.f5) (w, h, cs, askS a s) ∧ (askS a s = true → w = (wideT a : Int) ∧ h = (highT a : Int) ∧ cs = csOf a) := by
 have h2 := boRead_ev a
 unfold qDA.f askS
 cases hg : boardB a with
 | false =>
  rw [hg, if_neg (by decide)] at h2
  exact ⟨_, _, _, Ev.bind h2 (Ev.neg (by simp [badG]) (Ev.now _)), fun h => by cases h⟩
 | true =>
  have g := qwC hg
  rw [hg, if_pos rfl] at h2
  exact ⟨_, _, _, Ev.bind h2 (Ev.pos rfl (Ev.bind (boState_ev g s) (Ev.now _))), fun _ => ⟨rfl, rfl, rfl⟩⟩
theorem rdDz (l : List DD) (t : DD) (i : Nat) (h : l[i]? = some t) : qZ l (i : Int) = t := by
 unfold qZ
 rw [Int.toNat_natCast, List.getD_eq_getElem?_getD, h]; rfl
theorem wyd_ins (x1 x2 : Int) (B : List WN) (i : Int) (n : WN) (x : DD) (hx : n.f0.f2 = x) (acc : List DD) (ha : acc.length ≤ 100000000) (R : List DD) (h : Ev (fun k => qM.l0 k x1 x2 (Sorts.ins ltD x acc) B (B.length : Int) (wrap64 (i + 1))) R) (d : Nat) :
  ∀ j : Nat, j ≤ Sorts.less ltD x acc → Sorts.less ltD x acc - j = d → Ev (fun k => qM.l1 k x1 x2 acc (j : Int) B (B.length : Int) i n.f0.f0 n.f0.f1 x.f0 x.f1 x.f2 x.f3 x.f4 x.f5 n.f1 n.f2 n.f3 n.f4 n.f5.f0 n.f5.f1 n.f5.f2 n.f5.f3) R := by
 clear hx
 have hle := Sorts.less_le (lt := ltD) x acc
 have fin : Ev (fun k => qM.l1 k x1 x2 acc (Sorts.less ltD x acc : Int) B (B.length : Int) i n.f0.f0 n.f0.f1 x.f0 x.f1 x.f2 x.f3 x.f4 x.f5 n.f1 n.f2 n.f3 n.f4 n.f5.f0 n.f5.f1 n.f5.f2 n.f5.f3) R := by
  have hi := Sorts.ins_eq (lt := ltD) x acc
  have e : (([] : List DD) ++ acc.take (Sorts.less ltD x acc)) ++ [x] ++ acc.drop (Sorts.less ltD x acc) = Sorts.ins ltD x acc := by
   rw [hi]; simp
  have l1 : (acc.take (Sorts.less ltD x acc)).length = Sorts.less ltD x acc := by rw [List.length_take]; omega
  have l2 : (acc.drop (Sorts.less ltD x acc)).length = acc.length - Sorts.less ltD x acc := List.length_drop
  rw [← e] at h
  refine Ev.step (f := fun k => _) (fun k => by rw [qM.l1]) ?_
  by_cases hlt : Sorts.less ltD x acc < acc.length
  ·have hs := Sorts.less_stop (lt := ltD) x acc hlt
   refine Ev.pos (by omega) (Ev.pos (by omega) ?_)
   rw [rdDz acc _ _ (List.getElem?_eq_getElem hlt)]
   have hd := diLess_ev (acc[Sorts.less ltD x acc]) x
   rw [hs] at hd
   refine Ev.bind hd (Ev.neg (by decide) ?_)
   rw [Int.toNat_natCast]
   refine Ev.bindc rfl (Ev.pos (by omega) (Ev.bindc rfl (Ev.pos (by rw [l1]; simp; omega) (Ev.bindc rfl (Ev.bindc rfl (Ev.pos (by simp [l1]; omega) (Ev.bindc rfl (Ev.bindc rfl (Ev.pos (by simp [l1, l2]; omega) h)))))))))
  ·refine Ev.neg (by omega) ?_
   rw [Int.toNat_natCast]
   refine Ev.bindc rfl (Ev.pos (by omega) (Ev.pos (by omega) (Ev.bindc rfl (Ev.pos (by rw [l1]; simp; omega) (Ev.bindc rfl (Ev.bindc rfl (Ev.pos (by simp [l1]; omega) (Ev.bindc rfl (Ev.bindc rfl (Ev.pos (by simp [l1, l2]; omega) h))))))))))
 induction d with
 | zero =>
  intro j hj hd
  obtain rfl : j = Sorts.less ltD x acc := by omega
  exact fin
 | succ d ih =>
  intro j hj hd
  have hlt : j < acc.length := by omega
  have hs := Sorts.less_lt (lt := ltD) x acc j hlt (by omega)
  have w : wrap64 ((j : Int) + 1) = ((j + 1 : Nat) : Int) := by unfold wrap64; omega
  have ihh := ih (j + 1) (by omega) (by omega)
  clear ih fin h
  refine Ev.step (f := fun k => _) (fun k => by rw [qM.l1]) ?_
  refine Ev.pos (by omega) (Ev.pos (by omega) ?_)
  rw [rdDz acc _ _ (List.getElem?_eq_getElem hlt), w]
  have hd := diLess_ev (acc[j]) x
  rw [hs] at hd
  exact Ev.bind hd (Ev.pos rfl ihh)
theorem diceL_cons (z : XS × WB) (L : List (XS × WB)) (x y : Int) : diceL (z :: L) x y = if (decide (z.1.f0 = x) && decide (z.1.f1 = y)) = true then z.1.f2 :: diceL L x y else diceL L x y := by
 unfold diceL
 split
 ·rename_i h
  rw [List.filter_cons_of_pos (p := fun z : XS × WB => decide (z.1.f0 = x) && decide (z.1.f1 = y)) h]; rfl
 ·rename_i h
  rw [List.filter_cons_of_neg (p := fun z : XS × WB => decide (z.1.f0 = x) && decide (z.1.f1 = y)) h]
theorem qED (x y : Int) (B : List WN) (hB : B.length ≤ 49000000) : ∀ (l : List WN) (i : Nat) (acc : List DD), B.drop i = l → i ≤ B.length → acc.length ≤ i →
  Ev (fun k => qM.l0 k x y acc B (B.length : Int) (i : Int)) (Sorts.insAll ltD acc (diceL (l.map er) x y))
 | [], i, acc, hd, hi, ha => by
  have := Sorts.qGB hd
  refine Ev.step (f := fun k => _) (fun k => by rw [qM.l0]) ?_
  exact Ev.neg (by omega) (Ev.now _)
 | n :: l, i, acc, hd, hi, ha => by
  obtain ⟨hlt, hc, hd'⟩ := Sorts.quA hd
  have hl : (Sorts.ins ltD n.f0.f2 acc).length = acc.length + 1 := by
   have := (Sorts.qiC ltD n.f0.f2 acc).length_eq
   simpa using this
  have ih1 := qED x y B hB l (i + 1) (Sorts.ins ltD n.f0.f2 acc) hd' (by omega) (by omega)
  have ih2 := qED x y B hB l (i + 1) acc hd' (by omega) (by omega)
  have w : wrap64 ((i : Int) + 1) = ((i + 1 : Nat) : Int) := by unfold wrap64; omega
  rw [← w] at ih1 ih2
  rw [List.map_cons, diceL_cons]
  refine Ev.step (f := fun k => _) (fun k => by rw [qM.l0]) ?_
  rw [rdWN B i hlt, hc]
  clear hd hd' hc
  refine Ev.pos (by omega) (Ev.pos (by omega) (Ev.pos (by omega) ?_))
  by_cases h1 : n.f0.f0 = x
  ·refine Ev.pos h1 ?_
   refine Ev.step (f := fun k => _) (fun k => by rw [qM.j1]) ?_
   by_cases h2 : n.f0.f1 = y
   case neg => rw [if_neg (show ¬ (decide ((er n).1.f0 = x) && decide ((er n).1.f1 = y)) = true by rw [Bool.and_eq_true]; exact fun e => h2 (of_decide_eq_true e.2))]; exact Ev.pos (by simp [h2]) ih2
   rw [if_pos (show (decide ((er n).1.f0 = x) && decide ((er n).1.f1 = y)) = true by rw [Bool.and_eq_true]; exact ⟨decide_eq_true h1, decide_eq_true h2⟩)]
   refine Ev.neg (by simp [h2]) ?_
   exact wyd_ins x y B (i : Int) n n.f0.f2 rfl acc (by omega) _ ih1 _ 0 (by omega) rfl
  ·rw [if_neg (show ¬ (decide ((er n).1.f0 = x) && decide ((er n).1.f1 = y)) = true by rw [Bool.and_eq_true]; exact fun e => h1 (of_decide_eq_true e.1))]
   refine Ev.neg h1 ?_
   refine Ev.step (f := fun k => _) (fun k => by rw [qM.j1]) ?_
   exact Ev.pos rfl ih2
theorem wyDice_ev (R : List WN) (hR : R.length ≤ 49000000) (x y : Int) : Ev (fun k => qM.f k R x y) (Sorts.insAll ltD [] (diceL (R.map er) x y)) := by
 unfold qM.f
 exact qED x y R hR R 0 [] rfl (Nat.zero_le _) (Nat.le_refl _)
theorem wyCell_ev (a : ByteArray) (s : XS) (x y : Int) : ∃ R : List WN, Ev (fun k => qCB.f k a s.f0 s.f1 s.f2.f0 s.f2.f1 s.f2.f2 s.f2.f3 s.f2.f4 s.f2.f5 x y) (R, askC a s x y) ∧ (askC a s x y = true → R.map er = reachW a s ∧ R.length ≤ 49000000) := by
 obtain ⟨w, h, cs, h1, h2⟩ := boAsked_ev a s
 unfold qCB.f askC
 cases hb : askS a s with
 | false =>
  rw [hb] at h1
  exact ⟨[], Ev.bind h1 (Ev.neg (by simp) (Ev.now _)), fun e => by cases e⟩
 | true =>
  rw [hb] at h1
  obtain ⟨rfl, rfl, rfl⟩ := h2 hb
  unfold askS at hb
  rw [Bool.and_eq_true] at hb
  have g := qwC hb.1
  rw [Bool.true_and]
  cases hh : hasB a x y with
  | false => exact ⟨[], Ev.bind h1 (Ev.pos rfl (Ev.bindc ((qCD g _ x y).trans (by rw [hh])) (Ev.neg (by decide) (Ev.now _)))), fun e => by cases e⟩
  | true =>
   obtain ⟨R, hR, hev⟩ := wyAll_ev g hb.2
   have hl : R.length ≤ 49000000 := by
    have := ((FoundW.start hb.2 (0, (-1, 0))).run 49000000 0).len g
    rw [show R.length = (R.map er).length by rw [List.length_map], hR]
    exact this
   exact ⟨R, Ev.bind h1 (Ev.pos rfl (Ev.bindc ((qCD g _ x y).trans (by rw [hh])) (Ev.pos rfl (Ev.bind hev (Ev.now _))))), fun _ => ⟨hR, hl⟩⟩
theorem dedD_id : ∀ l : List DD, l.Nodup → dedD l = l
 | [], _ => rfl
 | [x], _ => rfl
 | x :: y :: l, h => by
  have h1 := List.nodup_cons.1 h
  unfold dedD
  rw [if_neg (fun e => h1.1 (by rw [e]; exact List.mem_cons_self)), dedD_id (y :: l) h1.2]
theorem qJD (l : List DD) (h : l.Nodup) : diceS l = Sorts.insAll ltD [] l := by
 unfold diceS
 rw [compact_ded]
 have e := Sorts.sorted_eq_ins ltD_weak l (fun a _ b _ h1 h2 => ltD_tot a b h1 h2)
 rw [← e]
 exact dedD_id _ ((Sorts.qnB ltD l).nodup_iff.2 h)
section
variable {a : ByteArray} {L : List (XS × WB)}
theorem qtB (h : FoundW a L) (x y : Int) : (diceL L x y).Nodup := by
 have h1 := h.nd
 unfold diceL
 rw [List.Nodup, List.pairwise_map] at h1 ⊢
 refine List.Pairwise.imp_of_mem (fun {p q} hp hq hne e => ?_) (h1.filter _)
 obtain ⟨_, hp2⟩ := List.mem_filter.1 hp
 obtain ⟨_, hq2⟩ := List.mem_filter.1 hq
 rw [Bool.and_eq_true, decide_eq_true_eq, decide_eq_true_eq] at hp2 hq2
 exact hne (qYD (hp2.1.trans hq2.1.symm) (hp2.2.trans hq2.2.symm) e)
theorem diceL_million (h : FoundW a L) (x y : Int) : (diceL L x y).length ≤ 1000000 := by
 have hg : ∀ d ∈ diceL L x y, goodD d := by
  intro d hd
  unfold diceL at hd
  obtain ⟨z, hz, rfl⟩ := List.mem_map.1 hd
  exact qiB (h.ok z (List.mem_filter.1 hz).1)
 have h1 : ((diceL L x y).map codeD).Nodup := by
  rw [List.Nodup, List.pairwise_map]
  exact List.Pairwise.imp_of_mem (fun hx hy hne e => hne (codeD_inj (hg _ hx) (hg _ hy) e)) (qtB h x y)
 have h2 := Bfs.quC (U := (List.range 1000000).map fun n : Nat => (n : Int)) h1 (fun c hc => by
  obtain ⟨d, hd, rfl⟩ := List.mem_map.1 hc
  have hq := hg d hd
  have b : 0 ≤ codeD d ∧ codeD d < 1000000 := by
   unfold goodD facesD at hq
   have q0 := hq d.f0 (by simp)
   have q1 := hq d.f1 (by simp)
   have q2 := hq d.f2 (by simp)
   have q3 := hq d.f3 (by simp)
   have q4 := hq d.f4 (by simp)
   have q5 := hq d.f5 (by simp)
   unfold codeD codeF facesD
   simp only [List.foldl]
   omega
  exact List.mem_map.2 ⟨(codeD d).toNat, List.mem_range.2 (by omega), by omega⟩)
 rw [List.length_map, List.length_map, List.length_range] at h2
 exact h2
end
theorem qbC {a : ByteArray} {s : XS} {x y : Int} (h : askC a s x y = true) : FoundW a (reachW a s) := by
 unfold askC askS at h
 rw [Bool.and_eq_true, Bool.and_eq_true] at h
 exact (FoundW.start h.1.2 (0, (-1, 0))).run 49000000 0
theorem diceB_million (a : ByteArray) (s : XS) (x y : Int) : (diceB a s x y).1.length ≤ 1000000 := by
 unfold diceB
 split
 ·rename_i h
  have hf := qbC h
  rw [qJD _ (qtB hf x y)]
  have h1 := (Sorts.qPC ltD (diceL (reachW a s) x y) []).length_eq
  rw [List.append_nil] at h1
  have h2 := diceL_million hf x y
  show (Sorts.insAll ltD [] (diceL (reachW a s) x y)).length ≤ 1000000
  omega
 ·exact Nat.zero_le _
theorem dice_run {a : ByteArray} {s : XS} {x y : Int} (h : askC a s x y = true) {R : List WN} (hR : R.map er = reachW a s) (hl : R.length ≤ 49000000) : Ev (fun k => qM.f k R x y) (diceB a s x y).1 := by
 have e := wyDice_ev R hl x y
 rw [hR, ← qJD _ (qtB (qbC h) x y)] at e
 unfold diceB
 rw [if_pos h]
 exact e
end Go.Proofs.YtdhbimankkpllaaGreatDoor
namespace Go.Proofs.YtdhbimankkpllaaGreatDoor
open Go.RowKit Go.Proofs.YtdhbimankkpllaaGreatDoor.P Go.Proofs.YtdhbimankkpllaaGreatDoorW.PrintWords Go.Proofs.YtdhbimankkpllaaGreatDoorW.PrintLast
open Go.Lib (keeps compactUpTo)
set_option linter.unusedVariables false
set_option linter.unusedSimpArgs false
theorem keepsI_zero (d : Array Int) : keeps d 0 = true := by simp [keeps]
theorem keepsI_one (x y : Int) (l : List Int) : keeps (x :: y :: l).toArray 1 = decide (y ≠ x) := by simp [keeps]
theorem keepsI_two (x y : Int) (l : List Int) (j : Nat) : keeps (x :: y :: l).toArray (j + 2) = keeps (y :: l).toArray (j + 1) := by simp [keeps]
theorem compactI_two (x y : Int) (l : List Int) : Lib.compact (x :: y :: l) = if x = y then Lib.compact (y :: l) else x :: Lib.compact (y :: l) := by
 have e1 : Lib.compact (y :: l) = y :: (((List.range l.length).filter fun j => keeps (y :: l).toArray (j + 1)).map fun j => (y :: l).toArray[j + 1]!) := by
  unfold Lib.compact compactUpTo
  rw [show (y :: l).length = l.length + 1 from rfl, List.range_succ_eq_map, List.filter_cons, if_pos (keepsI_zero _), List.map_cons, List.filter_map, List.map_map]
  rfl
 have e2 : Lib.compact (x :: y :: l) = x :: (if y ≠ x then [y] else []) ++ (((List.range l.length).filter fun j => keeps (y :: l).toArray (j + 1)).map fun j => (y :: l).toArray[j + 1]!) := by
  unfold Lib.compact compactUpTo
  rw [show (x :: y :: l).length = (l.length + 1) + 1 from rfl, List.range_succ_eq_map, List.filter_cons, if_pos (keepsI_zero _), List.map_cons, List.filter_map, List.map_map, List.range_succ_eq_map, List.filter_cons]
  have h0 : (keeps (x :: y :: l).toArray ∘ Nat.succ) 0 = decide (y ≠ x) := keepsI_one x y l
  rw [h0, List.filter_map]
  have h2 : ((keeps (x :: y :: l).toArray ∘ Nat.succ) ∘ Nat.succ) = fun j => keeps (y :: l).toArray (j + 1) := by
   funext j
   exact keepsI_two x y l j
  rw [h2]
  have h3 : ∀ L : List Nat, ((L.map Nat.succ).map ((fun j => (x :: y :: l).toArray[j]!) ∘ Nat.succ)) = L.map fun j => (y :: l).toArray[j + 1]! := by
   intro L
   rw [List.map_map]
   refine List.map_congr_left fun j _ => ?_
   simp
  by_cases h : y = x
  case neg => simp only [ne_eq, h, not_false_eq_true, decide_true, if_true, List.map_cons]; rw [h3]; simp
  subst h
  simp only [ne_eq, not_true_eq_false, decide_false, if_false, Bool.false_eq_true]
  rw [h3]; simp
 rw [e2, e1]
 by_cases h : x = y
 case pos => subst h; simp
 rw [if_neg h, if_pos (fun e => h e.symm)]; rfl
def dedF : Int → List Int → List Int
 | _, [] => []
 | p, x :: l => if x = p then dedF p l else x :: dedF x l
theorem compact_dedF : ∀ (l : List Int) (p : Int), Lib.compact (p :: l) = p :: dedF p l
 | [], p => by simp [Lib.compact, compactUpTo, keeps, dedF]
 | x :: l, p => by
  rw [compactI_two, compact_dedF l x, dedF]
  by_cases h : p = x
  case pos => subst h; rw [if_pos rfl, if_pos rfl]
  rw [if_neg h, if_neg (fun e => h e.symm)]
def topsF : List Int → List Int → List Int
 | acc, [] => acc
 | acc, x :: l => if acc.any (fun y => y == x) = true then topsF acc l else topsF (acc ++ [x]) l
theorem qnC : ∀ (l acc : List Int) (p : Int), (∀ y ∈ acc, y < p) → (∀ x ∈ l, p ≤ x) → l.Pairwise (· ≤ ·) → topsF (acc ++ [p]) l = acc ++ (p :: dedF p l)
 | [], acc, p, _, _, _ => rfl
 | x :: l, acc, p, h1, h2, h3 => by
  obtain ⟨h4, h5⟩ := List.pairwise_cons.1 h3
  have hx := h2 x List.mem_cons_self
  unfold topsF dedF
  by_cases he : x = p
  case pos => subst he; rw [if_pos (by simp), if_pos rfl]; exact qnC l acc x h1 (fun z hz => h4 z hz) h5
  rw [if_neg (by
   rw [List.any_eq_true]
   rintro ⟨y, hy, e⟩
   have e := eq_of_beq e
   subst e
   rcases List.mem_append.1 hy with hy | hy
   ·have := h1 y hy; omega
   ·rw [List.mem_singleton] at hy; exact he hy), if_neg he]
  have := qnC l (acc ++ [p]) x (fun y hy => by
   rcases List.mem_append.1 hy with hy | hy
   ·have := h1 y hy; omega
   ·rw [List.mem_singleton] at hy; omega) (fun z hz => h4 z hz) h5
  rw [this]
  simp
theorem topsF_compact (l : List Int) (h : l.Pairwise (· ≤ ·)) : topsF [] l = Lib.compact l := by
 cases l with
 | nil => rfl
 | cons p l =>
  obtain ⟨h4, h5⟩ := List.pairwise_cons.1 h
  rw [compact_dedF]
  exact qnC l [] p (fun y hy => by cases hy) h4 h5
theorem rdIt (l : List Int) (i : Nat) (h : i < l.length) : rd l (i : Int) = l[i] := by
 unfold rd
 rw [Int.toNat_natCast, List.getD_eq_getElem?_getD, List.getElem?_eq_getElem h]; rfl
theorem l1HasT_loop (l : List Int) (v : Int) (hl : l.length ≤ 100000000) : ∀ (u : List Int) (i : Nat), l.drop i = u → i ≤ l.length →
  Ev (fun k => qXA.l0 k v l (l.length : Int) (i : Int)) (u.any fun y => y == v)
 | [], i, hd, hi => by
  have := Sorts.qGB hd
  refine Ev.step (f := fun k => _) (fun k => by rw [qXA.l0]) ?_
  exact Ev.neg (by omega) (Ev.now _)
 | x :: u, i, hd, hi => by
  obtain ⟨hlt, hc, hd'⟩ := Sorts.quA hd
  have ih := l1HasT_loop l v hl u (i + 1) hd' (by omega)
  have w : wrap64 ((i : Int) + 1) = ((i + 1 : Nat) : Int) := by unfold wrap64; omega
  refine Ev.step (f := fun k => _) (fun k => by rw [qXA.l0]) ?_
  rw [rdIt l i hlt, hc, w]
  clear hd hd' hc
  refine Ev.pos (by omega) (Ev.pos (by omega) (Ev.pos (by omega) ?_))
  rw [List.any_cons]
  by_cases h : x = v
  ·refine Ev.pos h (Ev.some_ ?_)
   rw [beq_iff_eq.2 h]; rfl
  ·refine Ev.neg h ?_
   rw [beq_eq_false_iff_ne.2 h, Bool.false_or]
   exact ih
theorem l1HasT_ev (l : List Int) (v : Int) (hl : l.length ≤ 100000000) : Ev (fun k => qXA.f k l v) (l.any fun y => y == v) := l1HasT_loop l v hl l 0 rfl (Nat.zero_le _)
theorem l1PutT_loop (l : List Int) (v : Int) (hl : l.length ≤ 100000000) (hv : ∀ y ∈ l, y < v) : ∀ (u : List Int) (i : Nat), l.drop i = u → i ≤ l.length →
  Ev (fun k => qZA.l0 k l v (i : Int)) (l ++ [v])
 | [], i, hd, hi => by
  have hz := Sorts.qGB hd
  have hi' : i = l.length := by omega
  subst hi'
  have e : (([] : List Int) ++ l.take l.length) ++ [v] ++ l.drop l.length = l ++ [v] := by simp
  refine Ev.step (f := fun k => _) (fun k => by rw [qZA.l0]) ?_
  rw [← e]
  refine Ev.neg (by omega) ?_
  rw [Int.toNat_natCast]
  refine Ev.bindc rfl (Ev.pos (by omega) (Ev.pos (by omega) (Ev.bindc rfl (Ev.pos (by simp; omega) (Ev.bindc rfl (Ev.pos (by simp; omega) (Ev.bindc rfl (Ev.bindc rfl (Ev.pos (by simp; omega) (Ev.now _))))))))))
 | x :: u, i, hd, hi => by
  obtain ⟨hlt, hc, hd'⟩ := Sorts.quA hd
  have ih := l1PutT_loop l v hl hv u (i + 1) hd' (by omega)
  have w : wrap64 ((i : Int) + 1) = ((i + 1 : Nat) : Int) := by unfold wrap64; omega
  have hx : x < v := by rw [← hc]; exact hv _ (List.getElem_mem hlt)
  refine Ev.step (f := fun k => _) (fun k => by rw [qZA.l0]) ?_
  rw [rdIt l i hlt, hc, w]
  clear hd hd' hc
  exact Ev.pos (by omega) (Ev.pos (by omega) (Ev.pos hx ih))
theorem l1PutT_ev (l : List Int) (v : Int) (hl : l.length ≤ 100000000) (hv : ∀ y ∈ l, y < v) : Ev (fun k => qZA.f k l v) (l ++ [v]) := l1PutT_loop l v hl hv l 0 rfl (Nat.zero_le _)
theorem qmC (B : List DD) (hB : B.length ≤ 49000000) : ∀ (l : List DD) (i : Nat) (acc : List Int), B.drop i = l → i ≤ B.length → acc.length ≤ i → (∀ y ∈ acc, ∀ d ∈ l, y ≤ d.f0) → l.Pairwise (fun a b => a.f0 ≤ b.f0) →
  Ev (fun k => qKA.l0 k acc B (B.length : Int) (i : Int)) (topsF acc (l.map fun d => d.f0), true)
 | [], i, acc, hd, hi, ha, _, _ => by
  have := Sorts.qGB hd
  refine Ev.step (f := fun k => _) (fun k => by rw [qKA.l0]) ?_
  exact Ev.neg (by omega) (Ev.now _)
 | n :: l, i, acc, hd, hi, ha, hle, hp => by
  obtain ⟨hlt, hc, hd'⟩ := Sorts.quA hd
  obtain ⟨hp1, hp2⟩ := List.pairwise_cons.1 hp
  have w : wrap64 ((i : Int) + 1) = ((i + 1 : Nat) : Int) := by unfold wrap64; omega
  have ih1 := qmC B hB l (i + 1) acc hd' (by omega) (by omega) (fun y hy d hd => hle y hy d (List.mem_cons_of_mem _ hd)) hp2
  have ih2 := qmC B hB l (i + 1) (acc ++ [n.f0]) hd' (by omega) (by simp; omega) (fun y hy d hd => by
   rcases List.mem_append.1 hy with hy | hy
   ·exact hle y hy d (List.mem_cons_of_mem _ hd)
   ·rw [List.mem_singleton] at hy; subst hy; exact hp1 d hd) hp2
  rw [← w] at ih1 ih2
  rw [List.map_cons, topsF]
  refine Ev.step (f := fun k => _) (fun k => by rw [qKA.l0]) ?_
  rw [rdDz B n i (by rw [← hc]; exact List.getElem?_eq_getElem hlt)]
  clear hd hd' hc
  refine Ev.pos (by omega) (Ev.pos (by omega) (Ev.pos (by omega) (Ev.bind (l1HasT_ev acc n.f0 (by omega)) ?_)))
  cases hq : acc.any fun y => y == n.f0 with
  | true => rw [if_pos rfl]; exact Ev.pos rfl ih1
  | false =>
   rw [if_neg (by decide)]
   refine Ev.neg (by decide) (Ev.bind (l1PutT_ev acc n.f0 (by omega) (fun y hy => ?_)) ih2)
   have h1 := hle y hy n List.mem_cons_self
   have h2 : y ≠ n.f0 := by
    intro e
    rw [List.any_eq_false] at hq
    exact hq y hy (beq_iff_eq.2 e)
   omega
theorem ltD_top {a b : DD} (h : ltD b a = false) : a.f0 ≤ b.f0 := by
 unfold ltD at h
 have h0 := of_decide_eq_false h
 have h1 := qJB b.f0 a.f0 [b.f1, b.f2, b.f3, b.f4, b.f5] [a.f1, a.f2, a.f3, a.f4, a.f5]
 unfold facesD at h0
 omega
theorem diceB_sorted (a : ByteArray) (s : XS) (x y : Int) : (diceB a s x y).1.Pairwise (fun a b => a.f0 ≤ b.f0) := by
 unfold diceB
 split
 ·rename_i h
  show (diceS (diceL (reachW a s) x y)).Pairwise _
  rw [qJD _ (qtB (qbC h) x y)]
  exact (Sorts.qsB ltD_weak _ [] List.Pairwise.nil).imp fun hab => ltD_top hab
 ·exact List.Pairwise.nil
theorem topsB_len (a : ByteArray) (s : XS) (x y : Int) : (topsB a s x y).1.length ≤ 1000000 := by
 unfold topsB
 split
 ·have h1 := diceB_million a s x y
  have h2 := compactI_len ((diceB a s x y).1.map fun d => d.f0)
  rw [List.length_map] at h2
  exact Nat.le_trans h2 h1
 ·exact Nat.zero_le _
theorem specTopsAt_ev (a : ByteArray) (s : XS) (x y : Int) : Ev (fun k => qKA.f k a s.f0 s.f1 s.f2.f0 s.f2.f1 s.f2.f2 s.f2.f3 s.f2.f4 s.f2.f5 x y) (topsB a s x y) := by
 obtain ⟨R, h1, h2⟩ := wyCell_ev a s x y
 unfold qKA.f topsB
 cases hb : askC a s x y with
 | false =>
  rw [hb] at h1
  refine Ev.bind h1 (Ev.neg (by simp) ?_)
  rw [if_neg (by decide)]
  exact Ev.now _
 | true =>
  obtain ⟨hR, hl⟩ := h2 hb
  rw [hb] at h1
  have hs := diceB_sorted a s x y
  have hd := qmC (diceB a s x y).1 (by have := diceB_million a s x y; omega) (diceB a s x y).1 0 [] rfl (Nat.zero_le _) (Nat.le_refl _) (fun y hy => by cases hy) hs
  rw [topsF_compact _ (by rw [List.pairwise_map]; exact hs)] at hd
  rw [if_pos rfl]
  exact Ev.bind h1 (Ev.pos rfl (Ev.bind (dice_run hb hR hl) hd))
end Go.Proofs.YtdhbimankkpllaaGreatDoor
namespace Go.Proofs.YtdhbimankkpllaaGreatDoor
open Go.RowKit Go.Proofs.YtdhbimankkpllaaGreatDoor.P Go.Proofs.YtdhbimankkpllaaGreatDoorW.PrintWords Go.Proofs.YtdhbimankkpllaaGreatDoorW.PrintLast
set_option linter.unusedVariables false
set_option linter.unusedSimpArgs false
theorem eqIntS_loop (a : List Int) (ha : a.length ≤ 140737488355328) (d : Nat) : ∀ i : Nat, i ≤ a.length → a.length - i = d → Ev (fun k => qFA.l0 k a a (i : Int)) true := by
 induction d with
 | zero =>
  intro i hi hd
  refine Ev.step (f := fun k => _) (fun k => by rw [qFA.l0]) (Ev.neg (by omega) (Ev.now _))
 | succ d ih =>
  intro i hi hd
  refine Ev.step (f := fun k => _) (fun k => by rw [qFA.l0]) (Ev.pos (by omega) (Ev.pos (by omega) (Ev.pos (by omega) (Ev.pos rfl ?_))))
  rw [show wrap64 ((i : Int) + 1) = ((i + 1 : Nat) : Int) by unfold wrap64; omega]
  exact ih (i + 1) (by omega) (by omega)
theorem eqIntS_refl (a : List Int) (ha : a.length ≤ 140737488355328) : Ev (fun k => qFA.f k a a) true := by
 unfold qFA.f
 exact Ev.pos rfl (eqIntS_loop a ha a.length 0 (by omega) (by omega))
def marksI (n : Nat) : List Int := (List.range n).map fun j : Nat => 1 + (j : Int)
theorem qIB (n : Nat) : (marksI n).length = n := by simp [marksI]
theorem marksI_succ (n : Nat) : marksI (n + 1) = marksI n ++ [1 + (n : Int)] := by simp [marksI, List.range_succ]
theorem markIntS_loop (l : List Int) (ha : l.length ≤ 140737488355328) (d : Nat) : ∀ i : Nat, i ≤ l.length → l.length - i = d →
  Ev (fun k => qx.l0 k (marksI i ++ l.drop i) (1 + (i : Int)) (i : Int)) (1 + (l.length : Int), marksI l.length) := by
 induction d with
 | zero =>
  intro i hi hd
  obtain rfl : i = l.length := by omega
  refine Ev.step (f := fun k => _) (fun k => by rw [qx.l0]) (Ev.neg ?_ (Ev.some_ ?_))
  ·simp [qIB]
  ·simp
 | succ d ih =>
  intro i hi hd
  refine Ev.step (f := fun k => _) (fun k => by rw [qx.l0]) (Ev.pos ?_ (Ev.pos (by omega) ?_))
  ·simp [qIB]; omega
  ·rw [show wrap64 ((i : Int) + 1) = ((i + 1 : Nat) : Int) by unfold wrap64; omega, show wrap64 (1 + (i : Int) + 1) = 1 + ((i + 1 : Nat) : Int) by unfold wrap64; omega]
   have e : (marksI i ++ l.drop i).set ((i : Int).toNat) (1 + (i : Int)) = marksI (i + 1) ++ l.drop (i + 1) := by
    rw [Int.toNat_natCast, List.set_append_right _ _ (by rw [qIB]; omega), qIB, Nat.sub_self, List.drop_eq_getElem_cons (show i < l.length by omega), List.set_cons_zero, marksI_succ, List.append_assoc]
    rfl
   rw [e]
   exact ih (i + 1) (by omega) (by omega)
theorem markIntS_ev (l : List Int) (ha : l.length ≤ 140737488355328) : Ev (fun k => qx.f k l 1) (1 + (l.length : Int), marksI l.length) := by
 have := markIntS_loop l ha l.length 0 (by omega) (by omega)
 simpa [marksI, qx.f] using this
theorem heldIntS_loop (n : Nat) (hn : n ≤ 140737488355328) (d : Nat) : ∀ i : Nat, i ≤ n → n - i = d → Ev (fun k => qt.l0 k (marksI n) (1 + (i : Int)) (i : Int)) (1 + (n : Int)) := by
 induction d with
 | zero =>
  intro i hi hd
  obtain rfl : i = n := by omega
  exact Ev.step (f := fun k => _) (fun k => by rw [qt.l0]) (Ev.neg (by rw [qIB]; omega) (Ev.now _))
 | succ d ih =>
  intro i hi hd
  refine Ev.step (f := fun k => _) (fun k => by rw [qt.l0]) (Ev.pos (by rw [qIB]; omega) (Ev.pos (by omega) (Ev.pos ?_ ?_)))
  ·unfold rd
   rw [Int.toNat_natCast, List.getD_eq_getElem?_getD]
   unfold marksI
   rw [List.getElem?_map, List.getElem?_range (by omega)]
   rfl
  ·rw [show wrap64 ((i : Int) + 1) = ((i + 1 : Nat) : Int) by unfold wrap64; omega, show wrap64 (1 + (i : Int) + 1) = 1 + ((i + 1 : Nat) : Int) by unfold wrap64; omega]
   exact ih (i + 1) (by omega) (by omega)
theorem heldIntS_ev (n : Nat) (hn : n ≤ 140737488355328) : Ev (fun k => qt.f k (marksI n) 1) (1 + (n : Int)) := by
 have := heldIntS_loop n hn n 0 (by omega) (by omega)
 simpa [qt.f] using this
end Go.Proofs.YtdhbimankkpllaaGreatDoor
namespace Go.Proofs.YtdhbimankkpllaaGreatDoor.Pure
open Go.RowKit Go.Proofs.YtdhbimankkpllaaGreatDoor.P Go.Proofs.YtdhbimankkpllaaGreatDoorW.PrintWords Go.Proofs.YtdhbimankkpllaaGreatDoorW.PrintLast
set_option linter.unusedVariables false
set_option linter.unusedSimpArgs false
theorem FnExactTopsAt : qV.Pure := by
 intro a s0 s1 s2 s3 s4 s5 s6 s7 x y _ _ _ _ _ _ _ _ _ _ _
 refine Ev.rounds (r := true) ?_
 unfold qV.f
 by_cases ha : a.size ≤ 1048576
 ·refine Ev.neg (by omega) ?_
  have ht : qcA.f s0 s1 s2 s3 s4 s5 s6 s7 = some (s0, s1, s2, s3, s4, s5, s6, s7) := rfl
  have hs := specTopsAt_ev a ⟨s0, s1, ⟨s2, s3, s4, s5, s6, s7⟩⟩ x y
  have hi : qqA.f a s0 s1 s2 s3 s4 s5 s6 s7 x y = some (topsB a ⟨s0, s1, ⟨s2, s3, s4, s5, s6, s7⟩⟩ x y) := by
   unfold qqA.f
   rw [if_pos ha]
  have h0 := topsB_len a ⟨s0, s1, ⟨s2, s3, s4, s5, s6, s7⟩⟩ x y
  generalize topsB a ⟨s0, s1, ⟨s2, s3, s4, s5, s6, s7⟩⟩ x y = F at hi hs h0
  have h1 : F.1.length ≤ 140737488355328 := by omega
  have h2 : F.1.length ≤ 140737488355328 := by omega
  refine Ev.bindc ht (Ev.bind hs (Ev.bindc ht (Ev.bindc hi (Ev.bind (eqIntS_refl _ h1) (Ev.pos rfl ?_)))))
  refine Ev.step (f := fun k => _) (fun k => by rw [qV.j0]) (Ev.neg (by simp) ?_)
  refine Ev.bind (markIntS_ev _ h2) (Ev.bind (heldIntS_ev _ h2) (Ev.neg (by omega) (Ev.pos rfl (Ev.bindc ht (Ev.bindc hi (Ev.bind (eqIntS_refl _ h1) (Ev.pos rfl ?_)))))))
  refine Ev.step (f := fun k => _) (fun k => by rw [qV.j1]) (Ev.neg (by simp) ?_)
  exact Ev.bind (heldIntS_ev _ h2) (Ev.neg (by omega) (Ev.pos rfl (Ev.now _)))
 ·exact Ev.pos (by omega) (Ev.now _)
end Go.Proofs.YtdhbimankkpllaaGreatDoor.Pure
