/- The program's PlanToCells returns what the reference's returns, for all texts, dice and cells (the law lets longer ones by). No further condition. -/
import Derived.Test.YthhiiceligjleaaGreatDoorKFnExactPlanToCells4
import Derived.ChangeArms
import Derived.ChangeSame
import Derived.Deep.Slices
import Derived.ProofKit
import Derived.OpenShut
import Derived.SizedLaws
import Derived.Test.YthhiiceligjleaaGreatDoorProg
import Derived.WalkKit
import Derived.Carry
import Derived.Lib.Strings

namespace Go.Proofs.YthhiiceligjleaaGreatDoor.P
open Go.RowKit Go.Proofs.YthhiiceligjleaaGreatDoorW.PrintWords Go.Proofs.YthhiiceligjleaaGreatDoorW.PrintLast Go.Proofs.YthhiiceligjleaaGreatDoorW.PrintMore
attribute [local go_sem] qh qf qr qq qZ qY qg qe
set_option linter.unusedVariables false
set_option linter.unusedSimpArgs false
def ql.j0 : Nat → List (S57) → List (List Int) → List (S53) → List (List Int) → Bool → Option (Bool)
 | 0, _, _, _, _, _ => none
 | k + 1, x1, x2, x10, x11, x54 => if x54 = true then (some false) else ((qp.f k x1).bind fun t620 => ((qk.f k x10 t620).bind fun t623 => (if t623 = true then ((qx.f k x2).bind fun t624 => ((qRA.f k x11 t624).bind fun t627 => (if t627 = true then (some true) else (some false)))) else (some false))))
def ql.f (k : Nat) (a0 : ByteArray) (l1 : List (S57)) (l2 : List (List Int)) : Option (Bool) := if (a0.size : Int) > 1048576 then (some true) else ((qCB.f l1 1048576).bind fun t602 => (if t602 < 0 then (some true) else ((qJA.f k l2 t602).bind fun t603 => (if t603 < 0 then (some true) else ((qp.f k l1).bind fun t604 => ((qx.f k l2).bind fun t607 => ((qM.f k a0 t604 t607).bind fun bt610 => ((qp.f k l1).bind fun t612 => ((qx.f k l2).bind fun t615 => ((qjA.f a0 t612 t615).bind fun bt618 => (if bt618.1.toList = bt610.1.toList then (ql.j0 k l1 l2 t612 t615 (bt618.2 != bt610.2)) else (ql.j0 k l1 l2 t612 t615 true))))))))))))
set_option maxHeartbeats 8000000 in
set_option maxRecDepth 100000 in
theorem ql.calls (k : Nat) (a0 : ByteArray) (A1 : Option Addr) (c1 : Nat) (l1 : List (S57)) (A2 : Option Addr) (c2 : Nat) (l2 : List (List Int)) (r : Bool) (w : World) (hr1 : Kd.C k57 w A1 l1.length l1) (hc1 : l1.length ≤ c1) (hr2 : Kd.C (Kd.slice 3 (Kd.int .i64)) w A2 l2.length l2) (hc2 : l2.length ≤ c2) (hL : Laid w) (h : ql.f k a0 l1 l2 = some r) :
  Calls Tryz.prog 5 #[.string a0, .slice A1 l1.length c1, .slice A2 l2.length c2] w fun e w' => e = .returned (.bool r) ∧ Below w.heap.size w w' := by
 have HR1 := aM hr1
 have HC1 := aM hc1
 clear hr1 hc1
 have HR2 := aM hr2
 have HC2 := aM hc2
 clear hr2 hc2
 have HLD := aM hL
 clear hL
 have HB := aM (Below.refl w.heap.size w)
 have H : (if (a0.size : Int) > 1048576 then (some true) else ((qCB.f l1 1048576).bind fun t602 => (if t602 < 0 then (some true) else ((qJA.f k l2 t602).bind fun t603 => (if t603 < 0 then (some true) else ((qp.f k l1).bind fun t604 => ((qx.f k l2).bind fun t607 => ((qM.f k a0 t604 t607).bind fun bt610 => ((qp.f k l1).bind fun t612 => ((qx.f k l2).bind fun t615 => ((qjA.f a0 t612 t615).bind fun bt618 => (if bt618.1.toList = bt610.1.toList then (ql.j0 k l1 l2 t612 t615 (bt618.2 != bt610.2)) else (ql.j0 k l1 l2 t612 t615 true))))))))))))) = some r := h
 clear h
 by_cases c4 : (a0.size : Int) > 1048576
 ·rw [if_pos c4] at H
  have c4b0 := decide_eq_true c4
  have c4b1 : decide (1048576 < a0.size) = true := decide_eq_true (by omega)
  clear c4
  obtain rfl := Option.some.inj H
  go_enter Tryz.func5, Tryz.ntmps5
  go_wp2
  go_ret
  exact ⟨sR, bl⟩
 ·rw [if_neg c4] at H
  have c4b0 := decide_eq_false c4
  have c4b1 : decide (1048576 < a0.size) = false := decide_eq_false (by omega)
  clear c4
  replace H := bO H
  obtain ⟨t602, A5, H⟩ := H
  by_cases c6 : t602 < 0
  ·rw [if_pos c6] at H
   have c6b0 := decide_eq_true c6
   clear c6
   obtain rfl := Option.some.inj H
   go_enter Tryz.func5, Tryz.ntmps5
   go_wp2_with (first | ((with_reducible refine qE (f := 6) rfl ?_); refine qm (some 19) rfl rfl Tryz.func6 (by kernel_rfl) rfl #[.slice A1 l1.length c1, .int .i64 1048576] rfl gA ?_; (with_reducible refine (qCB.calls _ _ l1 1048576 t602 _ ?side1 ?side2 A5.out).mono ?_); (case side1 => repeat (first | exact HR1.out | (with_reducible refine Kd.qL ?_ _) | (with_reducible refine Kd.qK ?_ _) | (with_reducible refine Kd.qX ?_))); (case side2 => exact HC1.out); rintro e w' ⟨rfl, ⟨nd, rfl⟩⟩; refine ⟨_, rfl, ?_⟩))
   go_ret
   exact ⟨sR, bl⟩
  ·rw [if_neg c6] at H
   have c6b0 := decide_eq_false c6
   clear c6
   replace H := bO H
   obtain ⟨t603, A7, H⟩ := H
   by_cases c8 : t603 < 0
   ·rw [if_pos c8] at H
    have c8b0 := decide_eq_true c8
    clear c8
    obtain rfl := Option.some.inj H
    go_enter Tryz.func5, Tryz.ntmps5
    go_wp2_with (first | ((with_reducible refine qE (f := 6) rfl ?_); refine qm (some 19) rfl rfl Tryz.func6 (by kernel_rfl) rfl #[.slice A1 l1.length c1, .int .i64 1048576] rfl gA ?_; (with_reducible refine (qCB.calls _ _ l1 1048576 t602 _ ?side1 ?side2 A5.out).mono ?_); (case side1 => repeat (first | exact HR1.out | (with_reducible refine Kd.qL ?_ _) | (with_reducible refine Kd.qK ?_ _) | (with_reducible refine Kd.qX ?_))); (case side2 => exact HC1.out); rintro e w' ⟨rfl, ⟨nd, rfl⟩⟩; refine ⟨_, rfl, ?_⟩) | ((with_reducible refine qE (f := 13) rfl ?_); refine qm (some 24) rfl rfl Tryz.func13 (by kernel_rfl) rfl #[.slice A2 l2.length c2, .int .i64 t602] rfl gA ?_; (with_reducible refine (qJA.calls k _ _ l2 t602 t603 _ ?side1 ?side2 A7.out).mono ?_); (case side1 => repeat (first | exact HR2.out | (with_reducible refine Kd.qL ?_ _) | (with_reducible refine Kd.qK ?_ _) | (with_reducible refine Kd.qX ?_))); (case side2 => exact HC2.out); rintro e w' ⟨rfl, ⟨nd, rfl⟩⟩; refine ⟨_, rfl, ?_⟩))
    go_ret
    exact ⟨sR, bl⟩
   ·rw [if_neg c8] at H
    have c8b0 := decide_eq_false c8
    clear c8
    replace H := bO H
    obtain ⟨t604, A9, H⟩ := H
    replace H := bO H
    obtain ⟨t607, A10, H⟩ := H
    replace H := bO H
    obtain ⟨⟨t610, t611⟩, A11, H⟩ := H
    dsimp only at H A11
    replace H := bO H
    obtain ⟨t612, A12, H⟩ := H
    replace H := bO H
    obtain ⟨t615, A13, H⟩ := H
    replace H := bO H
    obtain ⟨⟨t618, t619⟩, A14, H⟩ := H
    dsimp only at H A14
    have HC15 := aM H
    clear H
    go_enter Tryz.func5, Tryz.ntmps5
    go_upto_region 14 with (first | ((with_reducible refine qE (f := 6) rfl ?_); refine qm (some 19) rfl rfl Tryz.func6 (by kernel_rfl) rfl #[.slice A1 l1.length c1, .int .i64 1048576] rfl gA ?_; (with_reducible refine (qCB.calls _ _ l1 1048576 t602 _ ?side1 ?side2 A5.out).mono ?_); (case side1 => repeat (first | exact HR1.out | (with_reducible refine Kd.qL ?_ _) | (with_reducible refine Kd.qK ?_ _) | (with_reducible refine Kd.qX ?_))); (case side2 => exact HC1.out); rintro e w' ⟨rfl, ⟨nd, rfl⟩⟩; refine ⟨_, rfl, ?_⟩) | ((with_reducible refine qE (f := 13) rfl ?_); refine qm (some 24) rfl rfl Tryz.func13 (by kernel_rfl) rfl #[.slice A2 l2.length c2, .int .i64 t602] rfl gA ?_; (with_reducible refine (qJA.calls k _ _ l2 t602 t603 _ ?side1 ?side2 A7.out).mono ?_); (case side1 => repeat (first | exact HR2.out | (with_reducible refine Kd.qL ?_ _) | (with_reducible refine Kd.qK ?_ _) | (with_reducible refine Kd.qX ?_))); (case side2 => exact HC2.out); rintro e w' ⟨rfl, ⟨nd, rfl⟩⟩; refine ⟨_, rfl, ?_⟩) | ((with_reducible refine qE (f := 8) rfl ?_); refine qm (some 30) rfl rfl Tryz.func8 (by kernel_rfl) rfl #[.slice A1 l1.length c1] rfl gA ?_; (with_reducible refine (qp.calls k _ _ l1 t604 _ ?side1 ?side2 A9.out).mono ?_); (case side1 => repeat (first | exact HR1.out | (with_reducible refine Kd.qL ?_ _) | (with_reducible refine Kd.qK ?_ _) | (with_reducible refine Kd.qX ?_))); (case side2 => exact HC1.out); rintro e w16 ⟨v605, rfl, ho0, hb⟩; refine ⟨_, rfl, ?_⟩; have HO606 := aM (Kd.qz ho0 (qJ bl)); replace HB := aM (qB bl hb); (try clear hb); (try clear hb2); (try clear hk); (try clear hi); (try clear ho0)) | ((with_reducible refine qE (f := 15) rfl ?_); refine qm (some 32) rfl rfl Tryz.func15 (by kernel_rfl) rfl #[.slice A2 l2.length c2] rfl gA ?_; (with_reducible refine (qx.calls k _ _ l2 t607 _ ?side1 ?side2 A10.out).mono ?_); (case side1 => repeat (first | exact (Kd.qV HR2.out HB.out) | (with_reducible refine Kd.qL ?_ _) | (with_reducible refine Kd.qK ?_ _) | (with_reducible refine Kd.qX ?_))); (case side2 => exact HC2.out); rintro e w17 ⟨v608, rfl, ho0, hb⟩; refine ⟨_, rfl, ?_⟩; have HO609 := aM (Kd.qxD ho0 (qJ bl)); replace HO606 := aM (Kd.qc (rR HO606) hb); replace HB := aM (qB bl hb); (try clear hb); (try clear hb2); (try clear hk); (try clear hi); (try clear ho0); obtain ⟨Ao18, co18, eo18⟩ := Kd.qDA HO606.out; subst eo18; obtain ⟨Ao19, co19, eo19⟩ := Kd.qaE HO609.out; subst eo19) | ((with_reducible refine qE (f := 14) rfl ?_); refine qm (some 33) rfl rfl Tryz.func14 (by kernel_rfl) rfl #[.string a0, .slice Ao18 t604.length co18, .slice Ao19 t607.length co19] rfl gA ?_; (with_reducible refine (qM.calls k a0 _ _ t604 _ _ t607 t610 t611 _ ?side1 ?side2 ?side3 ?side4 A11.out).mono ?_); (case side1 => repeat (first | exact (Kd.qO HO606.out).2.2 | (with_reducible refine Kd.qL ?_ _) | (with_reducible refine Kd.qK ?_ _) | (with_reducible refine Kd.qX ?_))); (case side2 => exact (Kd.qO HO606.out).2.1); (case side3 => repeat (first | exact (Kd.qZB HO609.out).2.2 | (with_reducible refine Kd.qL ?_ _) | (with_reducible refine Kd.qK ?_ _) | (with_reducible refine Kd.qX ?_))); (case side4 => exact (Kd.qZB HO609.out).2.1); rintro e w20 ⟨rfl, hb⟩; refine ⟨_, rfl, ?_⟩; replace HO606 := aM (Kd.qc (rR HO606) hb); replace HO609 := aM (Kd.qzB (rS HO609) hb); replace HB := aM (qB bl hb); (try clear hb); (try clear hb2); (try clear hk); (try clear hi)) | ((with_reducible refine qE (f := 8) rfl ?_); refine qm (some 37) rfl rfl Tryz.func8 (by kernel_rfl) rfl #[.slice A1 l1.length c1] rfl gA ?_; (with_reducible refine (qp.calls k _ _ l1 t612 _ ?side1 ?side2 A12.out).mono ?_); (case side1 => repeat (first | exact (Kd.qV HR1.out HB.out) | (with_reducible refine Kd.qL ?_ _) | (with_reducible refine Kd.qK ?_ _) | (with_reducible refine Kd.qX ?_))); (case side2 => exact HC1.out); rintro e w21 ⟨v613, rfl, ho0, hb⟩; refine ⟨_, rfl, ?_⟩; have HO614 := aM (Kd.qz (Kd.qBB ho0 (Kd.R_lt (rR HO606))) (qJ bl)); replace HO606 := aM (Kd.qPA (rR HO606) (Kd.qkA ho0) hb); replace HO609 := aM (Kd.qzB (rS HO609) hb); replace HB := aM (qB bl hb); (try clear hb); (try clear hb2); (try clear hk); (try clear hi); (try clear ho0)) | ((with_reducible refine qE (f := 15) rfl ?_); refine qm (some 39) rfl rfl Tryz.func15 (by kernel_rfl) rfl #[.slice A2 l2.length c2] rfl gA ?_; (with_reducible refine (qx.calls k _ _ l2 t615 _ ?side1 ?side2 A13.out).mono ?_); (case side1 => repeat (first | exact (Kd.qV HR2.out HB.out) | (with_reducible refine Kd.qL ?_ _) | (with_reducible refine Kd.qK ?_ _) | (with_reducible refine Kd.qX ?_))); (case side2 => exact HC2.out); rintro e w22 ⟨v616, rfl, ho0, hb⟩; refine ⟨_, rfl, ?_⟩; have HO617 := aM (Kd.qxD (Kd.qvE ho0 (Kd.S_lt (rS HO609))) (qJ bl)); replace HO606 := aM (Kd.qc (rR HO606) hb); replace HO609 := aM (Kd.qhD (rS HO609) (Kd.qwE ho0) hb); replace HO614 := aM (Kd.qc (rR HO614) hb); replace HB := aM (qB bl hb); (try clear hb); (try clear hb2); (try clear hk); (try clear hi); (try clear ho0); obtain ⟨Ao23, co23, eo23⟩ := Kd.qDA HO614.out; subst eo23; obtain ⟨Ao24, co24, eo24⟩ := Kd.qaE HO617.out; subst eo24) | ((with_reducible refine qE (f := 16) rfl ?_); refine qm (some 44) rfl rfl Tryz.func16 (by kernel_rfl) rfl #[.string a0, .slice Ao23 t612.length co23, .slice Ao24 t615.length co24] rfl gA ?_; (with_reducible refine (qjA.calls a0 _ _ t612 _ _ t615 t618 t619 _ ?side1 ?side2 ?side3 ?side4 ?side5 A14.out).mono ?_); (case side1 => repeat (first | exact (Kd.qO HO614.out).2.2 | (with_reducible refine Kd.qL ?_ _) | (with_reducible refine Kd.qK ?_ _) | (with_reducible refine Kd.qX ?_))); (case side2 => exact (Kd.qO HO614.out).2.1); (case side3 => repeat (first | exact (Kd.qZB HO617.out).2.2 | (with_reducible refine Kd.qL ?_ _) | (with_reducible refine Kd.qK ?_ _) | (with_reducible refine Kd.qX ?_))); (case side4 => exact (Kd.qZB HO617.out).2.1); (case side5 => first | (with_reducible exact HLD.out) | exact Laid.below HLD.out bl); rintro e w25 ⟨rfl, hb⟩; refine ⟨_, rfl, ?_⟩; replace HO606 := aM (Kd.qc (rR HO606) hb); replace HO609 := aM (Kd.qzB (rS HO609) hb); replace HO614 := aM (Kd.qc (rR HO614) hb); replace HO617 := aM (Kd.qzB (rS HO617) hb); replace HB := aM (qB bl hb); (try clear hb); (try clear hb2); (try clear hk); (try clear hi)))
    (try simp only [Act.put, List.setIfInBounds_toArray, List.set_cons_zero, List.set_cons_succ])
    go_cut [54] (fun v54 wc => ∃ (kq : Nat) (x54_14 : Bool), v54 = .bool x54_14 ∧ Aside0 (ql.j0 kq l1 l2 t612 t615 x54_14 = some r) ∧ Aside0 (kq ≤ k) ∧ Aside0 (Kd.R k53 53 wc w.heap.size (fun _ => True) (.slice Ao23 t612.length co23) t612) ∧ Aside0 (Kd.S (Kd.slice 3 (Kd.int .i64)) 69 wc w.heap.size (fun _ => True) (.slice Ao24 t615.length co24) t615) ∧ Aside0 (Below w.heap.size w wc))
    case first =>
     have H := HC15.out
     clear HC15
     by_cases c26 : t618.toList = t610.toList
     ·rw [if_pos c26] at H
      have c26b0 := beq_iff_eq.mpr c26
      have c26b1 := bne_eq_false_iff_eq.mpr c26
      clear c26
      (first | rw [c26b0] | (simp only [i64_w, i32_w]; rw [c26b0]) | skip)
      have H' := aM H
      clear H
      go_wp2
      go_meet
      case rel => exact ⟨_, ((t619 != t611)), sD, H', ⟨by first | omega | exact Nat.le_refl _⟩, ⟨by (with_reducible repeat (first | apply Kd.qQ | apply Kd.qR | apply Kd.qS)); exact Kd.qa HO614.out (fun _ hk => trivial)⟩, ⟨by (with_reducible repeat (first | apply Kd.qzD | apply Kd.qyD | apply Kd.qgE)); exact Kd.qfE HO617.out (fun _ hk => trivial)⟩, ⟨bl⟩⟩
     ·rw [if_neg c26] at H
      have c26b0 := beq_eq_false_iff_ne.mpr c26
      have c26b1 := bne_iff_ne.mpr c26
      (first | rw [c26b0] | (simp only [i64_w, i32_w]; rw [c26b0]) | skip)
      have H' := aM H
      clear H
      go_wp2
      go_meet
      case rel => exact ⟨_, (true), sD, H', ⟨by first | omega | exact Nat.le_refl _⟩, ⟨by (with_reducible repeat (first | apply Kd.qQ | apply Kd.qR | apply Kd.qS)); exact Kd.qa HO614.out (fun _ hk => trivial)⟩, ⟨by (with_reducible repeat (first | apply Kd.qzD | apply Kd.qyD | apply Kd.qgE)); exact Kd.qfE HO617.out (fun _ hk => trivial)⟩, ⟨bl⟩⟩
    case rest =>
     clear HC15; (try clear c1); (try clear c2); (try clear p2); (try clear c4); (try clear c4b0); (try clear c4b1); (try clear c5); (try clear c6); (try clear c6b0); (try clear c8); (try clear c8b0); (try clear c13); (try clear c14); (try clear c15); (try clear c16); (try clear c26); (try clear c26b0); (try clear c26b1)
     obtain ⟨kq, x54_14, rfl, HA, HJ14, HO_10, HO_11, HB⟩ := hcut
     cases kq with
     | zero => exact absurd HA.out (by simp [ql.j0])
     | succ kj14 =>
      have H := HA.out
      clear HA
      simp only [ql.j0] at H
      by_cases c27 : x54_14 = true
      ·subst c27
       replace H := iT H
       obtain rfl := Option.some.inj H
       go_wp2
       go_ret
       exact ⟨sR, bl⟩
      ·replace c27 := Bool.eq_false_iff.mpr c27
       subst c27
       replace H := iF H
       replace H := bO H
       obtain ⟨t620, A28, H⟩ := H
       replace H := bO H
       obtain ⟨t623, A29, H⟩ := H
       by_cases c30 : t623 = true
       ·subst c30
        replace H := iT H
        replace H := bO H
        obtain ⟨t624, A31, H⟩ := H
        replace H := bO H
        obtain ⟨t627, A32, H⟩ := H
        by_cases c33 : t627 = true
        ·subst c33
         replace H := iT H
         obtain rfl := Option.some.inj H
         go_wp2_with (first | ((with_reducible refine qE (f := 8) rfl ?_); refine qm (some 57) rfl rfl Tryz.func8 (by kernel_rfl) rfl #[.slice A1 l1.length c1] rfl gA ?_; (with_reducible refine (qp.calls kj14 _ _ l1 t620 _ ?side1 ?side2 A28.out).mono ?_); (case side1 => repeat (first | exact (Kd.qV HR1.out HB.out) | (with_reducible refine Kd.qL ?_ _) | (with_reducible refine Kd.qK ?_ _) | (with_reducible refine Kd.qX ?_))); (case side2 => exact HC1.out); rintro e w34 ⟨v621, rfl, ho0, hb⟩; refine ⟨_, rfl, ?_⟩; have HO622 := aM (Kd.qz (Kd.qBB ho0 (Kd.R_lt (rR HO_10))) (qJ bl)); replace HO_10 := aM (Kd.qPA (rR HO_10) (Kd.qkA ho0) hb); replace HO_11 := aM (Kd.qzB (rS HO_11) hb); replace HB := aM (qB bl hb); (try clear hb); (try clear hb2); (try clear hk); (try clear hi); (try clear ho0); obtain ⟨Ao35, co35, eo35⟩ := Kd.qDA HO622.out; subst eo35) | ((with_reducible refine qE (f := 10) rfl ?_); refine qm (some 58) rfl rfl Tryz.func10 (by kernel_rfl) rfl #[.slice Ao23 t612.length co23, .slice Ao35 t620.length co35] rfl gA ?_; (with_reducible refine (qk.calls kj14 _ _ t612 _ _ t620 true _ ?side1 ?side2 ?side3 ?side4 A29.out).mono ?_); (case side1 => repeat (first | exact (Kd.qO HO_10.out).2.2 | (with_reducible refine Kd.qL ?_ _) | (with_reducible refine Kd.qK ?_ _) | (with_reducible refine Kd.qX ?_))); (case side2 => exact (Kd.qO HO_10.out).2.1); (case side3 => repeat (first | exact (Kd.qO HO622.out).2.2 | (with_reducible refine Kd.qL ?_ _) | (with_reducible refine Kd.qK ?_ _) | (with_reducible refine Kd.qX ?_))); (case side4 => exact (Kd.qO HO622.out).2.1); rintro e w36 ⟨rfl, hb⟩; refine ⟨_, rfl, ?_⟩; replace HO_10 := aM (Kd.qc (rR HO_10) hb); replace HO_11 := aM (Kd.qzB (rS HO_11) hb); replace HO622 := aM (Kd.qc (rR HO622) hb); replace HB := aM (qB bl hb); (try clear hb); (try clear hb2); (try clear hk); (try clear hi)) | ((with_reducible refine qE (f := 15) rfl ?_); refine qm (some 62) rfl rfl Tryz.func15 (by kernel_rfl) rfl #[.slice A2 l2.length c2] rfl gA ?_; (with_reducible refine (qx.calls kj14 _ _ l2 t624 _ ?side1 ?side2 A31.out).mono ?_); (case side1 => repeat (first | exact (Kd.qV HR2.out HB.out) | (with_reducible refine Kd.qL ?_ _) | (with_reducible refine Kd.qK ?_ _) | (with_reducible refine Kd.qX ?_))); (case side2 => exact HC2.out); rintro e w37 ⟨v625, rfl, ho0, hb⟩; refine ⟨_, rfl, ?_⟩; have HO626 := aM (Kd.qxD (Kd.qvE ho0 (Kd.S_lt (rS HO_11))) (qJ bl)); replace HO_10 := aM (Kd.qc (rR HO_10) hb); replace HO_11 := aM (Kd.qhD (rS HO_11) (Kd.qwE ho0) hb); replace HO622 := aM (Kd.qc (rR HO622) hb); replace HB := aM (qB bl hb); (try clear hb); (try clear hb2); (try clear hk); (try clear hi); (try clear ho0); obtain ⟨Ao38, co38, eo38⟩ := Kd.qaE HO626.out; subst eo38) | ((with_reducible refine qE (f := 17) rfl ?_); refine qm (some 63) rfl rfl Tryz.func17 (by kernel_rfl) rfl #[.slice Ao24 t615.length co24, .slice Ao38 t624.length co38] rfl gA ?_; (with_reducible refine (qRA.calls kj14 _ _ t615 _ _ t624 true _ ?side1 ?side2 ?side3 ?side4 A32.out).mono ?_); (case side1 => repeat (first | exact (Kd.qZB HO_11.out).2.2 | (with_reducible refine Kd.qL ?_ _) | (with_reducible refine Kd.qK ?_ _) | (with_reducible refine Kd.qX ?_))); (case side2 => exact (Kd.qZB HO_11.out).2.1); (case side3 => repeat (first | exact (Kd.qZB HO626.out).2.2 | (with_reducible refine Kd.qL ?_ _) | (with_reducible refine Kd.qK ?_ _) | (with_reducible refine Kd.qX ?_))); (case side4 => exact (Kd.qZB HO626.out).2.1); rintro e w' ⟨rfl, ⟨nd, rfl⟩⟩; refine ⟨_, rfl, ?_⟩))
         go_ret
         exact ⟨sR, bl⟩
        ·replace c33 := Bool.eq_false_iff.mpr c33
         subst c33
         replace H := iF H
         obtain rfl := Option.some.inj H
         go_wp2_with (first | ((with_reducible refine qE (f := 8) rfl ?_); refine qm (some 57) rfl rfl Tryz.func8 (by kernel_rfl) rfl #[.slice A1 l1.length c1] rfl gA ?_; (with_reducible refine (qp.calls kj14 _ _ l1 t620 _ ?side1 ?side2 A28.out).mono ?_); (case side1 => repeat (first | exact (Kd.qV HR1.out HB.out) | (with_reducible refine Kd.qL ?_ _) | (with_reducible refine Kd.qK ?_ _) | (with_reducible refine Kd.qX ?_))); (case side2 => exact HC1.out); rintro e w39 ⟨v621, rfl, ho0, hb⟩; refine ⟨_, rfl, ?_⟩; have HO622 := aM (Kd.qz (Kd.qBB ho0 (Kd.R_lt (rR HO_10))) (qJ bl)); replace HO_10 := aM (Kd.qPA (rR HO_10) (Kd.qkA ho0) hb); replace HO_11 := aM (Kd.qzB (rS HO_11) hb); replace HB := aM (qB bl hb); (try clear hb); (try clear hb2); (try clear hk); (try clear hi); (try clear ho0); obtain ⟨Ao40, co40, eo40⟩ := Kd.qDA HO622.out; subst eo40) | ((with_reducible refine qE (f := 10) rfl ?_); refine qm (some 58) rfl rfl Tryz.func10 (by kernel_rfl) rfl #[.slice Ao23 t612.length co23, .slice Ao40 t620.length co40] rfl gA ?_; (with_reducible refine (qk.calls kj14 _ _ t612 _ _ t620 true _ ?side1 ?side2 ?side3 ?side4 A29.out).mono ?_); (case side1 => repeat (first | exact (Kd.qO HO_10.out).2.2 | (with_reducible refine Kd.qL ?_ _) | (with_reducible refine Kd.qK ?_ _) | (with_reducible refine Kd.qX ?_))); (case side2 => exact (Kd.qO HO_10.out).2.1); (case side3 => repeat (first | exact (Kd.qO HO622.out).2.2 | (with_reducible refine Kd.qL ?_ _) | (with_reducible refine Kd.qK ?_ _) | (with_reducible refine Kd.qX ?_))); (case side4 => exact (Kd.qO HO622.out).2.1); rintro e w41 ⟨rfl, hb⟩; refine ⟨_, rfl, ?_⟩; replace HO_10 := aM (Kd.qc (rR HO_10) hb); replace HO_11 := aM (Kd.qzB (rS HO_11) hb); replace HO622 := aM (Kd.qc (rR HO622) hb); replace HB := aM (qB bl hb); (try clear hb); (try clear hb2); (try clear hk); (try clear hi)) | ((with_reducible refine qE (f := 15) rfl ?_); refine qm (some 62) rfl rfl Tryz.func15 (by kernel_rfl) rfl #[.slice A2 l2.length c2] rfl gA ?_; (with_reducible refine (qx.calls kj14 _ _ l2 t624 _ ?side1 ?side2 A31.out).mono ?_); (case side1 => repeat (first | exact (Kd.qV HR2.out HB.out) | (with_reducible refine Kd.qL ?_ _) | (with_reducible refine Kd.qK ?_ _) | (with_reducible refine Kd.qX ?_))); (case side2 => exact HC2.out); rintro e w42 ⟨v625, rfl, ho0, hb⟩; refine ⟨_, rfl, ?_⟩; have HO626 := aM (Kd.qxD (Kd.qvE ho0 (Kd.S_lt (rS HO_11))) (qJ bl)); replace HO_10 := aM (Kd.qc (rR HO_10) hb); replace HO_11 := aM (Kd.qhD (rS HO_11) (Kd.qwE ho0) hb); replace HO622 := aM (Kd.qc (rR HO622) hb); replace HB := aM (qB bl hb); (try clear hb); (try clear hb2); (try clear hk); (try clear hi); (try clear ho0); obtain ⟨Ao43, co43, eo43⟩ := Kd.qaE HO626.out; subst eo43) | ((with_reducible refine qE (f := 17) rfl ?_); refine qm (some 63) rfl rfl Tryz.func17 (by kernel_rfl) rfl #[.slice Ao24 t615.length co24, .slice Ao43 t624.length co43] rfl gA ?_; (with_reducible refine (qRA.calls kj14 _ _ t615 _ _ t624 false _ ?side1 ?side2 ?side3 ?side4 A32.out).mono ?_); (case side1 => repeat (first | exact (Kd.qZB HO_11.out).2.2 | (with_reducible refine Kd.qL ?_ _) | (with_reducible refine Kd.qK ?_ _) | (with_reducible refine Kd.qX ?_))); (case side2 => exact (Kd.qZB HO_11.out).2.1); (case side3 => repeat (first | exact (Kd.qZB HO626.out).2.2 | (with_reducible refine Kd.qL ?_ _) | (with_reducible refine Kd.qK ?_ _) | (with_reducible refine Kd.qX ?_))); (case side4 => exact (Kd.qZB HO626.out).2.1); rintro e w' ⟨rfl, ⟨nd, rfl⟩⟩; refine ⟨_, rfl, ?_⟩))
         go_ret
         exact ⟨sR, bl⟩
       ·replace c30 := Bool.eq_false_iff.mpr c30
        subst c30
        replace H := iF H
        obtain rfl := Option.some.inj H
        go_wp2_with (first | ((with_reducible refine qE (f := 8) rfl ?_); refine qm (some 57) rfl rfl Tryz.func8 (by kernel_rfl) rfl #[.slice A1 l1.length c1] rfl gA ?_; (with_reducible refine (qp.calls kj14 _ _ l1 t620 _ ?side1 ?side2 A28.out).mono ?_); (case side1 => repeat (first | exact (Kd.qV HR1.out HB.out) | (with_reducible refine Kd.qL ?_ _) | (with_reducible refine Kd.qK ?_ _) | (with_reducible refine Kd.qX ?_))); (case side2 => exact HC1.out); rintro e w44 ⟨v621, rfl, ho0, hb⟩; refine ⟨_, rfl, ?_⟩; have HO622 := aM (Kd.qz (Kd.qBB ho0 (Kd.R_lt (rR HO_10))) (qJ bl)); replace HO_10 := aM (Kd.qPA (rR HO_10) (Kd.qkA ho0) hb); replace HO_11 := aM (Kd.qzB (rS HO_11) hb); replace HB := aM (qB bl hb); (try clear hb); (try clear hb2); (try clear hk); (try clear hi); (try clear ho0); obtain ⟨Ao45, co45, eo45⟩ := Kd.qDA HO622.out; subst eo45) | ((with_reducible refine qE (f := 10) rfl ?_); refine qm (some 58) rfl rfl Tryz.func10 (by kernel_rfl) rfl #[.slice Ao23 t612.length co23, .slice Ao45 t620.length co45] rfl gA ?_; (with_reducible refine (qk.calls kj14 _ _ t612 _ _ t620 false _ ?side1 ?side2 ?side3 ?side4 A29.out).mono ?_); (case side1 => repeat (first | exact (Kd.qO HO_10.out).2.2 | (with_reducible refine Kd.qL ?_ _) | (with_reducible refine Kd.qK ?_ _) | (with_reducible refine Kd.qX ?_))); (case side2 => exact (Kd.qO HO_10.out).2.1); (case side3 => repeat (first | exact (Kd.qO HO622.out).2.2 | (with_reducible refine Kd.qL ?_ _) | (with_reducible refine Kd.qK ?_ _) | (with_reducible refine Kd.qX ?_))); (case side4 => exact (Kd.qO HO622.out).2.1); rintro e w46 ⟨rfl, hb⟩; refine ⟨_, rfl, ?_⟩; replace HO_10 := aM (Kd.qc (rR HO_10) hb); replace HO_11 := aM (Kd.qzB (rS HO_11) hb); replace HO622 := aM (Kd.qc (rR HO622) hb); replace HB := aM (qB bl hb); (try clear hb); (try clear hb2); (try clear hk); (try clear hi)))
        go_ret
        exact ⟨sR, bl⟩
end Go.Proofs.YthhiiceligjleaaGreatDoor.P
namespace Go.Proofs.YthhiiceligjleaaGreatDoor
open Go.ChangeShapes Go.WideShapes Go.Deep Go.RowKit Go.Proofs.YthhiiceligjleaaGreatDoorW.PrintWords
set_option linter.unusedVariables false
set_option linter.unusedSimpArgs false
theorem list_of_8 : ∀ zs : List Int, zs.length = 8 → ∃ x0 x1 x2 x3 x4 x5 x6 x7 : Int, zs = [x0, x1, x2, x3, x4, x5, x6, x7]
 | [x0, x1, x2, x3, x4, x5, x6, x7], _ => ⟨x0, x1, x2, x3, x4, x5, x6, x7, rfl⟩
def laidB (P : Program) : List Field → Nat → Nat → Bool
 | [], o, n => decide (o = n)
 | f :: fs, o, n => decide (f.offset = o) && laidB P fs (o + P.cellsOf f.type) n
def flatB (P : Program) : Nat → TypeId → Bool
 | 0, _ => false
 | m + 1, t => match P.underlying t with
  | some (.int .i64) => decide (P.cellsOf t = 1)
  | some (.struct fs) => laidB P fs.toList 0 (P.cellsOf t) && fs.toList.all fun f => flatB P m f.type
  | _ => false
section
variable {H : Type} {enc : TypeId × Value → H} {P : Program} {w : World} {base : Nat} {spare : Nat → Bool} {held : Bool}
theorem fields_flat {n : Nat} (cs : List Value) (rd : TypeId → List Value → Option (DataW H × List MemPlace)) :
  ∀ (fs : List Field) (o : Nat) (xs : List (DataW H × List MemPlace)), laidB P fs o n = true → xs.length = fs.length →
   (∀ (i : Nat) (f : Field), fs[i]? = some f → rd f.type ((cs.drop f.offset).take (P.cellsOf f.type)) = xs[i]?) →
   (∀ f ∈ fs, ∀ cs' x, rd f.type cs' = some x → cs'.length = P.cellsOf f.type ∧ ∃ zs : List Int, cs' = zs.map (Value.int .i64) ∧ ∀ z ∈ zs, (Lit.int .i64 z).wf = true) →
   o ≤ n ∧ ∃ zs : List Int, (cs.drop o).take (n - o) = zs.map (Value.int .i64) ∧ ∀ z ∈ zs, (Lit.int .i64 z).wf = true
 | [], o, xs, hl, hx, hr, hi => by
  have : o = n := by simpa [laidB] using hl
  subst this
  exact ⟨Nat.le_refl _, [], by simp, by simp⟩
 | f :: fs, o, xs, hl, hx, hr, hi => by
  simp only [laidB, Bool.and_eq_true, decide_eq_true_eq] at hl
  obtain ⟨ho, hl⟩ := hl
  match xs, hx with
  | x :: xs, hx =>
   have h0 := hr 0 f rfl
   rw [ho] at h0
   obtain ⟨hlen, zs, hz, hw⟩ := hi f (by simp) _ x h0
   obtain ⟨hle, ws, hw2, hw3⟩ := fields_flat cs rd fs (o + P.cellsOf f.type) xs hl (by simpa using hx) (fun i g hg => by have := hr (i + 1) g (by simpa using hg); simpa using this) (fun g hg => hi g (by simp [hg]))
   refine ⟨by omega, zs ++ ws, ?_, fun z hz' => ?_⟩
   ·rw [List.map_append, ← hz, ← hw2, ← List.drop_drop, show n - o = P.cellsOf f.type + (n - (o + P.cellsOf f.type)) by omega, List.take_add]
   ·rcases List.mem_append.1 hz' with h | h
    ·exact hw z h
    ·exact hw3 z h
theorem trod_flat (m : Nat) : ∀ {t : TypeId} {fuel : Nat} {cs : List Value} {x : DataW H × List MemPlace}, flatB P m t = true → DataW.trod enc P w base spare held fuel t cs = some x → (∃ k, P.underlying t = some (.int k)) → cs.length = 1 ∧ ∃ zs : List Int, cs = zs.map (Value.int .i64) ∧ ∀ z ∈ zs, (Lit.int .i64 z).wf = true := by
 intro t fuel cs x hf h ⟨k, hk⟩
 cases m with
 | zero => simp [flatB] at hf
 | succ m =>
  unfold flatB at hf
  rw [hk] at hf
  have : k = .i64 := by
   cases k <;> first | rfl | (simp at hf)
  subst this
  obtain ⟨n, rfl, _, hw⟩ := DataW.trod_int hk h
  exact ⟨rfl, [n], rfl, by simpa using hw⟩
theorem trod_flat_all (m : Nat) : ∀ {t : TypeId} {fuel : Nat} {cs : List Value} {x : DataW H × List MemPlace}, flatB P m t = true → DataW.trod enc P w base spare held fuel t cs = some x →
  cs.length = P.cellsOf t ∧ ∃ zs : List Int, cs = zs.map (Value.int .i64) ∧ ∀ z ∈ zs, (Lit.int .i64 z).wf = true := by
 induction m with
 | zero => intro t fuel cs x hf h; simp [flatB] at hf
 | succ m ih =>
  intro t fuel cs x hf h
  have hf0 := hf
  unfold flatB at hf
  split at hf
  ·rename_i hu
   obtain ⟨hl, hz⟩ := trod_flat (m + 1) hf0 h ⟨_, hu⟩
   exact ⟨by rw [hl, of_decide_eq_true hf], hz⟩
  ·rename_i fs hu
   rw [Bool.and_eq_true, List.all_eq_true] at hf
   obtain ⟨hl, ha⟩ := hf
   obtain ⟨xs, n, _, _, hlen, hxl, hg⟩ := DataW.trod_struct hu h
   obtain ⟨_, zs, hz, hw⟩ := fields_flat (n := P.cellsOf t) cs (fun t cs => DataW.trod enc P w base spare held n t cs) fs.toList 0 xs hl (by simpa using hxl)
    (fun i f hf => hg i f (by simpa using hf)) (fun f hf cs' x hx => ih (ha f hf) hx)
   refine ⟨hlen, zs, ?_, hw⟩
   rw [← hz, List.drop_zero, Nat.sub_zero, ← hlen, List.take_length]
  ·cases hf
theorem open_flats {r : Reach} {b0 m : Nat} {t e : TypeId} {a : Option Addr} {len cap : Nat} {d : DataW H} {p : List MemPlace} (hu : P.underlying t = some (.slice e)) (hf : flatB P m e = true)
  (h : DataW.Trod enc P w base spare held t (.slice a len cap) d p) : len ≤ cap ∧ cap ≤ maxLen ∧ ∃ L : List (List Int), L.length = len ∧ (∀ zs ∈ L, zs.length = P.cellsOf e) ∧
   (0 < len → ∃ ad, a = some ad ∧ ∀ (j : Nat) (zs : List Int), L[j]? = some zs → ∀ (i : Nat) (u : Value), (zs.map (Value.int .i64))[i]? = some u → w.cell? (ad.add (j * P.cellsOf e + i)) = some u) := by
 obtain ⟨fuel, h⟩ := h
 rcases DataW.trod_slice hu h with ⟨hcs, _⟩ | ⟨x, l, c, elems, rest, n, _, hcs, _, _, hl, hm, hlen, hel, _, _⟩
 ·simp [Value.cells] at hcs
  obtain ⟨rfl, rfl, rfl⟩ := hcs
  exact ⟨Nat.le_refl _, by simp [maxLen], [], rfl, by simp, fun h => absurd h (by omega)⟩
 ·simp [Value.cells] at hcs
  obtain ⟨rfl, rfl, rfl⟩ := hcs
  refine ⟨hl, hm, ?_⟩
  have each : ∀ i, i < len → ∃ zs : List Int, zs.length = P.cellsOf e ∧ ∀ (j : Nat) (u : Value), (zs.map (Value.int .i64))[j]? = some u → w.cell? (x.add (i * P.cellsOf e + j)) = some u := by
   intro i hi
   have h1 := hel i hi
   have h2 : elems[i]? = some (elems[i]'(by omega)) := List.getElem?_eq_getElem (by omega)
   rw [h2, Option.bind_eq_some_iff] at h1
   obtain ⟨cs', hcs', ht⟩ := h1
   obtain ⟨_, hcl, hat⟩ := World.cells?_some hcs'
   obtain ⟨hl', zs, hz, _⟩ := trod_flat_all m hf ht
   have hzl : zs.length = P.cellsOf e := by
    have := congrArg List.length hz
    rw [List.length_map] at this
    omega
   refine ⟨zs, hzl, fun j u hu => ?_⟩
   have hj : j < P.cellsOf e := by
    have := (List.getElem?_eq_some_iff.1 hu).1
    rw [List.length_map] at this
    omega
   rw [← Go.Deep.add_add, hat j hj, hz, hu]
  have mk : ∀ n, n ≤ len → ∃ L : List (List Int), L.length = n ∧ (∀ zs ∈ L, zs.length = P.cellsOf e) ∧ ∀ (j : Nat) (zs : List Int), L[j]? = some zs → ∀ (i : Nat) (u : Value), (zs.map (Value.int .i64))[i]? = some u → w.cell? (x.add (j * P.cellsOf e + i)) = some u := by
   intro n
   induction n with
   | zero => exact fun _ => ⟨[], rfl, by simp, fun j zs h => by simp at h⟩
   | succ n ih =>
    intro hn
    obtain ⟨L, h1, h2, h3⟩ := ih (by omega)
    obtain ⟨zs, hz1, hz2⟩ := each n (by omega)
    refine ⟨L ++ [zs], by simp [h1], fun y hy => ?_, fun j y hj => ?_⟩
    ·rcases List.mem_append.1 hy with h | h
     ·exact h2 y h
     ·rw [List.mem_singleton.1 h]; exact hz1
    ·rcases Nat.lt_or_ge j L.length with h | h
     ·rw [List.getElem?_append_left h] at hj
      exact h3 j y hj
     ·have : j = L.length := by
       have := (List.getElem?_eq_some_iff.1 hj).1
       simp at this
       omega
      subst this
      have : zs = y := by simpa using hj
      subst this
      rw [h1]
      exact hz2
  obtain ⟨L, h1, h2, h3⟩ := mk len (Nat.le_refl _)
  exact ⟨L, h1, h2, fun _ => ⟨x, rfl, h3⟩⟩
end
theorem sized_flats {H : Type} {enc : TypeId × Value → H} {P : Program} {W : World} {base : Nat} {spare : Nat → Bool} {held : Bool} {t e : TypeId} {a : Option Addr} {len cap : Nat} {d : DataW H} {ps : List MemPlace} {ts : List TypeId} {ds : List (DataW H)} {j : Nat}
  (hsz : (DataW.weightsEach P ts ds).all (· ≤ reachBytes) = true) (ht : ts[j]? = some t) (hd : ds[j]? = some d) (hu : P.underlying t = some (.slice e)) {B : Nat} (hB : P.bytesOf e = B)
  (h : DataW.Trod enc P W base spare held t (.slice a len cap) d ps) : len * B ≤ 140737488351232 := by
 obtain ⟨fuel, h⟩ := h
 rcases DataW.trod_slice hu h with ⟨hcs, _⟩ | ⟨x, l, c, elems, rest, n, _, hcs, hx, _, hl, hm, hlen, hel, _, _⟩
 ·simp [Value.cells] at hcs
  obtain ⟨rfl, rfl, rfl⟩ := hcs
  simp
 ·simp [Value.cells] at hcs
  obtain ⟨rfl, rfl, rfl⟩ := hcs
  obtain ⟨rfl, _⟩ := Prod.mk.inj hx
  have z := sized_slice hsz ht hd hu
  rw [hB] at z
  refine Nat.le_trans (Nat.mul_le_mul_right _ ?_) z
  rw [List.length_map, hlen]
  exact Nat.le_add_right _ _
end Go.Proofs.YthhiiceligjleaaGreatDoor
namespace Go.Proofs.YthhiiceligjleaaGreatDoor
open Go.ChangeShapes Go.WideShapes Go.Deep Go.RowKit Go.ChangeAt Go.Proofs.YthhiiceligjleaaGreatDoorW.PrintWords
set_option linter.unusedVariables false
set_option linter.unusedSimpArgs false
theorem open_rows {H : Type} {enc : TypeId × Value → H} {P : Program} {w : World} {base : Nat} {held : Bool} {t e e2 : TypeId} {a : Option Addr} {len cap : Nat} {d : DataW H} {p : List MemPlace} (hu : P.underlying t = some (.slice e)) (hue : P.underlying e = some (.slice e2)) (hui : P.underlying e2 = some (.int .i64)) (hc2 : P.cellsOf e2 = 1) (hc1 : P.cellsOf e = 1)
  (h : DataW.Trod enc P w base (fun _ => true) held t (.slice a len cap) d p) : len ≤ cap ∧ ∃ L : List (List Int), L.length = len ∧ Kd.C (Kd.slice e2 (Kd.int .i64)) w a L.length L := by
 obtain ⟨fuel, h⟩ := h
 rcases DataW.trod_slice hu h with ⟨hcs, _⟩ | ⟨x, l, c, elems, rest, n, _, hcs, _, _, hl, hm, hlen, hel, _, _⟩
 ·simp [Value.cells] at hcs
  obtain ⟨rfl, rfl, rfl⟩ := hcs
  exact ⟨Nat.le_refl _, [], rfl, rfl, by simp, fun h => absurd h (by simp)⟩
 ·simp [Value.cells] at hcs
  obtain ⟨rfl, rfl, rfl⟩ := hcs
  refine ⟨hl, ?_⟩
  have each : ∀ i, i < len → ∃ (row : List Int) (A : Option Addr) (cc : Nat), w.cell? (x.add i) = some (.slice A row.length cc) ∧ row.length ≤ cc ∧ Kd.C (Kd.int .i64) w A row.length row := by
   intro i hi
   have h1 := hel i hi
   have h2 : elems[i]? = some (elems[i]'(by omega)) := List.getElem?_eq_getElem (by omega)
   rw [h2, Option.bind_eq_some_iff] at h1
   obtain ⟨cs', hcs', ht⟩ := h1
   obtain ⟨_, hcl, hat⟩ := World.cells?_some hcs'
   rw [hc1, Nat.mul_one] at hat
   obtain ⟨a1, len1, cap1, zs, hcs1, w1⟩ : ∃ (a1 : Option Addr) (len1 cap1 : Nat) (zs : List Int), cs' = [.slice a1 len1 cap1] ∧ ((a1 = none ∧ len1 = 0 ∧ cap1 = 0 ∧ zs = []) ∨ ∃ x, a1 = some x ∧ len1 ≤ cap1 ∧ cap1 ≤ maxLen ∧ zs.length = cap1 ∧ (∀ i, i < zs.length → w.cell? (x.add i) = some (.int .i64 (zs.getD i 0))) ∧ ∀ n ∈ zs, (Lit.int .i64 n).wf = true) := by
    rcases open_ints hue hui hc2 ht with ⟨hcs, _⟩ | ⟨x1, l1, c1, zs, hcs, _, hl1, hm1, hz, _, hcell, hwz⟩
    ·exact ⟨none, 0, 0, [], hcs, .inl ⟨rfl, rfl, rfl, rfl⟩⟩
    ·exact ⟨some x1, l1, c1, zs, hcs, .inr ⟨_, rfl, hl1, hm1, by simpa using hz, hcell, hwz⟩⟩
   obtain ⟨row, rfl, hr, _, _, hcc⟩ := ReadsInt.ofRowC w1
   have h0 := hat 0 (by omega)
   rw [hcs1] at h0
   refine ⟨row, a1, cap1, ?_, hcc, Kd.C_of_reads (d := (0 : Int)) (h1 := fun _ => rfl) hr⟩
   rw [← Addr.add_zero' (x.add i), h0]
   rfl
  have mk : ∀ n, n ≤ len → ∃ L : List (List Int), L.length = n ∧ ∀ (j : Nat) (row : List Int), L[j]? = some row → ∃ (A : Option Addr) (cc : Nat), w.cell? (x.add j) = some (.slice A row.length cc) ∧ row.length ≤ cc ∧ Kd.C (Kd.int .i64) w A row.length row := by
   intro n
   induction n with
   | zero => exact fun _ => ⟨[], rfl, fun j zs h => by simp at h⟩
   | succ n ih =>
    intro hn
    obtain ⟨L, h1, h3⟩ := ih (by omega)
    obtain ⟨row, hz2⟩ := each n (by omega)
    refine ⟨L ++ [row], by simp [h1], fun j y hj => ?_⟩
    rcases Nat.lt_or_ge j L.length with h | h
    ·rw [List.getElem?_append_left h] at hj
     exact h3 j y hj
    ·have : j = L.length := by
      have := (List.getElem?_eq_some_iff.1 hj).1
      simp at this
      omega
     subst this
     have : row = y := by simpa using hj
     subst this
     rw [h1]
     exact hz2
  obtain ⟨L, h1, h3⟩ := mk len (Nat.le_refl _)
  refine ⟨L, h1, rfl, by rw [h1]; unfold maxLen at hm; omega, fun _ => ⟨x, rfl, fun j row hj => ?_⟩⟩
  obtain ⟨A, cc, q1, q2, q3⟩ := h3 j row hj
  refine ⟨[.slice A row.length cc], rfl, ⟨A, cc, rfl, q2, q3⟩, fun i u hu => ?_⟩
  match i, hu with
  | 0, hu =>
   have : Value.slice A row.length cc = u := by simpa using hu
   subst this
   show w.cell? (x.add (j * 1 + 0)) = _
   rw [Nat.mul_one, Nat.add_zero]
   exact q1
  | i + 1, hu => simp at hu
theorem rows_len {w : World} {a : Option Addr} {n e2 : Nat} {L : List (List Int)} (h : Kd.C (Kd.slice e2 (Kd.int .i64)) w a n L) : ∀ x ∈ L, x.length ≤ 9223372036854775807 := fun x hx => by
 obtain ⟨j, hj, rfl⟩ := List.getElem_of_mem hx
 obtain ⟨ad, e, hc⟩ := h.2.2 (by have := h.1; omega)
 obtain ⟨c, hcl, ⟨A1, cc, rfl, hl, hC⟩, hcell⟩ := hc j _ (List.getElem?_eq_getElem hj)
 exact hC.2.1
end Go.Proofs.YthhiiceligjleaaGreatDoor
namespace Go.Proofs.YthhiiceligjleaaGreatDoor.Sorts
section
variable {α : Type}
def ins (lt : α → α → Bool) (x : α) : List α → List α
 | [] => [x]
 | y :: l => if lt y x = true then y :: ins lt x l else x :: y :: l
def insAll (lt : α → α → Bool) : List α → List α → List α
 | acc, [] => acc
 | acc, x :: l => insAll lt (ins lt x acc) l
variable {lt : α → α → Bool}
theorem qVE (lt : α → α → Bool) (x : α) : ∀ l : List α, (ins lt x l).Perm (x :: l)
 | [] => List.Perm.refl _
 | y :: l => by
  unfold ins
  split
  ·exact ((qVE lt x l).cons y).trans (List.Perm.swap x y l)
  ·exact List.Perm.refl _
theorem insAll_perm (lt : α → α → Bool) : ∀ (l acc : List α), (insAll lt acc l).Perm (l ++ acc)
 | [], acc => List.Perm.refl _
 | x :: l, acc => by
  refine (insAll_perm lt l (ins lt x acc)).trans ?_
  exact ((List.Perm.refl l).append (qVE lt x acc)).trans List.perm_middle
theorem one {l l' : List α} (h : l.Pairwise (fun a b => lt b a = false)) (h' : l'.Pairwise (fun a b => lt b a = false)) (hp : l.Perm l') (ha : ∀ a ∈ l, ∀ b ∈ l, lt a b = false → lt b a = false → a = b) : l = l' :=
 List.Perm.eq_of_pairwise (le := fun a b => lt b a = false) (fun a b h1 h2 h3 h4 => ha a h1 b (hp.mem_iff.2 h2) h4 h3) h h' hp
def less (lt : α → α → Bool) (x : α) : List α → Nat
 | [] => 0
 | y :: l => if lt y x = true then less lt x l + 1 else 0
theorem less_le (x : α) : ∀ l : List α, less lt x l ≤ l.length
 | [] => Nat.le_refl _
 | y :: l => by
  unfold less
  split
  ·have := less_le x l; simp only [List.length_cons]; omega
  ·omega
theorem ins_eq (x : α) : ∀ l : List α, ins lt x l = l.take (less lt x l) ++ x :: l.drop (less lt x l)
 | [] => rfl
 | y :: l => by
  unfold ins less
  split
  ·rw [ins_eq x l]; rfl
  ·rfl
theorem less_lt (x : α) : ∀ (l : List α) (i : Nat) (h : i < l.length), i < less lt x l → lt l[i] x = true
 | y :: l, 0, _, h => by
  unfold less at h
  split at h
  ·assumption
  ·omega
 | y :: l, i + 1, hl, h => by
  unfold less at h
  split at h
  ·exact less_lt x l i (by simpa using hl) (by omega)
  ·omega
theorem less_stop (x : α) : ∀ (l : List α) (h : less lt x l < l.length), lt l[less lt x l] x = false
 | y :: l, h => by
  by_cases hy : lt y x = true
  case pos => (have e : less lt x (y :: l) = less lt x l + 1 := by rw [less, if_pos hy]); simp only [e, List.getElem_cons_succ]; exact less_stop x l (by rw [e] at h; simpa using h)
  have e : less lt x (y :: l) = 0 := by rw [less, if_neg hy]
  simp only [e, List.getElem_cons_zero]
  simpa using hy
end
theorem qPB {α : Type} {L : List α} {i : Nat} {c : α} {cs : List α} (h : L.drop i = c :: cs) : ∃ hi : i < L.length, L[i] = c ∧ L.drop (i + 1) = cs := by
 have hi : i < L.length := by
  rcases Nat.lt_or_ge i L.length with h1 | h1
  ·exact h1
  ·rw [List.drop_eq_nil_of_le h1] at h; cases h
 rw [List.drop_eq_getElem_cons hi] at h
 injection h with h1 h2
 exact ⟨hi, h1, h2⟩
theorem quB {α : Type} {L : List α} {i : Nat} (h : L.drop i = []) : L.length ≤ i := by
 rcases Nat.lt_or_ge i L.length with h1 | h1
 ·rw [List.drop_eq_getElem_cons h1] at h; cases h
 ·exact h1
end Go.Proofs.YthhiiceligjleaaGreatDoor.Sorts
namespace Go.Proofs.YthhiiceligjleaaGreatDoor
open Go.RowKit Go.Proofs.YthhiiceligjleaaGreatDoor.P Go.Proofs.YthhiiceligjleaaGreatDoorW.PrintWords Go.Proofs.YthhiiceligjleaaGreatDoorW.PrintLast
set_option linter.unusedVariables false
set_option linter.unusedSimpArgs false
theorem rdDD (l : List DD) (t : DD) (i : Nat) (h : l[i]? = some t) : qC l (i : Int) = t := by
 unfold qC
 rw [Int.toNat_natCast, List.getD_eq_getElem?_getD, h]; rfl
theorem rdWD (l : List ByteArray) (t : ByteArray) (i : Nat) (h : l[i]? = some t) : rdOf ByteArray.empty l (i : Int) = t := by
 unfold rdOf
 rw [Int.toNat_natCast, List.getD_eq_getElem?_getD, h]; rfl
abbrev dds (L : List (DD × ByteArray)) : List DD := L.map Prod.fst
abbrev wsd (L : List (DD × ByteArray)) : List ByteArray := L.map Prod.snd
theorem putD_get {L : List (DD × ByteArray)} {i : Nat} {x : DD × ByteArray} (h : L[i]? = some x) (y : Option DD) (p : ByteArray) : (Bfs.put L y p)[i]? = some x := by
 obtain ⟨t, ht⟩ := Bfs.put_prefix L y p
 rw [← ht, List.getElem?_append_left (List.getElem?_eq_some_iff.1 h).1]
 exact h
theorem specDie_rol (x : DD) (d : Nat) (h : d < 4) : qFB.f x.f0 x.f1 x.f2 x.f3 x.f4 x.f5 (d : Int) = some ((rolD x d).f0, (rolD x d).f1, (rolD x d).f2, (rolD x d).f3, (rolD x d).f4, (rolD x d).f5) := by
 have : d = 0 ∨ d = 1 ∨ d = 2 ∨ d = 3 := by omega
 rcases this with rfl | rfl | rfl | rfl <;> simp [qFB.f, rolD]
theorem same_die (b z : DD) : (b.f0 == z.f0 && (b.f1 == z.f1 && (b.f2 == z.f2 && (b.f3 == z.f3 && (b.f4 == z.f4 && (b.f5 == z.f5)))))) = decide (z = b) := by
 by_cases hzb : z = b
 case pos => subst hzb; simp
 rw [decide_eq_false hzb]
 cases hx : (b.f0 == z.f0 && (b.f1 == z.f1 && (b.f2 == z.f2 && (b.f3 == z.f3 && (b.f4 == z.f4 && (b.f5 == z.f5)))))) with
 | false => rfl
 | true =>
  simp only [Bool.and_eq_true, beq_iff_eq] at hx
  exact absurd (qoE hx.1.symm hx.2.1.symm hx.2.2.1.symm hx.2.2.2.1.symm hx.2.2.2.2.1.symm hx.2.2.2.2.2.symm) hzb
theorem search_found (at_ d : Int) (B : List DD) (hB : B.length ≤ 24) (ws : List ByteArray) (z : DD) (R : List DD × List ByteArray) :
  ∀ (l : List DD) (j : Nat) (f : Bool), B.drop j = l → j ≤ B.length →
   (∀ f', (f' = (f || decide (z ∈ l))) → Ev (fun k => qN.l2 k B ws at_ d f' (B.length : Int) (B.length : Int) z.f0 z.f1 z.f2 z.f3 z.f4 z.f5) R) →
   Ev (fun k => qN.l2 k B ws at_ d f (B.length : Int) (j : Int) z.f0 z.f1 z.f2 z.f3 z.f4 z.f5) R
 | [], j, f, hd, hj, h => by
  have := Sorts.quB hd
  obtain rfl : j = B.length := by omega
  exact h f (by simp)
 | b :: l, j, f, hd, hj, h => by
  obtain ⟨hlt, hc, hd'⟩ := Sorts.qPB hd
  have e := rdDD B b j (by rw [← hc]; exact List.getElem?_eq_getElem hlt)
  have ih := fun f' hf => search_found at_ d B hB ws z R l (j + 1) f' hd' (by omega) hf
  have w : wrap64 ((j : Int) + 1) = ((j + 1 : Nat) : Int) := by unfold wrap64; omega
  clear hd hd' hc
  refine Ev.step (f := fun k => _) (fun k => by rw [qN.l2]) ?_
  rw [w, e]
  refine Ev.pos (by omega) (Ev.pos (by omega) (Ev.pos (by omega) ?_))
  cases f with
  | true =>
   refine Ev.pos rfl (ih true fun f' hf => h f' ?_)
   rw [hf]; rfl
  | false =>
   refine Ev.neg (by decide) ?_
   rw [same_die]
   refine ih _ fun f' hf => h f' ?_
   rw [hf, Bool.false_or]
   by_cases hzb : z = b
   case pos => subst hzb; simp
   simp [hzb]
theorem qBD (x : DD) (at_ : Nat) (R : List DD × List ByteArray) : ∀ (n d : Nat) (L : List (DD × ByteArray)) (b : DD) (w : ByteArray), d + n = 4 → L[at_]? = some (b, w) → FoundD x L → w.size ≤ 147 →
  (Ev (fun k => qN.l0 k (dds (Bfs.puts L (stepsD b w n d))) (wsd (Bfs.puts L (stepsD b w n d))) ((at_ + 1 : Nat) : Int)) R) →
  Ev (fun k => qN.l1 k (dds L) (wsd L) (at_ : Int) (d : Int)) R
 | 0, d, L, b, w, hd, hat, hF, hw, h => by
  have hl := hF.len
  have hlt := (List.getElem?_eq_some_iff.1 hat).1
  have w1 : wrap64 ((at_ : Int) + 1) = ((at_ + 1 : Nat) : Int) := by unfold wrap64; omega
  refine Ev.step (f := fun k => _) (fun k => by rw [qN.l1]) ?_
  rw [w1]
  exact Ev.neg (by omega) h
 | n + 1, d, L, b, w, hd, hat, hF, hw, h => by
  have hl := hF.len
  have hlt := (List.getElem?_eq_some_iff.1 hat).1
  have w1 : wrap64 ((d : Int) + 1) = ((d + 1 : Nat) : Int) := by unfold wrap64; omega
  have eb := rdDD (dds L) b at_ (by rw [List.getElem?_map, hat]; rfl)
  have ew := rdWD (wsd L) w at_ (by rw [List.getElem?_map, hat]; rfl)
  have h1 := dirW_size d (by omega)
  have hlen : (dds L).length = L.length := List.length_map _
  have hlen2 : (wsd L).length = L.length := List.length_map _
  have him : b ∈ imgs x := hF.img (b, w) (List.mem_of_getElem? hat)
  refine Ev.step (f := fun k => _) (fun k => by rw [qN.l1]) ?_
  rw [eb]
  refine Ev.pos (by omega) (Ev.pos (by omega) (Ev.pos (by omega) (Ev.bindc (specDie_rol b d (by omega)) ?_)))
  rw [stepsD] at h
  show Ev (fun k => qN.l2 k (dds L) (wsd L) (at_ : Int) (d : Int) false ((dds L).length : Int) ((0 : Nat) : Int) (rolD b d).f0 (rolD b d).f1 (rolD b d).f2 (rolD b d).f3 (rolD b d).f4 (rolD b d).f5) R
  refine search_found _ _ (dds L) (by omega) (wsd L) (rolD b d) R (dds L) 0 false rfl (by omega) fun f' hf => ?_
  rw [Bool.false_or] at hf
  refine Ev.step (f := fun k => _) (fun k => by rw [qN.l2]) ?_
  rw [w1, ew]
  refine Ev.neg (by omega) ?_
  by_cases hm : rolD b d ∈ dds L
  case pos => rw [decide_eq_true hm] at hf; subst hf; have e : Bfs.put L (some (rolD b d)) (w ++ dirW d) = L := Bfs.qOE hm _; rw [Bfs.puts, e] at h; exact Ev.pos rfl (qBD x at_ R n (d + 1) L b w (by omega) hat hF hw h)
  rw [decide_eq_false hm] at hf
  subst hf
  have e : Bfs.put L (some (rolD b d)) (w ++ dirW d) = L ++ [(rolD b d, w ++ dirW d)] := Bfs.qNE hm _
  have hF2 := hF.put (some (rolD b d)) (w ++ dirW d) (fun z hz => by cases hz; exact qWE him d (by omega))
  have hg2 := putD_get hat (some (rolD b d)) (w ++ dirW d)
  rw [Bfs.puts, e] at h
  rw [e] at hF2 hg2
  refine Ev.neg (by decide) (Ev.pos (by omega) (Ev.pos (by omega) (Ev.pos (by omega) (Ev.bindc (show qsA.f = some dirsW from rfl) (Ev.pos (by omega) (Ev.pos (by omega) (Ev.pos (by rw [show dirsW.size = 4 from rfl]; omega) ?_)))))))
  rw [Int.toNat_natCast, Int.toNat_natCast]
  refine Ev.pos (by show w.size + (dirW d).size ≤ _; omega) (Ev.pos (by omega) ?_)
  have := qBD x at_ R n (d + 1) (L ++ [(rolD b d, w ++ dirW d)]) b w (by omega) hg2 hF2 hw h
  rw [show dds (L ++ [(rolD b d, w ++ dirW d)]) = dds L ++ [rolD b d] by simp [dds], show wsd (L ++ [(rolD b d, w ++ dirW d)]) = wsd L ++ [w ++ dirW d] by simp [wsd]] at this
  exact this
def ShortD (L : List (DD × ByteArray)) (n : Nat) : Prop := ∀ x ∈ L, x.2.size ≤ n
theorem ShortD.round {L : List (DD × ByteArray)} {i : Nat} (h : ShortD L i) : ShortD (Bfs.round nextD i L) (i + 1) := by
 unfold Bfs.round
 split
 ·exact fun x hx => Nat.le_succ_of_le (h x hx)
 ·rename_i x hx
  have hxs := h x (List.mem_of_getElem? hx)
  refine Bfs.qME (Q := fun y => y.2.size ≤ i + 1) _ (fun y hy => Nat.le_succ_of_le (h y hy)) ?_
  intro s hs z hz
  obtain ⟨e, he, rfl⟩ := qkD x.1 x.2 4 0 rfl s hs
  show (x.2 ++ dirW e).size ≤ _
  rw [ByteArray.size_append, dirW_size e he]
  omega
theorem roundD_is {L : List (DD × ByteArray)} {i : Nat} {b : DD} {w : ByteArray} (h : L[i]? = some (b, w)) : Bfs.round nextD i L = Bfs.puts L (stepsD b w 4 0) := by
 unfold Bfs.round; rw [h]; rfl
theorem search_run (x : DD) : ∀ (n i : Nat) (L : List (DD × ByteArray)), FoundD x L → ShortD L i → i ≤ L.length → 24 ≤ i + n →
  Ev (fun k => qN.l0 k (dds L) (wsd L) (i : Int)) (dds (Bfs.run nextD n i L), wsd (Bfs.run nextD n i L))
 | 0, i, L, hF, hS, hi, hn => by
  have hl := hF.len
  refine Ev.step (f := fun k => _) (fun k => by rw [qN.l0]) ?_
  exact Ev.neg (by rw [List.length_map]; omega) (Ev.now _)
 | n + 1, i, L, hF, hS, hi, hn => by
  have hl := hF.len
  refine Ev.step (f := fun k => _) (fun k => by rw [qN.l0]) ?_
  rw [Bfs.run]
  by_cases hlt : i < L.length
  ·rw [if_pos hlt]
   refine Ev.pos (by rw [List.length_map]; omega) ?_
   have hat : L[i]? = some (L[i].1, L[i].2) := List.getElem?_eq_getElem hlt
   have ih := search_run x n (i + 1) (Bfs.round nextD i L) (hF.round i) hS.round (by have := (Bfs.qiC nextD i L).length_le; omega) (by omega)
   rw [roundD_is hat] at ih
   rw [roundD_is hat]
   exact qBD x i _ 4 0 L _ _ rfl hat hF (by have := hS _ (List.getElem_mem hlt); omega) ih
  ·rw [if_neg hlt]
   exact Ev.neg (by rw [List.length_map]; omega) (Ev.now _)
theorem diSearch_ev (x : DD) : Ev (fun k => qN.f k x.f0 x.f1 x.f2 x.f3 x.f4 x.f5) (dds (runD x), wsd (runD x)) :=
 search_run x 24 0 [(x, ⟨#[]⟩)] (qkC x) (fun z hz => by rw [List.mem_singleton] at hz; subst hz; exact Nat.le_refl _) (by simp) (by omega)
end Go.Proofs.YthhiiceligjleaaGreatDoor
namespace Go.Proofs.YthhiiceligjleaaGreatDoor
set_option linter.unusedVariables false
set_option linter.unusedSimpArgs false
def cmpI (a b : Int) : Int := if a < b then -1 else if a > b then 1 else 0
def lexI : List Int → List Int → Int
 | [], [] => 0
 | [], _ :: _ => -1
 | _ :: _, [] => 1
 | a :: l, b :: m => if cmpI a b = 0 then lexI l m else cmpI a b
theorem cmpI_neg (a b : Int) : cmpI a b < 0 ↔ a < b := by
 unfold cmpI
 split
 ·omega
 ·split <;> omega
theorem cmpI_zero (a b : Int) : cmpI a b = 0 ↔ a = b := by
 unfold cmpI
 split
 ·omega
 ·split <;> omega
theorem lexI_neg_cons (a b : Int) (l m : List Int) : lexI (a :: l) (b :: m) < 0 ↔ a < b ∨ (a = b ∧ lexI l m < 0) := by
 have h1 := cmpI_neg a b
 have h2 := cmpI_zero a b
 rw [lexI]
 split <;> omega
end Go.Proofs.YthhiiceligjleaaGreatDoor
namespace Go.Proofs.YthhiiceligjleaaGreatDoor
open Go.RowKit Go.Proofs.YthhiiceligjleaaGreatDoor.P Go.Proofs.YthhiiceligjleaaGreatDoorW.PrintWords Go.Proofs.YthhiiceligjleaaGreatDoorW.PrintLast
set_option linter.unusedVariables false
set_option linter.unusedSimpArgs false
def facesD (x : DD) : List Int := [x.f0, x.f1, x.f2, x.f3, x.f4, x.f5]
theorem facesD_inj {x y : DD} (h : facesD x = facesD y) : x = y := by
 unfold facesD at h
 injection h with h0 h
 injection h with h1 h
 injection h with h2 h
 injection h with h3 h
 injection h with h4 h
 injection h with h5 h
 exact qoE h0 h1 h2 h3 h4 h5
def ltD (x y : DD) : Bool := decide (lexI (facesD x) (facesD y) < 0)
theorem rd_isD (l : List Int) (i : Nat) {x : Int} (h : i < l.length) (e : l[i] = x) : rd l (i : Int) = x := by
 unfold rd
 rw [Int.toNat_natCast, List.getD_eq_getElem?_getD, List.getElem?_eq_getElem h, e]; rfl
theorem less_loop (l m : List Int) (hl : l.length ≤ 100000) (hm : m.length = l.length) : ∀ (u v : List Int) (i : Nat), l.drop i = u → m.drop i = v → i ≤ l.length →
  Ev (fun k => qj.l0 k l m (l.length : Int) (i : Int)) (decide (lexI u v < 0))
 | [], v, i, hu, hv, h1 => by
  have hi := Sorts.quB hu
  have hv' : v = [] := by rw [← hv]; exact List.drop_eq_nil_of_le (by omega)
  subst hv'
  refine Ev.step (f := fun k => _) (fun k => by rw [qj.l0]) ?_
  exact Ev.neg (by omega) (Ev.some_ rfl)
 | a :: u, v, i, hu, hv, h1 => by
  obtain ⟨h3, e3, hu'⟩ := Sorts.qPB hu
  have ea := rd_isD l i h3 e3
  have w : wrap64 ((i : Int) + 1) = ((i + 1 : Nat) : Int) := by unfold wrap64; omega
  clear hu e3
  refine Ev.step (f := fun k => _) (fun k => by rw [qj.l0]) ?_
  rw [w, ea]
  refine Ev.pos (by omega) (Ev.pos (by omega) (Ev.pos (by omega) (Ev.pos (by omega) ?_)))
  match v, hv with
  | [], hv =>
   have := Sorts.quB hv
   omega
  | b :: v, hv =>
   obtain ⟨h4, e4, hv'⟩ := Sorts.qPB hv
   have eb := rd_isD m i h4 e4
   have ih := less_loop l m hl hm u v (i + 1) hu' hv' (by omega)
   clear hv e4 hu' hv'
   rw [eb]
   have hn := lexI_neg_cons a b u v
   by_cases h0 : a = b
   ·refine Ev.pos h0 ?_
    rw [show decide (lexI (a :: u) (b :: v) < 0) = decide (lexI u v < 0) from decide_eq_decide.2 (by omega)]
    exact ih
   ·refine Ev.neg h0 (Ev.some_ ?_)
    exact decide_eq_decide.2 (by omega)
theorem diLess_ev (x y : DD) : Ev (fun k => qj.f k x.f0 x.f1 x.f2 x.f3 x.f4 x.f5 y.f0 y.f1 y.f2 y.f3 y.f4 y.f5) (ltD x y) := by
 unfold qj.f
 exact Ev.bindc (show qQA.f _ _ _ _ _ _ = some (facesD x) from rfl) (Ev.bindc (show qQA.f _ _ _ _ _ _ = some (facesD y) from rfl) (less_loop (facesD x) (facesD y) (by simp [facesD]) rfl (facesD x) (facesD y) 0 rfl rfl (by simp)))
theorem ways_ins (B : List DD) (i : Int) (x : DD) (acc : List DD) (ha : acc.length ≤ 100) (R : List DD) (h : Ev (fun k => qU.l0 k (Sorts.ins ltD x acc) B (B.length : Int) (wrap64 (i + 1))) R) (d : Nat) :
  ∀ j : Nat, j ≤ Sorts.less ltD x acc → Sorts.less ltD x acc - j = d → Ev (fun k => qU.l1 k acc (j : Int) B (B.length : Int) i x.f0 x.f1 x.f2 x.f3 x.f4 x.f5) R := by
 have hle := Sorts.less_le (lt := ltD) x acc
 have fin : Ev (fun k => qU.l1 k acc (Sorts.less ltD x acc : Int) B (B.length : Int) i x.f0 x.f1 x.f2 x.f3 x.f4 x.f5) R := by
  have hi := Sorts.ins_eq (lt := ltD) x acc
  have e : (([] : List DD) ++ acc.take (Sorts.less ltD x acc)) ++ [x] ++ acc.drop (Sorts.less ltD x acc) = Sorts.ins ltD x acc := by
   rw [hi]; simp
  have l1 : (acc.take (Sorts.less ltD x acc)).length = Sorts.less ltD x acc := by rw [List.length_take]; omega
  have l2 : (acc.drop (Sorts.less ltD x acc)).length = acc.length - Sorts.less ltD x acc := List.length_drop
  rw [← e] at h
  refine Ev.step (f := fun k => _) (fun k => by rw [qU.l1]) ?_
  by_cases hlt : Sorts.less ltD x acc < acc.length
  ·have hs := Sorts.less_stop (lt := ltD) x acc hlt
   refine Ev.pos (by omega) (Ev.pos (by omega) ?_)
   rw [rdDD acc _ _ (List.getElem?_eq_getElem hlt)]
   have hd := diLess_ev (acc[Sorts.less ltD x acc]) x
   rw [hs] at hd
   refine Ev.bind hd (Ev.neg (by decide) ?_)
   rw [Int.toNat_natCast]
   refine Ev.bindc rfl (Ev.pos (by omega) (Ev.bindc rfl (Ev.pos (by rw [l1]; simp; omega) (Ev.bindc rfl (Ev.bindc rfl (Ev.pos (by simp [l1]; omega) (Ev.bindc rfl (Ev.bindc rfl (Ev.pos (by simp [l1, l2]; omega) h)))))))))
  ·refine Ev.neg (by omega) ?_
   rw [Int.toNat_natCast]
   refine Ev.bindc rfl (Ev.pos (by omega) (Ev.pos (by omega) (Ev.bindc rfl (Ev.pos (by rw [l1]; simp; omega) (Ev.bindc rfl (Ev.bindc rfl (Ev.pos (by simp [l1]; omega) (Ev.bindc rfl (Ev.bindc rfl (Ev.pos (by simp [l1, l2]; omega) h))))))))))
 induction d with
 | zero =>
  intro j hj hd
  obtain rfl : j = Sorts.less ltD x acc := by omega
  exact fin
 | succ d ih =>
  intro j hj hd
  have hlt : j < acc.length := by omega
  have hs := Sorts.less_lt (lt := ltD) x acc j hlt (by omega)
  have w : wrap64 ((j : Int) + 1) = ((j + 1 : Nat) : Int) := by unfold wrap64; omega
  have ihh := ih (j + 1) (by omega) (by omega)
  clear ih fin h
  refine Ev.step (f := fun k => _) (fun k => by rw [qU.l1]) ?_
  refine Ev.pos (by omega) (Ev.pos (by omega) ?_)
  rw [rdDD acc _ _ (List.getElem?_eq_getElem hlt), w]
  have hd := diLess_ev (acc[j]) x
  rw [hs] at hd
  exact Ev.bind hd (Ev.pos rfl ihh)
theorem ways_loop (B : List DD) (hB : B.length ≤ 24) : ∀ (l : List DD) (i : Nat) (acc : List DD), B.drop i = l → i ≤ B.length → acc.length ≤ i →
  Ev (fun k => qU.l0 k acc B (B.length : Int) (i : Int)) (Sorts.insAll ltD acc l)
 | [], i, acc, hd, hi, ha => by
  have := Sorts.quB hd
  refine Ev.step (f := fun k => _) (fun k => by rw [qU.l0]) ?_
  exact Ev.neg (by omega) (Ev.now _)
 | x :: l, i, acc, hd, hi, ha => by
  obtain ⟨hlt, hc, hd'⟩ := Sorts.qPB hd
  have e := rdDD B x i (by rw [← hc]; exact List.getElem?_eq_getElem hlt)
  have hl : (Sorts.ins ltD x acc).length = acc.length + 1 := by
   have := (Sorts.qVE ltD x acc).length_eq
   simpa using this
  have ih := ways_loop B hB l (i + 1) (Sorts.ins ltD x acc) hd' (by omega) (by omega)
  have w : wrap64 ((i : Int) + 1) = ((i + 1 : Nat) : Int) := by unfold wrap64; omega
  clear hd hd' hc
  refine Ev.step (f := fun k => _) (fun k => by rw [qU.l0]) ?_
  rw [e]
  refine Ev.pos (by omega) (Ev.pos (by omega) (Ev.pos (by omega) ?_))
  rw [← w] at ih
  exact ways_ins B (i : Int) x acc (by omega) _ ih _ 0 (by omega) rfl
def waysD (x : DD) : List DD := Sorts.insAll ltD [] (dds (runD x))
theorem diWays_ev (x : DD) : Ev (fun k => qU.f k x.f0 x.f1 x.f2 x.f3 x.f4 x.f5) (waysD x) := by
 have hl : (dds (runD x)).length ≤ 24 := by rw [List.length_map]; exact (qSD x).len
 unfold qU.f
 exact Ev.bind (diSearch_ev x) (ways_loop _ hl _ 0 [] rfl (by omega) (by simp))
theorem waysD_perm (x : DD) : (waysD x).Perm (dds (runD x)) := by
 have := Sorts.insAll_perm ltD (dds (runD x)) []
 rwa [List.append_nil] at this
theorem qhC (x y : DD) : y ∈ waysD x ↔ y ∈ imgs x := (waysD_perm x).mem_iff.trans (mem_run x y)
theorem waysD_len (x : DD) : 1 ≤ (waysD x).length ∧ (waysD x).length ≤ 24 := by
 have h1 := (waysD_perm x).length_eq
 have h2 := (qSD x).len
 rw [List.length_map] at h1
 have h3 := List.length_pos_of_mem ((qhC x x).2 (qrD x))
 omega
def codeF (o : Int) (l : List Int) : Int := l.foldl (fun o f => 10 * o + f) o
def codeD (x : DD) : Int := codeF 0 (facesD x)
theorem codeF_inj : ∀ (l m : List Int) (o p : Int), l.length = m.length → (∀ n ∈ l, 0 ≤ n ∧ n ≤ 9) → (∀ n ∈ m, 0 ≤ n ∧ n ≤ 9) → codeF o l = codeF p m → o = p ∧ l = m
 | [], [], o, p, _, _, _, h => ⟨h, rfl⟩
 | [], _ :: _, _, _, h, _, _, _ => by simp at h
 | _ :: _, [], _, _, h, _, _, _ => by simp at h
 | a :: l, b :: m, o, p, hl, h1, h2, h => by
  obtain ⟨h3, h4⟩ := codeF_inj l m (10 * o + a) (10 * p + b) (by simpa using hl) (fun n hn => h1 n (List.mem_cons_of_mem _ hn)) (fun n hn => h2 n (List.mem_cons_of_mem _ hn)) h
  have ha := h1 a List.mem_cons_self
  have hb := h2 b List.mem_cons_self
  have : o = p := by omega
  refine ⟨this, ?_⟩
  rw [h4, show a = b by omega]
def goodD (x : DD) : Prop := ∀ n ∈ facesD x, 0 ≤ n ∧ n ≤ 9
theorem goodD_of {x : DD} (h : dieB x.f0 x.f1 x.f2 x.f3 x.f4 x.f5 = true) : goodD x := dieB_face h
theorem codeD_inj {x y : DD} (hx : goodD x) (hy : goodD y) (h : codeD x = codeD y) : x = y :=
 facesD_inj (codeF_inj (facesD x) (facesD y) 0 0 rfl hx hy h).2
theorem rdI (l : List Int) (i : Nat) (h : i < l.length) : rd l (i : Int) = l[i] := by
 unfold rd
 rw [Int.toNat_natCast, List.getD_eq_getElem?_getD, List.getElem?_eq_getElem h]; rfl
theorem wyCode_loop (F : List Int) (hF : F.length ≤ 6) : ∀ (u : List Int) (i : Nat) (o : Int), F.drop i = u → i ≤ F.length → (∀ n ∈ u, 0 ≤ n ∧ n ≤ 9) → 0 ≤ o → o < 100 * 10 ^ i →
  Ev (fun k => qSA.l0 k o F (F.length : Int) (i : Int)) (codeF o u)
 | [], i, o, hd, hi, _, _, _ => by
  have := Sorts.quB hd
  refine Ev.step (f := fun k => _) (fun k => by rw [qSA.l0]) ?_
  exact Ev.neg (by omega) (Ev.now _)
 | a :: u, i, o, hd, hi, hu, h0, h1 => by
  obtain ⟨hlt, hc, hd'⟩ := Sorts.qPB hd
  have ha := hu a List.mem_cons_self
  have hp : (10 : Int) ^ (i + 1) = 10 ^ i * 10 := Int.pow_succ _ _
  have hb : (10 : Int) ^ i ≤ 1000000 := by
   have : i < 6 := by omega
   have : i = 0 ∨ i = 1 ∨ i = 2 ∨ i = 3 ∨ i = 4 ∨ i = 5 := by omega
   rcases this with rfl | rfl | rfl | rfl | rfl | rfl <;> decide
  have ih := wyCode_loop F hF u (i + 1) (10 * o + a) hd' (by omega) (fun n hn => hu n (List.mem_cons_of_mem _ hn)) (by omega) (by rw [hp]; omega)
  have w : wrap64 ((i : Int) + 1) = ((i + 1 : Nat) : Int) := by unfold wrap64; omega
  have w1 : wrap64 (10 * o) = 10 * o := by unfold wrap64; omega
  have w2 : wrap64 (10 * o + a) = 10 * o + a := by unfold wrap64; omega
  refine Ev.step (f := fun k => _) (fun k => by rw [qSA.l0]) ?_
  rw [rdI F i hlt, hc, w, w1, w2]
  clear hd hd' hc
  exact Ev.pos (by omega) (Ev.pos (by omega) (Ev.pos (by omega) ih))
theorem wyCode_ev (W H : Int) (cs : List Int) (x y : Int) (d : DD) (hd : goodD d) (h0 : 0 ≤ y * W + x) (h1 : y * W + x < 100) (hw : wrap64 (y * W) = y * W) :
  Ev (fun k => qSA.f k W H cs x y d.f0 d.f1 d.f2 d.f3 d.f4 d.f5) (codeF (y * W + x) (facesD d)) := by
 unfold qSA.f
 refine Ev.bindc (show qQA.f d.f0 d.f1 d.f2 d.f3 d.f4 d.f5 = some (facesD d) from rfl) ?_
 rw [hw, show wrap64 (y * W + x) = y * W + x by unfold wrap64; omega]
 exact wyCode_loop (facesD d) (by show 6 ≤ 6; omega) (facesD d) 0 _ rfl (by omega) hd h0 (by simpa using h1)
theorem wyCode_die (W H : Int) (cs : List Int) (d : DD) (hd : goodD d) : Ev (fun k => qSA.f k W H cs 0 0 d.f0 d.f1 d.f2 d.f3 d.f4 d.f5) (codeD d) := by
 have := wyCode_ev W H cs 0 0 d hd (by simp) (by simp) (by simp [wrap64])
 rw [Int.zero_mul, Int.zero_add] at this
 exact this
def plc (n : Int) : List Int → Nat → Int
 | [], _ => -1
 | x :: l, i => if x = n then (i : Int) else plc n l (i + 1)
theorem qPE (n : Int) : ∀ (l : List Int) (i : Nat), n ∈ l → ∃ j, j < l.length ∧ plc n l i = ((i + j : Nat) : Int) ∧ l[j]? = some n
 | [], _, h => by cases h
 | x :: l, i, h => by
  unfold plc
  by_cases e : x = n
  case pos => rw [if_pos e]; exact ⟨0, by simp, by simp, by simp [e]⟩
  rw [if_neg e]
  rcases List.mem_cons.1 h with h | h
  ·exact absurd h.symm e
  obtain ⟨j, h1, h2, h3⟩ := qPE n l (i + 1) h
  refine ⟨j + 1, by simp only [List.length_cons]; omega, by rw [h2]; congr 1; omega, by simpa using h3⟩
theorem wyPlace_loop (L : List Int) (hL : L.length ≤ 1000000) (n : Int) : ∀ (u : List Int) (i : Nat), L.drop i = u → i ≤ L.length → Ev (fun k => qWA.l0 k n L (L.length : Int) (i : Int)) (plc n u i)
 | [], i, hd, hi => by
  have := Sorts.quB hd
  refine Ev.step (f := fun k => _) (fun k => by rw [qWA.l0]) ?_
  exact Ev.neg (by omega) (Ev.now _)
 | x :: u, i, hd, hi => by
  obtain ⟨hlt, hc, hd'⟩ := Sorts.qPB hd
  have ih := wyPlace_loop L hL n u (i + 1) hd' (by omega)
  have w : wrap64 ((i : Int) + 1) = ((i + 1 : Nat) : Int) := by unfold wrap64; omega
  refine Ev.step (f := fun k => _) (fun k => by rw [qWA.l0]) ?_
  rw [rdI L i hlt, hc, w]
  clear hd hd' hc
  unfold plc
  refine Ev.pos (by omega) (Ev.pos (by omega) (Ev.pos (by omega) ?_))
  by_cases e : x = n
  case pos => rw [if_pos e]; exact Ev.pos e (Ev.now _)
  rw [if_neg e]; exact Ev.neg e ih
theorem wyPlace_ev (L : List Int) (hL : L.length ≤ 1000000) (n : Int) : Ev (fun k => qWA.f k L n) (plc n L 0) := wyPlace_loop L hL n L 0 rfl (by omega)
def waysC (x : DD) : List Int := (waysD x).map codeD
theorem waysC_len (x : DD) : (waysC x).length ≤ 24 := by unfold waysC; rw [List.length_map]; exact (waysD_len x).2
theorem qOD {x y : DD} (hx : goodD x) (h : y ∈ imgs x) : goodD y := by
 obtain ⟨p, _, rfl⟩ := List.mem_map.1 h
 have hf : ∀ n : Int, 0 ≤ faceD x n ∧ faceD x n ≤ 9 := by
  intro n
  have h0 := hx x.f0 (by simp [facesD])
  have h1 := hx x.f1 (by simp [facesD])
  have h2 := hx x.f2 (by simp [facesD])
  have h3 := hx x.f3 (by simp [facesD])
  have h4 := hx x.f4 (by simp [facesD])
  have h5 := hx x.f5 (by simp [facesD])
  unfold faceD
  by_cases e0 : n = 0
  ·rw [if_pos e0]; exact h0
  rw [if_neg e0]
  by_cases e1 : n = 1
  ·rw [if_pos e1]; exact h1
  rw [if_neg e1]
  by_cases e2 : n = 2
  ·rw [if_pos e2]; exact h2
  rw [if_neg e2]
  by_cases e3 : n = 3
  ·rw [if_pos e3]; exact h3
  rw [if_neg e3]
  by_cases e4 : n = 4
  ·rw [if_pos e4]; exact h4
  rw [if_neg e4]; exact h5
 intro n hn
 unfold facesD putD at hn
 simp only [List.mem_cons, List.not_mem_nil, or_false] at hn
 rcases hn with rfl | rfl | rfl | rfl | rfl | rfl <;> exact hf _
theorem myWays_loop (W H : Int) (cs : List Int) (B : List DD) (hB : B.length ≤ 24) : ∀ (u : List DD) (i : Nat) (acc : List Int), B.drop i = u → i ≤ B.length → (∀ d ∈ u, goodD d) → acc.length ≤ i →
  Ev (fun k => qZA.l0 k acc B (B.length : Int) (i : Int) W H cs) (acc ++ u.map codeD)
 | [], i, acc, hd, hi, _, _ => by
  have := Sorts.quB hd
  refine Ev.step (f := fun k => _) (fun k => by rw [qZA.l0]) ?_
  rw [List.map_nil, List.append_nil]
  exact Ev.neg (by omega) (Ev.now _)
 | d :: u, i, acc, hd, hi, hu, ha => by
  obtain ⟨hlt, hc, hd'⟩ := Sorts.qPB hd
  have ih := myWays_loop W H cs B hB u (i + 1) (acc ++ [codeD d]) hd' (by omega) (fun n hn => hu n (List.mem_cons_of_mem _ hn)) (by simp only [List.length_append, List.length_singleton]; omega)
  have w : wrap64 ((i : Int) + 1) = ((i + 1 : Nat) : Int) := by unfold wrap64; omega
  have hw := wyCode_die W H cs d (hu d List.mem_cons_self)
  refine Ev.step (f := fun k => _) (fun k => by rw [qZA.l0]) ?_
  rw [rdDD B d i (by rw [← hc]; exact List.getElem?_eq_getElem hlt), w]
  clear hd hd' hc
  rw [List.append_assoc] at ih
  exact Ev.pos (by omega) (Ev.pos (by omega) (Ev.pos (by omega) (Ev.bind hw (Ev.pos (by omega) ih))))
theorem myWays_ev (W H : Int) (cs : List Int) (x y : Int) (d : DD) (hd : goodD d) : Ev (fun k => qZA.f k W H cs x y d.f0 d.f1 d.f2 d.f3 d.f4 d.f5) (waysC d) := by
 unfold qZA.f waysC
 have h1 := (waysD_len d).2
 have h2 : ∀ e ∈ waysD d, goodD e := fun e he => qOD hd ((qhC d e).1 he)
 refine Ev.bind (diWays_ev d) ?_
 generalize waysD d = B at h1 h2
 exact myWays_loop W H cs B h1 B 0 [] List.drop_zero (Nat.zero_le _) h2 (Nat.le_refl _)
def code1 (a : ByteArray) (s t : XS) : Int := (t.f1 * (wideT a : Int) + t.f0) * 24 + plc (codeD t.f2) (waysC s.f2) 0
def cellsN (a : ByteArray) : Int := (wideT a : Int) * (highT a : Int)
def codeL (a : ByteArray) : Int → List XS → List XS → Int
 | o, s :: l, t :: m => codeL a (o * (cellsN a * 24) + code1 a s t) l m
 | o, _, _ => o
theorem qLD {x y : DD} (h : y ∈ imgs x) : 0 ≤ plc (codeD y) (waysC x) 0 ∧ plc (codeD y) (waysC x) 0 < 24 := by
 obtain ⟨j, h1, h2, _⟩ := qPE (codeD y) (waysC x) 0 (List.mem_map_of_mem ((qhC x y).2 h))
 have := waysC_len x
 rw [h2]; omega
theorem plc_inj {x y z : DD} (hx : goodD x) (hy : y ∈ imgs x) (hz : z ∈ imgs x) (h : plc (codeD y) (waysC x) 0 = plc (codeD z) (waysC x) 0) : y = z := by
 obtain ⟨j, _, h2, h3⟩ := qPE (codeD y) (waysC x) 0 (List.mem_map_of_mem ((qhC x y).2 hy))
 obtain ⟨j', _, h2', h3'⟩ := qPE (codeD z) (waysC x) 0 (List.mem_map_of_mem ((qhC x z).2 hz))
 rw [h2, h2'] at h
 have : j = j' := by omega
 subst this
 rw [h3] at h3'
 exact codeD_inj (qOD hx hy) (qOD hx hz) (by injection h3')
theorem cell_lin {x y W H : Int} (y0 : 0 ≤ y) (y1 : y < H) (x0 : 0 ≤ x) (x1 : x < W) : 0 ≤ y * W + x ∧ y * W + x < W * H := by
 have hp : (y + 1) * W ≤ H * W := Int.mul_le_mul_of_nonneg_right (by omega) (by omega)
 have hq : 0 ≤ y * W := Int.mul_nonneg y0 (by omega)
 rw [Int.add_mul, Int.one_mul] at hp
 rw [Int.mul_comm W H]
 generalize y * W = m at *
 generalize H * W = M at *
 omega
theorem qwC {a : ByteArray} (g : Gnd a) {t : XS} (h : stateB a t = true) : 0 ≤ t.f1 * (wideT a : Int) + t.f0 ∧ t.f1 * (wideT a : Int) + t.f0 < cellsN a ∧ 0 ≤ t.f0 ∧ t.f0 < (wideT a : Int) ∧ 0 ≤ t.f1 ∧ t.f1 < (highT a : Int) := by
 unfold stateB floorB at h
 simp only [Bool.and_eq_true] at h
 obtain ⟨⟨h1, _⟩, _⟩ := h
 obtain ⟨⟨y0, y1⟩, x0, x1⟩ := (qdD a t.f0 t.f1).1 h1
 obtain ⟨z0, z1⟩ := cell_lin y0 y1 x0 x1
 exact ⟨z0, z1, x0, x1, y0, y1⟩
theorem qZC {a : ByteArray} (g : Gnd a) : 1 ≤ cellsN a ∧ cellsN a ≤ 49 := by
 have h1 := g.w1
 have h2 := g.h1
 have h3 := g.w7
 have h4 := g.h7
 unfold cellsN
 have e : (wideT a : Int) * (highT a : Int) = ((wideT a * highT a : Nat) : Int) := by rw [Int.natCast_mul]
 rw [e]
 have h5 : 1 * 1 ≤ wideT a * highT a := Nat.mul_le_mul h1 h2
 have h6 : wideT a * highT a ≤ 7 * 7 := Nat.mul_le_mul h3 h4
 omega
theorem qfC {a : ByteArray} (g : Gnd a) {s t : XS} (h : kinS a s t) : 0 ≤ code1 a s t ∧ code1 a s t < cellsN a * 24 := by
 obtain ⟨c0, c1, _⟩ := qwC g h.1
 obtain ⟨p0, p1⟩ := qLD h.2
 unfold code1
 generalize t.f1 * (wideT a : Int) + t.f0 = m at *
 generalize plc (codeD t.f2) (waysC s.f2) 0 = p at *
 generalize cellsN a = N at *
 omega
theorem code1_inj {a : ByteArray} (g : Gnd a) {s t u : XS} (hs : goodD s.f2) (ht : kinS a s t) (hu : kinS a s u) (h : code1 a s t = code1 a s u) : t = u := by
 obtain ⟨c0, c1, tx0, tx1, ty0, ty1⟩ := qwC g ht.1
 obtain ⟨d0, d1, ux0, ux1, uy0, uy1⟩ := qwC g hu.1
 obtain ⟨p0, p1⟩ := qLD ht.2
 obtain ⟨q0, q1⟩ := qLD hu.2
 unfold code1 at h
 have hpc : plc (codeD t.f2) (waysC s.f2) 0 = plc (codeD u.f2) (waysC s.f2) 0 ∧ t.f1 * (wideT a : Int) + t.f0 = u.f1 * (wideT a : Int) + u.f0 := by
  generalize t.f1 * (wideT a : Int) + t.f0 = m at *
  generalize u.f1 * (wideT a : Int) + u.f0 = m' at *
  generalize plc (codeD t.f2) (waysC s.f2) 0 = p at *
  generalize plc (codeD u.f2) (waysC s.f2) 0 = p' at *
  omega
 obtain ⟨hp, hc⟩ := hpc
 have hw : (0 : Int) < (wideT a : Int) := by omega
 have hy : t.f1 = u.f1 := by
  have e1 : (t.f0 + t.f1 * (wideT a : Int)) / (wideT a : Int) = t.f1 := by rw [Int.add_mul_ediv_right _ _ (by omega), Int.ediv_eq_zero_of_lt tx0 tx1, Int.zero_add]
  have e2 : (u.f0 + u.f1 * (wideT a : Int)) / (wideT a : Int) = u.f1 := by rw [Int.add_mul_ediv_right _ _ (by omega), Int.ediv_eq_zero_of_lt ux0 ux1, Int.zero_add]
  rw [← e1, ← e2, Int.add_comm t.f0, Int.add_comm u.f0, hc]
 rw [hy] at hc
 exact qsE (by omega) hy (plc_inj hs ht.2 hu.2 hp)
theorem qND {a : ByteArray} {s t : XS} {l m : List XS} (h : kinD a (s :: l) (t :: m)) : kinS a s t ∧ kinD a l m :=
 ⟨h.2 0 s t rfl rfl, ⟨by simpa using h.1, fun k u v hu hv => h.2 (k + 1) u v (by simpa using hu) (by simpa using hv)⟩⟩
theorem codeL_inj {a : ByteArray} (g : Gnd a) : ∀ (l m n : List XS) (o p : Int), kinD a l m → kinD a l n → (∀ s ∈ l, goodD s.f2) → codeL a o l m = codeL a p l n → o = p ∧ m = n
 | [], m, n, o, p, hm, hn, _, h => by
  have h1 := List.length_eq_zero_iff.1 hm.1
  have h2 := List.length_eq_zero_iff.1 hn.1
  subst h1 h2
  exact ⟨h, rfl⟩
 | s :: l, [], n, o, p, hm, hn, _, h => by simp [kinD] at hm
 | s :: l, t :: m, [], o, p, hm, hn, _, h => by simp [kinD] at hn
 | s :: l, t :: m, u :: n, o, p, hm, hn, hg, h => by
  obtain ⟨t1, t2⟩ := qND hm
  obtain ⟨u1, u2⟩ := qND hn
  obtain ⟨h3, h4⟩ := codeL_inj g l m n _ _ t2 u2 (fun z hz => hg z (List.mem_cons_of_mem _ hz)) h
  obtain ⟨b0, b1⟩ := qfC g t1
  obtain ⟨d0, d1⟩ := qfC g u1
  have hN := qZC g
  have hop : o = p := by
   have e1 : (code1 a s t + o * (cellsN a * 24)) / (cellsN a * 24) = o := by rw [Int.add_mul_ediv_right _ _ (by omega), Int.ediv_eq_zero_of_lt b0 b1, Int.zero_add]
   have e2 : (code1 a s u + p * (cellsN a * 24)) / (cellsN a * 24) = p := by rw [Int.add_mul_ediv_right _ _ (by omega), Int.ediv_eq_zero_of_lt d0 d1, Int.zero_add]
   rw [← e1, ← e2, Int.add_comm (code1 a s t), Int.add_comm (code1 a s u), h3]
  subst hop
  refine ⟨rfl, ?_⟩
  rw [h4, code1_inj g (hg s List.mem_cons_self) t1 u1 (by omega)]
theorem numsOf_len (l : List UInt8) : (numsOf l).length = l.length := by unfold numsOf; exact List.length_map _
theorem flatten_len (w : Nat) : ∀ L : List (List UInt8), (∀ r ∈ L, r.length = w) → L.flatten.length = L.length * w
 | [], _ => by simp
 | r :: L, h => by
  have ih := flatten_len w L (fun x hx => h x (List.mem_cons_of_mem _ hx))
  rw [List.flatten_cons, List.length_append, ih, h r List.mem_cons_self, List.length_cons, Nat.add_mul]; omega
theorem csOf_len {a : ByteArray} (g : Gnd a) : ((csOf a).length : Int) = cellsN a := by
 unfold csOf cellsN
 rw [numsOf_len, flatT_eq, flatten_len (wideT a) (rowsL a) g.rows, qPC, Int.natCast_mul, Int.mul_comm]
theorem code_wrap {M m x p : Int} (h0 : 0 ≤ M) (h1 : M ≤ 100000) (m0 : 0 ≤ m) (m1 : m ≤ 1000) (x0 : 0 ≤ x) (x1 : x ≤ 10) (p0 : 0 ≤ p) (p1 : p < 24) :
  wrap64 (wrap64 (wrap64 (wrap64 (wrap64 M + wrap64 m) + x) * 24) + p) = (M + m + x) * 24 + p := by
 rw [show wrap64 M = M by unfold wrap64; omega, show wrap64 m = m by unfold wrap64; omega, show wrap64 (M + m) = M + m by unfold wrap64; omega, show wrap64 (M + m + x) = M + m + x by unfold wrap64; omega, show wrap64 ((M + m + x) * 24) = (M + m + x) * 24 by unfold wrap64; omega]
 unfold wrap64; omega
theorem mul_small {o C : Int} (o0 : 0 ≤ o) (o1 : o < 1200) (C0 : 1 ≤ C) (C1 : C ≤ 49) : 0 ≤ o * C ∧ o * C ≤ 100000 := by
 have h1 : o * C ≤ 1200 * 49 := Int.mul_le_mul (by omega) C1 (by omega) (by omega)
 have h2 : 0 ≤ o * C := Int.mul_nonneg o0 (by omega)
 generalize o * C = M at *
 omega
theorem code_step {a : ByteArray} (g : Gnd a) {s t : XS} (h : kinS a s t) {o : Int} (o0 : 0 ≤ o) (o1 : o < 1200) :
  wrap64 (wrap64 (wrap64 (wrap64 (wrap64 (o * cellsN a) + wrap64 (t.f1 * (wideT a : Int))) + t.f0) * 24) + plc (codeD t.f2) (waysC s.f2) 0) = o * (cellsN a * 24) + code1 a s t := by
 obtain ⟨c0, c1, x0, x1, y0, y1⟩ := qwC g h.1
 obtain ⟨p0, p1⟩ := qLD h.2
 obtain ⟨N0, N1⟩ := qZC g
 have hw := g.w7
 obtain ⟨m0, m1⟩ := mul_small o0 o1 N0 N1
 have hy : 0 ≤ t.f1 * (wideT a : Int) := Int.mul_nonneg y0 (by omega)
 unfold code1
 rw [show o * (cellsN a * 24) = o * cellsN a * 24 from (Int.mul_assoc _ _ _).symm]
 generalize t.f1 * (wideT a : Int) = m at *
 generalize plc (codeD t.f2) (waysC s.f2) 0 = p at *
 generalize o * cellsN a = M at *
 generalize cellsN a = N at *
 rw [code_wrap m0 m1 hy (by omega) x0 (by omega) p0 p1]
 omega
theorem c24 {a : ByteArray} (g : Gnd a) : 0 ≤ cellsN a * 24 ∧ cellsN a * 24 ≤ 1176 := by
 obtain ⟨N0, N1⟩ := qZC g
 generalize cellsN a = N at *
 omega
theorem code_one {o C c : Int} (h : o = 0) (h1 : c < C) (h2 : C ≤ 1176) : o * C + c < 1200 := by
 subst h
 rw [Int.zero_mul]; omega
theorem myCode_loop {a : ByteArray} (g : Gnd a) (l m : List XS) (hm2 : m.length ≤ 2) (hml : m.length = l.length) (hg : ∀ s ∈ l, goodD s.f2) : ∀ (v u : List XS) (i : Nat) (o : Int), m.drop i = v → l.drop i = u → i ≤ m.length → kinD a u v → 0 ≤ o → (1 ≤ v.length → o < 1200) → (2 ≤ v.length → o = 0) →
  Ev (fun k => qy.l0 k (l.map fun s => waysC s.f2) o m (m.length : Int) (i : Int) (wideT a : Int) (highT a : Int) (csOf a)) (codeL a o u v)
 | [], u, i, o, hd, hu, hi, hk, _, _, _ => by
  have := Sorts.quB hd
  have hu0 := List.length_eq_zero_iff.1 hk.1.symm
  subst hu0
  refine Ev.step (f := fun k => _) (fun k => by rw [qy.l0]) ?_
  exact Ev.neg (by omega) (Ev.now _)
 | t :: v, [], i, o, hd, hu, hi, hk, _, _, _ => by simp [kinD] at hk
 | t :: v, s :: u, i, o, hd, hu, hi, hk, h0, h1, h2 => by
  obtain ⟨hlt, hc, hd'⟩ := Sorts.qPB hd
  obtain ⟨hlt2, hc2, hu'⟩ := Sorts.qPB hu
  have hlv : m.length = i + (v.length + 1) := by
   have := congrArg List.length hd
   rw [List.length_drop, List.length_cons] at this
   omega
  have hv2 : ¬ 2 ≤ v.length := by omega
  have w : wrap64 ((i : Int) + 1) = ((i + 1 : Nat) : Int) := by unfold wrap64; omega
  have hi1 : i + 1 ≤ m.length := by omega
  obtain ⟨k1, k2⟩ := qND hk
  have hgs := hg s (hc2 ▸ List.getElem_mem hlt2)
  have hgt := qOD hgs k1.2
  have ho := h1 (Nat.succ_le_succ (Nat.zero_le _))
  have hst := code_step g k1 h0 ho
  obtain ⟨b0, b1⟩ := qfC g k1
  have hn0 : 0 ≤ o * (cellsN a * 24) := Int.mul_nonneg h0 (c24 g).1
  have ih := myCode_loop g l m hm2 hml hg v u (i + 1) (o * (cellsN a * 24) + code1 a s t) hd' hu' hi1 k2 (Int.add_nonneg hn0 b0)
   (fun hv => code_one (h2 (Nat.succ_le_succ hv)) b1 (c24 g).2) (fun hv => absurd hv hv2)
  have hwc := wyCode_die (wideT a : Int) (highT a : Int) (csOf a) t.f2 hgt
  have hwp : Ev (fun k => qWA.f k ((l.map fun s => waysC s.f2).getD ((i : Int).toNat) ([] : List Int)) (codeD t.f2)) (plc (codeD t.f2) (waysC s.f2) 0) := by
   have e : (l.map fun s => waysC s.f2).getD ((i : Int).toNat) ([] : List Int) = waysC s.f2 := by
    rw [Int.toNat_natCast, List.getD_eq_getElem?_getD, List.getElem?_map, List.getElem?_eq_getElem hlt2, hc2, Option.map_some, Option.getD_some]
   rw [e]
   exact wyPlace_ev _ (Nat.le_trans (waysC_len s.f2) (by decide)) _
  have hll : (l.map fun s => waysC s.f2).length = l.length := List.length_map _
  have q1 : (i : Int) < (m.length : Int) := Int.ofNat_lt.2 hlt
  have q2 : (i : Int) < (l.length : Int) := Int.ofNat_lt.2 hlt2
  have q0 : (0 : Int) ≤ (i : Int) := Int.natCast_nonneg i
  refine Ev.step (f := fun k => _) (fun k => by rw [qy.l0]) ?_
  rw [rdXS m i hlt, hc, w, csOf_len g, hll]
  clear hd hd' hu hu' hc hc2
  refine Ev.pos q1 (Ev.pos q0 (Ev.pos q1 (Ev.pos q2 (Ev.bind hwc (Ev.bind hwp ?_)))))
  rw [hst]
  exact ih
theorem myCode_ev {a : ByteArray} (g : Gnd a) {l m : List XS} (hl : l.length ≤ 2) (hg : ∀ s ∈ l, goodD s.f2) (hk : kinD a l m) :
  Ev (fun k => qy.f k (wideT a : Int) (highT a : Int) (csOf a) (l.map fun s => waysC s.f2) m) (codeL a 0 l m) :=
 myCode_loop g l m (by rw [hk.1]; exact hl) hk.1 hg m l 0 0 rfl rfl (Nat.zero_le _) hk (Int.le_refl _) (fun _ => by omega) (fun _ => rfl)
def pwN (C : Int) : Nat → Int
 | 0 => 1
 | n + 1 => pwN C n * C
theorem qhE {C : Int} (h : 1 ≤ C) : ∀ n, 1 ≤ pwN C n
 | 0 => Int.le_refl _
 | n + 1 => by
  have := qhE h n
  have h2 : 1 * 1 ≤ pwN C n * C := Int.mul_le_mul this h (by omega) (by omega)
  unfold pwN
  omega
theorem qMC {a : ByteArray} (g : Gnd a) : ∀ (l m : List XS) (o : Int), kinD a l m → 0 ≤ o → 0 ≤ codeL a o l m ∧ codeL a o l m < (o + 1) * pwN (cellsN a * 24) l.length
 | [], m, o, hk, h0 => by
  have := List.length_eq_zero_iff.1 hk.1
  subst this
  unfold codeL
  rw [List.length_nil, pwN, Int.mul_one]
  omega
 | s :: l, [], o, hk, h0 => by simp [kinD] at hk
 | s :: l, t :: m, o, hk, h0 => by
  obtain ⟨k1, k2⟩ := qND hk
  obtain ⟨b0, b1⟩ := qfC g k1
  obtain ⟨N0, N1⟩ := qZC g
  have hC : 1 ≤ cellsN a * 24 := by generalize cellsN a = N at *; omega
  have hn0 : 0 ≤ o * (cellsN a * 24) := Int.mul_nonneg h0 (by omega)
  obtain ⟨i0, i1⟩ := qMC g l m (o * (cellsN a * 24) + code1 a s t) k2 (Int.add_nonneg hn0 b0)
  unfold codeL
  refine ⟨i0, Int.lt_of_lt_of_le i1 ?_⟩
  have hP := qhE hC l.length
  rw [List.length_cons, pwN]
  generalize pwN (cellsN a * 24) l.length = P at *
  generalize cellsN a * 24 = C at *
  rw [show (o + 1) * (P * C) = ((o + 1) * C) * P by rw [Int.mul_comm P C, Int.mul_assoc]]
  refine Int.mul_le_mul_of_nonneg_right ?_ (by omega)
  rw [Int.add_mul, Int.one_mul]
  omega
structure SnOk (a : ByteArray) (l : List XS) (sn : List Bool) (L : List PN) : Prop where
 len : (sn.length : Int) = pwN (cellsN a * 24) l.length
 at_ : ∀ m, kinD a l m → rdOf false sn (codeL a 0 l m) = decide (m ∈ L.map Prod.fst)
theorem rdOf_set {sn : List Bool} {i j : Int} (hi : 0 ≤ i) (hj : 0 ≤ j) (hl : i < (sn.length : Int)) : rdOf false (sn.set i.toNat true) j = if i = j then true else rdOf false sn j := by
 unfold rdOf
 rw [List.getD_eq_getElem?_getD, List.getD_eq_getElem?_getD, List.getElem?_set]
 by_cases e : i = j
 case pos => subst e; rw [if_pos rfl, if_pos rfl, if_pos (by omega)]; rfl
 rw [if_neg (by omega), if_neg e]
theorem SnOk.put {a : ByteArray} {l : List XS} {sn : List Bool} {L : List PN} (g : Gnd a) (hg : ∀ s ∈ l, goodD s.f2) (h : SnOk a l sn L) {y : List XS} (hy : kinD a l y) (p : Int × ByteArray) : SnOk a l (sn.set (codeL a 0 l y).toNat true) (L ++ [(y, p)]) := by
 refine ⟨by rw [List.length_set]; exact h.len, fun m hm => ?_⟩
 obtain ⟨y0, y1⟩ := qMC g l y 0 hy (Int.le_refl _)
 obtain ⟨m0, _⟩ := qMC g l m 0 hm (Int.le_refl _)
 rw [Int.zero_add, Int.one_mul, ← h.len] at y1
 rw [rdOf_set y0 m0 y1, h.at_ m hm, List.map_append]
 by_cases e : codeL a 0 l y = codeL a 0 l m
 case pos => have := (codeL_inj g l y m 0 0 hy hm hg e).2; subst this; rw [if_pos rfl, decide_eq_true (by simp)]
 rw [if_neg e]
 have hne : m ≠ y := fun q => e (by rw [q])
 by_cases hmm : m ∈ L.map Prod.fst
 case pos => rw [decide_eq_true hmm, decide_eq_true (List.mem_append_left _ hmm)]
 rw [decide_eq_false hmm, decide_eq_false (by
  intro q
  rcases List.mem_append.1 q with q | q
  ·exact hmm q
  ·simp at q; exact hne q)]
theorem SnOk.none (a : ByteArray) (l : List XS) (n : Nat) (h : (n : Int) = pwN (cellsN a * 24) l.length) : SnOk a l (List.replicate n false) [] :=
 ⟨by rw [List.length_replicate]; exact h, fun m _ => by
  unfold rdOf
  rw [List.getD_eq_getElem?_getD, List.getElem?_replicate]
  split <;> rfl⟩
abbrev SN := S48
def s62 (x : PN) : SN := ⟨x.1, x.2.1, x.2.2⟩
def resA : Option (List PN) → List SN × Bool
 | none => ([], false)
 | some L => (L.map s62, true)
def pnP (a : ByteArray) (i : Nat) (x : List XS) (p : Nat × Nat) : PN := ((moveB a x p.1 (p.2 : Int)).1, ((i : Int), signN p.1 p.2))
def mpFrom (a : ByteArray) (x : List XS) (k : Nat) : Nat → Nat → List (Nat × Nat)
 | 0, _ => []
 | r + 1, d => mp1 a x k d ++ mpFrom a x k r (d + 1)
theorem mpK_from (a : ByteArray) (x : List XS) (k : Nat) : mpK a x k = mpFrom a x k 4 0 := by
 unfold mpK
 simp only [mpFrom, List.append_nil]
theorem rdSN (L : List PN) (x : PN) (i : Nat) (h : L[i]? = some x) : qMB (L.map s62) (i : Int) = s62 x := by
 unfold qMB
 rw [Int.toNat_natCast, List.getD_eq_getElem?_getD, List.getElem?_map, h]; rfl
section
variable {a : ByteArray} (g : Gnd a) {l : List XS} (hl : l.length ≤ 2) (hg : ∀ s ∈ l, goodD s.f2)
include g hl hg
theorem qeD (x : List XS) (i k : Nat) (hk : k < x.length) (hkl : x.length = l.length) (RR : Option (List PN)) (tl : List (Nat × Nat)) (F : List PN → Option (List PN))
  (IH : ∀ (L : List PN) (sn : List Bool), AllOk a l L → SnOk a l sn L → (∃ p, L[i]? = some (x, p)) → (Cap.puts 6000 L (tl.map (pnP a i x))).bind F = RR →
   Ev (fun n => qP.l2 n l (l.map fun s => waysC s.f2) (L.map s62) (i : Int) sn (l.length : Int) (wrap64 ((k : Int) + 1)) (wideT a : Int) (highT a : Int) (csOf a)) (resA RR)) :
  ∀ (r d : Nat) (L : List PN) (sn : List Bool), d + r = 4 → AllOk a l L → SnOk a l sn L → (∃ p, L[i]? = some (x, p)) → (Cap.puts 6000 L ((mpFrom a x k r d ++ tl).map (pnP a i x))).bind F = RR →
   Ev (fun n => qP.l3 n l (l.map fun s => waysC s.f2) (L.map s62) (i : Int) (k : Int) (d : Int) sn (l.length : Int) (k : Int) (wideT a : Int) (highT a : Int) (csOf a)) (resA RR)
 | 0, d, L, sn, hd, hA, hS, hat, hf => by
  refine Ev.step (f := fun n => _) (fun n => by rw [qP.l3]) ?_
  rw [mpFrom, List.nil_append] at hf
  exact Ev.neg (by omega) (IH L sn hA hS hat hf)
 | r + 1, d, L, sn, hd, hA, hS, hat, hf => by
  have w : wrap64 ((d : Int) + 1) = ((d + 1 : Nat) : Int) := by unfold wrap64; omega
  obtain ⟨p, hp⟩ := hat
  have hi := (List.getElem?_eq_some_iff.1 hp).1
  have hlen : (L.map s62).length = L.length := List.length_map _
  have h6 := hA.len
  have hxk := hA.kin _ (List.mem_of_getElem? hp)
  have hmv := specMove_ev g x (by omega) k hk (d : Int)
  refine Ev.step (f := fun n => _) (fun n => by rw [qP.l3]) ?_
  rw [rdSN L (x, p) i hp, hlen]
  refine Ev.pos (by omega) (Ev.pos (by omega) (Ev.pos (by omega) (Ev.bind hmv ?_)))
  rw [mpFrom, List.append_assoc, mp1] at hf
  cases hm : (moveB a x k (d : Int)).2 with
  | false =>
   rw [hm, if_neg (by decide), List.nil_append] at hf
   refine Ev.neg (by decide) (Ev.step (f := fun n => _) (fun n => by rw [qP.j4]) (Ev.pos rfl ?_))
   rw [w]
   exact qeD x i k hk hkl RR tl F IH r (d + 1) L sn (by omega) hA hS ⟨p, hp⟩ hf
  | true =>
   rw [hm, if_pos rfl, List.cons_append, List.nil_append, List.map_cons, Cap.puts] at hf
   have hkin : kinD a l (moveB a x k (d : Int)).1 := kinD_move hxk k d (by omega) hm
   obtain ⟨c0, c1⟩ := qMC g l _ 0 hkin (Int.le_refl _)
   rw [Int.zero_add, Int.one_mul, ← hS.len] at c1
   have hcd := myCode_ev g hl hg hkin
   have hsg := sign_spec k d (by omega) (by omega)
   have hsn := hS.at_ _ hkin
   refine Ev.pos rfl (Ev.bind hcd (Ev.pos c0 (Ev.pos c1 ?_)))
   rw [hsn]
   by_cases hmt : (moveB a x k (d : Int)).1 ∈ L.map Prod.fst
   ·rw [decide_eq_true hmt]
    rw [show (pnP a i x (k, d)).1 = (moveB a x k (d : Int)).1 from rfl, Cap.qOE 6000 hmt, Option.bind_some] at hf
    refine Ev.step (f := fun n => _) (fun n => by rw [qP.j4]) (Ev.pos rfl ?_)
    rw [w]
    exact qeD x i k hk hkl RR tl F IH r (d + 1) L sn (by omega) hA hS ⟨p, hp⟩ hf
   ·rw [decide_eq_false hmt]
    refine Ev.step (f := fun n => _) (fun n => by rw [qP.j4]) (Ev.neg (by decide) ?_)
    rw [hlen]
    by_cases hfull : L.length = 6000
    case pos => rw [Cap.put_full 6000 (show ¬ (pnP a i x (k, d)).1 ∈ L.map Prod.fst from hmt) hfull, Option.bind_none, Option.bind_none] at hf; rw [← hf]; exact Ev.pos (by omega) (Ev.now _)
    rw [Cap.qNE 6000 (show ¬ (pnP a i x (k, d)).1 ∈ L.map Prod.fst from hmt) hfull, Option.bind_some] at hf
    refine Ev.neg (by omega) (Ev.bind hcd (Ev.pos c0 (Ev.pos c1 (Ev.bind hsg (Ev.pos (by omega) ?_)))))
    rw [w]
    have hs : pnP a i x (k, d) ∈ nextP a i x := by
     unfold nextP
     refine List.mem_map.2 ⟨(k, d), ?_, rfl⟩
     exact mps_self a x k d hk (by omega) hm
    have hA2 := hA.add hp hs hfull
    have hS2 := hS.put g hg hkin (((i : Int), signN k d))
    have := qeD x i k hk hkl RR tl F IH r (d + 1) (L ++ [pnP a i x (k, d)]) _ (by omega) hA2 hS2 ⟨p, by rw [List.getElem?_append_left hi]; exact hp⟩ hf
    rw [List.map_append] at this
    exact this
theorem all_ks (x : List XS) (i : Nat) (hkl : x.length = l.length) (RR : Option (List PN)) (F : List PN → Option (List PN))
  (IH : ∀ (L : List PN) (sn : List Bool), AllOk a l L → SnOk a l sn L → (∃ p, L[i]? = some (x, p)) → F L = RR →
   Ev (fun n => qP.l1 n l (l.map fun s => waysC s.f2) (L.map s62) (wrap64 ((i : Int) + 1)) sn (wideT a : Int) (highT a : Int) (csOf a)) (resA RR)) :
  ∀ (r k : Nat) (L : List PN) (sn : List Bool), k + r = x.length → AllOk a l L → SnOk a l sn L → (∃ p, L[i]? = some (x, p)) → (Cap.puts 6000 L ((mps a x k r).map (pnP a i x))).bind F = RR →
   Ev (fun n => qP.l2 n l (l.map fun s => waysC s.f2) (L.map s62) (i : Int) sn (l.length : Int) (k : Int) (wideT a : Int) (highT a : Int) (csOf a)) (resA RR)
 | 0, k, L, sn, hk, hA, hS, hat, hf => by
  refine Ev.step (f := fun n => _) (fun n => by rw [qP.l2]) ?_
  rw [mps, List.map_nil, Cap.puts, Option.bind_some] at hf
  exact Ev.neg (by omega) (IH L sn hA hS hat hf)
 | r + 1, k, L, sn, hk, hA, hS, hat, hf => by
  refine Ev.step (f := fun n => _) (fun n => by rw [qP.l2]) ?_
  rw [mps, mpK_from] at hf
  refine Ev.pos (by omega) ?_
  refine qeD g hl hg x i k (by omega) hkl RR (mps a x (k + 1) r) F (fun L' sn' hA' hS' hat' hf' => ?_) 4 0 L sn rfl hA hS hat hf
  rw [show wrap64 ((k : Int) + 1) = ((k + 1 : Nat) : Int) by unfold wrap64; omega]
  exact all_ks x i hkl RR F IH r (k + 1) L' sn' (by omega) hA' hS' hat' hf'
theorem all_run (RR : Option (List PN)) : ∀ (n i : Nat) (L : List PN) (sn : List Bool), i + n = 6000 → i ≤ L.length → AllOk a l L → SnOk a l sn L → Cap.run 6000 (nextP a) n i L = RR →
  Ev (fun k => qP.l1 k l (l.map fun s => waysC s.f2) (L.map s62) (i : Int) sn (wideT a : Int) (highT a : Int) (csOf a)) (resA RR)
 | 0, i, L, sn, hn, hi, hA, hS, hf => by
  have hlen : (L.map s62).length = L.length := List.length_map _
  have h6 := hA.len
  refine Ev.step (f := fun n => _) (fun n => by rw [qP.l1]) ?_
  rw [hlen, ← hf]
  exact Ev.neg (by omega) (Ev.now _)
 | n + 1, i, L, sn, hn, hi, hA, hS, hf => by
  have hlen : (L.map s62).length = L.length := List.length_map _
  have h6 := hA.len
  refine Ev.step (f := fun n => _) (fun n => by rw [qP.l1]) ?_
  rw [hlen]
  by_cases hlt : i < L.length
  ·rw [Cap.run_step 6000 (nextP a) hlt] at hf
   have hp : L[i]? = some (L[i].1, L[i].2) := List.getElem?_eq_getElem hlt
   have hxk := hA.kin _ (List.mem_of_getElem? hp)
   refine Ev.pos (by omega) ?_
   refine all_ks g hl hg L[i].1 i hxk.1 RR (Cap.run 6000 (nextP a) n (i + 1)) (fun L' sn' hA' hS' hat' hf' => ?_) L[i].1.length 0 L sn (by omega) hA hS ⟨_, hp⟩ hf
   rw [show wrap64 ((i : Int) + 1) = ((i + 1 : Nat) : Int) by unfold wrap64; omega]
   obtain ⟨p', hp'⟩ := hat'
   exact all_run RR n (i + 1) L' sn' (by omega) (by have := (List.getElem?_eq_some_iff.1 hp').1; omega) hA' hS' hf'
  ·rw [Cap.run_end 6000 (nextP a) (by omega)] at hf
   rw [← hf]
   exact Ev.neg (by omega) (Ev.now _)
end
theorem all_ways {a : ByteArray} (g : Gnd a) (l : List XS) (hl : l.length ≤ 2) (R : List SN × Bool) : ∀ (u : List XS) (i : Nat) (acc : List (List Int)), l.drop i = u → i ≤ l.length → (∀ s ∈ l, goodD s.f2) → acc = (l.take i).map (fun s => waysC s.f2) →
  Ev (fun n => qP.l0 n l (l.map fun s => waysC s.f2) (pwN (cellsN a * 24) l.length) (l.length : Int) (l.length : Int) (wideT a : Int) (highT a : Int) (csOf a)) R →
  Ev (fun n => qP.l0 n l acc (pwN (cellsN a * 24) i) (l.length : Int) (i : Int) (wideT a : Int) (highT a : Int) (csOf a)) R
 | [], i, acc, hd, hi, hg, hac, h => by
  have := Sorts.quB hd
  obtain rfl : i = l.length := by omega
  rw [List.take_length] at hac
  subst hac
  exact h
 | s :: u, i, acc, hd, hi, hg, hac, h => by
  obtain ⟨hlt, hc, hd'⟩ := Sorts.qPB hd
  have hgs := hg s (hc ▸ List.getElem_mem hlt)
  have hw := myWays_ev (wideT a : Int) (highT a : Int) (csOf a) s.f0 s.f1 s.f2 hgs
  have w : wrap64 ((i : Int) + 1) = ((i + 1 : Nat) : Int) := by unfold wrap64; omega
  obtain ⟨N0, N1⟩ := qZC g
  have hb : 1 ≤ pwN (cellsN a * 24) i ∧ pwN (cellsN a * 24) i ≤ 1176 := by
   have : i = 0 ∨ i = 1 := by omega
   rcases this with rfl | rfl
   ·exact ⟨Int.le_refl _, by show (1 : Int) ≤ 1176; decide⟩
   ·simp only [pwN, Int.one_mul]
    generalize cellsN a = N at *
    omega
  have w2 : wrap64 (pwN (cellsN a * 24) i * wrap64 (((csOf a).length : Int) * 24)) = pwN (cellsN a * 24) (i + 1) := by
   rw [csOf_len g, show wrap64 (cellsN a * 24) = cellsN a * 24 by (generalize cellsN a = N at *; unfold wrap64; omega), pwN]
   have h1 : pwN (cellsN a * 24) i * (cellsN a * 24) ≤ 1176 * 1176 := Int.mul_le_mul hb.2 (by generalize cellsN a = N at *; omega) (by generalize cellsN a = N at *; omega) (by omega)
   have h2 : 0 ≤ pwN (cellsN a * 24) i * (cellsN a * 24) := Int.mul_nonneg (by omega) (by generalize cellsN a = N at *; omega)
   generalize pwN (cellsN a * 24) i * (cellsN a * 24) = M at *
   unfold wrap64; omega
  have hal : acc.length ≤ 2 := by rw [hac, List.length_map, List.length_take]; omega
  have ih := all_ways g l hl R u (i + 1) (acc ++ [waysC s.f2]) hd' (by omega) hg (by rw [hac, List.take_succ_eq_append_getElem hlt, List.map_append, hc]; rfl) h
  refine Ev.step (f := fun k => _) (fun k => by rw [qP.l0]) ?_
  rw [rdXS l i hlt, hc, w, w2]
  clear hd hd' hc hac
  exact Ev.pos (by omega) (Ev.pos (by omega) (Ev.pos (by omega) (Ev.bind hw (Ev.pos (by omega) ih))))
theorem myAll_ev {a : ByteArray} {l : List XS} (h : askD a l = true) : Ev (fun k => qP.f k (wideT a : Int) (highT a : Int) (csOf a) l) (resA (plansB a l)) := by
 unfold qP.f plansB
 by_cases hl : l.length ≤ 2
 ·rw [if_pos ⟨h, hl⟩]
  have g := qDE (qyC h)
  have hg : ∀ s ∈ l, goodD s.f2 := fun s hs => by
   have := askD_state h s hs
   unfold stateB at this
   rw [Bool.and_eq_true] at this
   exact goodD_of this.2
  obtain ⟨N0, N1⟩ := qZC g
  have hk := qpD h
  have hC : 1 ≤ cellsN a * 24 := by generalize cellsN a = N at *; omega
  have hb := qhE hC l.length
  have hb2 : pwN (cellsN a * 24) l.length ≤ 1382976 := by
   have : l.length = 0 ∨ l.length = 1 ∨ l.length = 2 := by omega
   rcases this with e | e | e <;> rw [e]
   ·show (1 : Int) ≤ 1382976; decide
   ·simp only [pwN, Int.one_mul]; generalize cellsN a = N at *; omega
   ·simp only [pwN, Int.one_mul]
    have : cellsN a * 24 * (cellsN a * 24) ≤ 1176 * 1176 := Int.mul_le_mul (by generalize cellsN a = N at *; omega) (by generalize cellsN a = N at *; omega) (by generalize cellsN a = N at *; omega) (by omega)
    generalize cellsN a * 24 * (cellsN a * 24) = M at *
    omega
  obtain ⟨n, hn⟩ : ∃ n : Nat, pwN (cellsN a * 24) l.length = (n : Int) := ⟨(pwN (cellsN a * 24) l.length).toNat, by omega⟩
  have hcd := myCode_ev g hl hg hk
  obtain ⟨c0, c1⟩ := qMC g l l 0 hk (Int.le_refl _)
  rw [Int.zero_add, Int.one_mul, hn] at c1
  have hS := (SnOk.none a l n hn.symm).put g hg hk (-1, (⟨#[]⟩ : ByteArray))
  have hrun := all_run g hl hg (allP a l) 6000 0 [(l, (-1, (⟨#[]⟩ : ByteArray)))] _ rfl (Nat.zero_le _) (AllOk.start h) hS rfl
  refine Ev.neg (by omega) ?_
  refine all_ways g l hl _ l 0 [] List.drop_zero (Nat.zero_le _) hg rfl ?_
  refine Ev.step (f := fun k => _) (fun k => by rw [qP.l0]) (Ev.neg (by omega) ?_)
  rw [hn, Int.toNat_natCast]
  rw [hn] at hb hb2
  refine Ev.pos (by omega) (Ev.pos (by omega) (Ev.bindc rfl (Ev.bind hcd (Ev.pos c0 (Ev.pos (by rw [List.length_replicate]; exact c1) ?_)))))
  exact hrun
 ·rw [if_neg (fun q => hl q.2)]
  exact Ev.pos (by omega) (Ev.now _)
def dirI (l : List UInt8) : Int := if l = [110] then 0 else if l = [101] then 1 else if l = [115] then 2 else if l = [119] then 3 else -1
theorem spec_diDir_ev (a : ByteArray) : Ev (fun k => qoA.f k a) (dirI a.data.toList) := by
 refine Ev.at_ 5 fun k => ?_
 have e0 : ((⟨#[110, 101, 115, 119]⟩ : ByteArray).extract 0 1).toList = [110] := by decide +kernel
 have e1 : ((⟨#[110, 101, 115, 119]⟩ : ByteArray).extract 1 2).toList = [101] := by decide +kernel
 have e2 : ((⟨#[110, 101, 115, 119]⟩ : ByteArray).extract 2 3).toList = [115] := by decide +kernel
 have e3 : ((⟨#[110, 101, 115, 119]⟩ : ByteArray).extract 3 4).toList = [119] := by decide +kernel
 have hz : ((⟨#[110, 101, 115, 119]⟩ : ByteArray).size : Int) = 4 := rfl
 simp [qoA.f, qoA.l0, qsA.f, dirI, wrap64, Go.Lib.toList_data a, e0, e1, e2, e3, hz]
 repeat (split; rfl)
 rfl
theorem dlen (s : ByteArray) : s.data.toList.length = s.size := by rw [Array.length_toList]; rfl
theorem bt_get (s : ByteArray) (i : Nat) (h : i < s.data.toList.length) : bt s (i : Int) = ((s.data.toList[i]).toNat : Int) := by
 have h' : i < s.size := by rw [← dlen]; exact h
 unfold bt
 rw [dif_pos (by simpa using h')]
 simp only [Int.toNat_natCast, Array.getElem_toList]
 rfl
theorem ext1 (s : ByteArray) (i : Nat) (h : i < s.data.toList.length) : (s.extract i (i + 1)).data.toList = [s.data.toList[i]] := by
 rw [Go.Lib.extract_data, show i + 1 - i = 1 by omega, List.drop_eq_getElem_cons h]
 rfl
theorem spec_diDir_at (s : ByteArray) (i : Nat) (h : i < s.data.toList.length) : Ev (fun k => qoA.f k (s.extract i (i + 1))) (dirI [s.data.toList[i]]) := by
 have := spec_diDir_ev (s.extract i (i + 1))
 rwa [ext1 s i h] at this
theorem dirI_one (c : UInt8) : (dirI [c] < 0) = (¬ (c = 110 ∨ c = 101 ∨ c = 115 ∨ c = 119)) := by
 unfold dirI
 by_cases h1 : c = 110
 ·simp [h1]
 by_cases h2 : c = 101
 ·simp [h2]
 by_cases h3 : c = 115
 ·simp [h3]
 by_cases h4 : c = 119
 ·simp [h4]
 simp [h1, h2, h3, h4]
def isDirB (c : UInt8) : Bool := decide (c = 110 ∨ c = 101 ∨ c = 115 ∨ c = 119)
def planOk : List UInt8 → Bool
 | c :: d :: r => decide (48 ≤ c.toNat ∧ c.toNat ≤ 50) && isDirB d && planOk r
 | _ => true
def isPlanB (l : List UInt8) : Bool := decide (l.length % 2 = 0) && decide (l.length ≤ 120) && planOk l
theorem drop2 {l : List UInt8} {i : Nat} (h : i + 1 < l.length) : l.drop i = l[i] :: l[i + 1] :: l.drop (i + 2) := by
 rw [List.drop_eq_getElem_cons (by omega), List.drop_eq_getElem_cons h]
theorem myPlan_loop (a : ByteArray) (hs : a.size ≤ 1048576) (he : a.size % 2 = 0) (d : Nat) : ∀ i : Nat, i ≤ a.size → i % 2 = 0 → a.size - i ≤ d → Ev (fun k => qAA.l0 k a (i : Int)) (planOk (a.data.toList.drop i)) := by
 induction d using Nat.strongRecOn with
 | _ d ih =>
  intro i hi h2 hd
  have hl := dlen a
  refine Ev.step (f := fun k => _) (fun k => by rw [qAA.l0]) ?_
  by_cases hlt : i < a.size
  ·have hp : i + 1 < a.data.toList.length := by omega
   have b0 := bt_get a i (by omega)
   have hdd := spec_diDir_at a (i + 1) hp
   rw [drop2 hp]
   have w1 : wrap64 ((i : Int) + 1) = ((i + 1 : Nat) : Int) := by unfold wrap64; omega
   have w2 : wrap64 ((i : Int) + 2) = ((i + 2 : Nat) : Int) := by unfold wrap64; omega
   rw [w1, w2]
   refine Ev.pos (by omega) (Ev.pos (by omega) ?_)
   rw [b0]
   simp only [Int.toNat_natCast]
   generalize a.data.toList[i] = c
   generalize a.data.toList[i + 1] = e at hdd ⊢
   simp only [planOk]
   by_cases c1 : (c.toNat : Int) < 48
   ·refine Ev.pos c1 (Ev.some_ ?_)
    rw [decide_eq_false (by omega)]; rfl
   refine Ev.neg c1 ?_
   by_cases c2 : (c.toNat : Int) ≥ 51
   ·refine Ev.pos c2 (Ev.some_ ?_)
    rw [decide_eq_false (by omega)]; rfl
   refine Ev.neg c2 (Ev.pos (by omega) (Ev.pos (by omega) (Ev.pos (by omega) ?_)))
   rw [decide_eq_true (by omega)]
   refine Ev.bind hdd ?_
   by_cases c3 : e = 110 ∨ e = 101 ∨ e = 115 ∨ e = 119
   ·refine Ev.neg (by rw [dirI_one]; exact fun h => h c3) ?_
    rw [show isDirB e = true from decide_eq_true c3]
    exact (ih (d - 2) (by omega) (i + 2) (by omega) (by omega) (by omega))
   ·refine Ev.pos (by rw [dirI_one]; exact c3) (Ev.some_ ?_)
    rw [show isDirB e = false from decide_eq_false c3]; rfl
  ·refine Ev.neg (by omega) (Ev.some_ ?_)
   rw [List.drop_eq_nil_of_le (by omega)]
   rfl
theorem spec_myPlan_ev (a : ByteArray) (hs : a.size ≤ 1048576) : Ev (fun k => qAA.f k a) (isPlanB a.data.toList) := by
 have hl := dlen a
 unfold qAA.f
 unfold isPlanB
 have hj : ∀ b : Bool, Ev (fun k => qAA.j0 k a b) (if b = true then false else planOk a.data.toList) ∨ a.size % 2 = 1 := by
  intro b
  rcases Nat.mod_two_eq_zero_or_one a.size with h | h
  ·refine .inl (Ev.step (f := fun k => _) (fun k => by rw [qAA.j0]) ?_)
   cases b
   ·exact Ev.neg (by decide) (myPlan_loop a (by omega) h _ 0 (by omega) (by omega) (Nat.le_refl _))
   ·exact Ev.pos rfl (Ev.now _)
  ·exact .inr h
 by_cases h : a.size % 2 = 0
 ·rcases hj (decide ((a.size : Int) > 120)) with hj | hj
  ·refine Ev.pos (by omega) ?_
   rw [hl, decide_eq_true h, Bool.true_and]
   by_cases h2 : a.size ≤ 120
   case neg => rw [decide_eq_false h2]; rw [decide_eq_true (by omega)] at hj ⊢; exact hj
   rw [decide_eq_true h2]
   rw [decide_eq_false (by omega)] at hj ⊢
   exact hj
  ·omega
 ·refine Ev.neg (by omega) (Ev.step (f := fun k => _) (fun k => by rw [qAA.j0]) (Ev.pos rfl (Ev.some_ ?_)))
  rw [hl, decide_eq_false h]; rfl
def MvS (s : ByteArray) : Prop := ∃ k d, k < 3 ∧ d < 4 ∧ s = signN k d
def SgL (L : List PN) : Prop := ∀ (j : Nat) (x : PN), 0 < j → L[j]? = some x → MvS x.2.2
theorem SgL.start (l : List XS) : SgL [(l, (-1, (⟨#[]⟩ : ByteArray)))] := fun j x hj hx => by
 have := (List.getElem?_eq_some_iff.1 hx).1
 simp at this; omega
theorem nextP_sign {a : ByteArray} {i : Nat} {x : List XS} (hx : x.length ≤ 3) {s : PN} (hs : s ∈ nextP a i x) : MvS s.2.2 := by
 unfold nextP at hs
 obtain ⟨p, hp, rfl⟩ := List.mem_map.1 hs
 obtain ⟨_, h1, h2, _⟩ := qiE _ _ hp
 exact ⟨p.1, p.2, by omega, h2, rfl⟩
theorem plansB_sign {a : ByteArray} {l : List XS} {L : List PN} (h : plansB a l = some L) : SgL L := by
 unfold plansB at h
 split at h
 case isFalse => cases h
 rename_i hc
 have hk := Cap.qLE 6000 (nextP a) (P := fun L => AllOk a l L ∧ SgL L) (fun i L K x hL hx hp hK s hs hm hn => ?_) 6000 0 h ⟨AllOk.start hc.1, SgL.start l⟩
 ·exact hk.2
 ·obtain ⟨t, rfl⟩ := hp
  refine ⟨hK.1.add (by rw [List.getElem?_append_left (List.getElem?_eq_some_iff.1 hx).1]; exact hx) hs hn, fun j y hj hy => ?_⟩
  rcases Nat.lt_or_ge j (L ++ t).length with hj' | hj'
  ·rw [List.getElem?_append_left hj'] at hy; exact hK.2 j y hj hy
  ·have h1 := (List.getElem?_eq_some_iff.1 hy).1
   simp only [List.length_append, List.length_singleton] at h1 hj'
   have hjj : j = (L ++ t).length := by simp only [List.length_append]; omega
   subst hjj
   rw [List.getElem?_append_right (Nat.le_refl _), Nat.sub_self] at hy
   injection hy with hy
   subst hy
   have := (hL.1.kin x (List.mem_of_getElem? hx)).1
   exact nextP_sign (by omega) hs
theorem sign_list {k d : Nat} (hk : k < 3) (hd : d < 4) : ∃ c e : UInt8, (signN k d).data.toList = [c, e] ∧ (48 ≤ c.toNat ∧ c.toNat ≤ 50) ∧ isDirB e = true := by
 have h1 : d = 0 ∨ d = 1 ∨ d = 2 ∨ d = 3 := by omega
 have h2 : k = 0 ∨ k = 1 ∨ k = 2 := by omega
 rcases h2 with rfl | rfl | rfl <;> rcases h1 with rfl | rfl | rfl | rfl <;> exact ⟨_, _, rfl, by decide +kernel, by decide +kernel⟩
def PlT (w : ByteArray) : Prop := w.size % 2 = 0 ∧ planOk w.data.toList = true
theorem PlT.nil : PlT ⟨#[]⟩ := ⟨rfl, rfl⟩
theorem PlT.cons {s w : ByteArray} (hs : MvS s) (h : PlT w) : PlT (s ++ w) := by
 obtain ⟨k, d, hk, hd, rfl⟩ := hs
 obtain ⟨c, e, hl, hc, he⟩ := sign_list hk hd
 have h2 := qmD k d
 refine ⟨by rw [ByteArray.size_append]; have := h.1; omega, ?_⟩
 rw [ByteArray.data_append, Array.toList_append, hl]
 show (decide (48 ≤ c.toNat ∧ c.toNat ≤ 50) && isDirB e && planOk w.data.toList) = true
 rw [decide_eq_true hc, he, h.2]; rfl
theorem PlT.is {w : ByteArray} (h : PlT w) : isPlanB w.data.toList = decide (w.size ≤ 120) := by
 unfold isPlanB
 rw [dlen, decide_eq_true h.1, h.2, Bool.true_and, Bool.and_true]
theorem myWord_loop {a : ByteArray} {l : List XS} {L : List PN} (hA : AllOk a l L) (hS : SgL L) : ∀ (n k : Nat) (out : ByteArray), k ≤ n → k < L.length → out.size + 2 * k ≤ 12000 → PlT out →
  Ev (fun q => qfA.l0 q (L.map s62) (k : Int) out) (wordA L n k out, decide ((wordA L n k out).size ≤ 120))
 | n, 0, out, hn, hk, ho, hp => by
  have hx : L[0]? = some L[0] := List.getElem?_eq_getElem hk
  have hf := hA.fst _ hx
  have hlen : (L.map s62).length = L.length := List.length_map _
  have hpl := spec_myPlan_ev out (by omega)
  rw [hp.is] at hpl
  rw [wordA_zero]
  refine Ev.step (f := fun q => _) (fun q => by rw [qfA.l0]) ?_
  rw [rdSN L L[0] 0 hx, hlen]
  exact Ev.pos (by omega) (Ev.pos (by omega) (Ev.neg (by show ¬ L[0].2.1 ≥ 0; omega) (Ev.bind hpl (Ev.now _))))
 | 0, k + 1, out, hn, hk, ho, hp => by omega
 | n + 1, k + 1, out, hn, hk, ho, hp => by
  obtain ⟨x, hx⟩ : ∃ x, L[k + 1]? = some x := ⟨_, List.getElem?_eq_getElem hk⟩
  have hb := hA.bef (k + 1) x (by omega) hx
  have hs := hA.sgn x (List.mem_of_getElem? hx)
  have hm := hS (k + 1) x (by omega) hx
  have hlen : (L.map s62).length = L.length := List.length_map _
  obtain ⟨b, hbb⟩ : ∃ b : Nat, x.2.1 = (b : Int) := ⟨x.2.1.toNat, by omega⟩
  have ih := myWord_loop hA hS n b (x.2.2 ++ out) (by omega) (by omega) (by rw [ByteArray.size_append]; omega) (hp.cons hm)
  have hw : wordA L (n + 1) (k + 1) out = wordA L n b (x.2.2 ++ out) := by
   rw [wordA, if_neg (by omega), hx]
   simp only [hbb, Int.toNat_natCast]
  rw [hw]
  refine Ev.step (f := fun q => _) (fun q => by rw [qfA.l0]) ?_
  rw [rdSN L x (k + 1) hx, hlen]
  refine Ev.pos (by omega) (Ev.pos (by omega) (Ev.pos (by show x.2.1 ≥ 0; omega) (Ev.pos (by show x.2.2.size + out.size ≤ _; omega) ?_)))
  show Ev (fun q => qfA.l0 q (L.map s62) x.2.1 (x.2.2 ++ out)) _
  rw [hbb]
  exact ih
theorem myWord_ev {a : ByteArray} {l : List XS} {L : List PN} (hA : AllOk a l L) (hS : SgL L) (k : Nat) (hk : k < L.length) :
  Ev (fun q => qfA.f q (L.map s62) (k : Int)) (wordA L k k ⟨#[]⟩, decide ((wordA L k k ⟨#[]⟩).size ≤ 120)) :=
 myWord_loop hA hS k k ⟨#[]⟩ (Nat.le_refl _) hk (by show 0 + 2 * k ≤ 12000; have := hA.len; omega) PlT.nil
def outW (W : ByteArray) : ByteArray × Bool := if W.size > 120 then (⟨#[]⟩, false) else (W, true)
theorem idxP_cons {α : Type} (p : α → Bool) (x : α) (l : List α) : idxP p (x :: l) = if p x = true then 0 else if idxP p l < 0 then -1 else idxP p l + 1 := by
 unfold idxP
 rw [List.findIdx?_cons]
 cases hx : p x with
 | true => simp
 | false =>
  simp only [Bool.false_eq_true, if_false]
  cases hf : l.findIdx? p with
  | none => simp
  | some i => simp; omega
def toFrom (p : List XS → Bool) (L : List PN) : List PN → Nat → ByteArray × Bool
 | [], _ => (⟨#[]⟩, false)
 | x :: r, k => if p x.1 = true then outW (wordA L k k ⟨#[]⟩) else toFrom p L r (k + 1)
theorem toFrom_idx (p : List XS → Bool) (L : List PN) : ∀ (r : List PN) (k : Nat), toFrom p L r k = if idxP p (r.map Prod.fst) < 0 then (⟨#[]⟩, false) else outW (wordA L ((k : Int) + idxP p (r.map Prod.fst)).toNat ((k : Int) + idxP p (r.map Prod.fst)).toNat ⟨#[]⟩)
 | [], k => by
  unfold toFrom
  rw [List.map_nil, show idxP p ([] : List (List XS)) = -1 from rfl, if_pos (by decide)]
 | x :: r, k => by
  unfold toFrom
  rw [List.map_cons, idxP_cons, toFrom_idx p L r (k + 1)]
  generalize idxP p (r.map Prod.fst) = q
  cases hx : p x.1 with
  | true =>
   simp only [if_true]
   rw [if_neg (by decide), Int.add_zero, Int.toNat_natCast]
  | false =>
   simp only [Bool.false_eq_true, if_false]
   by_cases h : q < 0
   case pos => simp only [if_pos h]; rfl
   simp only [if_neg h]
   rw [if_neg (by omega), show ((k + 1 : Nat) : Int) + q = (k : Int) + (q + 1) by omega]
theorem toB_from (p : List XS → Bool) (L : List PN) : toB p L = toFrom p L L 0 := by
 rw [toFrom_idx]
 unfold toB outW
 rw [show ((0 : Nat) : Int) + idxP p (L.map Prod.fst) = idxP p (L.map Prod.fst) by omega]
theorem findC_ev {a : ByteArray} {l : List XS} {L : List PN} (hA : AllOk a l L) (hS : SgL L) (ts : List (List Int)) (hts : l.length ≤ ts.length) : ∀ (r : List PN) (k : Nat), L.drop k = r →
  Ev (fun q => findC q (L.map s62) ts (r.map s62) k) (toFrom (fun own => atAll own ts) L r k)
 | [], k, hd => Ev.now _
 | x :: r, k, hd => by
  obtain ⟨hlt, hc, hd'⟩ := Sorts.qPB hd
  have ih := findC_ev hA hS ts hts r (k + 1) hd'
  have hx : L[k]? = some x := by rw [← hc]; exact List.getElem?_eq_getElem hlt
  have hkin := (hA.kin x (List.mem_of_getElem? hx)).1
  have hwd := myWord_ev hA hS k hlt
  unfold toFrom
  rw [List.map_cons]
  simp only [findC]
  refine Ev.pos (show (s62 x).f0.length ≤ ts.length by show x.1.length ≤ _; omega) ?_
  show Ev (fun q => if atAll x.1 ts = true then _ else _) _
  cases hq : atAll x.1 ts with
  | true =>
   rw [if_pos rfl]
   refine Ev.pos rfl (Ev.bind hwd (Ev.some_ ?_))
   generalize wordA L k k ⟨#[]⟩ = W
   by_cases h120 : W.size ≤ 120
   case neg => rw [show outW W = (⟨#[]⟩, false) from if_pos (by omega)]; simp [h120]
   rw [show outW W = (W, true) from if_neg (by omega)]
   simp [h120]
  | false =>
   rw [if_neg (by decide)]
   exact Ev.neg (by decide) ih
def cellsB (a : ByteArray) (l : List XS) (ts : List (List Int)) : ByteArray × Bool := match plansB a l with
 | none => ((⟨#[]⟩ : ByteArray), false)
 | some L => toB (fun own => atAll own ts) L
theorem myCells_ev {a : ByteArray} {l : List XS} (hb : askD a l = true) (ts : List (List Int)) (hlen : l.length ≤ ts.length) (h2 : ∀ c ∈ ts, c.length = 2) :
  Ev (fun q => qbB.f q (wideT a : Int) (highT a : Int) (csOf a) l ts) (cellsB a l ts) := by
 have h3 := myAll_ev hb
 unfold qbB.f cellsB
 have ht : ts.all (fun c => decide (c.length = 2)) = true := List.all_eq_true.2 fun c hc => decide_eq_true (h2 c hc)
 cases hp : plansB a l with
 | none =>
  rw [hp] at h3
  refine Ev.bind h3 (Ev.neg ?_ (Ev.now _))
  decide
 | some L =>
  rw [hp] at h3
  have hA := plansB_ok hp
  have hS := plansB_sign hp
  refine Ev.bind h3 (Ev.pos rfl (Ev.pos ht ?_))
  show Ev _ (toB (fun own => atAll own ts) L)
  rw [toB_from]
  exact findC_ev hA hS ts hlen L 0 rfl
theorem implCells {a : ByteArray} {l : List XS} (ha : a.size ≤ 1048576) (hl : l.length ≤ 2000000) (ts : List (List Int)) (h : ts.length ≤ 2000000) :
  qjA.f a l ts = some (if askD a l = true ∧ ts.length = l.length ∧ ts.any (badC a) = false then cellsB a l ts else ((⟨#[]⟩ : ByteArray), false)) := by
 unfold qjA.f cellsB
 rw [if_pos ⟨ha, hl, h⟩]
 congr 1
 cases hp : plansB a l with
 | none => simp
 | some L =>
  have hb := plansB_ask hp
  simp [hb]
theorem eqIx_loop (a : List Int) (ha : a.length ≤ 140737488355328) (d : Nat) : ∀ i : Nat, i ≤ a.length → a.length - i = d → Ev (fun k => qLA.l0 k a a (i : Int)) true := by
 induction d with
 | zero =>
  intro i hi hd
  refine Ev.step (f := fun k => _) (fun k => by rw [qLA.l0]) (Ev.neg (by omega) (Ev.now _))
 | succ d ih =>
  intro i hi hd
  refine Ev.step (f := fun k => _) (fun k => by rw [qLA.l0]) (Ev.pos (by omega) (Ev.pos (by omega) (Ev.pos (by omega) (Ev.pos rfl ?_))))
  rw [show wrap64 ((i : Int) + 1) = ((i + 1 : Nat) : Int) by unfold wrap64; omega]
  exact ih (i + 1) (by omega) (by omega)
theorem eqIx_refl (a : List Int) (ha : a.length ≤ 140737488355328) : Ev (fun k => qLA.f k a a) true := by
 unfold qLA.f
 exact Ev.pos rfl (eqIx_loop a ha a.length 0 (by omega) (by omega))
theorem rdLx (l : List (List Int)) (i : Nat) (h : i < l.length) : rd_L7 l (i : Int) = l[i] := by
 unfold rd_L7
 simp [h]
theorem rdIx (l : List Int) (i : Nat) (h : i < l.length) : rd l (i : Int) = l[i] := by
 simp [rd, h]
theorem szIntS_ev (l : List Int) (left : Int) (h : l.length ≤ 9223372036854775807) (h0 : 0 ≤ left) (h1 : left ≤ 1048576) : ∃ r : Int, qoB.f l left = some r ∧ (r = -1 ∨ (0 ≤ r ∧ r = left - l.length)) := by
 unfold qoB.f
 have w : wrap64 (left - (l.length : Int)) = left - (l.length : Int) := by unfold wrap64; omega
 rw [w]
 by_cases q : left - (l.length : Int) < 0
 case pos => exact ⟨-1, if_pos q, .inl rfl⟩
 exact ⟨left - (l.length : Int), if_neg q, .inr ⟨by omega, rfl⟩⟩
theorem szIntSS_loop (l : List (List Int)) (hl : l.length ≤ 1048576) (hx : ∀ x ∈ l, x.length ≤ 9223372036854775807) (d : Nat) : ∀ (i : Nat) (left : Int), i ≤ l.length → l.length - i = d → 0 ≤ left → left ≤ 1048576 →
  ∃ r : Int, Ev (fun k => qJA.l0 k l left (i : Int)) r ∧ (r < 0 ∨ ∀ x ∈ l.drop i, x.length ≤ 1048576) := by
 induction d with
 | zero =>
  intro i left hi hd _ _
  refine ⟨left, Ev.step (f := fun k => _) (fun k => by rw [qJA.l0]) (Ev.neg (by omega) (Ev.now _)), .inr ?_⟩
  rw [List.drop_eq_nil_of_le (by omega)]
  intro x hx; cases hx
 | succ d ih =>
  intro i left hi hd h0 h1
  have h : i < l.length := by omega
  have w : wrap64 ((i : Int) + 1) = ((i + 1 : Nat) : Int) := by unfold wrap64; omega
  obtain ⟨r, hr, hr2⟩ := szIntS_ev l[i] left (hx _ (List.getElem_mem h)) h0 h1
  have e := rdLx l i h
  rcases hr2 with rfl | ⟨hr2, hr3⟩
  ·refine ⟨-1, Ev.step (f := fun k => _) (fun k => by rw [qJA.l0]) ?_, .inl (by decide)⟩
   rw [e]
   exact Ev.pos (by omega) (Ev.pos (by omega) (Ev.bindc hr (Ev.pos (by decide) (Ev.now _))))
  ·obtain ⟨s, hs, hs2⟩ := ih (i + 1) r (by omega) (by omega) hr2 (by omega)
   refine ⟨s, Ev.step (f := fun k => _) (fun k => by rw [qJA.l0]) ?_, ?_⟩
   ·rw [e, w]
    exact Ev.pos (by omega) (Ev.pos (by omega) (Ev.bindc hr (Ev.neg (by omega) hs)))
   ·rcases hs2 with q | q
    ·exact .inl q
    ·refine .inr fun x hx => ?_
     rw [List.drop_eq_getElem_cons h] at hx
     rcases List.mem_cons.1 hx with rfl | hx
     ·omega
     ·exact q x hx
theorem szIntSS_ev (l : List (List Int)) (hl : l.length ≤ 9223372036854775807) (hx : ∀ x ∈ l, x.length ≤ 9223372036854775807) (left : Int) (h0 : 0 ≤ left) (h1 : left ≤ 1048576) :
  ∃ r : Int, Ev (fun k => qJA.f k l left) r ∧ (r < 0 ∨ (l.length ≤ 1048576 ∧ ∀ x ∈ l, x.length ≤ 1048576)) := by
 unfold qJA.f
 have w : wrap64 (left - (l.length : Int)) = left - (l.length : Int) := by unfold wrap64; omega
 rw [w]
 by_cases q : left - (l.length : Int) < 0
 case pos => exact ⟨-1, Ev.pos q (Ev.now _), .inl (by decide)⟩
 obtain ⟨r, hr, hr2⟩ := szIntSS_loop l (by omega) hx l.length 0 (left - (l.length : Int)) (Nat.zero_le _) (by omega) (by omega) (by omega)
 refine ⟨r, Ev.neg q hr, ?_⟩
 rcases hr2 with p | p
 ·exact .inl p
 ·exact .inr ⟨by omega, p⟩
theorem toIntS_loop (l : List Int) (hl : l.length ≤ 1048576) (d : Nat) : ∀ (i : Nat) (m : List Int), i ≤ l.length → l.length - i = d → m.length = l.length → m.take i = l.take i →
  Ev (fun k => qXA.l0 k l (i : Int) m) l := by
 induction d with
 | zero =>
  intro i m hi hd hm ht
  refine Ev.step (f := fun k => _) (fun k => by rw [qXA.l0]) (Ev.neg (by omega) (Ev.some_ ?_))
  rw [← List.take_length (l := m), ← List.take_length (l := l), hm, show l.length = i by omega]
  exact ht
 | succ d ih =>
  intro i m hi hd hm ht
  have h : i < l.length := by omega
  have w : wrap64 ((i : Int) + 1) = ((i + 1 : Nat) : Int) := by unfold wrap64; omega
  refine Ev.step (f := fun k => _) (fun k => by rw [qXA.l0]) ?_
  rw [w, rdIx l i h, Int.toNat_natCast]
  refine Ev.pos (by omega) (Ev.pos (by omega) (Ev.pos (by omega) ?_))
  refine ih (i + 1) (m.set i l[i]) (by omega) (by omega) (by rw [List.length_set]; exact hm) ?_
  rw [List.take_succ_eq_append_getElem (by rw [List.length_set]; omega), List.take_succ_eq_append_getElem h, List.getElem_set_self, List.take_set, List.set_eq_of_length_le (by rw [List.length_take]; omega), ht]
theorem toIntS_ev (l : List Int) (hl : l.length ≤ 1048576) : Ev (fun k => qXA.f k l) l := by
 unfold qXA.f
 rw [Int.toNat_natCast]
 refine Ev.pos (by omega) (Ev.pos (by omega) (toIntS_loop l hl l.length 0 _ (Nat.zero_le _) (by omega) (by simp) rfl))
theorem toIntSS_loop (l : List (List Int)) (hl : l.length ≤ 1048576) (hx : ∀ x ∈ l, x.length ≤ 1048576) (d : Nat) : ∀ (i : Nat) (m : List (List Int)), i ≤ l.length → l.length - i = d → m.length = l.length → m.take i = l.take i →
  Ev (fun k => qx.l0 k l (i : Int) m) l := by
 induction d with
 | zero =>
  intro i m hi hd hm ht
  refine Ev.step (f := fun k => _) (fun k => by rw [qx.l0]) (Ev.neg (by omega) (Ev.some_ ?_))
  rw [← List.take_length (l := m), ← List.take_length (l := l), hm, show l.length = i by omega]
  exact ht
 | succ d ih =>
  intro i m hi hd hm ht
  have h : i < l.length := by omega
  have w : wrap64 ((i : Int) + 1) = ((i + 1 : Nat) : Int) := by unfold wrap64; omega
  have hq := toIntS_ev l[i] (hx _ (List.getElem_mem h))
  refine Ev.step (f := fun k => _) (fun k => by rw [qx.l0]) ?_
  rw [w, rdLx l i h, Int.toNat_natCast]
  refine Ev.pos (by omega) (Ev.pos (by omega) (Ev.bind hq (Ev.pos (by omega) ?_)))
  refine ih (i + 1) (m.set i l[i]) (by omega) (by omega) (by rw [List.length_set]; exact hm) ?_
  rw [List.take_succ_eq_append_getElem (by rw [List.length_set]; omega), List.take_succ_eq_append_getElem h, List.getElem_set_self, List.take_set, List.set_eq_of_length_le (by rw [List.length_take]; omega), ht]
theorem toIntSS_ev (l : List (List Int)) (hl : l.length ≤ 1048576) (hx : ∀ x ∈ l, x.length ≤ 1048576) : Ev (fun k => qx.f k l) l := by
 unfold qx.f
 rw [Int.toNat_natCast]
 refine Ev.pos (by omega) (Ev.pos (by omega) (toIntSS_loop l hl hx l.length 0 _ (Nat.zero_le _) (by omega) (by simp) rfl))
theorem eqIntSS_loop (l : List (List Int)) (hl : l.length ≤ 1048576) (hx : ∀ x ∈ l, x.length ≤ 1048576) (d : Nat) : ∀ i : Nat, i ≤ l.length → l.length - i = d → Ev (fun k => qRA.l0 k l l (i : Int)) true := by
 induction d with
 | zero =>
  intro i hi hd
  exact Ev.step (f := fun k => _) (fun k => by rw [qRA.l0]) (Ev.neg (by omega) (Ev.now _))
 | succ d ih =>
  intro i hi hd
  have h : i < l.length := by omega
  have w : wrap64 ((i : Int) + 1) = ((i + 1 : Nat) : Int) := by unfold wrap64; omega
  have hq := eqIx_refl l[i] (by have := hx _ (List.getElem_mem h); omega)
  refine Ev.step (f := fun k => _) (fun k => by rw [qRA.l0]) ?_
  rw [w, rdLx l i h]
  exact Ev.pos (by omega) (Ev.pos (by omega) (Ev.pos (by omega) (Ev.bind hq (Ev.pos rfl (ih (i + 1) (by omega) (by omega))))))
theorem eqIntSS_refl (l : List (List Int)) (hl : l.length ≤ 1048576) (hx : ∀ x ∈ l, x.length ≤ 1048576) : Ev (fun k => qRA.f k l l) true := by
 unfold qRA.f
 exact Ev.pos rfl (eqIntSS_loop l hl hx l.length 0 (Nat.zero_le _) (by omega))
end Go.Proofs.YthhiiceligjleaaGreatDoor
namespace Go.Proofs.YthhiiceligjleaaGreatDoor.Pure
open Go.RowKit Go.Proofs.YthhiiceligjleaaGreatDoor.P Go.Proofs.YthhiiceligjleaaGreatDoorW.PrintWords Go.Proofs.YthhiiceligjleaaGreatDoorW.PrintLast
set_option linter.unusedVariables false
set_option linter.unusedSimpArgs false
theorem cells_loop {a : ByteArray} {l : List XS} (hb : askD a l = true) (ts : List (List Int)) (hn : ts.length = l.length) (hl : ts.length ≤ 2000000) (d : Nat) : ∀ i : Nat, i ≤ ts.length → ts.length - i = d → (∀ c ∈ ts.take i, c.length = 2) →
  Ev (fun q => qM.l0 q l ts ts (ts.length : Int) (i : Int) (wideT a : Int) (highT a : Int) (csOf a)) (if (ts.drop i).any (badC a) = true then ((⟨#[]⟩ : ByteArray), false) else cellsB a l ts) := by
 have g := qDE (qyC hb)
 induction d with
 | zero =>
  intro i hi hd h2
  rw [List.take_of_length_le (by omega)] at h2
  rw [List.drop_eq_nil_of_le (by omega)]
  refine Ev.step (f := fun q => _) (fun q => by rw [qM.l0]) (Ev.neg (by omega) (Ev.bind (myCells_ev hb ts (by omega) h2) (Ev.now _)))
 | succ d ih =>
  intro i hi hd h2
  have h : i < ts.length := by omega
  have w : wrap64 ((i : Int) + 1) = ((i + 1 : Nat) : Int) := by unfold wrap64; omega
  refine Ev.step (f := fun q => _) (fun q => by rw [qM.l0]) ?_
  rw [rdLx ts i h, w, List.drop_eq_getElem_cons h, List.any_cons]
  have ih := fun hc => ih (i + 1) (by omega) (by omega) hc
  by_cases e : ts[i].length = 2
  ·have hbc := boCell_eq g (csOf a) (rd ts[i] 0) (rd ts[i] 1)
   have hbd : badC a ts[i] = !hasB a (rd ts[i] 0) (rd ts[i] 1) := by unfold badC; rw [if_pos e]
   have ih := ih (fun c hc => by
    rw [List.take_succ_eq_append_getElem h, List.mem_append, List.mem_singleton] at hc
    rcases hc with hc | rfl
    ·exact h2 c hc
    ·exact e)
   rw [hbd]
   refine Ev.pos (by omega) (Ev.pos (by omega) (Ev.pos (by omega) (Ev.pos (by omega) (Ev.pos (by omega) (Ev.pos (by omega) (Ev.bindc hbc ?_))))))
   cases hasB a (rd ts[i] 0) (rd ts[i] 1) with
   | true => exact Ev.pos rfl ih
   | false => exact Ev.neg (by decide) (Ev.now _)
  ·have hbd : badC a ts[i] = true := by unfold badC; rw [if_neg e]
   rw [hbd]
   exact Ev.pos (by omega) (Ev.pos (by omega) (Ev.pos (by omega) (Ev.neg (by omega) (Ev.now _))))
theorem both (a : ByteArray) (l : List XS) (ts : List (List Int)) (ha : a.size ≤ 1048576) (hl : l.length ≤ 2000000) (ht : ts.length ≤ 2000000) : ∃ r : ByteArray × Bool, Ev (fun n => qM.f n a l ts) r ∧ qjA.f a l ts = some r := by
 obtain ⟨w, h, cs, h2, hs⟩ := myAsked_ev a l hl
 have j0 : ∀ w h cs, Ev (fun n => qM.j0 n l ts true w h cs) ((⟨#[]⟩ : ByteArray), false) := fun w h cs =>
  Ev.step (f := fun n => _) (fun n => by rw [qM.j0]) (Ev.pos rfl (Ev.now _))
 unfold qM.f
 rw [implCells ha hl ts ht]
 refine ⟨_, ?_, rfl⟩
 cases hb : askD a l with
 | false =>
  rw [hb] at h2
  rw [if_neg (by simp)]
  exact Ev.bind h2 (Ev.neg (by simp) (j0 _ _ _))
 | true =>
  obtain ⟨e1, e2, e3⟩ := hs hb
  subst e1 e2 e3
  rw [hb] at h2
  by_cases hn : ts.length = l.length
  ·have hne : ((ts.length : Int) != (l.length : Int)) = false := by rw [hn]; simp
   have hlp := cells_loop hb ts hn ht ts.length 0 (Nat.zero_le _) (by omega) (by intro c hc; simp at hc)
   refine Ev.bind h2 (Ev.pos rfl ?_)
   rw [hne]
   refine Ev.step (f := fun n => _) (fun n => by rw [qM.j0]) (Ev.neg (by decide) ?_)
   rw [List.drop_zero] at hlp
   cases hq : ts.any (badC a) with
   | true =>
    rw [hq, if_pos rfl] at hlp
    rw [if_neg (by simp)]
    exact hlp
   | false =>
    rw [hq, if_neg (by decide)] at hlp
    rw [if_pos ⟨rfl, hn, rfl⟩]
    exact hlp
  ·have hne : ((ts.length : Int) != (l.length : Int)) = true := bne_iff_ne.2 (fun e => hn (by omega))
   refine Ev.bind h2 (Ev.pos rfl ?_)
   rw [hne, if_neg (fun q => hn q.2.1)]
   exact j0 _ _ _
theorem szStateS_gen (l : List LS) (left : Nat) (h : l.length * 64 ≤ 140737488351232) (hleft : left ≤ 1048576) : qCB.f l (left : Int) = some (if l.length ≤ left then ((left - l.length : Nat) : Int) else -1) := by
 unfold qCB.f
 have w : wrap64 ((left : Int) - (l.length : Int)) = (left : Int) - (l.length : Int) := by unfold wrap64; omega
 rw [w]
 by_cases h : l.length ≤ left
 case pos => rw [if_neg (by omega), if_pos h]; congr 1; omega
 rw [if_pos (by omega), if_neg h]
theorem FnExactPlanToCells (a : ByteArray) (l : List LS) (ts : List (List Int)) (_ : a.size ≤ 140737488351232) (hl : l.length * 64 ≤ 140737488351232) (ht : ts.length ≤ 9223372036854775807) (hx : ∀ x ∈ ts, x.length ≤ 9223372036854775807) : ∃ k, ql.f k a l ts = some true := by
 refine Ev.rounds (r := true) ?_
 unfold ql.f
 by_cases ha : a.size ≤ 1048576
 ·refine Ev.neg (by omega) (Ev.bindc (szStateS_gen l 1048576 hl (Nat.le_refl _)) ?_)
  by_cases hn : l.length ≤ 1048576
  case neg => rw [if_neg hn]; exact Ev.pos (by decide) (Ev.now _)
  rw [if_pos hn]
  obtain ⟨r2, hr2, hc2⟩ := szIntSS_ev ts ht hx ((1048576 - l.length : Nat) : Int) (by omega) (by omega)
  refine Ev.neg (by omega) (Ev.bind hr2 ?_)
  by_cases hneg : r2 < 0
  case pos => exact Ev.pos hneg (Ev.now _)
  obtain ⟨ht1, ht2⟩ := hc2.resolve_left hneg
  have hc : l.length ≤ 2000000 := by omega
  have hts := toStateS_ev l hc
  have hti := toIntSS_ev ts ht1 ht2
  obtain ⟨r, hs, hi⟩ := both a (l.map convS) ts ha (by simp; omega) (by omega)
  have h3 : (l.map convS).length ≤ 140737488355328 := by simp; omega
  refine Ev.neg hneg (Ev.bind hts (Ev.bind hti (Ev.bind hs (Ev.bind hts (Ev.bind hti (Ev.bindc hi (Ev.pos rfl ?_)))))))
  refine Ev.step (f := fun k => _) (fun k => by rw [ql.j0]) (Ev.neg (by simp) ?_)
  exact Ev.bind hts (Ev.bind (eqStateS_refl _ h3) (Ev.pos rfl (Ev.bind hti (Ev.bind (eqIntSS_refl ts ht1 ht2) (Ev.pos rfl (Ev.now _))))))
 ·exact Ev.pos (by omega) (Ev.now _)
end Go.Proofs.YthhiiceligjleaaGreatDoor.Pure
