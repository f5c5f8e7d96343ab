/- The program's MoveDice returns what the reference's returns, for all texts and dice and plans (the law lets longer texts and lists by). No further condition. -/
import Derived.Test.YtgjdjnggkmojnaaDoorKFnExactMoveDice2

namespace Go.Proofs.YtgjdjnggkmojnaaDoor.P
open Go.RowKit Go.Proofs.YtgjdjnggkmojnaaDoorW.PrintWords Go.Proofs.YtgjdjnggkmojnaaDoorW.PrintLast Go.Proofs.YtgjdjnggkmojnaaDoorW.PrintMore
attribute [local go_sem] qLA qJA qVA qUA qy qx qKA qIA
set_option linter.unusedVariables false
set_option linter.unusedSimpArgs false
mutual
def qU.j0 : Nat → ByteArray → List (S61) → ByteArray → List (S57) → Bool → List (S57) → List (S57) → Bool → Bool → Option (Bool)
 | 0, _, _, _, _, _, _, _, _, _ => none
 | k + 1, x0, x1, x2, x8, x9, x10, x11, x12, x54 => if x54 = true then (some false) else ((qS.f k x1).bind fun t681 => ((qX.f k x10 t681).bind fun t684 => (if t684 = true then ((qj.f k x10 1).bind fun bt685 => (if bt685.1 < 0 then (qU.j1 k x0 x1 x2 x8 x9 x11 true) else ((qX.f k x11 x8).bind fun t687 => (if t687 = true then (qU.j1 k x0 x1 x2 x8 x9 x11 (x12 != x9)) else (qU.j1 k x0 x1 x2 x8 x9 x11 true))))) else (some false))))
def qU.j1 : Nat → ByteArray → List (S61) → ByteArray → List (S57) → Bool → List (S57) → Bool → Option (Bool)
 | 0, _, _, _, _, _, _, _ => none
 | k + 1, x0, x1, x2, x8, x9, x11, x75 => if x75 = true then (some false) else ((qj.f k x11 1).bind fun bt688 => ((qBA.f k bt688.2 1).bind fun t690 => (if t690 < 0 then (some false) else (if t690 = bt688.1 then ((qS.f k x1).bind fun t691 => ((qn.f k x0 t691 x2).bind fun bt694 => ((qX.f k bt694.1 x8).bind fun t698 => (if t698 = true then (qU.j2 k bt688.2 bt688.1 (bt694.2 != x9)) else (qU.j2 k bt688.2 bt688.1 true))))) else (some false)))))
def qU.j2 : Nat → List (S57) → Int → Bool → Option (Bool)
 | 0, _, _, _ => none
 | k + 1, x11, x14, x103 => if x103 = true then (some false) else ((qBA.f k x11 1).bind fun t699 => (if t699 < 0 then (some false) else (if t699 = x14 then (some true) else (some false))))
end
def qU.f (k : Nat) (a0 : ByteArray) (l1 : List (S61)) (a2 : ByteArray) : Option (Bool) := if (a0.size : Int) > 1048576 then (some true) else (if (a2.size : Int) > 1048576 then (some true) else ((qSA.f l1 1048576).bind fun t665 => (if t665 < 0 then (some true) else ((qS.f k l1).bind fun t666 => ((qr.f k a0 t666 a2).bind fun bt669 => ((qS.f k l1).bind fun t673 => ((qn.f k a0 t673 a2).bind fun bt676 => ((qX.f k bt676.1 bt669.1).bind fun t680 => (if t680 = true then (qU.j0 k a0 l1 a2 bt669.1 bt669.2 t673 bt676.1 bt676.2 (bt676.2 != bt669.2)) else (qU.j0 k a0 l1 a2 bt669.1 bt669.2 t673 bt676.1 bt676.2 true))))))))))
set_option maxHeartbeats 8000000 in
set_option maxRecDepth 100000 in
theorem qU.calls (k : Nat) (a0 : ByteArray) (A1 : Option Addr) (c1 : Nat) (l1 : List (S61)) (a2 : ByteArray) (r : Bool) (w : World) (hr1 : Kd.C k61 w A1 l1.length l1) (hc1 : l1.length ≤ c1) (hL : Laid w) (h : qU.f k a0 l1 a2 = some r) :
  Calls Tryd.prog 9 #[.string a0, .slice A1 l1.length c1, .string a2] w fun e w' => e = .returned (.bool r) ∧ Below w.heap.size w w' := by
 have HR1 := Aside0.mk hr1
 have HC1 := Aside0.mk hc1
 clear hr1 hc1
 have HLD := Aside0.mk hL
 clear hL
 have HB := Aside0.mk (Below.refl w.heap.size w)
 have H : (if (a0.size : Int) > 1048576 then (some true) else (if (a2.size : Int) > 1048576 then (some true) else ((qSA.f l1 1048576).bind fun t665 => (if t665 < 0 then (some true) else ((qS.f k l1).bind fun t666 => ((qr.f k a0 t666 a2).bind fun bt669 => ((qS.f k l1).bind fun t673 => ((qn.f k a0 t673 a2).bind fun bt676 => ((qX.f k bt676.1 bt669.1).bind fun t680 => (if t680 = true then (qU.j0 k a0 l1 a2 bt669.1 bt669.2 t673 bt676.1 bt676.2 (bt676.2 != bt669.2)) else (qU.j0 k a0 l1 a2 bt669.1 bt669.2 t673 bt676.1 bt676.2 true))))))))))) = some r := h
 clear h
 by_cases c4 : (a0.size : Int) > 1048576
 ·rw [if_pos c4] at H
  have c4b0 : decide (1048576 < (a0.size : Int)) = true := decide_eq_true c4
  have c4b1 : decide (1048576 < a0.size) = true := decide_eq_true (by omega)
  clear c4
  obtain rfl := Option.some.inj H
  go_enter Tryd.func9, Tryd.ntmps9
  go_wp2
  go_ret
  exact ⟨by first | rfl | (simp [qI, qH] <;> rfl) | (simp [*, qI, qH] <;> rfl), bl⟩
 ·rw [if_neg c4] at H
  have c4b0 : decide (1048576 < (a0.size : Int)) = false := decide_eq_false c4
  have c4b1 : decide (1048576 < a0.size) = false := decide_eq_false (by omega)
  clear c4
  by_cases c5 : (a2.size : Int) > 1048576
  ·rw [if_pos c5] at H
   have c5b0 : decide (1048576 < (a2.size : Int)) = true := decide_eq_true c5
   have c5b1 : decide (1048576 < a2.size) = true := decide_eq_true (by omega)
   clear c5
   obtain rfl := Option.some.inj H
   go_enter Tryd.func9, Tryd.ntmps9
   go_wp2
   go_ret
   exact ⟨by first | rfl | (simp [qI, qH] <;> rfl) | (simp [*, qI, qH] <;> rfl), bl⟩
  ·rw [if_neg c5] at H
   have c5b0 : decide (1048576 < (a2.size : Int)) = false := decide_eq_false c5
   have c5b1 : decide (1048576 < a2.size) = false := decide_eq_false (by omega)
   clear c5
   replace H := Option.bind_eq_some_iff.mp H
   obtain ⟨t665, A60, H⟩ := H
   replace H : (if t665 < 0 then (some true) else ((qS.f k l1).bind fun t666 => ((qr.f k a0 t666 a2).bind fun bt669 => ((qS.f k l1).bind fun t673 => ((qn.f k a0 t673 a2).bind fun bt676 => ((qX.f k bt676.1 bt669.1).bind fun t680 => (if t680 = true then (qU.j0 k a0 l1 a2 bt669.1 bt669.2 t673 bt676.1 bt676.2 (bt676.2 != bt669.2)) else (qU.j0 k a0 l1 a2 bt669.1 bt669.2 t673 bt676.1 bt676.2 true)))))))) = some r := H
   have A6 := Aside0.mk A60
   clear A60
   by_cases c7 : t665 < 0
   ·rw [if_pos c7] at H
    have c7b0 : decide (t665 < 0) = true := decide_eq_true c7
    clear c7
    obtain rfl := Option.some.inj H
    go_enter Tryd.func9, Tryd.ntmps9
    go_wp2_with (first | ((with_reducible refine qL (f := 11) rfl ?_); refine qh (some 26) rfl rfl Tryd.func11 (by kernel_rfl) rfl #[.slice A1 l1.length c1, .int .i64 1048576] rfl (by (try simp only [List.map_toArray, List.map_cons, List.map_nil]); first | done | rfl | (simp only [List.length_drop, List.length_take]; rfl)) ?_; (with_reducible refine (qSA.calls _ _ l1 1048576 t665 _ ?side1 ?side2 A6.out).mono ?_); (case side1 => repeat (first | exact HR1.out | (with_reducible refine Kd.qa ?_ _) | (with_reducible refine Kd.qZ ?_ _) | (with_reducible refine Kd.qe ?_))); (case side2 => exact HC1.out); rintro e w' ⟨rfl, ⟨nd, rfl⟩⟩; refine ⟨_, rfl, ?_⟩))
    go_ret
    exact ⟨by first | rfl | (simp [qI, qH] <;> rfl) | (simp [*, qI, qH] <;> rfl), bl⟩
   ·rw [if_neg c7] at H
    have c7b0 : decide (t665 < 0) = false := decide_eq_false c7
    clear c7
    replace H := Option.bind_eq_some_iff.mp H
    obtain ⟨t666, A80, H⟩ := H
    replace H : ((qr.f k a0 t666 a2).bind fun bt669 => ((qS.f k l1).bind fun t673 => ((qn.f k a0 t673 a2).bind fun bt676 => ((qX.f k bt676.1 bt669.1).bind fun t680 => (if t680 = true then (qU.j0 k a0 l1 a2 bt669.1 bt669.2 t673 bt676.1 bt676.2 (bt676.2 != bt669.2)) else (qU.j0 k a0 l1 a2 bt669.1 bt669.2 t673 bt676.1 bt676.2 true)))))) = some r := H
    have A8 := Aside0.mk A80
    clear A80
    replace H := Option.bind_eq_some_iff.mp H
    obtain ⟨⟨t669, t670⟩, A90, H⟩ := H
    replace H : ((qS.f k l1).bind fun t673 => ((qn.f k a0 t673 a2).bind fun bt676 => ((qX.f k bt676.1 t669).bind fun t680 => (if t680 = true then (qU.j0 k a0 l1 a2 t669 t670 t673 bt676.1 bt676.2 (bt676.2 != t670)) else (qU.j0 k a0 l1 a2 t669 t670 t673 bt676.1 bt676.2 true))))) = some r := H
    have A9 := Aside0.mk A90
    clear A90
    replace H := Option.bind_eq_some_iff.mp H
    obtain ⟨t673, A100, H⟩ := H
    replace H : ((qn.f k a0 t673 a2).bind fun bt676 => ((qX.f k bt676.1 t669).bind fun t680 => (if t680 = true then (qU.j0 k a0 l1 a2 t669 t670 t673 bt676.1 bt676.2 (bt676.2 != t670)) else (qU.j0 k a0 l1 a2 t669 t670 t673 bt676.1 bt676.2 true)))) = some r := H
    have A10 := Aside0.mk A100
    clear A100
    replace H := Option.bind_eq_some_iff.mp H
    obtain ⟨⟨t676, t677⟩, A110, H⟩ := H
    replace H : ((qX.f k t676 t669).bind fun t680 => (if t680 = true then (qU.j0 k a0 l1 a2 t669 t670 t673 t676 t677 (t677 != t670)) else (qU.j0 k a0 l1 a2 t669 t670 t673 t676 t677 true))) = some r := H
    have A11 := Aside0.mk A110
    clear A110
    have HC12 := Aside0.mk H
    clear H
    go_enter Tryd.func9, Tryd.ntmps9
    go_upto_region 12 with (first | ((with_reducible refine qL (f := 11) rfl ?_); refine qh (some 26) rfl rfl Tryd.func11 (by kernel_rfl) rfl #[.slice A1 l1.length c1, .int .i64 1048576] rfl (by (try simp only [List.map_toArray, List.map_cons, List.map_nil]); first | done | rfl | (simp only [List.length_drop, List.length_take]; rfl)) ?_; (with_reducible refine (qSA.calls _ _ l1 1048576 t665 _ ?side1 ?side2 A6.out).mono ?_); (case side1 => repeat (first | exact HR1.out | (with_reducible refine Kd.qa ?_ _) | (with_reducible refine Kd.qZ ?_ _) | (with_reducible refine Kd.qe ?_))); (case side2 => exact HC1.out); rintro e w' ⟨rfl, ⟨nd, rfl⟩⟩; refine ⟨_, rfl, ?_⟩) | ((with_reducible refine qL (f := 13) rfl ?_); refine qh (some 32) rfl rfl Tryd.func13 (by kernel_rfl) rfl #[.slice A1 l1.length c1] rfl (by (try simp only [List.map_toArray, List.map_cons, List.map_nil]); first | done | rfl | (simp only [List.length_drop, List.length_take]; rfl)) ?_; (with_reducible refine (qS.calls k _ _ l1 t666 _ ?side1 ?side2 A8.out).mono ?_); (case side1 => repeat (first | exact HR1.out | (with_reducible refine Kd.qa ?_ _) | (with_reducible refine Kd.qZ ?_ _) | (with_reducible refine Kd.qe ?_))); (case side2 => exact HC1.out); rintro e w13 ⟨v667, rfl, ho0, hb⟩; refine ⟨_, rfl, ?_⟩; have n0_ := Aside0.mk (Kd.qDA ho0 (qb bl)); have n1_ := Aside0.mk (qG bl hb); clear HB; have HO668 := n0_; have HB := n1_; clear n0_ n1_; (try clear hb); (try clear hb2); (try clear hk); (try clear hi); (try clear ho0); obtain ⟨Ao14, co14, eo14⟩ := Kd.qt HO668.out; subst eo14) | ((with_reducible refine qL (f := 34) rfl ?_); refine qh (some 34) rfl rfl Tryd.func34 (by kernel_rfl) rfl #[.string a0, .slice Ao14 t666.length co14, .string a2] rfl (by (try simp only [List.map_toArray, List.map_cons, List.map_nil]); first | done | rfl | (simp only [List.length_drop, List.length_take]; rfl)) ?_; (with_reducible refine (qr.calls k a0 _ _ t666 a2 t669 t670 _ ?side1 ?side2 A9.out).mono ?_); (case side1 => repeat (first | exact (Kd.qM HO668.out).2.2 | (with_reducible refine Kd.qa ?_ _) | (with_reducible refine Kd.qZ ?_ _) | (with_reducible refine Kd.qe ?_))); (case side2 => exact (Kd.qM HO668.out).2.1); rintro e w15 ⟨v671, rfl, ho0, hb⟩; refine ⟨_, rfl, ?_⟩; have n0_ := Aside0.mk (Kd.qYA (by (with_reducible repeat (first | apply Kd.qK | apply Kd.qJ | apply Kd.qO)); exact HO668.out) (Kd.qnA ho0) hb); have n1_ := Aside0.mk (Kd.qDA (Kd.qmA ho0 (Kd.R_lt (by (with_reducible repeat (first | apply Kd.qK | apply Kd.qJ | apply Kd.qO)); exact HO668.out))) (qb bl)); have n2_ := Aside0.mk (qG bl hb); clear HO668; clear HB; have HO668 := n0_; have HO672 := n1_; have HB := n2_; clear n0_ n1_ n2_; (try clear hb); (try clear hb2); (try clear hk); (try clear hi); (try clear ho0)) | ((with_reducible refine qL (f := 13) rfl ?_); refine qh (some 38) rfl rfl Tryd.func13 (by kernel_rfl) rfl #[.slice A1 l1.length c1] rfl (by (try simp only [List.map_toArray, List.map_cons, List.map_nil]); first | done | rfl | (simp only [List.length_drop, List.length_take]; rfl)) ?_; (with_reducible refine (qS.calls k _ _ l1 t673 _ ?side1 ?side2 A10.out).mono ?_); (case side1 => repeat (first | exact (Kd.qWA HR1.out HB.out) | (with_reducible refine Kd.qa ?_ _) | (with_reducible refine Kd.qZ ?_ _) | (with_reducible refine Kd.qe ?_))); (case side2 => exact HC1.out); rintro e w16 ⟨v674, rfl, ho0, hb⟩; refine ⟨_, rfl, ?_⟩; have n0_ := Aside0.mk (Kd.qYA (by (with_reducible repeat (first | apply Kd.qK | apply Kd.qJ | apply Kd.qO)); exact HO668.out) (Kd.qnA ho0) hb); have n1_ := Aside0.mk (Kd.qYA (by (with_reducible repeat (first | apply Kd.qK | apply Kd.qJ | apply Kd.qO)); exact HO672.out) (Kd.qnA ho0) hb); have n2_ := Aside0.mk (Kd.qDA (Kd.qmA (Kd.qmA ho0 (Kd.R_lt (by (with_reducible repeat (first | apply Kd.qK | apply Kd.qJ | apply Kd.qO)); exact HO668.out))) (Kd.R_lt (by (with_reducible repeat (first | apply Kd.qK | apply Kd.qJ | apply Kd.qO)); exact HO672.out))) (qb bl)); have n3_ := Aside0.mk (qG bl hb); clear HO668; clear HO672; clear HB; have HO668 := n0_; have HO672 := n1_; have HO675 := n2_; have HB := n3_; clear n0_ n1_ n2_ n3_; (try clear hb); (try clear hb2); (try clear hk); (try clear hi); (try clear ho0); obtain ⟨Ao17, co17, eo17⟩ := Kd.qt HO675.out; subst eo17) | ((with_reducible refine qL (f := 35) rfl ?_); refine qh (some 43) rfl rfl Tryd.func35 (by kernel_rfl) rfl #[.string a0, .slice Ao17 t673.length co17, .string a2] rfl (by (try simp only [List.map_toArray, List.map_cons, List.map_nil]); first | done | rfl | (simp only [List.length_drop, List.length_take]; rfl)) ?_; (with_reducible refine (qn.calls k a0 _ _ t673 a2 t676 t677 _ ?side1 ?side2 ?side3 A11.out).mono ?_); (case side1 => repeat (first | exact (Kd.qM HO675.out).2.2 | (with_reducible refine Kd.qa ?_ _) | (with_reducible refine Kd.qZ ?_ _) | (with_reducible refine Kd.qe ?_))); (case side2 => exact (Kd.qM HO675.out).2.1); (case side3 => first | exact HLD.out | exact Laid.below HLD.out (by repeat (first | (with_reducible first | exact HB.out | apply qAA | apply qo | apply qp | refine qMA ?_ (Aside0.out (by with_reducible assumption))) | exact HB.out))); rintro e w18 ⟨v678, rfl, ho0, hb⟩; refine ⟨_, rfl, ?_⟩; have n0_ := Aside0.mk (Kd.qYA (by (with_reducible repeat (first | apply Kd.qK | apply Kd.qJ | apply Kd.qO)); exact HO668.out) (Kd.qnA ho0) hb); have n1_ := Aside0.mk (Kd.qYA (by (with_reducible repeat (first | apply Kd.qK | apply Kd.qJ | apply Kd.qO)); exact HO672.out) (Kd.qnA ho0) hb); have n2_ := Aside0.mk (Kd.qYA (by (with_reducible repeat (first | apply Kd.qK | apply Kd.qJ | apply Kd.qO)); exact HO675.out) (Kd.qnA ho0) hb); have n3_ := Aside0.mk (Kd.qDA (Kd.qmA (Kd.qmA (Kd.qmA ho0 (Kd.R_lt (by (with_reducible repeat (first | apply Kd.qK | apply Kd.qJ | apply Kd.qO)); exact HO668.out))) (Kd.R_lt (by (with_reducible repeat (first | apply Kd.qK | apply Kd.qJ | apply Kd.qO)); exact HO672.out))) (Kd.R_lt (by (with_reducible repeat (first | apply Kd.qK | apply Kd.qJ | apply Kd.qO)); exact HO675.out))) (qb bl)); have n4_ := Aside0.mk (qG bl hb); clear HO668; clear HO672; clear HO675; clear HB; have HO668 := n0_; have HO672 := n1_; have HO675 := n2_; have HO679 := n3_; have HB := n4_; clear n0_ n1_ n2_ n3_ n4_; (try clear hb); (try clear hb2); (try clear hk); (try clear hi); (try clear ho0)))
    (try simp only [Act.put, List.setIfInBounds_toArray, List.set_cons_zero, List.set_cons_succ])
    go_cut [54] (fun v54 wc => ∃ (kq : Nat) (x54_11 : Bool), v54 = .bool x54_11 ∧ Aside0 (qU.j0 kq a0 l1 a2 t669 t670 t673 t676 t677 x54_11 = some r) ∧ Aside0 (kq ≤ k) ∧ Aside0 (Kd.R k57 57 wc w.heap.size (fun k_ => some k_ ≠ ((.slice Ao17 t673.length co17) : Value).ownBlock ∧ some k_ ≠ (v678 : Value).ownBlock) v671 t669) ∧ Aside0 (Kd.R k57 57 wc w.heap.size (fun k_ => some k_ ≠ (v671 : Value).ownBlock ∧ some k_ ≠ (v678 : Value).ownBlock) (.slice Ao17 t673.length co17) t673) ∧ Aside0 (Kd.R k57 57 wc w.heap.size (fun k_ => some k_ ≠ (v671 : Value).ownBlock ∧ some k_ ≠ ((.slice Ao17 t673.length co17) : Value).ownBlock) v678 t676) ∧ Aside0 (Below w.heap.size w wc))
    case first =>
     have H := HC12.out
     clear HC12
     replace H := Option.bind_eq_some_iff.mp H
     obtain ⟨t680, A190, H⟩ := H
     replace H : (if t680 = true then (qU.j0 k a0 l1 a2 t669 t670 t673 t676 t677 (t677 != t670)) else (qU.j0 k a0 l1 a2 t669 t670 t673 t676 t677 true)) = some r := H
     have A19 := Aside0.mk A190
     clear A190
     by_cases c20 : t680 = true
     ·subst c20
      have H1 : (qU.j0 k a0 l1 a2 t669 t670 t673 t676 t677 (t677 != t670)) = some r := by rw [if_pos rfl] at H; exact H
      clear H
      have H := H1
      clear H1
      have H' := Aside0.mk H
      clear H
      obtain ⟨Ao21, co21, eo21⟩ := Kd.qt HO679.out
      subst eo21
      obtain ⟨Ao22, co22, eo22⟩ := Kd.qt HO672.out
      subst eo22
      go_wp2_with (first | ((with_reducible refine qL (f := 15) rfl ?_); refine qh (some 48) rfl rfl Tryd.func15 (by kernel_rfl) rfl #[.slice Ao21 t676.length co21, .slice Ao22 t669.length co22] rfl (by (try simp only [List.map_toArray, List.map_cons, List.map_nil]); first | done | rfl | (simp only [List.length_drop, List.length_take]; rfl)) ?_; (with_reducible refine (qX.calls k _ _ t676 _ _ t669 true _ ?side1 ?side2 ?side3 ?side4 A19.out).mono ?_); (case side1 => repeat (first | exact (Kd.qM HO679.out).2.2 | (with_reducible refine Kd.qa ?_ _) | (with_reducible refine Kd.qZ ?_ _) | (with_reducible refine Kd.qe ?_))); (case side2 => exact (Kd.qM HO679.out).2.1); (case side3 => repeat (first | exact (Kd.qM HO672.out).2.2 | (with_reducible refine Kd.qa ?_ _) | (with_reducible refine Kd.qZ ?_ _) | (with_reducible refine Kd.qe ?_))); (case side4 => exact (Kd.qM HO672.out).2.1); rintro e w23 ⟨rfl, hb⟩; refine ⟨_, rfl, ?_⟩; have n0_ := Aside0.mk (Kd.qc (by (with_reducible repeat (first | apply Kd.qK | apply Kd.qJ | apply Kd.qO)); exact HO668.out) hb); have n1_ := Aside0.mk (Kd.qc (by (with_reducible repeat (first | apply Kd.qK | apply Kd.qJ | apply Kd.qO)); exact HO672.out) hb); have n2_ := Aside0.mk (Kd.qc (by (with_reducible repeat (first | apply Kd.qK | apply Kd.qJ | apply Kd.qO)); exact HO675.out) hb); have n3_ := Aside0.mk (Kd.qc (by (with_reducible repeat (first | apply Kd.qK | apply Kd.qJ | apply Kd.qO)); exact HO679.out) hb); have n4_ := Aside0.mk (qG bl hb); clear HO668; clear HO672; clear HO675; clear HO679; clear HB; have HO668 := n0_; have HO672 := n1_; have HO675 := n2_; have HO679 := n3_; have HB := n4_; clear n0_ n1_ n2_ n3_ n4_; (try clear hb); (try clear hb2); (try clear hk); (try clear hi)))
      go_meet
      case rel => exact ⟨_, ((t677 != t670)), (by first | rfl | (simp; done) | (simp [*]; done)), H', ⟨by first | omega | exact Nat.le_refl _⟩, ⟨by (with_reducible repeat (first | apply Kd.qK | apply Kd.qJ | apply Kd.qO)); exact Kd.qGA HO672.out (fun _ hk => ⟨hk.1.2, hk.2⟩)⟩, ⟨by (with_reducible repeat (first | apply Kd.qK | apply Kd.qJ | apply Kd.qO)); exact Kd.qGA HO675.out (fun _ hk => ⟨hk.1.2, hk.2⟩)⟩, ⟨by (with_reducible repeat (first | apply Kd.qK | apply Kd.qJ | apply Kd.qO)); exact Kd.qGA HO679.out (fun _ hk => ⟨hk.1.2, hk.2⟩)⟩, ⟨bl⟩⟩
     ·replace c20 := Bool.eq_false_iff.mpr c20
      subst c20
      have H1 : (qU.j0 k a0 l1 a2 t669 t670 t673 t676 t677 true) = some r := by rw [if_neg (show ¬ (false = true) by decide)] at H; exact H
      clear H
      have H := H1
      clear H1
      have H' := Aside0.mk H
      clear H
      obtain ⟨Ao24, co24, eo24⟩ := Kd.qt HO679.out
      subst eo24
      obtain ⟨Ao25, co25, eo25⟩ := Kd.qt HO672.out
      subst eo25
      go_wp2_with (first | ((with_reducible refine qL (f := 15) rfl ?_); refine qh (some 48) rfl rfl Tryd.func15 (by kernel_rfl) rfl #[.slice Ao24 t676.length co24, .slice Ao25 t669.length co25] rfl (by (try simp only [List.map_toArray, List.map_cons, List.map_nil]); first | done | rfl | (simp only [List.length_drop, List.length_take]; rfl)) ?_; (with_reducible refine (qX.calls k _ _ t676 _ _ t669 false _ ?side1 ?side2 ?side3 ?side4 A19.out).mono ?_); (case side1 => repeat (first | exact (Kd.qM HO679.out).2.2 | (with_reducible refine Kd.qa ?_ _) | (with_reducible refine Kd.qZ ?_ _) | (with_reducible refine Kd.qe ?_))); (case side2 => exact (Kd.qM HO679.out).2.1); (case side3 => repeat (first | exact (Kd.qM HO672.out).2.2 | (with_reducible refine Kd.qa ?_ _) | (with_reducible refine Kd.qZ ?_ _) | (with_reducible refine Kd.qe ?_))); (case side4 => exact (Kd.qM HO672.out).2.1); rintro e w26 ⟨rfl, hb⟩; refine ⟨_, rfl, ?_⟩; have n0_ := Aside0.mk (Kd.qc (by (with_reducible repeat (first | apply Kd.qK | apply Kd.qJ | apply Kd.qO)); exact HO668.out) hb); have n1_ := Aside0.mk (Kd.qc (by (with_reducible repeat (first | apply Kd.qK | apply Kd.qJ | apply Kd.qO)); exact HO672.out) hb); have n2_ := Aside0.mk (Kd.qc (by (with_reducible repeat (first | apply Kd.qK | apply Kd.qJ | apply Kd.qO)); exact HO675.out) hb); have n3_ := Aside0.mk (Kd.qc (by (with_reducible repeat (first | apply Kd.qK | apply Kd.qJ | apply Kd.qO)); exact HO679.out) hb); have n4_ := Aside0.mk (qG bl hb); clear HO668; clear HO672; clear HO675; clear HO679; clear HB; have HO668 := n0_; have HO672 := n1_; have HO675 := n2_; have HO679 := n3_; have HB := n4_; clear n0_ n1_ n2_ n3_ n4_; (try clear hb); (try clear hb2); (try clear hk); (try clear hi)))
      go_meet
      case rel => exact ⟨_, (true), (by first | rfl | (simp; done) | (simp [*]; done)), H', ⟨by first | omega | exact Nat.le_refl _⟩, ⟨by (with_reducible repeat (first | apply Kd.qK | apply Kd.qJ | apply Kd.qO)); exact Kd.qGA HO672.out (fun _ hk => ⟨hk.1.2, hk.2⟩)⟩, ⟨by (with_reducible repeat (first | apply Kd.qK | apply Kd.qJ | apply Kd.qO)); exact Kd.qGA HO675.out (fun _ hk => ⟨hk.1.2, hk.2⟩)⟩, ⟨by (with_reducible repeat (first | apply Kd.qK | apply Kd.qJ | apply Kd.qO)); exact Kd.qGA HO679.out (fun _ hk => ⟨hk.1.2, hk.2⟩)⟩, ⟨bl⟩⟩
    case rest =>
     clear HC12
     try clear c1
     try clear c2
     try clear p2
     try clear c3
     try clear c4
     try clear c4b0
     try clear c4b1
     try clear c5
     try clear c5b0
     try clear c5b1
     try clear c7
     try clear c7b0
     try clear c9
     try clear c11
     try clear c13
     try clear c15
     try clear c20
     obtain ⟨kq, x54_11, rfl, HA, HJ11, HO_8, HO_10, HO_11, HB⟩ := hcut
     cases kq with
     | zero => exact absurd HA.out (by simp [qU.j0])
     | succ kj11 =>
      have H := HA.out
      clear HA
      simp only [qU.j0] at H
      by_cases c27 : x54_11 = true
      ·subst c27
       have H1 : (some false) = some r := by rw [if_pos rfl] at H; exact H
       clear H
       have H := H1
       clear H1
       obtain rfl := Option.some.inj H
       go_wp2
       go_ret
       exact ⟨by first | rfl | (simp [qI, qH] <;> rfl) | (simp [*, qI, qH] <;> rfl), bl⟩
      ·replace c27 := Bool.eq_false_iff.mpr c27
       subst c27
       have H1 : ((qS.f kj11 l1).bind fun t681 => ((qX.f kj11 t673 t681).bind fun t684 => (if t684 = true then ((qj.f kj11 t673 1).bind fun bt685 => (if bt685.1 < 0 then (qU.j1 kj11 a0 l1 a2 t669 t670 t676 true) else ((qX.f kj11 t676 t669).bind fun t687 => (if t687 = true then (qU.j1 kj11 a0 l1 a2 t669 t670 t676 (t677 != t670)) else (qU.j1 kj11 a0 l1 a2 t669 t670 t676 true))))) else (some false)))) = some r := by rw [if_neg (show ¬ (false = true) by decide)] at H; exact H
       clear H
       have H := H1
       clear H1
       replace H := Option.bind_eq_some_iff.mp H
       obtain ⟨t681, A280, H⟩ := H
       replace H : ((qX.f kj11 t673 t681).bind fun t684 => (if t684 = true then ((qj.f kj11 t673 1).bind fun bt685 => (if bt685.1 < 0 then (qU.j1 kj11 a0 l1 a2 t669 t670 t676 true) else ((qX.f kj11 t676 t669).bind fun t687 => (if t687 = true then (qU.j1 kj11 a0 l1 a2 t669 t670 t676 (t677 != t670)) else (qU.j1 kj11 a0 l1 a2 t669 t670 t676 true))))) else (some false))) = some r := H
       have A28 := Aside0.mk A280
       clear A280
       replace H := Option.bind_eq_some_iff.mp H
       obtain ⟨t684, A290, H⟩ := H
       replace H : (if t684 = true then ((qj.f kj11 t673 1).bind fun bt685 => (if bt685.1 < 0 then (qU.j1 kj11 a0 l1 a2 t669 t670 t676 true) else ((qX.f kj11 t676 t669).bind fun t687 => (if t687 = true then (qU.j1 kj11 a0 l1 a2 t669 t670 t676 (t677 != t670)) else (qU.j1 kj11 a0 l1 a2 t669 t670 t676 true))))) else (some false)) = some r := H
       have A29 := Aside0.mk A290
       clear A290
       by_cases c30 : t684 = true
       ·subst c30
        have H1 : ((qj.f kj11 t673 1).bind fun bt685 => (if bt685.1 < 0 then (qU.j1 kj11 a0 l1 a2 t669 t670 t676 true) else ((qX.f kj11 t676 t669).bind fun t687 => (if t687 = true then (qU.j1 kj11 a0 l1 a2 t669 t670 t676 (t677 != t670)) else (qU.j1 kj11 a0 l1 a2 t669 t670 t676 true))))) = some r := by rw [if_pos rfl] at H; exact H
        clear H
        have H := H1
        clear H1
        replace H := Option.bind_eq_some_iff.mp H
        obtain ⟨⟨t685, t686⟩, A310, H⟩ := H
        replace H : (if t685 < 0 then (qU.j1 kj11 a0 l1 a2 t669 t670 t676 true) else ((qX.f kj11 t676 t669).bind fun t687 => (if t687 = true then (qU.j1 kj11 a0 l1 a2 t669 t670 t676 (t677 != t670)) else (qU.j1 kj11 a0 l1 a2 t669 t670 t676 true)))) = some r := H
        have A31 := Aside0.mk A310
        clear A310
        have HC32 := Aside0.mk H
        clear H
        go_upto_region 18 with (first | ((with_reducible refine qL (f := 13) rfl ?_); refine qh (some 57) rfl rfl Tryd.func13 (by kernel_rfl) rfl #[.slice A1 l1.length c1] rfl (by (try simp only [List.map_toArray, List.map_cons, List.map_nil]); first | done | rfl | (simp only [List.length_drop, List.length_take]; rfl)) ?_; (with_reducible refine (qS.calls kj11 _ _ l1 t681 _ ?side1 ?side2 A28.out).mono ?_); (case side1 => repeat (first | exact (Kd.qWA HR1.out HB.out) | (with_reducible refine Kd.qa ?_ _) | (with_reducible refine Kd.qZ ?_ _) | (with_reducible refine Kd.qe ?_))); (case side2 => exact HC1.out); rintro e w33 ⟨v682, rfl, ho0, hb⟩; refine ⟨_, rfl, ?_⟩; have n0_ := Aside0.mk (Kd.qYA (by (with_reducible repeat (first | apply Kd.qK | apply Kd.qJ | apply Kd.qO)); exact HO_8.out) (Kd.qnA ho0) hb); have n1_ := Aside0.mk (Kd.qYA (by (with_reducible repeat (first | apply Kd.qK | apply Kd.qJ | apply Kd.qO)); exact HO_10.out) (Kd.qnA ho0) hb); have n2_ := Aside0.mk (Kd.qYA (by (with_reducible repeat (first | apply Kd.qK | apply Kd.qJ | apply Kd.qO)); exact HO_11.out) (Kd.qnA ho0) hb); have n3_ := Aside0.mk (Kd.qDA (Kd.qmA (Kd.qmA (Kd.qmA ho0 (Kd.R_lt (by (with_reducible repeat (first | apply Kd.qK | apply Kd.qJ | apply Kd.qO)); exact HO_8.out))) (Kd.R_lt (by (with_reducible repeat (first | apply Kd.qK | apply Kd.qJ | apply Kd.qO)); exact HO_10.out))) (Kd.R_lt (by (with_reducible repeat (first | apply Kd.qK | apply Kd.qJ | apply Kd.qO)); exact HO_11.out))) (qb bl)); have n4_ := Aside0.mk (qG bl hb); clear HO_8; clear HO_10; clear HO_11; clear HB; have HO_8 := n0_; have HO_10 := n1_; have HO_11 := n2_; have HO683 := n3_; have HB := n4_; clear n0_ n1_ n2_ n3_ n4_; (try clear hb); (try clear hb2); (try clear hk); (try clear hi); (try clear ho0); obtain ⟨Ao34, co34, eo34⟩ := Kd.qt HO683.out; subst eo34) | ((with_reducible refine qL (f := 15) rfl ?_); refine qh (some 58) rfl rfl Tryd.func15 (by kernel_rfl) rfl #[.slice Ao17 t673.length co17, .slice Ao34 t681.length co34] rfl (by (try simp only [List.map_toArray, List.map_cons, List.map_nil]); first | done | rfl | (simp only [List.length_drop, List.length_take]; rfl)) ?_; (with_reducible refine (qX.calls kj11 _ _ t673 _ _ t681 true _ ?side1 ?side2 ?side3 ?side4 A29.out).mono ?_); (case side1 => repeat (first | exact (Kd.qM HO_10.out).2.2 | (with_reducible refine Kd.qa ?_ _) | (with_reducible refine Kd.qZ ?_ _) | (with_reducible refine Kd.qe ?_))); (case side2 => exact (Kd.qM HO_10.out).2.1); (case side3 => repeat (first | exact (Kd.qM HO683.out).2.2 | (with_reducible refine Kd.qa ?_ _) | (with_reducible refine Kd.qZ ?_ _) | (with_reducible refine Kd.qe ?_))); (case side4 => exact (Kd.qM HO683.out).2.1); rintro e w35 ⟨rfl, hb⟩; refine ⟨_, rfl, ?_⟩; have n0_ := Aside0.mk (Kd.qc (by (with_reducible repeat (first | apply Kd.qK | apply Kd.qJ | apply Kd.qO)); exact HO_8.out) hb); have n1_ := Aside0.mk (Kd.qc (by (with_reducible repeat (first | apply Kd.qK | apply Kd.qJ | apply Kd.qO)); exact HO_10.out) hb); have n2_ := Aside0.mk (Kd.qc (by (with_reducible repeat (first | apply Kd.qK | apply Kd.qJ | apply Kd.qO)); exact HO_11.out) hb); have n3_ := Aside0.mk (Kd.qc (by (with_reducible repeat (first | apply Kd.qK | apply Kd.qJ | apply Kd.qO)); exact HO683.out) hb); have n4_ := Aside0.mk (qG bl hb); clear HO_8; clear HO_10; clear HO_11; clear HO683; clear HB; have HO_8 := n0_; have HO_10 := n1_; have HO_11 := n2_; have HO683 := n3_; have HB := n4_; clear n0_ n1_ n2_ n3_ n4_; (try clear hb); (try clear hb2); (try clear hk); (try clear hi)) | ((with_reducible refine qL (f := 22) rfl ?_); refine qh (some 62) rfl rfl Tryd.func22 (by kernel_rfl) rfl #[.slice Ao17 t673.length co17, .int .i64 1] rfl (by (try simp only [List.map_toArray, List.map_cons, List.map_nil]); first | done | rfl | (simp only [List.length_drop, List.length_take]; rfl)) ?_; (with_reducible refine (qj.calls kj11 (fun k_ => some k_ = (.slice Ao17 t673.length co17 : Value).ownBlock) (.slice Ao17 t673.length co17) t673 1 t685 t686 w _ ?side1 ?side2 A31.out).mono ?_); (case side1 => repeat (first | (with_reducible first | exact HB.out | apply qAA | apply qo | apply qp) | exact HB.out)); (case side2 => exact Kd.qrB rfl HO_10.out); rintro e w36 ⟨rfl, hy0, hb, hkp⟩; refine ⟨_, rfl, ?_⟩; have n0_ := Aside0.mk (Kd.qGA (ok' := fun k_ => some k_ ≠ (.slice Ao17 t673.length co17 : Value).ownBlock ∧ some k_ ≠ (v678 : Value).ownBlock ∧ some k_ ≠ (.slice Ao34 t681.length co34 : Value).ownBlock) (Kd.qRB (HO_8.out) hkp (fun k_ hk_ hs_ => (hk_.1.1) hs_)) (fun k_ hk_ => ⟨hk_.1.1.1, hk_.1.1.2, hk_.1.2⟩)); have n1_ := Aside0.mk (Kd.qOC rfl hy0 (fun k_ e_ => HO_10.out.1 k_ e_)); have n2_ := Aside0.mk (Kd.qGA (ok' := fun k_ => some k_ ≠ (v671 : Value).ownBlock ∧ some k_ ≠ (.slice Ao17 t673.length co17 : Value).ownBlock ∧ some k_ ≠ (.slice Ao34 t681.length co34 : Value).ownBlock) (Kd.qRB (HO_11.out) hkp (fun k_ hk_ hs_ => (hk_.1.2) hs_)) (fun k_ hk_ => ⟨hk_.1.1.1, hk_.1.1.2, hk_.1.2⟩)); have n3_ := Aside0.mk (Kd.qGA (ok' := fun k_ => some k_ ≠ (v671 : Value).ownBlock ∧ some k_ ≠ (.slice Ao17 t673.length co17 : Value).ownBlock ∧ some k_ ≠ (v678 : Value).ownBlock) (Kd.qRB (HO683.out) hkp (fun k_ hk_ hs_ => (hk_.1.2) hs_)) (fun k_ hk_ => ⟨hk_.1.1.1.2, hk_.1.1.2, hk_.1.2⟩)); have n4_ := Aside0.mk (hb); clear HO_8; clear HO_10; clear HO_11; clear HO683; clear HB; have HO_8 := n0_; have HO_10 := n1_; have HO_11 := n2_; have HO683 := n3_; have HB := n4_; clear n0_ n1_ n2_ n3_ n4_; (try clear hb); (try clear hkp); (try clear hy0)))
        (try simp only [Act.put, List.setIfInBounds_toArray, List.set_cons_zero, List.set_cons_succ])
        go_cut [75] (fun v75 wc => ∃ (kq : Nat) (x75_31 : Bool), v75 = .bool x75_31 ∧ Aside0 (qU.j1 kq a0 l1 a2 t669 t670 t676 x75_31 = some r) ∧ Aside0 (kq ≤ kj11) ∧ Aside0 (Kd.R k57 57 wc w.heap.size (fun k_ => some k_ ≠ (v678 : Value).ownBlock) v671 t669) ∧ Aside0 (Kd.R k57 57 wc w.heap.size (fun k_ => some k_ ≠ (v671 : Value).ownBlock) v678 t676) ∧ Aside0 (Below w.heap.size w wc))
        case first =>
         have H := HC32.out
         clear HC32
         by_cases c37 : t685 < 0
         ·rw [if_pos c37] at H
          have c37b0 : decide (t685 < 0) = true := decide_eq_true c37
          clear c37
          (first | rw [c37b0] | (simp only [i64_w, i32_w]; rw [c37b0]) | skip)
          have H' := Aside0.mk H
          clear H
          go_wp2
          go_meet
          case rel => exact ⟨_, (true), (by first | rfl | (simp; done) | (simp [*]; done)), H', ⟨by have := HJ11.out; first | omega | exact Nat.le_refl _⟩, ⟨by (with_reducible repeat (first | apply Kd.qK | apply Kd.qJ | apply Kd.qO)); exact Kd.qGA HO_8.out (fun _ hk => hk.2.1)⟩, ⟨by (with_reducible repeat (first | apply Kd.qK | apply Kd.qJ | apply Kd.qO)); exact Kd.qGA HO_11.out (fun _ hk => hk.1)⟩, ⟨bl⟩⟩
         ·rw [if_neg c37] at H
          have c37b0 : decide (t685 < 0) = false := decide_eq_false c37
          clear c37
          (first | rw [c37b0] | (simp only [i64_w, i32_w]; rw [c37b0]) | skip)
          replace H := Option.bind_eq_some_iff.mp H
          obtain ⟨t687, A380, H⟩ := H
          replace H : (if t687 = true then (qU.j1 kj11 a0 l1 a2 t669 t670 t676 (t677 != t670)) else (qU.j1 kj11 a0 l1 a2 t669 t670 t676 true)) = some r := H
          have A38 := Aside0.mk A380
          clear A380
          by_cases c39 : t687 = true
          ·subst c39
           have H1 : (qU.j1 kj11 a0 l1 a2 t669 t670 t676 (t677 != t670)) = some r := by rw [if_pos rfl] at H; exact H
           clear H
           have H := H1
           clear H1
           have H' := Aside0.mk H
           clear H
           obtain ⟨Ao40, co40, eo40⟩ := Kd.qt HO_11.out
           subst eo40
           obtain ⟨Ao41, co41, eo41⟩ := Kd.qt HO_8.out
           subst eo41
           go_wp2_with (first | (go_at_call 15; (with_reducible refine (qX.calls kj11 _ _ t676 _ _ t669 true _ ?side1 ?side2 ?side3 ?side4 A38.out).mono ?_); (case side1 => repeat (first | exact (Kd.qM HO_11.out).2.2 | (with_reducible refine Kd.qa ?_ _) | (with_reducible refine Kd.qZ ?_ _) | (with_reducible refine Kd.qe ?_))); (case side2 => exact (Kd.qM HO_11.out).2.1); (case side3 => repeat (first | exact (Kd.qM HO_8.out).2.2 | (with_reducible refine Kd.qa ?_ _) | (with_reducible refine Kd.qZ ?_ _) | (with_reducible refine Kd.qe ?_))); (case side4 => exact (Kd.qM HO_8.out).2.1); rintro e w42 ⟨rfl, hb⟩; have n0_ := Aside0.mk (Kd.qc (by (with_reducible repeat (first | apply Kd.qK | apply Kd.qJ | apply Kd.qO)); exact HO_8.out) hb); have n1_ := Aside0.mk (Kd.qc (by (with_reducible repeat (first | apply Kd.qK | apply Kd.qJ | apply Kd.qO)); exact HO_10.out) hb); have n2_ := Aside0.mk (Kd.qc (by (with_reducible repeat (first | apply Kd.qK | apply Kd.qJ | apply Kd.qO)); exact HO_11.out) hb); have n3_ := Aside0.mk (Kd.qc (by (with_reducible repeat (first | apply Kd.qK | apply Kd.qJ | apply Kd.qO)); exact HO683.out) hb); have n4_ := Aside0.mk (qG bl hb); clear HO_8; clear HO_10; clear HO_11; clear HO683; clear HB; have HO_8 := n0_; have HO_10 := n1_; have HO_11 := n2_; have HO683 := n3_; have HB := n4_; clear n0_ n1_ n2_ n3_ n4_; (try clear hb); (try clear hb2); (try clear hk); (try clear hi)))
           go_meet
           case rel => exact ⟨_, ((t677 != t670)), (by first | rfl | (simp; done) | (simp [*]; done)), H', ⟨by have := HJ11.out; first | omega | exact Nat.le_refl _⟩, ⟨by (with_reducible repeat (first | apply Kd.qK | apply Kd.qJ | apply Kd.qO)); exact Kd.qGA HO_8.out (fun _ hk => hk.2.1)⟩, ⟨by (with_reducible repeat (first | apply Kd.qK | apply Kd.qJ | apply Kd.qO)); exact Kd.qGA HO_11.out (fun _ hk => hk.1)⟩, ⟨bl⟩⟩
          ·replace c39 := Bool.eq_false_iff.mpr c39
           subst c39
           have H1 : (qU.j1 kj11 a0 l1 a2 t669 t670 t676 true) = some r := by rw [if_neg (show ¬ (false = true) by decide)] at H; exact H
           clear H
           have H := H1
           clear H1
           have H' := Aside0.mk H
           clear H
           obtain ⟨Ao43, co43, eo43⟩ := Kd.qt HO_11.out
           subst eo43
           obtain ⟨Ao44, co44, eo44⟩ := Kd.qt HO_8.out
           subst eo44
           go_wp2_with (first | (go_at_call 15; (with_reducible refine (qX.calls kj11 _ _ t676 _ _ t669 false _ ?side1 ?side2 ?side3 ?side4 A38.out).mono ?_); (case side1 => repeat (first | exact (Kd.qM HO_11.out).2.2 | (with_reducible refine Kd.qa ?_ _) | (with_reducible refine Kd.qZ ?_ _) | (with_reducible refine Kd.qe ?_))); (case side2 => exact (Kd.qM HO_11.out).2.1); (case side3 => repeat (first | exact (Kd.qM HO_8.out).2.2 | (with_reducible refine Kd.qa ?_ _) | (with_reducible refine Kd.qZ ?_ _) | (with_reducible refine Kd.qe ?_))); (case side4 => exact (Kd.qM HO_8.out).2.1); rintro e w45 ⟨rfl, hb⟩; have n0_ := Aside0.mk (Kd.qc (by (with_reducible repeat (first | apply Kd.qK | apply Kd.qJ | apply Kd.qO)); exact HO_8.out) hb); have n1_ := Aside0.mk (Kd.qc (by (with_reducible repeat (first | apply Kd.qK | apply Kd.qJ | apply Kd.qO)); exact HO_10.out) hb); have n2_ := Aside0.mk (Kd.qc (by (with_reducible repeat (first | apply Kd.qK | apply Kd.qJ | apply Kd.qO)); exact HO_11.out) hb); have n3_ := Aside0.mk (Kd.qc (by (with_reducible repeat (first | apply Kd.qK | apply Kd.qJ | apply Kd.qO)); exact HO683.out) hb); have n4_ := Aside0.mk (qG bl hb); clear HO_8; clear HO_10; clear HO_11; clear HO683; clear HB; have HO_8 := n0_; have HO_10 := n1_; have HO_11 := n2_; have HO683 := n3_; have HB := n4_; clear n0_ n1_ n2_ n3_ n4_; (try clear hb); (try clear hb2); (try clear hk); (try clear hi)))
           go_meet
           case rel => exact ⟨_, (true), (by first | rfl | (simp; done) | (simp [*]; done)), H', ⟨by have := HJ11.out; first | omega | exact Nat.le_refl _⟩, ⟨by (with_reducible repeat (first | apply Kd.qK | apply Kd.qJ | apply Kd.qO)); exact Kd.qGA HO_8.out (fun _ hk => hk.2.1)⟩, ⟨by (with_reducible repeat (first | apply Kd.qK | apply Kd.qJ | apply Kd.qO)); exact Kd.qGA HO_11.out (fun _ hk => hk.1)⟩, ⟨bl⟩⟩
        case rest =>
         clear HC32
         try clear c1
         try clear c2
         try clear p2
         try clear c3
         try clear c4
         try clear c4b0
         try clear c4b1
         try clear c5
         try clear c5b0
         try clear c5b1
         try clear c7
         try clear c7b0
         try clear c9
         try clear c11
         try clear c13
         try clear c15
         try clear c20
         try clear c22
         try clear c27
         try clear c30
         try clear c34
         try clear c35
         try clear c37
         try clear c37b0
         try clear c39
         try clear p2
         obtain ⟨kq, x75_31, rfl, HA, HJ31, HO_8, HO_11, HB⟩ := hcut
         cases kq with
         | zero => exact absurd HA.out (by simp [qU.j1])
         | succ kj31 =>
          have H := HA.out
          clear HA
          simp only [qU.j1] at H
          by_cases c46 : x75_31 = true
          ·subst c46
           have H1 : (some false) = some r := by rw [if_pos rfl] at H; exact H
           clear H
           have H := H1
           clear H1
           obtain rfl := Option.some.inj H
           go_wp2
           go_ret
           exact ⟨by first | rfl | (simp [qI, qH] <;> rfl) | (simp [*, qI, qH] <;> rfl), bl⟩
          ·replace c46 := Bool.eq_false_iff.mpr c46
           subst c46
           have H1 : ((qj.f kj31 t676 1).bind fun bt688 => ((qBA.f kj31 bt688.2 1).bind fun t690 => (if t690 < 0 then (some false) else (if t690 = bt688.1 then ((qS.f kj31 l1).bind fun t691 => ((qn.f kj31 a0 t691 a2).bind fun bt694 => ((qX.f kj31 bt694.1 t669).bind fun t698 => (if t698 = true then (qU.j2 kj31 bt688.2 bt688.1 (bt694.2 != t670)) else (qU.j2 kj31 bt688.2 bt688.1 true))))) else (some false))))) = some r := by rw [if_neg (show ¬ (false = true) by decide)] at H; exact H
           clear H
           have H := H1
           clear H1
           replace H := Option.bind_eq_some_iff.mp H
           obtain ⟨⟨t688, t689⟩, A470, H⟩ := H
           replace H : ((qBA.f kj31 t689 1).bind fun t690 => (if t690 < 0 then (some false) else (if t690 = t688 then ((qS.f kj31 l1).bind fun t691 => ((qn.f kj31 a0 t691 a2).bind fun bt694 => ((qX.f kj31 bt694.1 t669).bind fun t698 => (if t698 = true then (qU.j2 kj31 t689 t688 (bt694.2 != t670)) else (qU.j2 kj31 t689 t688 true))))) else (some false)))) = some r := H
           have A47 := Aside0.mk A470
           clear A470
           replace H := Option.bind_eq_some_iff.mp H
           obtain ⟨t690, A480, H⟩ := H
           replace H : (if t690 < 0 then (some false) else (if t690 = t688 then ((qS.f kj31 l1).bind fun t691 => ((qn.f kj31 a0 t691 a2).bind fun bt694 => ((qX.f kj31 bt694.1 t669).bind fun t698 => (if t698 = true then (qU.j2 kj31 t689 t688 (bt694.2 != t670)) else (qU.j2 kj31 t689 t688 true))))) else (some false))) = some r := H
           have A48 := Aside0.mk A480
           clear A480
           by_cases c49 : t690 < 0
           ·rw [if_pos c49] at H
            have c49b0 : decide (t690 < 0) = true := decide_eq_true c49
            clear c49
            obtain rfl := Option.some.inj H
            obtain ⟨Ao50, co50, eo50⟩ := Kd.qt HO_11.out
            subst eo50
            go_wp2_with (first | ((with_reducible refine qL (f := 22) rfl ?_); refine qh (some 78) rfl rfl Tryd.func22 (by kernel_rfl) rfl #[.slice Ao50 t676.length co50, .int .i64 1] rfl (by (try simp only [List.map_toArray, List.map_cons, List.map_nil]); first | done | rfl | (simp only [List.length_drop, List.length_take]; rfl)) ?_; (with_reducible refine (qj.calls kj31 (fun k_ => some k_ = (.slice Ao50 t676.length co50 : Value).ownBlock) (.slice Ao50 t676.length co50) t676 1 t688 t689 w _ ?side1 ?side2 A47.out).mono ?_); (case side1 => repeat (first | (with_reducible first | exact HB.out | apply qAA | apply qo | apply qp) | exact HB.out)); (case side2 => exact Kd.qrB rfl HO_11.out); rintro e w51 ⟨rfl, hy0, hb, hkp⟩; refine ⟨_, rfl, ?_⟩; have n0_ := Aside0.mk (Kd.qGA (ok' := fun k_ => some k_ ≠ (.slice Ao50 t676.length co50 : Value).ownBlock) (Kd.qRB (HO_8.out) hkp (fun k_ hk_ hs_ => (hk_) hs_)) (fun k_ hk_ => hk_.1)); have n1_ := Aside0.mk (Kd.qOC rfl hy0 (fun k_ e_ => HO_11.out.1 k_ e_)); have n2_ := Aside0.mk (hb); clear HO_8; clear HO_11; clear HB; have HO_8 := n0_; have HO_11 := n1_; have HB := n2_; clear n0_ n1_ n2_; (try clear hb); (try clear hkp); (try clear hy0)) | ((with_reducible refine qL (f := 23) rfl ?_); refine qh (some 81) rfl rfl Tryd.func23 (by kernel_rfl) rfl #[.slice Ao50 t689.length co50, .int .i64 1] rfl (by (try simp only [List.map_toArray, List.map_cons, List.map_nil]); first | done | (rw [show t689.length = t676.length from (Kd.qM HO_11.out).1.symm] <;> rfl) | rfl | (simp only [List.length_drop, List.length_take]; rfl)) ?_; (with_reducible refine (qBA.calls kj31 _ _ t689 1 t690 _ ?side1 ?side2 A48.out).mono ?_); (case side1 => repeat (first | exact (Kd.qM HO_11.out).2.2 | (with_reducible refine Kd.qa ?_ _) | (with_reducible refine Kd.qZ ?_ _) | (with_reducible refine Kd.qe ?_))); (case side2 => rw [show t689.length = t676.length from (Kd.qM HO_11.out).1.symm]; exact (Kd.qM HO_11.out).2.1); rintro e w' ⟨rfl, ⟨nd, rfl⟩⟩; refine ⟨_, rfl, ?_⟩))
            go_ret
            exact ⟨by first | rfl | (simp [qI, qH] <;> rfl) | (simp [*, qI, qH] <;> rfl), bl⟩
           ·rw [if_neg c49] at H
            have c49b0 : decide (t690 < 0) = false := decide_eq_false c49
            clear c49
            by_cases c52 : t690 = t688
            ·rw [if_pos c52] at H
             have c52b0 : (t690 == t688) = true := beq_iff_eq.mpr c52
             have c52b1 : (t690 != t688) = false := bne_eq_false_iff_eq.mpr c52
             clear c52
             replace H := Option.bind_eq_some_iff.mp H
             obtain ⟨t691, A530, H⟩ := H
             replace H : ((qn.f kj31 a0 t691 a2).bind fun bt694 => ((qX.f kj31 bt694.1 t669).bind fun t698 => (if t698 = true then (qU.j2 kj31 t689 t688 (bt694.2 != t670)) else (qU.j2 kj31 t689 t688 true)))) = some r := H
             have A53 := Aside0.mk A530
             clear A530
             replace H := Option.bind_eq_some_iff.mp H
             obtain ⟨⟨t694, t695⟩, A540, H⟩ := H
             replace H : ((qX.f kj31 t694 t669).bind fun t698 => (if t698 = true then (qU.j2 kj31 t689 t688 (t695 != t670)) else (qU.j2 kj31 t689 t688 true))) = some r := H
             have A54 := Aside0.mk A540
             clear A540
             have HC55 := Aside0.mk H
             clear H
             obtain ⟨Ao56, co56, eo56⟩ := Kd.qt HO_11.out
             subst eo56
             go_upto_region 29 with (first | ((with_reducible refine qL (f := 22) rfl ?_); refine qh (some 78) rfl rfl Tryd.func22 (by kernel_rfl) rfl #[.slice Ao56 t676.length co56, .int .i64 1] rfl (by (try simp only [List.map_toArray, List.map_cons, List.map_nil]); first | done | rfl | (simp only [List.length_drop, List.length_take]; rfl)) ?_; (with_reducible refine (qj.calls kj31 (fun k_ => some k_ = (.slice Ao56 t676.length co56 : Value).ownBlock) (.slice Ao56 t676.length co56) t676 1 t688 t689 w _ ?side1 ?side2 A47.out).mono ?_); (case side1 => repeat (first | (with_reducible first | exact HB.out | apply qAA | apply qo | apply qp) | exact HB.out)); (case side2 => exact Kd.qrB rfl HO_11.out); rintro e w57 ⟨rfl, hy0, hb, hkp⟩; refine ⟨_, rfl, ?_⟩; have n0_ := Aside0.mk (Kd.qGA (ok' := fun k_ => some k_ ≠ (.slice Ao56 t676.length co56 : Value).ownBlock) (Kd.qRB (HO_8.out) hkp (fun k_ hk_ hs_ => (hk_) hs_)) (fun k_ hk_ => hk_.1)); have n1_ := Aside0.mk (Kd.qOC rfl hy0 (fun k_ e_ => HO_11.out.1 k_ e_)); have n2_ := Aside0.mk (hb); clear HO_8; clear HO_11; clear HB; have HO_8 := n0_; have HO_11 := n1_; have HB := n2_; clear n0_ n1_ n2_; (try clear hb); (try clear hkp); (try clear hy0)) | ((with_reducible refine qL (f := 23) rfl ?_); refine qh (some 81) rfl rfl Tryd.func23 (by kernel_rfl) rfl #[.slice Ao56 t689.length co56, .int .i64 1] rfl (by (try simp only [List.map_toArray, List.map_cons, List.map_nil]); first | done | (rw [show t689.length = t676.length from (Kd.qM HO_11.out).1.symm] <;> rfl) | rfl | (simp only [List.length_drop, List.length_take]; rfl)) ?_; (with_reducible refine (qBA.calls kj31 _ _ t689 1 t690 _ ?side1 ?side2 A48.out).mono ?_); (case side1 => repeat (first | exact (Kd.qM HO_11.out).2.2 | (with_reducible refine Kd.qa ?_ _) | (with_reducible refine Kd.qZ ?_ _) | (with_reducible refine Kd.qe ?_))); (case side2 => rw [show t689.length = t676.length from (Kd.qM HO_11.out).1.symm]; exact (Kd.qM HO_11.out).2.1); rintro e w' ⟨rfl, ⟨nd, rfl⟩⟩; refine ⟨_, rfl, ?_⟩) | ((with_reducible refine qL (f := 13) rfl ?_); refine qh (some 90) rfl rfl Tryd.func13 (by kernel_rfl) rfl #[.slice A1 l1.length c1] rfl (by (try simp only [List.map_toArray, List.map_cons, List.map_nil]); first | done | rfl | (simp only [List.length_drop, List.length_take]; rfl)) ?_; (with_reducible refine (qS.calls kj31 _ _ l1 t691 _ ?side1 ?side2 A53.out).mono ?_); (case side1 => repeat (first | exact (Kd.qWA HR1.out bl) | (with_reducible refine Kd.qa ?_ _) | (with_reducible refine Kd.qZ ?_ _) | (with_reducible refine Kd.qe ?_))); (case side2 => exact HC1.out); rintro e w58 ⟨v692, rfl, ho0, hb⟩; refine ⟨_, rfl, ?_⟩; have n0_ := Aside0.mk (Kd.qYA (by (with_reducible repeat (first | apply Kd.qK | apply Kd.qJ | apply Kd.qO)); exact HO_8.out) (Kd.qnA ho0) hb); have n1_ := Aside0.mk (Kd.qYA (by (with_reducible repeat (first | apply Kd.qK | apply Kd.qJ | apply Kd.qO)); exact HO_11.out) (Kd.qnA ho0) hb); have n2_ := Aside0.mk (Kd.qDA (Kd.qmA (Kd.qmA ho0 (Kd.R_lt (by (with_reducible repeat (first | apply Kd.qK | apply Kd.qJ | apply Kd.qO)); exact HO_8.out))) (Kd.R_lt (by (with_reducible repeat (first | apply Kd.qK | apply Kd.qJ | apply Kd.qO)); exact HO_11.out))) (qb bl)); have n3_ := Aside0.mk (qG bl hb); clear HO_8; clear HO_11; clear HB; have HO_8 := n0_; have HO_11 := n1_; have HO693 := n2_; have HB := n3_; clear n0_ n1_ n2_ n3_; (try clear hb); (try clear hb2); (try clear hk); (try clear hi); (try clear ho0); obtain ⟨Ao59, co59, eo59⟩ := Kd.qt HO693.out; subst eo59) | ((with_reducible refine qL (f := 35) rfl ?_); refine qh (some 92) rfl rfl Tryd.func35 (by kernel_rfl) rfl #[.string a0, .slice Ao59 t691.length co59, .string a2] rfl (by (try simp only [List.map_toArray, List.map_cons, List.map_nil]); first | done | rfl | (simp only [List.length_drop, List.length_take]; rfl)) ?_; (with_reducible refine (qn.calls kj31 a0 _ _ t691 a2 t694 t695 _ ?side1 ?side2 ?side3 A54.out).mono ?_); (case side1 => repeat (first | exact (Kd.qM HO693.out).2.2 | (with_reducible refine Kd.qa ?_ _) | (with_reducible refine Kd.qZ ?_ _) | (with_reducible refine Kd.qe ?_))); (case side2 => exact (Kd.qM HO693.out).2.1); (case side3 => first | exact HLD.out | exact Laid.below HLD.out (by repeat (first | (with_reducible first | exact HB.out | apply qAA | apply qo | apply qp | refine qMA ?_ (Aside0.out (by with_reducible assumption))) | exact HB.out))); rintro e w60 ⟨v696, rfl, ho0, hb⟩; refine ⟨_, rfl, ?_⟩; have n0_ := Aside0.mk (Kd.qYA (by (with_reducible repeat (first | apply Kd.qK | apply Kd.qJ | apply Kd.qO)); exact HO_8.out) (Kd.qnA ho0) hb); have n1_ := Aside0.mk (Kd.qYA (by (with_reducible repeat (first | apply Kd.qK | apply Kd.qJ | apply Kd.qO)); exact HO_11.out) (Kd.qnA ho0) hb); have n2_ := Aside0.mk (Kd.qYA (by (with_reducible repeat (first | apply Kd.qK | apply Kd.qJ | apply Kd.qO)); exact HO693.out) (Kd.qnA ho0) hb); have n3_ := Aside0.mk (Kd.qDA (Kd.qmA (Kd.qmA (Kd.qmA ho0 (Kd.R_lt (by (with_reducible repeat (first | apply Kd.qK | apply Kd.qJ | apply Kd.qO)); exact HO_8.out))) (Kd.R_lt (by (with_reducible repeat (first | apply Kd.qK | apply Kd.qJ | apply Kd.qO)); exact HO_11.out))) (Kd.R_lt (by (with_reducible repeat (first | apply Kd.qK | apply Kd.qJ | apply Kd.qO)); exact HO693.out))) (qb bl)); have n4_ := Aside0.mk (qG bl hb); clear HO_8; clear HO_11; clear HO693; clear HB; have HO_8 := n0_; have HO_11 := n1_; have HO693 := n2_; have HO697 := n3_; have HB := n4_; clear n0_ n1_ n2_ n3_ n4_; (try clear hb); (try clear hb2); (try clear hk); (try clear hi); (try clear ho0)))
             (try simp only [Act.put, List.setIfInBounds_toArray, List.set_cons_zero, List.set_cons_succ])
             go_cut [103] (fun v103 wc => ∃ (kq : Nat) (x103_54 : Bool), v103 = .bool x103_54 ∧ Aside0 (qU.j2 kq t689 t688 x103_54 = some r) ∧ Aside0 (kq ≤ kj31) ∧ Aside0 (Kd.R k57 57 wc w.heap.size (fun _ => True) (.slice Ao56 t676.length co56) t689) ∧ Aside0 (Below w.heap.size w wc))
             case first =>
              have H := HC55.out
              clear HC55
              replace H := Option.bind_eq_some_iff.mp H
              obtain ⟨t698, A610, H⟩ := H
              replace H : (if t698 = true then (qU.j2 kj31 t689 t688 (t695 != t670)) else (qU.j2 kj31 t689 t688 true)) = some r := H
              have A61 := Aside0.mk A610
              clear A610
              by_cases c62 : t698 = true
              ·subst c62
               have H1 : (qU.j2 kj31 t689 t688 (t695 != t670)) = some r := by rw [if_pos rfl] at H; exact H
               clear H
               have H := H1
               clear H1
               have H' := Aside0.mk H
               clear H
               obtain ⟨Ao63, co63, eo63⟩ := Kd.qt HO697.out
               subst eo63
               obtain ⟨Ao64, co64, eo64⟩ := Kd.qt HO_8.out
               subst eo64
               go_wp2_with (first | ((with_reducible refine qL (f := 15) rfl ?_); refine qh (some 97) rfl rfl Tryd.func15 (by kernel_rfl) rfl #[.slice Ao63 t694.length co63, .slice Ao64 t669.length co64] rfl (by (try simp only [List.map_toArray, List.map_cons, List.map_nil]); first | done | rfl | (simp only [List.length_drop, List.length_take]; rfl)) ?_; (with_reducible refine (qX.calls kj31 _ _ t694 _ _ t669 true _ ?side1 ?side2 ?side3 ?side4 A61.out).mono ?_); (case side1 => repeat (first | exact (Kd.qM HO697.out).2.2 | (with_reducible refine Kd.qa ?_ _) | (with_reducible refine Kd.qZ ?_ _) | (with_reducible refine Kd.qe ?_))); (case side2 => exact (Kd.qM HO697.out).2.1); (case side3 => repeat (first | exact (Kd.qM HO_8.out).2.2 | (with_reducible refine Kd.qa ?_ _) | (with_reducible refine Kd.qZ ?_ _) | (with_reducible refine Kd.qe ?_))); (case side4 => exact (Kd.qM HO_8.out).2.1); rintro e w65 ⟨rfl, hb⟩; refine ⟨_, rfl, ?_⟩; have n0_ := Aside0.mk (Kd.qc (by (with_reducible repeat (first | apply Kd.qK | apply Kd.qJ | apply Kd.qO)); exact HO_8.out) hb); have n1_ := Aside0.mk (Kd.qc (by (with_reducible repeat (first | apply Kd.qK | apply Kd.qJ | apply Kd.qO)); exact HO_11.out) hb); have n2_ := Aside0.mk (Kd.qc (by (with_reducible repeat (first | apply Kd.qK | apply Kd.qJ | apply Kd.qO)); exact HO693.out) hb); have n3_ := Aside0.mk (Kd.qc (by (with_reducible repeat (first | apply Kd.qK | apply Kd.qJ | apply Kd.qO)); exact HO697.out) hb); have n4_ := Aside0.mk (qG bl hb); clear HO_8; clear HO_11; clear HO693; clear HO697; clear HB; have HO_8 := n0_; have HO_11 := n1_; have HO693 := n2_; have HO697 := n3_; have HB := n4_; clear n0_ n1_ n2_ n3_ n4_; (try clear hb); (try clear hb2); (try clear hk); (try clear hi)))
               go_meet
               case rel => exact ⟨_, ((t695 != t670)), (by first | rfl | (simp; done) | (simp [*]; done)), H', ⟨by have := HJ11.out; have := HJ31.out; first | omega | exact Nat.le_refl _⟩, ⟨by (with_reducible repeat (first | apply Kd.qK | apply Kd.qJ | apply Kd.qO)); exact Kd.qGA HO_11.out (fun _ hk => trivial)⟩, ⟨bl⟩⟩
              ·replace c62 := Bool.eq_false_iff.mpr c62
               subst c62
               have H1 : (qU.j2 kj31 t689 t688 true) = some r := by rw [if_neg (show ¬ (false = true) by decide)] at H; exact H
               clear H
               have H := H1
               clear H1
               have H' := Aside0.mk H
               clear H
               obtain ⟨Ao66, co66, eo66⟩ := Kd.qt HO697.out
               subst eo66
               obtain ⟨Ao67, co67, eo67⟩ := Kd.qt HO_8.out
               subst eo67
               go_wp2_with (first | ((with_reducible refine qL (f := 15) rfl ?_); refine qh (some 97) rfl rfl Tryd.func15 (by kernel_rfl) rfl #[.slice Ao66 t694.length co66, .slice Ao67 t669.length co67] rfl (by (try simp only [List.map_toArray, List.map_cons, List.map_nil]); first | done | rfl | (simp only [List.length_drop, List.length_take]; rfl)) ?_; (with_reducible refine (qX.calls kj31 _ _ t694 _ _ t669 false _ ?side1 ?side2 ?side3 ?side4 A61.out).mono ?_); (case side1 => repeat (first | exact (Kd.qM HO697.out).2.2 | (with_reducible refine Kd.qa ?_ _) | (with_reducible refine Kd.qZ ?_ _) | (with_reducible refine Kd.qe ?_))); (case side2 => exact (Kd.qM HO697.out).2.1); (case side3 => repeat (first | exact (Kd.qM HO_8.out).2.2 | (with_reducible refine Kd.qa ?_ _) | (with_reducible refine Kd.qZ ?_ _) | (with_reducible refine Kd.qe ?_))); (case side4 => exact (Kd.qM HO_8.out).2.1); rintro e w68 ⟨rfl, hb⟩; refine ⟨_, rfl, ?_⟩; have n0_ := Aside0.mk (Kd.qc (by (with_reducible repeat (first | apply Kd.qK | apply Kd.qJ | apply Kd.qO)); exact HO_8.out) hb); have n1_ := Aside0.mk (Kd.qc (by (with_reducible repeat (first | apply Kd.qK | apply Kd.qJ | apply Kd.qO)); exact HO_11.out) hb); have n2_ := Aside0.mk (Kd.qc (by (with_reducible repeat (first | apply Kd.qK | apply Kd.qJ | apply Kd.qO)); exact HO693.out) hb); have n3_ := Aside0.mk (Kd.qc (by (with_reducible repeat (first | apply Kd.qK | apply Kd.qJ | apply Kd.qO)); exact HO697.out) hb); have n4_ := Aside0.mk (qG bl hb); clear HO_8; clear HO_11; clear HO693; clear HO697; clear HB; have HO_8 := n0_; have HO_11 := n1_; have HO693 := n2_; have HO697 := n3_; have HB := n4_; clear n0_ n1_ n2_ n3_ n4_; (try clear hb); (try clear hb2); (try clear hk); (try clear hi)))
               go_meet
               case rel => exact ⟨_, (true), (by first | rfl | (simp; done) | (simp [*]; done)), H', ⟨by have := HJ11.out; have := HJ31.out; first | omega | exact Nat.le_refl _⟩, ⟨by (with_reducible repeat (first | apply Kd.qK | apply Kd.qJ | apply Kd.qO)); exact Kd.qGA HO_11.out (fun _ hk => trivial)⟩, ⟨bl⟩⟩
             case rest =>
              clear HC55
              try clear c1
              try clear c2
              try clear p2
              try clear c3
              try clear c4
              try clear c4b0
              try clear c4b1
              try clear c5
              try clear c5b0
              try clear c5b1
              try clear c6
              try clear c7
              try clear c7b0
              try clear c9
              try clear c11
              try clear c13
              try clear c15
              try clear c20
              try clear c22
              try clear c23
              try clear c27
              try clear c30
              try clear c34
              try clear c35
              try clear c37
              try clear c37b0
              try clear c39
              try clear c46
              try clear c49
              try clear c49b0
              try clear c52
              try clear c52b0
              try clear c52b1
              try clear c62
              try clear p2
              obtain ⟨kq, x103_54, rfl, HA, HJ54, HO_11, HB⟩ := hcut
              have hl11_54 := (Kd.qM HO_11.out).1
              rw [hl11_54] at HO_11
              (try simp only [hl11_54])
              cases kq with
              | zero => exact absurd HA.out (by simp [qU.j2])
              | succ kj54 =>
               have H := HA.out
               clear HA
               simp only [qU.j2] at H
               by_cases c69 : x103_54 = true
               ·subst c69
                have H1 : (some false) = some r := by rw [if_pos rfl] at H; exact H
                clear H
                have H := H1
                clear H1
                obtain rfl := Option.some.inj H
                go_wp2
                go_ret
                exact ⟨by first | rfl | (simp [qI, qH] <;> rfl) | (simp [*, qI, qH] <;> rfl), bl⟩
               ·replace c69 := Bool.eq_false_iff.mpr c69
                subst c69
                have H1 : ((qBA.f kj54 t689 1).bind fun t699 => (if t699 < 0 then (some false) else (if t699 = t688 then (some true) else (some false)))) = some r := by rw [if_neg (show ¬ (false = true) by decide)] at H; exact H
                clear H
                have H := H1
                clear H1
                replace H := Option.bind_eq_some_iff.mp H
                obtain ⟨t699, A700, H⟩ := H
                replace H : (if t699 < 0 then (some false) else (if t699 = t688 then (some true) else (some false))) = some r := H
                have A70 := Aside0.mk A700
                clear A700
                by_cases c71 : t699 < 0
                ·rw [if_pos c71] at H
                 have c71b0 : decide (t699 < 0) = true := decide_eq_true c71
                 clear c71
                 obtain rfl := Option.some.inj H
                 go_wp2_with (first | ((with_reducible refine qL (f := 23) rfl ?_); refine qh (some 106) rfl rfl Tryd.func23 (by kernel_rfl) rfl #[.slice Ao56 t689.length co56, .int .i64 1] rfl (by (try simp only [List.map_toArray, List.map_cons, List.map_nil]); first | done | rfl | (simp only [List.length_drop, List.length_take]; rfl)) ?_; (with_reducible refine (qBA.calls kj54 _ _ t689 1 t699 _ ?side1 ?side2 A70.out).mono ?_); (case side1 => repeat (first | exact (Kd.qM HO_11.out).2.2 | (with_reducible refine Kd.qa ?_ _) | (with_reducible refine Kd.qZ ?_ _) | (with_reducible refine Kd.qe ?_))); (case side2 => exact (Kd.qM HO_11.out).2.1); rintro e w' ⟨rfl, ⟨nd, rfl⟩⟩; refine ⟨_, rfl, ?_⟩))
                 go_ret
                 exact ⟨by first | rfl | (simp [qI, qH] <;> rfl) | (simp [*, qI, qH] <;> rfl), bl⟩
                ·rw [if_neg c71] at H
                 have c71b0 : decide (t699 < 0) = false := decide_eq_false c71
                 clear c71
                 by_cases c72 : t699 = t688
                 ·rw [if_pos c72] at H
                  have c72b0 : (t699 == t688) = true := beq_iff_eq.mpr c72
                  have c72b1 : (t699 != t688) = false := bne_eq_false_iff_eq.mpr c72
                  clear c72
                  obtain rfl := Option.some.inj H
                  go_wp2_with (first | ((with_reducible refine qL (f := 23) rfl ?_); refine qh (some 106) rfl rfl Tryd.func23 (by kernel_rfl) rfl #[.slice Ao56 t689.length co56, .int .i64 1] rfl (by (try simp only [List.map_toArray, List.map_cons, List.map_nil]); first | done | rfl | (simp only [List.length_drop, List.length_take]; rfl)) ?_; (with_reducible refine (qBA.calls kj54 _ _ t689 1 t699 _ ?side1 ?side2 A70.out).mono ?_); (case side1 => repeat (first | exact (Kd.qM HO_11.out).2.2 | (with_reducible refine Kd.qa ?_ _) | (with_reducible refine Kd.qZ ?_ _) | (with_reducible refine Kd.qe ?_))); (case side2 => exact (Kd.qM HO_11.out).2.1); rintro e w' ⟨rfl, ⟨nd, rfl⟩⟩; refine ⟨_, rfl, ?_⟩))
                  go_ret
                  exact ⟨by first | rfl | (simp [qI, qH] <;> rfl) | (simp [*, qI, qH] <;> rfl), bl⟩
                 ·rw [if_neg c72] at H
                  have c72b0 : (t699 == t688) = false := beq_eq_false_iff_ne.mpr c72
                  have c72b1 : (t699 != t688) = true := bne_iff_ne.mpr c72
                  obtain rfl := Option.some.inj H
                  go_wp2_with (first | ((with_reducible refine qL (f := 23) rfl ?_); refine qh (some 106) rfl rfl Tryd.func23 (by kernel_rfl) rfl #[.slice Ao56 t689.length co56, .int .i64 1] rfl (by (try simp only [List.map_toArray, List.map_cons, List.map_nil]); first | done | rfl | (simp only [List.length_drop, List.length_take]; rfl)) ?_; (with_reducible refine (qBA.calls kj54 _ _ t689 1 t699 _ ?side1 ?side2 A70.out).mono ?_); (case side1 => repeat (first | exact (Kd.qM HO_11.out).2.2 | (with_reducible refine Kd.qa ?_ _) | (with_reducible refine Kd.qZ ?_ _) | (with_reducible refine Kd.qe ?_))); (case side2 => exact (Kd.qM HO_11.out).2.1); rintro e w' ⟨rfl, ⟨nd, rfl⟩⟩; refine ⟨_, rfl, ?_⟩))
                  go_ret
                  exact ⟨by first | rfl | (simp [qI, qH] <;> rfl) | (simp [*, qI, qH] <;> rfl), bl⟩
            ·rw [if_neg c52] at H
             have c52b0 : (t690 == t688) = false := beq_eq_false_iff_ne.mpr c52
             have c52b1 : (t690 != t688) = true := bne_iff_ne.mpr c52
             obtain rfl := Option.some.inj H
             obtain ⟨Ao73, co73, eo73⟩ := Kd.qt HO_11.out
             subst eo73
             go_wp2_with (first | ((with_reducible refine qL (f := 22) rfl ?_); refine qh (some 78) rfl rfl Tryd.func22 (by kernel_rfl) rfl #[.slice Ao73 t676.length co73, .int .i64 1] rfl (by (try simp only [List.map_toArray, List.map_cons, List.map_nil]); first | done | rfl | (simp only [List.length_drop, List.length_take]; rfl)) ?_; (with_reducible refine (qj.calls kj31 (fun k_ => some k_ = (.slice Ao73 t676.length co73 : Value).ownBlock) (.slice Ao73 t676.length co73) t676 1 t688 t689 w _ ?side1 ?side2 A47.out).mono ?_); (case side1 => repeat (first | (with_reducible first | exact HB.out | apply qAA | apply qo | apply qp) | exact HB.out)); (case side2 => exact Kd.qrB rfl HO_11.out); rintro e w74 ⟨rfl, hy0, hb, hkp⟩; refine ⟨_, rfl, ?_⟩; have n0_ := Aside0.mk (Kd.qGA (ok' := fun k_ => some k_ ≠ (.slice Ao73 t676.length co73 : Value).ownBlock) (Kd.qRB (HO_8.out) hkp (fun k_ hk_ hs_ => (hk_) hs_)) (fun k_ hk_ => hk_.1)); have n1_ := Aside0.mk (Kd.qOC rfl hy0 (fun k_ e_ => HO_11.out.1 k_ e_)); have n2_ := Aside0.mk (hb); clear HO_8; clear HO_11; clear HB; have HO_8 := n0_; have HO_11 := n1_; have HB := n2_; clear n0_ n1_ n2_; (try clear hb); (try clear hkp); (try clear hy0)) | ((with_reducible refine qL (f := 23) rfl ?_); refine qh (some 81) rfl rfl Tryd.func23 (by kernel_rfl) rfl #[.slice Ao73 t689.length co73, .int .i64 1] rfl (by (try simp only [List.map_toArray, List.map_cons, List.map_nil]); first | done | (rw [show t689.length = t676.length from (Kd.qM HO_11.out).1.symm] <;> rfl) | rfl | (simp only [List.length_drop, List.length_take]; rfl)) ?_; (with_reducible refine (qBA.calls kj31 _ _ t689 1 t690 _ ?side1 ?side2 A48.out).mono ?_); (case side1 => repeat (first | exact (Kd.qM HO_11.out).2.2 | (with_reducible refine Kd.qa ?_ _) | (with_reducible refine Kd.qZ ?_ _) | (with_reducible refine Kd.qe ?_))); (case side2 => rw [show t689.length = t676.length from (Kd.qM HO_11.out).1.symm]; exact (Kd.qM HO_11.out).2.1); rintro e w' ⟨rfl, ⟨nd, rfl⟩⟩; refine ⟨_, rfl, ?_⟩))
             go_ret
             exact ⟨by first | rfl | (simp [qI, qH] <;> rfl) | (simp [*, qI, qH] <;> rfl), bl⟩
       ·replace c30 := Bool.eq_false_iff.mpr c30
        subst c30
        have H1 : (some false) = some r := by rw [if_neg (show ¬ (false = true) by decide)] at H; exact H
        clear H
        have H := H1
        clear H1
        obtain rfl := Option.some.inj H
        go_wp2_with (first | ((with_reducible refine qL (f := 13) rfl ?_); refine qh (some 57) rfl rfl Tryd.func13 (by kernel_rfl) rfl #[.slice A1 l1.length c1] rfl (by (try simp only [List.map_toArray, List.map_cons, List.map_nil]); first | done | rfl | (simp only [List.length_drop, List.length_take]; rfl)) ?_; (with_reducible refine (qS.calls kj11 _ _ l1 t681 _ ?side1 ?side2 A28.out).mono ?_); (case side1 => repeat (first | exact (Kd.qWA HR1.out HB.out) | (with_reducible refine Kd.qa ?_ _) | (with_reducible refine Kd.qZ ?_ _) | (with_reducible refine Kd.qe ?_))); (case side2 => exact HC1.out); rintro e w75 ⟨v682, rfl, ho0, hb⟩; refine ⟨_, rfl, ?_⟩; have n0_ := Aside0.mk (Kd.qYA (by (with_reducible repeat (first | apply Kd.qK | apply Kd.qJ | apply Kd.qO)); exact HO_8.out) (Kd.qnA ho0) hb); have n1_ := Aside0.mk (Kd.qYA (by (with_reducible repeat (first | apply Kd.qK | apply Kd.qJ | apply Kd.qO)); exact HO_10.out) (Kd.qnA ho0) hb); have n2_ := Aside0.mk (Kd.qYA (by (with_reducible repeat (first | apply Kd.qK | apply Kd.qJ | apply Kd.qO)); exact HO_11.out) (Kd.qnA ho0) hb); have n3_ := Aside0.mk (Kd.qDA (Kd.qmA (Kd.qmA (Kd.qmA ho0 (Kd.R_lt (by (with_reducible repeat (first | apply Kd.qK | apply Kd.qJ | apply Kd.qO)); exact HO_8.out))) (Kd.R_lt (by (with_reducible repeat (first | apply Kd.qK | apply Kd.qJ | apply Kd.qO)); exact HO_10.out))) (Kd.R_lt (by (with_reducible repeat (first | apply Kd.qK | apply Kd.qJ | apply Kd.qO)); exact HO_11.out))) (qb bl)); have n4_ := Aside0.mk (qG bl hb); clear HO_8; clear HO_10; clear HO_11; clear HB; have HO_8 := n0_; have HO_10 := n1_; have HO_11 := n2_; have HO683 := n3_; have HB := n4_; clear n0_ n1_ n2_ n3_ n4_; (try clear hb); (try clear hb2); (try clear hk); (try clear hi); (try clear ho0); obtain ⟨Ao76, co76, eo76⟩ := Kd.qt HO683.out; subst eo76) | ((with_reducible refine qL (f := 15) rfl ?_); refine qh (some 58) rfl rfl Tryd.func15 (by kernel_rfl) rfl #[.slice Ao17 t673.length co17, .slice Ao76 t681.length co76] rfl (by (try simp only [List.map_toArray, List.map_cons, List.map_nil]); first | done | rfl | (simp only [List.length_drop, List.length_take]; rfl)) ?_; (with_reducible refine (qX.calls kj11 _ _ t673 _ _ t681 false _ ?side1 ?side2 ?side3 ?side4 A29.out).mono ?_); (case side1 => repeat (first | exact (Kd.qM HO_10.out).2.2 | (with_reducible refine Kd.qa ?_ _) | (with_reducible refine Kd.qZ ?_ _) | (with_reducible refine Kd.qe ?_))); (case side2 => exact (Kd.qM HO_10.out).2.1); (case side3 => repeat (first | exact (Kd.qM HO683.out).2.2 | (with_reducible refine Kd.qa ?_ _) | (with_reducible refine Kd.qZ ?_ _) | (with_reducible refine Kd.qe ?_))); (case side4 => exact (Kd.qM HO683.out).2.1); rintro e w77 ⟨rfl, hb⟩; refine ⟨_, rfl, ?_⟩; have n0_ := Aside0.mk (Kd.qc (by (with_reducible repeat (first | apply Kd.qK | apply Kd.qJ | apply Kd.qO)); exact HO_8.out) hb); have n1_ := Aside0.mk (Kd.qc (by (with_reducible repeat (first | apply Kd.qK | apply Kd.qJ | apply Kd.qO)); exact HO_10.out) hb); have n2_ := Aside0.mk (Kd.qc (by (with_reducible repeat (first | apply Kd.qK | apply Kd.qJ | apply Kd.qO)); exact HO_11.out) hb); have n3_ := Aside0.mk (Kd.qc (by (with_reducible repeat (first | apply Kd.qK | apply Kd.qJ | apply Kd.qO)); exact HO683.out) hb); have n4_ := Aside0.mk (qG bl hb); clear HO_8; clear HO_10; clear HO_11; clear HO683; clear HB; have HO_8 := n0_; have HO_10 := n1_; have HO_11 := n2_; have HO683 := n3_; have HB := n4_; clear n0_ n1_ n2_ n3_ n4_; (try clear hb); (try clear hb2); (try clear hk); (try clear hi)))
        go_ret
        exact ⟨by first | rfl | (simp [qI, qH] <;> rfl) | (simp [*, qI, qH] <;> rfl), bl⟩
def qU.Pure : Prop := ∀ (a0 : ByteArray) (l1 : List (S61)) (a2 : ByteArray), a0.size ≤ 140737488351232 → l1.length * 64 ≤ 140737488351232 → a2.size ≤ 140737488351232 → ∃ k, qU.f k a0 l1 a2 = some true
end Go.Proofs.YtgjdjnggkmojnaaDoor.P
namespace Go.Proofs.YtgjdjnggkmojnaaDoor
open Go.RowKit Go.Proofs.YtgjdjnggkmojnaaDoor.P Go.Proofs.YtgjdjnggkmojnaaDoorW.PrintWords Go.Proofs.YtgjdjnggkmojnaaDoorW.PrintLast
set_option linter.unusedVariables false
set_option linter.unusedSimpArgs false
def isDirB (c : UInt8) : Bool := decide (c = 110 ∨ c = 101 ∨ c = 115 ∨ c = 119)
def planOk : List UInt8 → Bool
 | c :: d :: r => decide (48 ≤ c.toNat ∧ c.toNat ≤ 50) && isDirB d && planOk r
 | _ => true
def isPlanB (l : List UInt8) : Bool := decide (l.length % 2 = 0) && decide (l.length ≤ 120) && planOk l
theorem drop2 {l : List UInt8} {i : Nat} (h : i + 1 < l.length) : l.drop i = l[i] :: l[i + 1] :: l.drop (i + 2) := by
 rw [List.drop_eq_getElem_cons (by omega), List.drop_eq_getElem_cons h]
theorem myPlan_loop (a : ByteArray) (hs : a.size ≤ 1048576) (he : a.size % 2 = 0) (d : Nat) : ∀ i : Nat, i ≤ a.size → i % 2 = 0 → a.size - i ≤ d → Ev (fun k => qfA.l0 k a (i : Int)) (planOk (a.data.toList.drop i)) := by
 induction d using Nat.strongRecOn with
 | _ d ih =>
  intro i hi h2 hd
  have hl := dlen a
  refine Ev.step (f := fun k => _) (fun k => by rw [qfA.l0]) ?_
  by_cases hlt : i < a.size
  ·have hp : i + 1 < a.data.toList.length := by omega
   have b0 := qXD a i (by omega)
   have hdd := spec_diDir_at a (i + 1) hp
   rw [drop2 hp]
   have w1 : wrap64 ((i : Int) + 1) = ((i + 1 : Nat) : Int) := by unfold wrap64; omega
   have w2 : wrap64 ((i : Int) + 2) = ((i + 2 : Nat) : Int) := by unfold wrap64; omega
   rw [w1, w2]
   refine Ev.pos (by omega) (Ev.pos (by omega) ?_)
   rw [b0]
   simp only [Int.toNat_natCast]
   generalize a.data.toList[i] = c
   generalize a.data.toList[i + 1] = e at hdd ⊢
   simp only [planOk]
   by_cases c1 : (c.toNat : Int) < 48
   ·refine Ev.pos c1 (Ev.some_ ?_)
    rw [decide_eq_false (by omega)]; rfl
   refine Ev.neg c1 ?_
   by_cases c2 : (c.toNat : Int) ≥ 51
   ·refine Ev.pos c2 (Ev.some_ ?_)
    rw [decide_eq_false (by omega)]; rfl
   refine Ev.neg c2 (Ev.pos (by omega) (Ev.pos (by omega) (Ev.pos (by omega) ?_)))
   rw [decide_eq_true (by omega)]
   refine Ev.bind hdd ?_
   by_cases c3 : e = 110 ∨ e = 101 ∨ e = 115 ∨ e = 119
   ·refine Ev.neg (by rw [qeD]; exact fun h => h c3) ?_
    rw [show isDirB e = true from decide_eq_true c3]
    exact (ih (d - 2) (by omega) (i + 2) (by omega) (by omega) (by omega))
   ·refine Ev.pos (by rw [qeD]; exact c3) (Ev.some_ ?_)
    rw [show isDirB e = false from decide_eq_false c3]; rfl
  ·refine Ev.neg (by omega) (Ev.some_ ?_)
   rw [List.drop_eq_nil_of_le (by omega)]
   rfl
theorem spec_myPlan_ev (a : ByteArray) (hs : a.size ≤ 1048576) : Ev (fun k => qfA.f k a) (isPlanB a.data.toList) := by
 have hl := dlen a
 unfold qfA.f
 unfold isPlanB
 have hj : ∀ b : Bool, Ev (fun k => qfA.j0 k a b) (if b = true then false else planOk a.data.toList) ∨ a.size % 2 = 1 := by
  intro b
  rcases Nat.mod_two_eq_zero_or_one a.size with h | h
  ·refine .inl (Ev.step (f := fun k => _) (fun k => by rw [qfA.j0]) ?_)
   cases b
   ·exact Ev.neg (by decide) (myPlan_loop a (by omega) h _ 0 (by omega) (by omega) (Nat.le_refl _))
   ·exact Ev.pos rfl (Ev.now _)
  ·exact .inr h
 by_cases h : a.size % 2 = 0
 ·rcases hj (decide ((a.size : Int) > 120)) with hj | hj
  ·refine Ev.pos (by omega) ?_
   rw [hl, decide_eq_true h, Bool.true_and]
   by_cases h2 : a.size ≤ 120
   ·rw [decide_eq_true h2]
    rw [decide_eq_false (by omega)] at hj ⊢
    exact hj
   ·rw [decide_eq_false h2]
    rw [decide_eq_true (by omega)] at hj ⊢
    exact hj
  ·omega
 ·refine Ev.neg (by omega) (Ev.step (f := fun k => _) (fun k => by rw [qfA.j0]) (Ev.pos rfl (Ev.some_ ?_)))
  rw [hl, decide_eq_false h]; rfl
theorem ix_lt (c : UInt8) : (Lib.indexByte [110, 101, 115, 119] c < 0) = (¬ (c = 110 ∨ c = 101 ∨ c = 115 ∨ c = 119)) := by
 by_cases h : c = 110 ∨ c = 101 ∨ c = 115 ∨ c = 119
 ·rcases h with rfl | rfl | rfl | rfl <;> decide +kernel
 ·simp only [not_or] at h
  obtain ⟨h1, h2, h3, h4⟩ := h
  have e : Lib.indexByte [110, 101, 115, 119] c = -1 := by
   simp only [Lib.indexByte, beq_iff_eq, Ne.symm h1, Ne.symm h2, Ne.symm h3, Ne.symm h4, if_false]
   decide
  rw [e]
  simp [h1, h2, h3, h4]
theorem impl_IsPlan_loop (a : ByteArray) (hs : a.size ≤ 1048576) (d : Nat) : ∀ i : Nat, i ≤ a.size + 1 → i % 2 = 0 → a.size + 1 - i ≤ d →
  Ev (fun k => qsA.l0 k a (i : Int)) (planOk (a.data.toList.drop i) && (decide (a.size % 2 = 0) && decide (a.size ≤ 120))) := by
 induction d using Nat.strongRecOn with
 | _ d ih =>
  intro i hi h2 hd
  have hl := dlen a
  refine Ev.step (f := fun k => _) (fun k => by rw [qsA.l0]) ?_
  have w1 : wrap64 ((i : Int) + 1) = ((i + 1 : Nat) : Int) := by unfold wrap64; omega
  have w2 : wrap64 ((i : Int) + 2) = ((i + 2 : Nat) : Int) := by unfold wrap64; omega
  rw [w1, w2]
  by_cases hp : i + 1 < a.data.toList.length
  ·have b0 := qXD a i (by omega)
   have b1 := qXD a (i + 1) hp
   rw [drop2 hp]
   refine Ev.pos (by omega) (Ev.pos (by omega) (Ev.pos (by omega) ?_))
   rw [b0, b1]
   simp only [strings_IndexByte.f, Option.bind_some]
   generalize a.data.toList[i] = c
   generalize a.data.toList[i + 1] = e
   simp only [planOk]
   by_cases c1 : (c.toNat : Int) < 48
   ·refine Ev.pos c1 (Ev.some_ ?_)
    rw [decide_eq_false (by omega)]; rfl
   refine Ev.neg c1 ?_
   by_cases c2 : (c.toNat : Int) > 50
   ·refine Ev.pos c2 (Ev.some_ ?_)
    rw [decide_eq_false (by omega)]; rfl
   refine Ev.neg c2 (Ev.pos (by omega) ?_)
   rw [decide_eq_true (by omega)]
   have hu : ((e.toNat : Int).toNat).toUInt8 = e := by simp
   rw [hu]
   by_cases c3 : e = 110 ∨ e = 101 ∨ e = 115 ∨ e = 119
   ·refine Ev.neg (by rw [ix_lt]; exact fun h => h c3) ?_
    rw [show isDirB e = true from decide_eq_true c3]
    exact (ih (d - 2) (by omega) (i + 2) (by omega) (by omega) (by omega))
   ·refine Ev.pos (by rw [ix_lt]; exact c3) (Ev.some_ ?_)
    rw [show isDirB e = false from decide_eq_false c3]; rfl
  ·have hpk : planOk (a.data.toList.drop i) = true := by
    rcases Nat.lt_or_ge i a.data.toList.length with h | h
    ·rw [List.drop_eq_getElem_cons h, List.drop_eq_nil_of_le (by omega)]; rfl
    ·rw [List.drop_eq_nil_of_le h]; rfl
   rw [hpk]
   refine Ev.neg (by omega) ?_
   by_cases h : a.size % 2 = 0
   ·refine Ev.pos (by omega) (Ev.some_ ?_)
    rw [decide_eq_true h]
    simp only [Bool.true_and]
    by_cases h2 : a.size ≤ 120
    ·rw [decide_eq_true h2, decide_eq_true (by omega)]
    ·rw [decide_eq_false h2, decide_eq_false (by omega)]
   ·refine Ev.neg (by omega) (Ev.some_ ?_)
    rw [decide_eq_false h]; rfl
theorem impl_IsPlan_ev (a : ByteArray) (hs : a.size ≤ 1048576) : Ev (fun k => qsA.f k a) (isPlanB a.data.toList) := by
 have := impl_IsPlan_loop a hs _ 0 (by omega) (by omega) (Nat.le_refl _)
 unfold qsA.f isPlanB
 rw [dlen]
 rw [List.drop_zero, Bool.and_comm] at this
 exact this
end Go.Proofs.YtgjdjnggkmojnaaDoor
namespace Go.Proofs.YtgjdjnggkmojnaaDoor.Pure
open Go.RowKit Go.Proofs.YtgjdjnggkmojnaaDoor.P Go.Proofs.YtgjdjnggkmojnaaDoorW.PrintWords Go.Proofs.YtgjdjnggkmojnaaDoorW.PrintLast
set_option linter.unusedVariables false
set_option linter.unusedSimpArgs false
def planD (a : ByteArray) : List XS → List UInt8 → List XS × Bool
 | l, c :: e :: r => if (moveB a l (c.toNat - 48) (dirU e : Int)).2 = true then planD a (moveB a l (c.toNat - 48) (dirU e : Int)).1 r else ([], false)
 | l, _ => (l, true)
theorem planD_len (a : ByteArray) (n : Nat) : ∀ (cs : List UInt8) (l : List XS), cs.length ≤ n → (planD a l cs).1.length ≤ l.length := by
 induction n using Nat.strongRecOn with
 | _ n ih =>
  intro cs l hn
  match cs with
  | [] => simp [planD]
  | [_] => simp [planD]
  | c :: e :: r =>
   simp only [planD]
   cases hm : (moveB a l (c.toNat - 48) (dirU e : Int)).2 with
   | true =>
    rw [if_pos rfl]
    have := ih (n - 2) (by simp at hn; omega) r (moveB a l (c.toNat - 48) (dirU e : Int)).1 (by simp at hn; omega)
    rw [qJD hm] at this
    exact this
   | false => rw [if_neg (by decide)]; simp
theorem planOk_cons {c e : UInt8} {r : List UInt8} (h : planOk (c :: e :: r) = true) : (48 ≤ c.toNat ∧ c.toNat ≤ 50) ∧ isDirU e = true ∧ planOk r = true := by
 simp only [planOk, Bool.and_eq_true, decide_eq_true_eq] at h
 refine ⟨h.1.1, ?_, h.2⟩
 rw [qwC]
 exact of_decide_eq_true h.1.2
theorem moveB_off {a : ByteArray} {l : List XS} {k : Nat} {d : Int} (h : ¬ k < l.length) : moveB a l k d = ([], false) := by
 unfold moveB
 rw [dif_neg h]
theorem qWD {a : ByteArray} (g : Gnd a) (p : ByteArray) (hp : p.size ≤ 120) (he : p.size % 2 = 0) (n : Nat) : ∀ (i : Nat) (l : List XS), i ≤ p.size → i % 2 = 0 → p.size - i ≤ n → l.length ≤ 2000000 → planOk (p.data.toList.drop i) = true →
  Ev (fun k => qn.l0 k p (rowsT a) l (i : Int)) (planD a l (p.data.toList.drop i)) := by
 induction n using Nat.strongRecOn with
 | _ n ih =>
  intro i l hi h2 hd hl hok
  have hlen := dlen p
  refine Ev.step (f := fun k => _) (fun k => by rw [qn.l0]) ?_
  by_cases hlt : i < p.size
  ·have hq : i + 1 < p.data.toList.length := by omega
   have b0 := qXD p i (by omega)
   have b1 := qXD p (i + 1) hq
   rw [drop2 hq] at hok ⊢
   have w1 : wrap64 ((i : Int) + 1) = ((i + 1 : Nat) : Int) := by unfold wrap64; omega
   have w2 : wrap64 ((i : Int) + 2) = ((i + 2 : Nat) : Int) := by unfold wrap64; omega
   rw [w1, w2]
   refine Ev.pos (by omega) (Ev.pos (by omega) (Ev.pos (by omega) (Ev.pos (by omega) ?_)))
   rw [b0, b1]
   have ihh := fun (l' : List XS) (h' : l'.length ≤ 2000000) => fun ho => ih (n - 2) (by omega) (i + 2) l' (by omega) (by omega) (by omega) h' ho
   generalize p.data.toList[i] = c at *
   generalize p.data.toList[i + 1] = e at *
   obtain ⟨hc, heU, hr⟩ := planOk_cons hok
   have e1 : (((c.toNat : Int) - 48) % 256) = ((c.toNat - 48 : Nat) : Int) := by omega
   rw [e1]
   refine Ev.bindc (qAD g l hl (c.toNat - 48) (e.toNat : Int)) ?_
   rw [dOf_U heU]
   simp only [planD]
   cases hm : (moveB a l (c.toNat - 48) (dirU e : Int)).2 with
   | true =>
    rw [if_pos rfl]
    exact Ev.pos rfl (ihh _ (by rw [qJD hm]; exact hl) hr)
   | false =>
    rw [if_neg (by decide)]
    exact Ev.neg (by decide) (Ev.now _)
  ·refine Ev.neg (by omega) (Ev.some_ ?_)
   rw [List.drop_eq_nil_of_le (by omega)]
   rfl
theorem qSD {a : ByteArray} (g : Gnd a) (l0 : List XS) (hl0 : l0.length ≤ 2000000) (p : ByteArray) (hp : p.size ≤ 120) (he : p.size % 2 = 0) (n : Nat) : ∀ (i : Nat) (l : List XS), i ≤ p.size → i % 2 = 0 → p.size - i ≤ n → l.length = l0.length → planOk (p.data.toList.drop i) = true →
  Ev (fun k => qr.l0 k l0 p l (i : Int) (wideT a : Int) (highT a : Int) (csOf a)) (planD a l (p.data.toList.drop i)) := by
 induction n using Nat.strongRecOn with
 | _ n ih =>
  intro i l hi h2 hd hl hok
  have hlen := dlen p
  refine Ev.step (f := fun k => _) (fun k => by rw [qr.l0]) ?_
  by_cases hlt : i < p.size
  ·have hq : i + 1 < p.data.toList.length := by omega
   have b0 := qXD p i (by omega)
   have hdd := spec_diDir_at p (i + 1) hq
   rw [drop2 hq] at hok ⊢
   have w1 : wrap64 ((i : Int) + 1) = ((i + 1 : Nat) : Int) := by unfold wrap64; omega
   have w2 : wrap64 ((i : Int) + 2) = ((i + 2 : Nat) : Int) := by unfold wrap64; omega
   rw [w1, w2]
   refine Ev.pos (by omega) (Ev.pos (by omega) ?_)
   rw [b0]
   simp only [Int.toNat_natCast]
   have ihh := fun (l' : List XS) (h' : l'.length = l0.length) => fun ho => ih (n - 2) (by omega) (i + 2) l' (by omega) (by omega) (by omega) h' ho
   generalize p.data.toList[i] = c at *
   generalize p.data.toList[i + 1] = e at *
   obtain ⟨hc, heU, hr⟩ := planOk_cons hok
   have e1 : (((c.toNat : Int) - 48) % 256) = ((c.toNat - 48 : Nat) : Int) := by omega
   rw [e1]
   simp only [planD]
   by_cases hk : c.toNat - 48 < l.length
   ·rw [qxD heU] at hdd
    refine Ev.neg (by omega) (Ev.pos (by omega) (Ev.pos (by omega) (Ev.pos (by omega) (Ev.bind hdd (Ev.bind (qlC g l (by omega) (c.toNat - 48) hk (dirU e : Int)) ?_)))))
    cases hm : (moveB a l (c.toNat - 48) (dirU e : Int)).2 with
    | true =>
     rw [if_pos rfl]
     exact Ev.pos rfl (ihh _ (by rw [qJD hm]; exact hl) hr)
    | false =>
     rw [if_neg (by decide)]
     exact Ev.neg (by decide) (Ev.now _)
   ·rw [moveB_off hk, if_neg (by decide)]
    exact Ev.pos (by omega) (Ev.now _)
  ·refine Ev.neg (by omega) (Ev.some_ ?_)
   rw [List.drop_eq_nil_of_le (by omega)]
   rfl
theorem both (a : ByteArray) (l : List XS) (p : ByteArray) (ha : a.size ≤ 1048576) (hp : p.size ≤ 1048576) (hl : l.length ≤ 2000000) : ∃ r : List XS × Bool, r.1.length ≤ 2000000 ∧ Ev (fun n => qr.f n a l p) r ∧ Ev (fun n => qn.f n a l p) r := by
 obtain ⟨rows, h1, hr⟩ := qGC a l ha hl
 obtain ⟨w, h, cs, h2, hs⟩ := qRC a l hl
 have j2 : ∀ w h cs, Ev (fun n => qr.j0 n l p true w h cs) (([] : List XS), false) := fun w h cs =>
  Ev.step (f := fun n => _) (fun n => by rw [qr.j0]) (Ev.pos rfl (Ev.now _))
 have j1 : ∀ rows, Ev (fun n => qn.j0 n l p rows true) (([] : List XS), false) := fun rows =>
  Ev.step (f := fun n => _) (fun n => by rw [qn.j0]) (Ev.pos rfl (Ev.now _))
 unfold qr.f qn.f
 cases hb : askD a l with
 | false =>
  rw [hb] at h1 h2
  exact ⟨([], false), by simp, Ev.bind h2 (Ev.neg (by simp) (j2 _ _ _)), Ev.bind h1 (Ev.neg (by simp) (j1 _))⟩
 | true =>
  have g := qMD (qiC hb)
  obtain ⟨e1, e2, e3⟩ := hs hb
  have er := hr hb
  subst e1 e2 e3 er
  rw [hb] at h1 h2
  have p1 := impl_IsPlan_ev p hp
  have p2 := spec_myPlan_ev p hp
  cases hk : isPlanB p.data.toList with
  | false =>
   rw [hk] at p1 p2
   exact ⟨([], false), by simp, Ev.bind h2 (Ev.pos rfl (Ev.bind p2 (j2 _ _ _))), Ev.bind h1 (Ev.pos rfl (Ev.bind p1 (j1 _)))⟩
  | true =>
   rw [hk] at p1 p2
   unfold isPlanB at hk
   simp only [Bool.and_eq_true, decide_eq_true_eq] at hk
   rw [dlen] at hk
   obtain ⟨⟨k1, k2⟩, k3⟩ := hk
   have q1 := qWD g p k2 k1 p.size 0 l (by omega) (by omega) (by omega) hl k3
   have q2 := qSD g l hl p k2 k1 p.size 0 l (by omega) (by omega) (by omega) rfl k3
   refine ⟨planD a l p.data.toList, ?_, Ev.bind h2 (Ev.pos rfl (Ev.bind p2 ?_)), Ev.bind h1 (Ev.pos rfl (Ev.bind p1 ?_))⟩
   ·have := planD_len a _ p.data.toList l (Nat.le_refl _)
    omega
   ·exact Ev.step (f := fun n => qr.l0 n l p l 0 (wideT a : Int) (highT a : Int) (csOf a)) (fun n => by rw [qr.j0, if_neg (by decide), Option.bind_some, if_pos (by simp; omega), List.nil_append]) q2
   ·exact Ev.step (f := fun n => qn.l0 n p (rowsT a) l 0) (fun n => by rw [qn.j0, if_neg (by decide), qyA.f, if_pos (by omega), Option.bind_some]) q1
theorem FnExactMoveDice : qU.Pure := by
 intro a l dir _ hl _
 refine Ev.rounds (r := true) ?_
 unfold qU.f
 by_cases ha : a.size ≤ 1048576
 ·refine Ev.neg (by omega) ?_
  by_cases hd : dir.size ≤ 1048576
  case neg => exact Ev.pos (by omega) (Ev.now _)
  refine Ev.neg (by omega) (Ev.bindc (qxB l hl) ?_)
  by_cases hn : l.length ≤ 1048576
  ·rw [if_pos hn]
   have hc : l.length ≤ 2000000 := by omega
   have ht := qwB l hc
   obtain ⟨r, hr, hs, hi⟩ := both a (l.map convS) dir ha hd (by simp; omega)
   have h1 : r.1.length ≤ 140737488355328 := by omega
   have h2 : r.1.length ≤ 2000000 := by omega
   have h3 : (l.map convS).length ≤ 140737488355328 := by simp; omega
   have h4 : (l.map convS).length ≤ 2000000 := by simp; omega
   refine Ev.neg (by omega) (Ev.bind ht (Ev.bind hs (Ev.bind ht (Ev.bind hi (Ev.bind (qAB _ h1) (Ev.pos rfl ?_))))))
   refine Ev.step (f := fun k => _) (fun k => by rw [qU.j0]) (Ev.neg (by simp) ?_)
   refine Ev.bind ht (Ev.bind (qAB _ h3) (Ev.pos rfl (Ev.bind (qtB _ h4) (Ev.neg (by omega) (Ev.bind (qAB _ h1) (Ev.pos rfl ?_))))))
   refine Ev.step (f := fun k => _) (fun k => by rw [qU.j1]) (Ev.neg (by simp) ?_)
   refine Ev.bind (qtB _ h2) (Ev.bind (qPC _ h2) (Ev.neg (by omega) (Ev.pos rfl (Ev.bind ht (Ev.bind hi (Ev.bind (qAB _ h1) (Ev.pos rfl ?_)))))))
   refine Ev.step (f := fun k => _) (fun k => by rw [qU.j2]) (Ev.neg (by simp) ?_)
   exact Ev.bind (qPC _ h2) (Ev.neg (by omega) (Ev.pos rfl (Ev.now _)))
  ·rw [if_neg hn]
   exact Ev.pos (by decide) (Ev.now _)
 ·exact Ev.pos (by omega) (Ev.now _)
end Go.Proofs.YtgjdjnggkmojnaaDoor.Pure
