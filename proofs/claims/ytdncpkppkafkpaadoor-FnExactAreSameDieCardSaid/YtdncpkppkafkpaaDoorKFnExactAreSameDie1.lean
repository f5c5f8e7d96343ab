/- The program's AreSameDie returns what the reference's returns, for all texts (the law lets longer texts by). No further condition. -/
import Derived.Test.YtdncpkppkafkpaaDoorKFnExactAreSameDie0

namespace Go.Proofs.YtdncpkppkafkpaaDoor.P
open Go.RowKit Go.Proofs.YtdncpkppkafkpaaDoorW.PrintWords Go.Proofs.YtdncpkppkafkpaaDoorW.PrintLast Go.Proofs.YtdncpkppkafkpaaDoorW.PrintMore
attribute [local go_sem] qz qx qJA qIA qo qn qy qw
set_option linter.unusedVariables false
set_option linter.unusedSimpArgs false
def qgA.f (a0_0 : Int) (a0_1 : Int) (l0_2 : List Int) (a1 : Int) (a2 : Int) : Option (Int) := if a0_0 = 0 then (none) else ((qLA.f (Int.tmod a1 a0_0) (wrap64 (Int.tdiv a1 a0_0)) a2).bind fun bt112 => ((qAA.f bt112.1 0 (wrap64 (a0_0 - 1))).bind fun t114 => (if t114 = true then ((qAA.f bt112.2 0 (wrap64 (a0_1 - 1))).bind fun t115 => (if t115 = true then (if 0 ≤ (wrap64 ((wrap64 (bt112.2 * a0_0)) + bt112.1)) then (if (wrap64 ((wrap64 (bt112.2 * a0_0)) + bt112.1)) < (l0_2.length : Int) then (if (rd l0_2 (wrap64 ((wrap64 (bt112.2 * a0_0)) + bt112.1))) = 46 then (some (-1)) else (some (wrap64 ((wrap64 (bt112.2 * a0_0)) + bt112.1)))) else (none)) else (none)) else (some (-1)))) else (some (-1)))))
set_option maxHeartbeats 8000000 in
set_option maxRecDepth 100000 in
theorem qgA.calls (a0_0 : Int) (a0_1 : Int) (A0_2 : Option Addr) (c0_2 : Nat) (l0_2 : List Int) (a1 : Int) (a2 : Int) (r : Int) (w : World) (hr0_2 : Kd.C (Kd.int .u8) w A0_2 l0_2.length l0_2) (hc0_2 : l0_2.length ≤ c0_2) (h : qgA.f a0_0 a0_1 l0_2 a1 a2 = some r) :
  Calls Tryd.prog 42 #[.agg #[.int .i64 a0_0, .int .i64 a0_1, .slice A0_2 l0_2.length c0_2], .int .i64 a1, .int .i64 a2] w fun e w' => e = .returned (.int .i64 r) ∧ Below w.heap.size w w' := by
 have hu45 := Tryd.underlying45
 have HR0_2 := Aside0.mk hr0_2
 have HC0_2 := Aside0.mk hc0_2
 clear hr0_2 hc0_2
 have HB := Aside0.mk (Below.refl w.heap.size w)
 have H : (if a0_0 = 0 then (none) else ((qLA.f (Int.tmod a1 a0_0) (wrap64 (Int.tdiv a1 a0_0)) a2).bind fun bt112 => ((qAA.f bt112.1 0 (wrap64 (a0_0 - 1))).bind fun t114 => (if t114 = true then ((qAA.f bt112.2 0 (wrap64 (a0_1 - 1))).bind fun t115 => (if t115 = true then (if 0 ≤ (wrap64 ((wrap64 (bt112.2 * a0_0)) + bt112.1)) then (if (wrap64 ((wrap64 (bt112.2 * a0_0)) + bt112.1)) < (l0_2.length : Int) then (if (rd l0_2 (wrap64 ((wrap64 (bt112.2 * a0_0)) + bt112.1))) = 46 then (some (-1)) else (some (wrap64 ((wrap64 (bt112.2 * a0_0)) + bt112.1)))) else (none)) else (none)) else (some (-1)))) else (some (-1)))))) = some r := h
 clear h
 by_cases c4 : a0_0 = 0
 ·rw [if_pos c4] at H
  exact absurd H (by simp)
 ·rw [if_neg c4] at H
  have c4b0 : (a0_0 == 0) = false := beq_eq_false_iff_ne.mpr c4
  have c4b1 : (a0_0 != 0) = true := bne_iff_ne.mpr c4
  replace H := Option.bind_eq_some_iff.mp H
  obtain ⟨⟨t112, t113⟩, A50, H⟩ := H
  replace H : ((qAA.f t112 0 (wrap64 (a0_0 - 1))).bind fun t114 => (if t114 = true then ((qAA.f t113 0 (wrap64 (a0_1 - 1))).bind fun t115 => (if t115 = true then (if 0 ≤ (wrap64 ((wrap64 (t113 * a0_0)) + t112)) then (if (wrap64 ((wrap64 (t113 * a0_0)) + t112)) < (l0_2.length : Int) then (if (rd l0_2 (wrap64 ((wrap64 (t113 * a0_0)) + t112))) = 46 then (some (-1)) else (some (wrap64 ((wrap64 (t113 * a0_0)) + t112)))) else (none)) else (none)) else (some (-1)))) else (some (-1)))) = some r := H
  have A5 := Aside0.mk A50
  clear A50
  replace H := Option.bind_eq_some_iff.mp H
  obtain ⟨t114, A60, H⟩ := H
  replace H : (if t114 = true then ((qAA.f t113 0 (wrap64 (a0_1 - 1))).bind fun t115 => (if t115 = true then (if 0 ≤ (wrap64 ((wrap64 (t113 * a0_0)) + t112)) then (if (wrap64 ((wrap64 (t113 * a0_0)) + t112)) < (l0_2.length : Int) then (if (rd l0_2 (wrap64 ((wrap64 (t113 * a0_0)) + t112))) = 46 then (some (-1)) else (some (wrap64 ((wrap64 (t113 * a0_0)) + t112)))) else (none)) else (none)) else (some (-1)))) else (some (-1))) = some r := H
  have A6 := Aside0.mk A60
  clear A60
  by_cases c7 : t114 = true
  ·subst c7
   have H1 : ((qAA.f t113 0 (wrap64 (a0_1 - 1))).bind fun t115 => (if t115 = true then (if 0 ≤ (wrap64 ((wrap64 (t113 * a0_0)) + t112)) then (if (wrap64 ((wrap64 (t113 * a0_0)) + t112)) < (l0_2.length : Int) then (if (rd l0_2 (wrap64 ((wrap64 (t113 * a0_0)) + t112))) = 46 then (some (-1)) else (some (wrap64 ((wrap64 (t113 * a0_0)) + t112)))) else (none)) else (none)) else (some (-1)))) = some r := by rw [if_pos rfl] at H; exact H
   clear H
   have H := H1
   clear H1
   replace H := Option.bind_eq_some_iff.mp H
   obtain ⟨t115, A80, H⟩ := H
   replace H : (if t115 = true then (if 0 ≤ (wrap64 ((wrap64 (t113 * a0_0)) + t112)) then (if (wrap64 ((wrap64 (t113 * a0_0)) + t112)) < (l0_2.length : Int) then (if (rd l0_2 (wrap64 ((wrap64 (t113 * a0_0)) + t112))) = 46 then (some (-1)) else (some (wrap64 ((wrap64 (t113 * a0_0)) + t112)))) else (none)) else (none)) else (some (-1))) = some r := H
   have A8 := Aside0.mk A80
   clear A80
   by_cases c9 : t115 = true
   ·subst c9
    have H1 : (if 0 ≤ (wrap64 ((wrap64 (t113 * a0_0)) + t112)) then (if (wrap64 ((wrap64 (t113 * a0_0)) + t112)) < (l0_2.length : Int) then (if (rd l0_2 (wrap64 ((wrap64 (t113 * a0_0)) + t112))) = 46 then (some (-1)) else (some (wrap64 ((wrap64 (t113 * a0_0)) + t112)))) else (none)) else (none)) = some r := by rw [if_pos rfl] at H; exact H
    clear H
    have H := H1
    clear H1
    obtain ⟨ji10, hji10⟩ : ∃ j_ : Int, (wrap64 ((wrap64 (t113 * a0_0)) + t112)) = j_ := ⟨_, rfl⟩
    replace H : (if 0 ≤ (ji10) then (if (ji10) < (l0_2.length : Int) then (if (rd l0_2 (ji10)) = 46 then (some (-1)) else (some ji10)) else (none)) else (none)) = some r := by first | (rw [hji10] at H; exact H) | (simp only [hji10] at H ⊢; exact H)
    (try rw [hji10] at A5)
    (try rw [hji10] at A6)
    (try rw [hji10] at A8)
    have hji10w : (IntKind.i64.wrap ((wrap64 (t113 * a0_0)) + t112)) = ji10 := (i64_w _).trans hji10
    by_cases c11 : 0 ≤ (ji10)
    ·rw [if_pos c11] at H
     have c11b0 : decide (0 ≤ (ji10)) = true := decide_eq_true c11
     clear c11
     by_cases c12 : (ji10) < (l0_2.length : Int)
     ·rw [if_pos c12] at H
      have c12b0 : decide ((ji10) < (l0_2.length : Int)) = true := decide_eq_true c12
      clear c12
      by_cases c13 : (rd l0_2 (ji10)) = 46
      ·rw [if_pos c13] at H
       have c13b0 : ((rd l0_2 (ji10)) == 46) = true := beq_iff_eq.mpr c13
       have c13b1 : ((rd l0_2 (ji10)) != 46) = false := bne_eq_false_iff_eq.mpr c13
       clear c13
       obtain rfl := Option.some.inj H
       go_enter Tryd.func42, Tryd.ntmps42
       go_wp2_with (first | ((with_reducible refine qX (N := 3) rfl ?_); refine qW ?hg (N := 3) ?hd (cs := #[.int .i64 a0_0, .int .i64 a0_1, .slice A0_2 l0_2.length c0_2]) (t := 45) ?hr ?_; (case hd => rfl); (case hg => rfl); (case hr => first | (go_simp; done) | (go_simp; rfl)); intro gb111 hg w14 hbox hb; have n0_ := Aside0.mk (qJ bl hb); have n1_ := Aside0.mk (hbox); have n2_ := Aside0.mk ((gg hg)); have n3_ := Aside0.mk ((gg hg)); clear HB; have HB := n0_; have BK111 := n1_; have GW111 := n2_; have GE111 := n3_; clear n0_ n1_ n2_ n3_; clear hb hbox hg; have hcz15_0 := bc BK111 0; have hcz15_1 := bc BK111 1; have hcz15_2 := bc BK111 2; have hfz15_0 := qA BK111.out 0; have hfz15_1 := qA BK111.out 1; have hfz15_2 := qA BK111.out 2) | (go_at_call 58; (with_reducible refine (qLA.calls (Int.tmod a1 a0_0) (wrap64 (Int.tdiv a1 a0_0)) a2 t112 t113 _ A5.out).mono ?_); rintro e w' ⟨rfl, ⟨nd, rfl⟩⟩; (try first | exact ⟨rfl, _, World.drewN_drewN _ _ _⟩ | exact ⟨rfl, _, Eq.trans (World.drewN_drewN _ _ _) (congrArg (World.drewN _) (Nat.add_assoc _ _ _))⟩)) | (go_at_call 59; (with_reducible refine (qAA.calls t112 0 (wrap64 (a0_0 - 1)) true _ A6.out).mono ?_); rintro e w' ⟨rfl, ⟨nd, rfl⟩⟩; (try first | exact ⟨rfl, _, World.drewN_drewN _ _ _⟩ | exact ⟨rfl, _, Eq.trans (World.drewN_drewN _ _ _) (congrArg (World.drewN _) (Nat.add_assoc _ _ _))⟩)) | (go_at_call 59; (with_reducible refine (qAA.calls t113 0 (wrap64 (a0_1 - 1)) true _ A8.out).mono ?_); rintro e w' ⟨rfl, ⟨nd, rfl⟩⟩; (try first | exact ⟨rfl, _, World.drewN_drewN _ _ _⟩ | exact ⟨rfl, _, Eq.trans (World.drewN_drewN _ _ _) (congrArg (World.drewN _) (Nat.add_assoc _ _ _))⟩); have p116 : 0 ≤ ((ji10) : Int) := of_decide_eq_true (by first | (with_reducible assumption) | assumption); have q116 : (ji10) < (l0_2.length : Int) := of_decide_eq_true (by first | (with_reducible assumption) | assumption); obtain ⟨ad116, e116, hx116_0⟩ := Kd.qGA HR0_2.out (ji10) p116 q116; cases e116; replace hx116_0 := (HB.out.cell (World.block_lt_of_cell? w _ hx116_0)).trans hx116_0; replace p116 := eq_true p116; replace q116 := eq_true q116))
       repeat (go_quiet (first | ((with_reducible refine qX (N := 3) rfl ?_); refine qW ?hg (N := 3) ?hd (cs := #[.int .i64 a0_0, .int .i64 a0_1, .slice A0_2 l0_2.length c0_2]) (t := 45) ?hr ?_; (case hd => rfl); (case hg => rfl); (case hr => first | (go_simp; done) | (go_simp; rfl)); intro gb111 hg w14 hbox hb; have n0_ := Aside0.mk (qJ bl hb); have n1_ := Aside0.mk (hbox); have n2_ := Aside0.mk ((gg hg)); have n3_ := Aside0.mk ((gg hg)); clear HB; have HB := n0_; have BK111 := n1_; have GW111 := n2_; have GE111 := n3_; clear n0_ n1_ n2_ n3_; clear hb hbox hg; have hcz15_0 := bc BK111 0; have hcz15_1 := bc BK111 1; have hcz15_2 := bc BK111 2; have hfz15_0 := qA BK111.out 0; have hfz15_1 := qA BK111.out 1; have hfz15_2 := qA BK111.out 2) | (go_at_call 58; (with_reducible refine (qLA.calls (Int.tmod a1 a0_0) (wrap64 (Int.tdiv a1 a0_0)) a2 t112 t113 _ A5.out).mono ?_); rintro e w' ⟨rfl, ⟨nd, rfl⟩⟩; (try first | exact ⟨rfl, _, World.drewN_drewN _ _ _⟩ | exact ⟨rfl, _, Eq.trans (World.drewN_drewN _ _ _) (congrArg (World.drewN _) (Nat.add_assoc _ _ _))⟩)) | (go_at_call 59; (with_reducible refine (qAA.calls t112 0 (wrap64 (a0_0 - 1)) true _ A6.out).mono ?_); rintro e w' ⟨rfl, ⟨nd, rfl⟩⟩; (try first | exact ⟨rfl, _, World.drewN_drewN _ _ _⟩ | exact ⟨rfl, _, Eq.trans (World.drewN_drewN _ _ _) (congrArg (World.drewN _) (Nat.add_assoc _ _ _))⟩)) | (go_at_call 59; (with_reducible refine (qAA.calls t113 0 (wrap64 (a0_1 - 1)) true _ A8.out).mono ?_); rintro e w' ⟨rfl, ⟨nd, rfl⟩⟩; (try first | exact ⟨rfl, _, World.drewN_drewN _ _ _⟩ | exact ⟨rfl, _, Eq.trans (World.drewN_drewN _ _ _) (congrArg (World.drewN _) (Nat.add_assoc _ _ _))⟩); have p116 : 0 ≤ ((ji10) : Int) := of_decide_eq_true (by first | (with_reducible assumption) | assumption); have q116 : (ji10) < (l0_2.length : Int) := of_decide_eq_true (by first | (with_reducible assumption) | assumption); obtain ⟨ad116, e116, hx116_0⟩ := Kd.qGA HR0_2.out (ji10) p116 q116; cases e116; replace hx116_0 := (HB.out.cell (World.block_lt_of_cell? w _ hx116_0)).trans hx116_0; replace p116 := eq_true p116; replace q116 := eq_true q116)); try go_wp2_with (first | ((with_reducible refine qX (N := 3) rfl ?_); refine qW ?hg (N := 3) ?hd (cs := #[.int .i64 a0_0, .int .i64 a0_1, .slice A0_2 l0_2.length c0_2]) (t := 45) ?hr ?_; (case hd => rfl); (case hg => rfl); (case hr => first | (go_simp; done) | (go_simp; rfl)); intro gb111 hg w14 hbox hb; have n0_ := Aside0.mk (qJ bl hb); have n1_ := Aside0.mk (hbox); have n2_ := Aside0.mk ((gg hg)); have n3_ := Aside0.mk ((gg hg)); clear HB; have HB := n0_; have BK111 := n1_; have GW111 := n2_; have GE111 := n3_; clear n0_ n1_ n2_ n3_; clear hb hbox hg; have hcz15_0 := bc BK111 0; have hcz15_1 := bc BK111 1; have hcz15_2 := bc BK111 2; have hfz15_0 := qA BK111.out 0; have hfz15_1 := qA BK111.out 1; have hfz15_2 := qA BK111.out 2) | (go_at_call 58; (with_reducible refine (qLA.calls (Int.tmod a1 a0_0) (wrap64 (Int.tdiv a1 a0_0)) a2 t112 t113 _ A5.out).mono ?_); rintro e w' ⟨rfl, ⟨nd, rfl⟩⟩; (try first | exact ⟨rfl, _, World.drewN_drewN _ _ _⟩ | exact ⟨rfl, _, Eq.trans (World.drewN_drewN _ _ _) (congrArg (World.drewN _) (Nat.add_assoc _ _ _))⟩)) | (go_at_call 59; (with_reducible refine (qAA.calls t112 0 (wrap64 (a0_0 - 1)) true _ A6.out).mono ?_); rintro e w' ⟨rfl, ⟨nd, rfl⟩⟩; (try first | exact ⟨rfl, _, World.drewN_drewN _ _ _⟩ | exact ⟨rfl, _, Eq.trans (World.drewN_drewN _ _ _) (congrArg (World.drewN _) (Nat.add_assoc _ _ _))⟩)) | (go_at_call 59; (with_reducible refine (qAA.calls t113 0 (wrap64 (a0_1 - 1)) true _ A8.out).mono ?_); rintro e w' ⟨rfl, ⟨nd, rfl⟩⟩; (try first | exact ⟨rfl, _, World.drewN_drewN _ _ _⟩ | exact ⟨rfl, _, Eq.trans (World.drewN_drewN _ _ _) (congrArg (World.drewN _) (Nat.add_assoc _ _ _))⟩); have p116 : 0 ≤ ((ji10) : Int) := of_decide_eq_true (by first | (with_reducible assumption) | assumption); have q116 : (ji10) < (l0_2.length : Int) := of_decide_eq_true (by first | (with_reducible assumption) | assumption); obtain ⟨ad116, e116, hx116_0⟩ := Kd.qGA HR0_2.out (ji10) p116 q116; cases e116; replace hx116_0 := (HB.out.cell (World.block_lt_of_cell? w _ hx116_0)).trans hx116_0; replace p116 := eq_true p116; replace q116 := eq_true q116)))
       go_ret
       exact ⟨by first | rfl | (simp [qN, qM] <;> rfl) | (simp only [← hji10]; first | rfl | (simp [qN, qM] <;> rfl)) | (simp [*, qN, qM] <;> rfl), bl⟩
      ·rw [if_neg c13] at H
       have c13b0 : ((rd l0_2 (ji10)) == 46) = false := beq_eq_false_iff_ne.mpr c13
       have c13b1 : ((rd l0_2 (ji10)) != 46) = true := bne_iff_ne.mpr c13
       obtain rfl := Option.some.inj H
       go_enter Tryd.func42, Tryd.ntmps42
       go_wp2_with (first | ((with_reducible refine qX (N := 3) rfl ?_); refine qW ?hg (N := 3) ?hd (cs := #[.int .i64 a0_0, .int .i64 a0_1, .slice A0_2 l0_2.length c0_2]) (t := 45) ?hr ?_; (case hd => rfl); (case hg => rfl); (case hr => first | (go_simp; done) | (go_simp; rfl)); intro gb111 hg w16 hbox hb; have n0_ := Aside0.mk (qJ bl hb); have n1_ := Aside0.mk (hbox); have n2_ := Aside0.mk ((gg hg)); have n3_ := Aside0.mk ((gg hg)); clear HB; have HB := n0_; have BK111 := n1_; have GW111 := n2_; have GE111 := n3_; clear n0_ n1_ n2_ n3_; clear hb hbox hg; have hcz17_0 := bc BK111 0; have hcz17_1 := bc BK111 1; have hcz17_2 := bc BK111 2; have hfz17_0 := qA BK111.out 0; have hfz17_1 := qA BK111.out 1; have hfz17_2 := qA BK111.out 2) | (go_at_call 58; (with_reducible refine (qLA.calls (Int.tmod a1 a0_0) (wrap64 (Int.tdiv a1 a0_0)) a2 t112 t113 _ A5.out).mono ?_); rintro e w' ⟨rfl, ⟨nd, rfl⟩⟩; (try first | exact ⟨rfl, _, World.drewN_drewN _ _ _⟩ | exact ⟨rfl, _, Eq.trans (World.drewN_drewN _ _ _) (congrArg (World.drewN _) (Nat.add_assoc _ _ _))⟩)) | (go_at_call 59; (with_reducible refine (qAA.calls t112 0 (wrap64 (a0_0 - 1)) true _ A6.out).mono ?_); rintro e w' ⟨rfl, ⟨nd, rfl⟩⟩; (try first | exact ⟨rfl, _, World.drewN_drewN _ _ _⟩ | exact ⟨rfl, _, Eq.trans (World.drewN_drewN _ _ _) (congrArg (World.drewN _) (Nat.add_assoc _ _ _))⟩)) | (go_at_call 59; (with_reducible refine (qAA.calls t113 0 (wrap64 (a0_1 - 1)) true _ A8.out).mono ?_); rintro e w' ⟨rfl, ⟨nd, rfl⟩⟩; (try first | exact ⟨rfl, _, World.drewN_drewN _ _ _⟩ | exact ⟨rfl, _, Eq.trans (World.drewN_drewN _ _ _) (congrArg (World.drewN _) (Nat.add_assoc _ _ _))⟩); have p116 : 0 ≤ ((ji10) : Int) := of_decide_eq_true (by first | (with_reducible assumption) | assumption); have q116 : (ji10) < (l0_2.length : Int) := of_decide_eq_true (by first | (with_reducible assumption) | assumption); obtain ⟨ad116, e116, hx116_0⟩ := Kd.qGA HR0_2.out (ji10) p116 q116; cases e116; replace hx116_0 := (HB.out.cell (World.block_lt_of_cell? w _ hx116_0)).trans hx116_0; replace p116 := eq_true p116; replace q116 := eq_true q116))
       repeat (go_quiet (first | ((with_reducible refine qX (N := 3) rfl ?_); refine qW ?hg (N := 3) ?hd (cs := #[.int .i64 a0_0, .int .i64 a0_1, .slice A0_2 l0_2.length c0_2]) (t := 45) ?hr ?_; (case hd => rfl); (case hg => rfl); (case hr => first | (go_simp; done) | (go_simp; rfl)); intro gb111 hg w16 hbox hb; have n0_ := Aside0.mk (qJ bl hb); have n1_ := Aside0.mk (hbox); have n2_ := Aside0.mk ((gg hg)); have n3_ := Aside0.mk ((gg hg)); clear HB; have HB := n0_; have BK111 := n1_; have GW111 := n2_; have GE111 := n3_; clear n0_ n1_ n2_ n3_; clear hb hbox hg; have hcz17_0 := bc BK111 0; have hcz17_1 := bc BK111 1; have hcz17_2 := bc BK111 2; have hfz17_0 := qA BK111.out 0; have hfz17_1 := qA BK111.out 1; have hfz17_2 := qA BK111.out 2) | (go_at_call 58; (with_reducible refine (qLA.calls (Int.tmod a1 a0_0) (wrap64 (Int.tdiv a1 a0_0)) a2 t112 t113 _ A5.out).mono ?_); rintro e w' ⟨rfl, ⟨nd, rfl⟩⟩; (try first | exact ⟨rfl, _, World.drewN_drewN _ _ _⟩ | exact ⟨rfl, _, Eq.trans (World.drewN_drewN _ _ _) (congrArg (World.drewN _) (Nat.add_assoc _ _ _))⟩)) | (go_at_call 59; (with_reducible refine (qAA.calls t112 0 (wrap64 (a0_0 - 1)) true _ A6.out).mono ?_); rintro e w' ⟨rfl, ⟨nd, rfl⟩⟩; (try first | exact ⟨rfl, _, World.drewN_drewN _ _ _⟩ | exact ⟨rfl, _, Eq.trans (World.drewN_drewN _ _ _) (congrArg (World.drewN _) (Nat.add_assoc _ _ _))⟩)) | (go_at_call 59; (with_reducible refine (qAA.calls t113 0 (wrap64 (a0_1 - 1)) true _ A8.out).mono ?_); rintro e w' ⟨rfl, ⟨nd, rfl⟩⟩; (try first | exact ⟨rfl, _, World.drewN_drewN _ _ _⟩ | exact ⟨rfl, _, Eq.trans (World.drewN_drewN _ _ _) (congrArg (World.drewN _) (Nat.add_assoc _ _ _))⟩); have p116 : 0 ≤ ((ji10) : Int) := of_decide_eq_true (by first | (with_reducible assumption) | assumption); have q116 : (ji10) < (l0_2.length : Int) := of_decide_eq_true (by first | (with_reducible assumption) | assumption); obtain ⟨ad116, e116, hx116_0⟩ := Kd.qGA HR0_2.out (ji10) p116 q116; cases e116; replace hx116_0 := (HB.out.cell (World.block_lt_of_cell? w _ hx116_0)).trans hx116_0; replace p116 := eq_true p116; replace q116 := eq_true q116)); try go_wp2_with (first | ((with_reducible refine qX (N := 3) rfl ?_); refine qW ?hg (N := 3) ?hd (cs := #[.int .i64 a0_0, .int .i64 a0_1, .slice A0_2 l0_2.length c0_2]) (t := 45) ?hr ?_; (case hd => rfl); (case hg => rfl); (case hr => first | (go_simp; done) | (go_simp; rfl)); intro gb111 hg w16 hbox hb; have n0_ := Aside0.mk (qJ bl hb); have n1_ := Aside0.mk (hbox); have n2_ := Aside0.mk ((gg hg)); have n3_ := Aside0.mk ((gg hg)); clear HB; have HB := n0_; have BK111 := n1_; have GW111 := n2_; have GE111 := n3_; clear n0_ n1_ n2_ n3_; clear hb hbox hg; have hcz17_0 := bc BK111 0; have hcz17_1 := bc BK111 1; have hcz17_2 := bc BK111 2; have hfz17_0 := qA BK111.out 0; have hfz17_1 := qA BK111.out 1; have hfz17_2 := qA BK111.out 2) | (go_at_call 58; (with_reducible refine (qLA.calls (Int.tmod a1 a0_0) (wrap64 (Int.tdiv a1 a0_0)) a2 t112 t113 _ A5.out).mono ?_); rintro e w' ⟨rfl, ⟨nd, rfl⟩⟩; (try first | exact ⟨rfl, _, World.drewN_drewN _ _ _⟩ | exact ⟨rfl, _, Eq.trans (World.drewN_drewN _ _ _) (congrArg (World.drewN _) (Nat.add_assoc _ _ _))⟩)) | (go_at_call 59; (with_reducible refine (qAA.calls t112 0 (wrap64 (a0_0 - 1)) true _ A6.out).mono ?_); rintro e w' ⟨rfl, ⟨nd, rfl⟩⟩; (try first | exact ⟨rfl, _, World.drewN_drewN _ _ _⟩ | exact ⟨rfl, _, Eq.trans (World.drewN_drewN _ _ _) (congrArg (World.drewN _) (Nat.add_assoc _ _ _))⟩)) | (go_at_call 59; (with_reducible refine (qAA.calls t113 0 (wrap64 (a0_1 - 1)) true _ A8.out).mono ?_); rintro e w' ⟨rfl, ⟨nd, rfl⟩⟩; (try first | exact ⟨rfl, _, World.drewN_drewN _ _ _⟩ | exact ⟨rfl, _, Eq.trans (World.drewN_drewN _ _ _) (congrArg (World.drewN _) (Nat.add_assoc _ _ _))⟩); have p116 : 0 ≤ ((ji10) : Int) := of_decide_eq_true (by first | (with_reducible assumption) | assumption); have q116 : (ji10) < (l0_2.length : Int) := of_decide_eq_true (by first | (with_reducible assumption) | assumption); obtain ⟨ad116, e116, hx116_0⟩ := Kd.qGA HR0_2.out (ji10) p116 q116; cases e116; replace hx116_0 := (HB.out.cell (World.block_lt_of_cell? w _ hx116_0)).trans hx116_0; replace p116 := eq_true p116; replace q116 := eq_true q116)))
       go_ret
       exact ⟨by first | rfl | (simp [qN, qM] <;> rfl) | (simp only [← hji10]; first | rfl | (simp [qN, qM] <;> rfl)) | (simp [*, qN, qM] <;> rfl), bl⟩
     ·rw [if_neg c12] at H
      exact absurd H (by simp)
    ·rw [if_neg c11] at H
     exact absurd H (by simp)
   ·replace c9 := Bool.eq_false_iff.mpr c9
    subst c9
    have H1 : (some (-1)) = some r := by rw [if_neg (show ¬ (false = true) by decide)] at H; exact H
    clear H
    have H := H1
    clear H1
    obtain rfl := Option.some.inj H
    go_enter Tryd.func42, Tryd.ntmps42
    go_wp2_with (first | ((with_reducible refine qX (N := 3) rfl ?_); refine qW ?hg (N := 3) ?hd (cs := #[.int .i64 a0_0, .int .i64 a0_1, .slice A0_2 l0_2.length c0_2]) (t := 45) ?hr ?_; (case hd => rfl); (case hg => rfl); (case hr => first | (go_simp; done) | (go_simp; rfl)); intro gb111 hg w18 hbox hb; have n0_ := Aside0.mk (qJ bl hb); have n1_ := Aside0.mk (hbox); have n2_ := Aside0.mk ((gg hg)); have n3_ := Aside0.mk ((gg hg)); clear HB; have HB := n0_; have BK111 := n1_; have GW111 := n2_; have GE111 := n3_; clear n0_ n1_ n2_ n3_; clear hb hbox hg; have hcz19_0 := bc BK111 0; have hcz19_1 := bc BK111 1; have hcz19_2 := bc BK111 2; have hfz19_0 := qA BK111.out 0; have hfz19_1 := qA BK111.out 1; have hfz19_2 := qA BK111.out 2) | (go_at_call 58; (with_reducible refine (qLA.calls (Int.tmod a1 a0_0) (wrap64 (Int.tdiv a1 a0_0)) a2 t112 t113 _ A5.out).mono ?_); rintro e w' ⟨rfl, ⟨nd, rfl⟩⟩; (try first | exact ⟨rfl, _, World.drewN_drewN _ _ _⟩ | exact ⟨rfl, _, Eq.trans (World.drewN_drewN _ _ _) (congrArg (World.drewN _) (Nat.add_assoc _ _ _))⟩)) | (go_at_call 59; (with_reducible refine (qAA.calls t112 0 (wrap64 (a0_0 - 1)) true _ A6.out).mono ?_); rintro e w' ⟨rfl, ⟨nd, rfl⟩⟩; (try first | exact ⟨rfl, _, World.drewN_drewN _ _ _⟩ | exact ⟨rfl, _, Eq.trans (World.drewN_drewN _ _ _) (congrArg (World.drewN _) (Nat.add_assoc _ _ _))⟩)) | (go_at_call 59; (with_reducible refine (qAA.calls t113 0 (wrap64 (a0_1 - 1)) false _ A8.out).mono ?_); rintro e w' ⟨rfl, ⟨nd, rfl⟩⟩; (try first | exact ⟨rfl, _, World.drewN_drewN _ _ _⟩ | exact ⟨rfl, _, Eq.trans (World.drewN_drewN _ _ _) (congrArg (World.drewN _) (Nat.add_assoc _ _ _))⟩)))
    repeat (go_quiet (first | ((with_reducible refine qX (N := 3) rfl ?_); refine qW ?hg (N := 3) ?hd (cs := #[.int .i64 a0_0, .int .i64 a0_1, .slice A0_2 l0_2.length c0_2]) (t := 45) ?hr ?_; (case hd => rfl); (case hg => rfl); (case hr => first | (go_simp; done) | (go_simp; rfl)); intro gb111 hg w18 hbox hb; have n0_ := Aside0.mk (qJ bl hb); have n1_ := Aside0.mk (hbox); have n2_ := Aside0.mk ((gg hg)); have n3_ := Aside0.mk ((gg hg)); clear HB; have HB := n0_; have BK111 := n1_; have GW111 := n2_; have GE111 := n3_; clear n0_ n1_ n2_ n3_; clear hb hbox hg; have hcz19_0 := bc BK111 0; have hcz19_1 := bc BK111 1; have hcz19_2 := bc BK111 2; have hfz19_0 := qA BK111.out 0; have hfz19_1 := qA BK111.out 1; have hfz19_2 := qA BK111.out 2) | (go_at_call 58; (with_reducible refine (qLA.calls (Int.tmod a1 a0_0) (wrap64 (Int.tdiv a1 a0_0)) a2 t112 t113 _ A5.out).mono ?_); rintro e w' ⟨rfl, ⟨nd, rfl⟩⟩; (try first | exact ⟨rfl, _, World.drewN_drewN _ _ _⟩ | exact ⟨rfl, _, Eq.trans (World.drewN_drewN _ _ _) (congrArg (World.drewN _) (Nat.add_assoc _ _ _))⟩)) | (go_at_call 59; (with_reducible refine (qAA.calls t112 0 (wrap64 (a0_0 - 1)) true _ A6.out).mono ?_); rintro e w' ⟨rfl, ⟨nd, rfl⟩⟩; (try first | exact ⟨rfl, _, World.drewN_drewN _ _ _⟩ | exact ⟨rfl, _, Eq.trans (World.drewN_drewN _ _ _) (congrArg (World.drewN _) (Nat.add_assoc _ _ _))⟩)) | (go_at_call 59; (with_reducible refine (qAA.calls t113 0 (wrap64 (a0_1 - 1)) false _ A8.out).mono ?_); rintro e w' ⟨rfl, ⟨nd, rfl⟩⟩; (try first | exact ⟨rfl, _, World.drewN_drewN _ _ _⟩ | exact ⟨rfl, _, Eq.trans (World.drewN_drewN _ _ _) (congrArg (World.drewN _) (Nat.add_assoc _ _ _))⟩))); try go_wp2_with (first | ((with_reducible refine qX (N := 3) rfl ?_); refine qW ?hg (N := 3) ?hd (cs := #[.int .i64 a0_0, .int .i64 a0_1, .slice A0_2 l0_2.length c0_2]) (t := 45) ?hr ?_; (case hd => rfl); (case hg => rfl); (case hr => first | (go_simp; done) | (go_simp; rfl)); intro gb111 hg w18 hbox hb; have n0_ := Aside0.mk (qJ bl hb); have n1_ := Aside0.mk (hbox); have n2_ := Aside0.mk ((gg hg)); have n3_ := Aside0.mk ((gg hg)); clear HB; have HB := n0_; have BK111 := n1_; have GW111 := n2_; have GE111 := n3_; clear n0_ n1_ n2_ n3_; clear hb hbox hg; have hcz19_0 := bc BK111 0; have hcz19_1 := bc BK111 1; have hcz19_2 := bc BK111 2; have hfz19_0 := qA BK111.out 0; have hfz19_1 := qA BK111.out 1; have hfz19_2 := qA BK111.out 2) | (go_at_call 58; (with_reducible refine (qLA.calls (Int.tmod a1 a0_0) (wrap64 (Int.tdiv a1 a0_0)) a2 t112 t113 _ A5.out).mono ?_); rintro e w' ⟨rfl, ⟨nd, rfl⟩⟩; (try first | exact ⟨rfl, _, World.drewN_drewN _ _ _⟩ | exact ⟨rfl, _, Eq.trans (World.drewN_drewN _ _ _) (congrArg (World.drewN _) (Nat.add_assoc _ _ _))⟩)) | (go_at_call 59; (with_reducible refine (qAA.calls t112 0 (wrap64 (a0_0 - 1)) true _ A6.out).mono ?_); rintro e w' ⟨rfl, ⟨nd, rfl⟩⟩; (try first | exact ⟨rfl, _, World.drewN_drewN _ _ _⟩ | exact ⟨rfl, _, Eq.trans (World.drewN_drewN _ _ _) (congrArg (World.drewN _) (Nat.add_assoc _ _ _))⟩)) | (go_at_call 59; (with_reducible refine (qAA.calls t113 0 (wrap64 (a0_1 - 1)) false _ A8.out).mono ?_); rintro e w' ⟨rfl, ⟨nd, rfl⟩⟩; (try first | exact ⟨rfl, _, World.drewN_drewN _ _ _⟩ | exact ⟨rfl, _, Eq.trans (World.drewN_drewN _ _ _) (congrArg (World.drewN _) (Nat.add_assoc _ _ _))⟩))))
    go_ret
    exact ⟨by first | rfl | (simp [qN, qM] <;> rfl) | (simp [*, qN, qM] <;> rfl), bl⟩
  ·replace c7 := Bool.eq_false_iff.mpr c7
   subst c7
   have H1 : (some (-1)) = some r := by rw [if_neg (show ¬ (false = true) by decide)] at H; exact H
   clear H
   have H := H1
   clear H1
   obtain rfl := Option.some.inj H
   go_enter Tryd.func42, Tryd.ntmps42
   go_wp2_with (first | ((with_reducible refine qX (N := 3) rfl ?_); refine qW ?hg (N := 3) ?hd (cs := #[.int .i64 a0_0, .int .i64 a0_1, .slice A0_2 l0_2.length c0_2]) (t := 45) ?hr ?_; (case hd => rfl); (case hg => rfl); (case hr => first | (go_simp; done) | (go_simp; rfl)); intro gb111 hg w20 hbox hb; have n0_ := Aside0.mk (qJ bl hb); have n1_ := Aside0.mk (hbox); have n2_ := Aside0.mk ((gg hg)); have n3_ := Aside0.mk ((gg hg)); clear HB; have HB := n0_; have BK111 := n1_; have GW111 := n2_; have GE111 := n3_; clear n0_ n1_ n2_ n3_; clear hb hbox hg; have hcz21_0 := bc BK111 0; have hcz21_1 := bc BK111 1; have hcz21_2 := bc BK111 2; have hfz21_0 := qA BK111.out 0; have hfz21_1 := qA BK111.out 1; have hfz21_2 := qA BK111.out 2) | (go_at_call 58; (with_reducible refine (qLA.calls (Int.tmod a1 a0_0) (wrap64 (Int.tdiv a1 a0_0)) a2 t112 t113 _ A5.out).mono ?_); rintro e w' ⟨rfl, ⟨nd, rfl⟩⟩; (try first | exact ⟨rfl, _, World.drewN_drewN _ _ _⟩ | exact ⟨rfl, _, Eq.trans (World.drewN_drewN _ _ _) (congrArg (World.drewN _) (Nat.add_assoc _ _ _))⟩)) | (go_at_call 59; (with_reducible refine (qAA.calls t112 0 (wrap64 (a0_0 - 1)) false _ A6.out).mono ?_); rintro e w' ⟨rfl, ⟨nd, rfl⟩⟩; (try first | exact ⟨rfl, _, World.drewN_drewN _ _ _⟩ | exact ⟨rfl, _, Eq.trans (World.drewN_drewN _ _ _) (congrArg (World.drewN _) (Nat.add_assoc _ _ _))⟩)))
   repeat (go_quiet (first | ((with_reducible refine qX (N := 3) rfl ?_); refine qW ?hg (N := 3) ?hd (cs := #[.int .i64 a0_0, .int .i64 a0_1, .slice A0_2 l0_2.length c0_2]) (t := 45) ?hr ?_; (case hd => rfl); (case hg => rfl); (case hr => first | (go_simp; done) | (go_simp; rfl)); intro gb111 hg w20 hbox hb; have n0_ := Aside0.mk (qJ bl hb); have n1_ := Aside0.mk (hbox); have n2_ := Aside0.mk ((gg hg)); have n3_ := Aside0.mk ((gg hg)); clear HB; have HB := n0_; have BK111 := n1_; have GW111 := n2_; have GE111 := n3_; clear n0_ n1_ n2_ n3_; clear hb hbox hg; have hcz21_0 := bc BK111 0; have hcz21_1 := bc BK111 1; have hcz21_2 := bc BK111 2; have hfz21_0 := qA BK111.out 0; have hfz21_1 := qA BK111.out 1; have hfz21_2 := qA BK111.out 2) | (go_at_call 58; (with_reducible refine (qLA.calls (Int.tmod a1 a0_0) (wrap64 (Int.tdiv a1 a0_0)) a2 t112 t113 _ A5.out).mono ?_); rintro e w' ⟨rfl, ⟨nd, rfl⟩⟩; (try first | exact ⟨rfl, _, World.drewN_drewN _ _ _⟩ | exact ⟨rfl, _, Eq.trans (World.drewN_drewN _ _ _) (congrArg (World.drewN _) (Nat.add_assoc _ _ _))⟩)) | (go_at_call 59; (with_reducible refine (qAA.calls t112 0 (wrap64 (a0_0 - 1)) false _ A6.out).mono ?_); rintro e w' ⟨rfl, ⟨nd, rfl⟩⟩; (try first | exact ⟨rfl, _, World.drewN_drewN _ _ _⟩ | exact ⟨rfl, _, Eq.trans (World.drewN_drewN _ _ _) (congrArg (World.drewN _) (Nat.add_assoc _ _ _))⟩))); try go_wp2_with (first | ((with_reducible refine qX (N := 3) rfl ?_); refine qW ?hg (N := 3) ?hd (cs := #[.int .i64 a0_0, .int .i64 a0_1, .slice A0_2 l0_2.length c0_2]) (t := 45) ?hr ?_; (case hd => rfl); (case hg => rfl); (case hr => first | (go_simp; done) | (go_simp; rfl)); intro gb111 hg w20 hbox hb; have n0_ := Aside0.mk (qJ bl hb); have n1_ := Aside0.mk (hbox); have n2_ := Aside0.mk ((gg hg)); have n3_ := Aside0.mk ((gg hg)); clear HB; have HB := n0_; have BK111 := n1_; have GW111 := n2_; have GE111 := n3_; clear n0_ n1_ n2_ n3_; clear hb hbox hg; have hcz21_0 := bc BK111 0; have hcz21_1 := bc BK111 1; have hcz21_2 := bc BK111 2; have hfz21_0 := qA BK111.out 0; have hfz21_1 := qA BK111.out 1; have hfz21_2 := qA BK111.out 2) | (go_at_call 58; (with_reducible refine (qLA.calls (Int.tmod a1 a0_0) (wrap64 (Int.tdiv a1 a0_0)) a2 t112 t113 _ A5.out).mono ?_); rintro e w' ⟨rfl, ⟨nd, rfl⟩⟩; (try first | exact ⟨rfl, _, World.drewN_drewN _ _ _⟩ | exact ⟨rfl, _, Eq.trans (World.drewN_drewN _ _ _) (congrArg (World.drewN _) (Nat.add_assoc _ _ _))⟩)) | (go_at_call 59; (with_reducible refine (qAA.calls t112 0 (wrap64 (a0_0 - 1)) false _ A6.out).mono ?_); rintro e w' ⟨rfl, ⟨nd, rfl⟩⟩; (try first | exact ⟨rfl, _, World.drewN_drewN _ _ _⟩ | exact ⟨rfl, _, Eq.trans (World.drewN_drewN _ _ _) (congrArg (World.drewN _) (Nat.add_assoc _ _ _))⟩))))
   go_ret
   exact ⟨by first | rfl | (simp [qN, qM] <;> rfl) | (simp [*, qN, qM] <;> rfl), bl⟩
mutual
def qV.l0 : Nat → List Int → Int → Int → Int → Int → List Int → Option (List Int)
 | 0, _, _, _, _, _, _ => none
 | k + 1, x13, x15, x16, x118000, x118001, x118002 => if x16 < x15 then (if 0 ≤ x16 then (if x16 < (x13.length : Int) then (qV.l0 k (x13.set (x16 : Int).toNat (-1)) x15 (wrap64 (x16 + 1)) x118000 x118001 x118002) else (none)) else (none)) else ((qg.f k x118000 x118001 x118002).bind fun t122 => (if (t122.length : Int) = 0 then (some x13) else (if 0 < (t122.length : Int) then (if 0 ≤ (rd t122 0) then (if (rd t122 0) < (x13.length : Int) then (qV.l1 k (([rd t122 0] : List Int)) 0 (x13.set ((rd t122 0) : Int).toNat 0) x118000 x118001 x118002) else (none)) else (none)) else (none))))
def qV.l1 : Nat → List Int → Int → List Int → Int → Int → List Int → Option (List Int)
 | 0, _, _, _, _, _, _ => none
 | k + 1, x6, x7, x13, x118000, x118001, x118002 => if x7 < (x6.length : Int) then (qV.l2 k x6 x7 0 x13 x118000 x118001 x118002) else (some x13)
def qV.l2 : Nat → List Int → Int → Int → List Int → Int → Int → List Int → Option (List Int)
 | 0, _, _, _, _, _, _, _ => none
 | k + 1, x6, x7, x8, x13, x118000, x118001, x118002 => if x8 < 4 then (if 0 ≤ x7 then (if x7 < (x6.length : Int) then ((qgA.f x118000 x118001 x118002 (rd x6 x7) x8).bind fun t132 => (if t132 ≥ 0 then (if 0 ≤ t132 then (if t132 < (x13.length : Int) then (if (rd x13 t132) < 0 then (if 0 ≤ (rd x6 x7) then (if (rd x6 x7) < (x13.length : Int) then (if x6.length < 17592186044416 then (qV.l2 k (x6 ++ [t132]) x7 (wrap64 (x8 + 1)) (x13.set (t132 : Int).toNat (wrap64 ((rd x13 (rd x6 x7)) + 1))) x118000 x118001 x118002) else (none)) else (none)) else (none)) else (qV.l2 k x6 x7 (wrap64 (x8 + 1)) x13 x118000 x118001 x118002)) else (none)) else (none)) else (qV.l2 k x6 x7 (wrap64 (x8 + 1)) x13 x118000 x118001 x118002))) else (none)) else (none)) else (qV.l1 k x6 (wrap64 (x7 + 1)) x13 x118000 x118001 x118002)
end
def qV.f (k : Nat) (a0_0 : Int) (a0_1 : Int) (l0_2 : List Int) : Option (List Int) := if 0 ≤ (l0_2.length : Int) then (if ((l0_2.length : Int) : Int).toNat ≤ 35184372088832 then ((some (List.replicate ((l0_2.length : Int) : Int).toNat 0 : List Int)).bind fun y118 => (qV.l0 k y118 (y118.length : Int) 0 a0_0 a0_1 l0_2)) else (none)) else (none)
def qV.T18 : Bool × List (List Nat × List Nat) := (true, [([], []), ([], []), ([], []), ([1, 2], [1, 2]), ([3], [3]), ([], []), ([0, 4, 5], [0, 4, 5]), ([6, 6, 0, 1, 2, 3, 4, 5, 6], [6])])
def qV.B18 : List Nat := [0, 0, 0, 6, 14, 0, 63, 127]
theorem qV.tab18 : rtab .any (opsOf Tryd.f39 18) = qV.T18 := by kernel_rfl
theorem qV.bits18 : waitsOk qV.T18.2 qV.B18 = true := by kernel_rfl
set_option maxHeartbeats 8000000 in
set_option maxRecDepth 100000 in
theorem qV.calls (k : Nat) (a0_0 : Int) (a0_1 : Int) (A0_2 : Option Addr) (c0_2 : Nat) (l0_2 : List Int) (r : List Int) (w : World) (hr0_2 : Kd.C (Kd.int .u8) w A0_2 l0_2.length l0_2) (hc0_2 : l0_2.length ≤ c0_2) (h : qV.f k a0_0 a0_1 l0_2 = some r) :
  Calls Tryd.prog 39 #[.agg #[.int .i64 a0_0, .int .i64 a0_1, .slice A0_2 l0_2.length c0_2]] w fun e w' => ∃ v0_ : Value, e = .returned (v0_) ∧ Kd.R (Kd.int .i64) 3 w' w.heap.size (fun _ => True) v0_ r ∧ Below w.heap.size w w' := by
 have hu45 := Tryd.underlying45
 have HR0_2 := Aside0.mk hr0_2
 have HC0_2 := Aside0.mk hc0_2
 clear hr0_2 hc0_2
 have HB := Aside0.mk (Below.refl w.heap.size w)
 have H : (if 0 ≤ (l0_2.length : Int) then (if ((l0_2.length : Int) : Int).toNat ≤ 35184372088832 then ((some (List.replicate ((l0_2.length : Int) : Int).toNat 0 : List Int)).bind fun y118 => (qV.l0 k y118 (y118.length : Int) 0 a0_0 a0_1 l0_2)) else (none)) else (none)) = some r := h
 clear h
 by_cases c2 : 0 ≤ (l0_2.length : Int)
 ·rw [if_pos c2] at H
  have c2b0 := eq_true c2
  have c2b1 : decide (0 ≤ (l0_2.length : Int)) = true := decide_eq_true c2
  clear c2
  by_cases c3 : ((l0_2.length : Int) : Int).toNat ≤ 35184372088832
  ·rw [if_pos c3] at H
   have c3b0 := eq_true c3
   have c3b1 : decide (((l0_2.length : Int) : Int).toNat ≤ 35184372088832) = true := decide_eq_true c3
   clear c3
   obtain ⟨y118, hy118⟩ : ∃ y_ : List Int, y_ = (List.replicate ((l0_2.length : Int) : Int).toNat 0) := ⟨_, rfl⟩
   replace H : (qV.l0 k y118 (y118.length : Int) 0 a0_0 a0_1 l0_2) = some r := by first | (rw [hy118]; with_reducible exact H) | (have H2_ := (Option.bind_some _ _).symm.trans H; rw [hy118]; with_reducible exact H2_) | (have H2_ := (Option.bind_some _ _).symm.trans H; with_reducible exact H2_) | with_reducible exact H | (rw [hy118]; exact H) | exact H
   have Ny118 := Aside0.mk hy118
   clear hy118
   have H' := Aside0.mk H
   clear H
   go_enter Tryd.func39, Tryd.ntmps39
   go_wp2_with (first | ((with_reducible refine qX (N := 1) rfl ?_); refine qW ?hg (N := 1) ?hd (cs := #[.int .i64 a0_0, .int .i64 a0_1, .slice A0_2 l0_2.length c0_2]) (t := 45) ?hr ?_; (case hd => rfl); (case hg => rfl); (case hr => first | (go_simp; done) | (go_simp; rfl)); intro gb117 hg w4 hbox hb; have n0_ := Aside0.mk (qJ bl hb); have n1_ := Aside0.mk (hbox); have n2_ := Aside0.mk ((gg hg)); have n3_ := Aside0.mk ((gg hg)); clear HB; have HB := n0_; have BK117 := n1_; have GW117 := n2_; have GE117 := n3_; clear n0_ n1_ n2_ n3_; clear hb hbox hg; have hcz5_0 := bc BK117 0; have hcz5_1 := bc BK117 1; have hcz5_2 := bc BK117 2; have hfz5_0 := qA BK117.out 0; have hfz5_1 := qA BK117.out 1; have hfz5_2 := qA BK117.out 2) | ((with_reducible refine qX (N := 13) rfl ?_); refine Kd.qBD (Kd.int .i64) _ 3 rfl (N := 13) rfl 25 _ _ rfl (l0_2.length : Int) rfl rfl Tryd.underlying25 (.int .i64 0) 8 info3 rfl (by decide) (by omega) 0 (ok := fun _ => True) (okp := fun _ => True) rfl (fun _ hk => hk) trivial (of_decide_eq_true (by first | (with_reducible assumption) | assumption)) (Nat.le_trans (Nat.mul_le_mul_right _ (of_decide_eq_true (by first | (with_reducible assumption) | assumption) : (l0_2.length : Int).toNat ≤ 35184372088832)) (by omega)) (Below.refl _ _) (Nat.le_refl _) ?_; intro v119 w6 ho7 hb hg_ hnew_; clear hg_ hnew_; (first | rw [← Ny118.out] at ho7 | (simp only [Int.reduceToNat] at ho7; rw [← Ny118.out] at ho7)); have n0_ := Aside0.mk (Kd.qEA ho7 (qb bl)); have n1_ := Aside0.mk (bb BK117 hb); have n2_ := Aside0.mk (qJ bl hb); clear BK117; clear HB; have HO120 := n0_; have BK117 := n1_; have HB := n2_; clear n0_ n1_ n2_; clear hb ho7; obtain ⟨Ao8, co8, eo8⟩ := Kd.qr HO120.out; subst eo8))
   go_loopg [16] k (fun kq v16 w' => ∃ (x13_1 : List Int) (x16_1 : Int), v16 = .int .i64 x16_1 ∧ Aside0 (qV.l0 kq x13_1 (y118.length : Int) x16_1 a0_0 a0_1 l0_2 = some r) ∧ Aside0 (kq ≤ k) ∧ Aside0 (Kd.R (Kd.int .i64) 3 w' w.heap.size (fun _ => True) (.slice Ao8 y118.length co8) x13_1) ∧ Aside0 (w'.heap[gb117]? = some (.cells #[.int .i64 a0_0, .int .i64 a0_1, (.slice A0_2 l0_2.length c0_2)] 45 (0, 0))) ∧ Aside0 (Below w.heap.size w w'))
   case atStart => exact ⟨(y118), (0), (by first | rfl | (simp; done) | (simp [*]; done)), H', ⟨Nat.le_refl _⟩, ⟨by (with_reducible repeat (first | apply Kd.qF | apply Kd.qG | apply Kd.qH)); exact HO120.out⟩, ⟨by (with_reducible repeat (first | refine qD ?_ _ | refine qE ?_ | refine qC ?_ _)); exact BK117.out⟩, ⟨bl⟩⟩
   case round =>
    clear H'
    try clear c2
    try clear c2b0
    try clear c2b1
    try clear p2
    try clear c3
    try clear c3b0
    try clear c3b1
    try clear hcz5_0
    try clear hcz5_1
    try clear hcz5_2
    try clear hfz5_0
    try clear hfz5_1
    try clear hfz5_2
    obtain ⟨x13_1, x16_1, rfl, HA, HK1, HO_13, BK117, HB⟩ := hrel
    have hl13_1 := (Kd.qS HO_13.out).1
    rw [hl13_1] at HO_13
    (try simp only [hl13_1])
    (try simp only [hl13_1] at BK117)
    cases gk with
    | zero => exact absurd HA.out (by simp [qV.l0])
    | succ k1 =>
     have H := HA.out
     clear HA
     simp only [qV.l0] at H
     by_cases c9 : x16_1 < (y118.length : Int)
     ·rw [if_pos c9] at H
      have c9b0 : decide (x16_1 < (y118.length : Int)) = true := decide_eq_true c9
      (try (have c9b0_hl13_1 := c9b0; simp only [hl13_1] at c9b0_hl13_1))
      clear c9
      by_cases c10 : 0 ≤ x16_1
      ·rw [if_pos c10] at H
       have c10b0 : decide (0 ≤ x16_1) = true := decide_eq_true c10
       clear c10
       by_cases c11 : x16_1 < (x13_1.length : Int)
       ·rw [if_pos c11] at H
        have c11b0 : decide (x16_1 < (x13_1.length : Int)) = true := decide_eq_true c11
        (try (have c11b0_hl13_1 := c11b0; simp only [hl13_1] at c11b0_hl13_1))
        clear c11
        obtain ⟨y121, hy121⟩ : ∃ y_ : List Int, y_ = (x13_1.set (x16_1 : Int).toNat (-1)) := ⟨_, rfl⟩
        replace H : (qV.l0 k1 y121 (y118.length : Int) (wrap64 (x16_1 + 1)) a0_0 a0_1 l0_2) = some r := by first | (rw [hy121]; with_reducible exact H) | (have H2_ := (Option.bind_some _ _).symm.trans H; rw [hy121]; with_reducible exact H2_) | (have H2_ := (Option.bind_some _ _).symm.trans H; with_reducible exact H2_) | with_reducible exact H | (rw [hy121]; exact H) | exact H
        have Ny121 := Aside0.mk hy121
        clear hy121
        have H' := Aside0.mk H
        clear H
        have p12 : 0 ≤ (x16_1 : Int) := of_decide_eq_true (by first | (with_reducible assumption) | assumption)
        have q12 : (x16_1 : Int) < ((x13_1.length : Int) : Int) := of_decide_eq_true (by first | (with_reducible assumption) | assumption)
        obtain ⟨go12, co12, eo12, gb12, gl12, cl12, HG12⟩ := Kd.qtB HO_13.out (by omega)
        (first | cases eo12 | (injection eo12 with ea_ en_ ec_; (first | subst ea_ | (injection ea_ with ea_; subst ea_)); subst ec_; clear en_))
        have GB12 := Aside0.mk gb12
        have GG12 := Aside0.mk HG12
        clear gb12 gl12 HG12
        obtain ⟨hx12_0, hf12_0⟩ := Kd.quA 0 HO_13.out (x16_1 : Int) p12 q12
        replace p12 := eq_true p12
        replace q12 := eq_true q12
        have HP13 := Kd.qsB HO_13.out (x16_1 : Int) (-1)
        go_wp2_with (first | ((with_reducible refine qiA (t := 3) (p := 21) rfl ?_); refine qcA (t := 3) (p := 21) (v := ?vo_w14) (w1 := (wr.setCell ⟨go12, (x16_1 : Int).toNat, none⟩ (.int .i64 (-1)))) ?hg ?ho ?hn ?hr ?_; (case ho => rfl); (case hg => rfl); (case hn => rfl); (case hr => first | (go_simp; done) | (go_simp; rfl)); intro w14 hw; have hg : wr.grownBy w14 (some go12) := (by rw [hw]; exact HP13.2); have hp_ : Kd.R (Kd.int .i64) 3 w14 w.heap.size (fun _ => True) (.slice (some ⟨go12, 0, none⟩) x13_1.length co8) y121 := (by rw [hw, Ny121.out]; exact HP13.1); clear HP13; have n0_ := Aside0.mk (hp_); have n1_ := Aside0.mk (qfA (g := gb117) (o := .cells #[.int .i64 a0_0, .int .i64 a0_1, .slice A0_2 l0_2.length c0_2] 45 (0, 0)) (by (with_reducible repeat (first | refine qD ?_ _ | refine qE ?_ | refine qC ?_ _)); exact BK117.out) hg (Kd.R_ne HO_13.out BK117.out (by decide))); have n2_ := Aside0.mk ((by rw [hw]; exact ql (HB.out) GB12.out : Below w.heap.size w w14)); clear HO_13; clear BK117; clear HB; have HO_13 := n0_; have BK117 := n1_; have HB := n2_; clear n0_ n1_ n2_; clear hg hw hp_))
        (try simp only [← hl13_1])
        go_roundg k1
        case measure => have := HK1.out; omega
        case rel => exact ⟨(y121), (wrap64 (x16_1 + 1)), (by first | rfl | (simp; done) | (simp [*]; done)), H', ⟨by have := HK1.out; omega⟩, ⟨by (try simp only [hl13_1]); (with_reducible repeat (first | apply Kd.qF | apply Kd.qG | apply Kd.qH)); exact HO_13.out⟩, ⟨by (try simp only [hl13_1]); (with_reducible repeat (first | refine qD ?_ _ | refine qE ?_ | refine qC ?_ _)); exact BK117.out⟩, ⟨bl⟩⟩
       ·rw [if_neg c11] at H
        exact absurd H (by simp)
      ·rw [if_neg c10] at H
       exact absurd H (by simp)
     ·rw [if_neg c9] at H
      have c9b0 : decide (x16_1 < (y118.length : Int)) = false := decide_eq_false c9
      (try (have c9b0_hl13_1 := c9b0; simp only [hl13_1] at c9b0_hl13_1))
      clear c9
      replace H := Option.bind_eq_some_iff.mp H
      obtain ⟨t122, A150, H⟩ := H
      replace H : (if (t122.length : Int) = 0 then (some x13_1) else (if 0 < (t122.length : Int) then (if 0 ≤ (rd t122 0) then (if (rd t122 0) < (x13_1.length : Int) then (qV.l1 k1 (([rd t122 0] : List Int)) 0 (x13_1.set ((rd t122 0) : Int).toNat 0) a0_0 a0_1 l0_2) else (none)) else (none)) else (none))) = some r := H
      have A15 := Aside0.mk A150
      clear A150
      by_cases c16 : (t122.length : Int) = 0
      ·rw [if_pos c16] at H
       have c16b0 : ((t122.length : Int) == 0) = true := beq_iff_eq.mpr c16
       have c16b1 : ((t122.length : Int) != 0) = false := bne_eq_false_iff_eq.mpr c16
       clear c16
       obtain rfl := Option.some.inj H
       have hcz17_0 := bc BK117 0
       have hcz17_1 := bc BK117 1
       have hcz17_2 := bc BK117 2
       have hfz17_0 := qA BK117.out 0
       have hfz17_1 := qA BK117.out 1
       have hfz17_2 := qA BK117.out 2
       go_wp2_with (first | ((with_reducible refine qa (f := 36) rfl ?_); refine qQA (some 24) rfl rfl Tryd.func36 (by kernel_rfl) rfl #[.agg #[.int .i64 a0_0, .int .i64 a0_1, .slice A0_2 l0_2.length c0_2]] rfl (by (try simp only [List.map_toArray, List.map_cons, List.map_nil]); first | done | rfl | (simp only [List.length_drop, List.length_take]; rfl)) ?_; (with_reducible refine (qg.calls k1 a0_0 a0_1 _ _ l0_2 t122 _ ?side1 ?side2 A15.out).mono ?_); (case side1 => repeat (first | exact (Kd.qyA HR0_2.out HB.out) | (with_reducible refine Kd.qZA ?_ _) | (with_reducible refine Kd.qYA ?_ _) | (with_reducible refine Kd.qpA ?_))); (case side2 => exact HC0_2.out); rintro e w18 ⟨v123, rfl, ho0, hb⟩; refine ⟨_, rfl, ?_⟩; have n0_ := Aside0.mk (Kd.qmA (by (with_reducible repeat (first | apply Kd.qF | apply Kd.qG | apply Kd.qH)); exact HO_13.out) (Kd.qLB ho0) hb); have n1_ := Aside0.mk (Kd.qEA (Kd.qKB ho0 (Kd.R_lt (by (with_reducible repeat (first | apply Kd.qF | apply Kd.qG | apply Kd.qH)); exact HO_13.out))) (qb bl)); have n2_ := Aside0.mk (bb BK117 hb); have n3_ := Aside0.mk (qJ bl hb); clear HO_13; clear BK117; clear HB; have HO_13 := n0_; have HO124 := n1_; have BK117 := n2_; have HB := n3_; clear n0_ n1_ n2_ n3_; (try clear hb); (try clear hb2); (try clear hk); (try clear hi); (try clear ho0); obtain ⟨Ao19, co19, eo19⟩ := Kd.qr HO124.out; subst eo19))
       go_ret
       exact ⟨_, by first | rfl | (simp [qN, qM] <;> rfl) | (simp [*, qN, qM] <;> rfl), by (with_reducible repeat (first | apply Kd.qF | apply Kd.qG | apply Kd.qH)); exact Kd.qd HO_13.out (fun _ hk => trivial), bl⟩
      ·rw [if_neg c16] at H
       have c16b0 : ((t122.length : Int) == 0) = false := beq_eq_false_iff_ne.mpr c16
       have c16b1 : ((t122.length : Int) != 0) = true := bne_iff_ne.mpr c16
       have c16b2 : ¬ (t122 = []) := fun h_ => c16 (by rw [h_]; rfl)
       by_cases c20 : 0 < (t122.length : Int)
       ·rw [if_pos c20] at H
        have c20b0 : decide (0 < (t122.length : Int)) = true := decide_eq_true c20
        (try (have c20b0_hl13_1 := c20b0; simp only [hl13_1] at c20b0_hl13_1))
        have c20b1 : decide (0 < t122.length) = true := decide_eq_true (by omega)
        clear c20
        by_cases c21 : 0 ≤ (rd t122 0)
        ·rw [if_pos c21] at H
         have c21b0 : decide (0 ≤ (rd t122 0)) = true := decide_eq_true c21
         clear c21
         by_cases c22 : (rd t122 0) < (x13_1.length : Int)
         ·rw [if_pos c22] at H
          have c22b0 : decide ((rd t122 0) < (x13_1.length : Int)) = true := decide_eq_true c22
          (try (have c22b0_hl13_1 := c22b0; simp only [hl13_1] at c22b0_hl13_1))
          clear c22
          obtain ⟨y126, hy126⟩ : ∃ y_ : List Int, y_ = (x13_1.set ((rd t122 0) : Int).toNat 0) := ⟨_, rfl⟩
          replace H : (qV.l1 k1 (([rd t122 0] : List Int)) 0 y126 a0_0 a0_1 l0_2) = some r := by first | (rw [hy126]; with_reducible exact H) | (have H2_ := (Option.bind_some _ _).symm.trans H; rw [hy126]; with_reducible exact H2_) | (have H2_ := (Option.bind_some _ _).symm.trans H; with_reducible exact H2_) | with_reducible exact H | (rw [hy126]; exact H) | exact H
          have Ny126 := Aside0.mk hy126
          clear hy126
          obtain ⟨y128, hy128⟩ : ∃ y_ : List Int, y_ = (([rd t122 0] : List Int)) := ⟨_, rfl⟩
          replace H : (qV.l1 k1 y128 0 y126 a0_0 a0_1 l0_2) = some r := by first | (rw [hy128]; with_reducible exact H) | (have H2_ := (Option.bind_some _ _).symm.trans H; rw [hy128]; with_reducible exact H2_) | (have H2_ := (Option.bind_some _ _).symm.trans H; with_reducible exact H2_) | with_reducible exact H | (rw [hy128]; exact H) | exact H
          have Ny128 := Aside0.mk hy128
          clear hy128
          have H' := Aside0.mk H
          clear H
          have hcz24_0 := bc BK117 0
          have hcz24_1 := bc BK117 1
          have hcz24_2 := bc BK117 2
          have hfz24_0 := qA BK117.out 0
          have hfz24_1 := qA BK117.out 1
          have hfz24_2 := qA BK117.out 2
          go_wp2_with (first | ((with_reducible refine qa (f := 36) rfl ?_); refine qQA (some 24) rfl rfl Tryd.func36 (by kernel_rfl) rfl #[.agg #[.int .i64 a0_0, .int .i64 a0_1, .slice A0_2 l0_2.length c0_2]] rfl (by (try simp only [List.map_toArray, List.map_cons, List.map_nil]); first | done | rfl | (simp only [List.length_drop, List.length_take]; rfl)) ?_; (with_reducible refine (qg.calls k1 a0_0 a0_1 _ _ l0_2 t122 _ ?side1 ?side2 A15.out).mono ?_); (case side1 => repeat (first | exact (Kd.qyA HR0_2.out HB.out) | (with_reducible refine Kd.qZA ?_ _) | (with_reducible refine Kd.qYA ?_ _) | (with_reducible refine Kd.qpA ?_))); (case side2 => exact HC0_2.out); rintro e w25 ⟨v123, rfl, ho0, hb⟩; refine ⟨_, rfl, ?_⟩; have n0_ := Aside0.mk (Kd.qmA (by (with_reducible repeat (first | apply Kd.qF | apply Kd.qG | apply Kd.qH)); exact HO_13.out) (Kd.qLB ho0) hb); have n1_ := Aside0.mk (Kd.qEA (Kd.qKB ho0 (Kd.R_lt (by (with_reducible repeat (first | apply Kd.qF | apply Kd.qG | apply Kd.qH)); exact HO_13.out))) (qb bl)); have n2_ := Aside0.mk (bb BK117 hb); have n3_ := Aside0.mk (qJ bl hb); clear HO_13; clear BK117; clear HB; have HO_13 := n0_; have HO124 := n1_; have BK117 := n2_; have HB := n3_; clear n0_ n1_ n2_ n3_; (try clear hb); (try clear hb2); (try clear hk); (try clear hi); (try clear ho0); obtain ⟨Ao26, co26, eo26⟩ := Kd.qr HO124.out; subst eo26; have p125 : 0 ≤ (0 : Int) := (by omega); have q125 : 0 < (t122.length : Int) := of_decide_eq_true (by first | (with_reducible assumption) | assumption); obtain ⟨ad125, e125, hx125_0⟩ := Kd.qGA (Kd.qS HO124.out).2.2 0 p125 q125; cases e125; have qi125 : (0 < t122.length) = True := eq_true (by omega); (try rw [show ((0 : Int)).toNat = 0 from rfl] at hx125_0); (try rw [Addr.add_zero'] at hx125_0); replace p125 := eq_true p125; replace q125 := eq_true q125; have p23 : 0 ≤ ((rd t122 0) : Int) := of_decide_eq_true (by first | (with_reducible assumption) | assumption); have q23 : ((rd t122 0) : Int) < ((x13_1.length : Int) : Int) := of_decide_eq_true (by first | (with_reducible assumption) | assumption); obtain ⟨go23, co23, eo23, gb23, gl23, cl23, HG23⟩ := Kd.qtB HO_13.out (by omega); (first | cases eo23 | (injection eo23 with ea_ en_ ec_; (first | subst ea_ | (injection ea_ with ea_; subst ea_)); subst ec_; clear en_)); have GB23 := Aside0.mk gb23; have GG23 := Aside0.mk HG23; clear gb23 gl23 HG23; obtain ⟨hx23_0, hf23_0⟩ := Kd.quA 0 HO_13.out ((rd t122 0) : Int) p23 q23; replace p23 := eq_true p23; replace q23 := eq_true q23; have n_ := Aside0.mk (Kd.qd (ok' := (fun k_ => some k_ ≠ (.slice (some ad125) t122.length co26 : Value).ownBlock)) HO_13.out (fun k_ hk => hk.2)); clear HO_13; have HO_13 := n_; clear n_; obtain ⟨hy27_, hz27_⟩ := Kd.quA 0 HO_13.out ((rd t122 0) : Int) (of_decide_eq_true (by first | (with_reducible assumption) | assumption)) (of_decide_eq_true (by first | (with_reducible assumption) | assumption)); have HP27 := Kd.qsB HO_13.out ((rd t122 0) : Int) 0) | ((with_reducible refine qiA (t := 3) (p := 33) rfl ?_); refine qcA (t := 3) (p := 33) (v := ?vo_w28) (w1 := (w25.setCell ⟨go23, ((rd t122 0) : Int).toNat, none⟩ (.int .i64 0))) ?hg ?ho ?hn ?hr ?_; (case ho => rfl); (case hg => rfl); (case hn => rfl); (case hr => first | (go_simp; done) | (go_simp; rfl)); intro w28 hw; have hg : w25.grownBy w28 (some go23) := (by rw [hw]; exact HP27.2); have hp_ : Kd.R (Kd.int .i64) 3 w28 w.heap.size (fun k_ => some k_ ≠ (.slice (some ad125) t122.length co26 : Value).ownBlock) (.slice (some ⟨go23, 0, none⟩) x13_1.length co8) y126 := (by rw [hw, Ny126.out]; exact HP27.1); clear HP27; have n0_ := Aside0.mk (hp_); have n1_ := Aside0.mk (qfA (g := gb117) (o := .cells #[.int .i64 a0_0, .int .i64 a0_1, .slice A0_2 l0_2.length c0_2] 45 (0, 0)) (by (with_reducible repeat (first | refine qD ?_ _ | refine qE ?_ | refine qC ?_ _)); exact BK117.out) hg (Kd.R_ne HO_13.out BK117.out (by decide))); have n2_ := Aside0.mk (Kd.qxA (v := (.slice (some ⟨go23, 0, none⟩) x13_1.length co8)) (v1 := (.slice (some ⟨go23, 0, none⟩) x13_1.length co8)) (ok := (fun _ => True)) (by (with_reducible repeat (first | apply Kd.qF | apply Kd.qG | apply Kd.qH)); exact HO124.out) hg (.inl rfl)); have n3_ := Aside0.mk ((by rw [hw]; exact ql (HB.out) GB23.out : Below w.heap.size w w28)); clear HO_13; clear BK117; clear HO124; clear HB; have HO_13 := n0_; have BK117 := n1_; have HO124 := n2_; have HB := n3_; clear n0_ n1_ n2_ n3_; clear hg hw hp_; have p127 : 0 ≤ (0 : Int) := (by omega); have q127 : 0 < (t122.length : Int) := of_decide_eq_true (by first | (with_reducible assumption) | assumption); obtain ⟨ad127, e127, hx127_0⟩ := Kd.qGA (Kd.qS HO124.out).2.2 0 p127 q127; obtain rfl : ad125 = ad127 := (by injection e127); have qi127 : (0 < t122.length) = True := eq_true (by omega); (try rw [show ((0 : Int)).toNat = 0 from rfl] at hx127_0); (try rw [Addr.add_zero'] at hx127_0); replace p127 := eq_true p127; replace q127 := eq_true q127) | ((with_reducible refine qX (N := 37) rfl ?_); refine Kd.R_lit (Kd.int .i64) _ 3 ?hg (N := 37) ?hd (xs := ([rd t122 0] : List Int)) (inner := [.int .i64 (rd t122 0)]) (ok := fun _ => True) (okp := fun _ => True) ?hr ?hp (fun _ hk => hk) trivial (Below.refl _ _) (Nat.le_refl _) (by simp) ?_; (case hd => rfl); (case hg => rfl); (case hr => first | (go_simp; done) | (go_simp; rfl)); (case hp => exact (Reps.one (show Kd.M (Kd.int .i64) _ _ _ (rd t122 0) [.int .i64 (rd t122 0)] from rfl) (Reps.none _ _))); intro v129 w29 ho30 hb hg_ hnew_; clear hg_ hnew_; (first | rw [← Ny128.out] at ho30 | (simp only [Int.reduceToNat] at ho30; rw [← Ny128.out] at ho30)); have n0_ := Aside0.mk (Kd.qmA (by (with_reducible repeat (first | apply Kd.qF | apply Kd.qG | apply Kd.qH)); exact HO_13.out) (Kd.qLB ho30) hb); have n1_ := Aside0.mk (Kd.qmA (by (with_reducible repeat (first | apply Kd.qF | apply Kd.qG | apply Kd.qH)); exact HO124.out) (Kd.qLB ho30) hb); have n2_ := Aside0.mk (Kd.qEA (Kd.qKB (Kd.qKB ho30 (Kd.R_lt (by (with_reducible repeat (first | apply Kd.qF | apply Kd.qG | apply Kd.qH)); exact HO_13.out))) (Kd.R_lt (by (with_reducible repeat (first | apply Kd.qF | apply Kd.qG | apply Kd.qH)); exact HO124.out))) (qb bl)); have n3_ := Aside0.mk (bb BK117 hb); have n4_ := Aside0.mk (qJ bl hb); clear HO_13; clear HO124; clear BK117; clear HB; have HO_13 := n0_; have HO124 := n1_; have HO130 := n2_; have BK117 := n3_; have HB := n4_; clear n0_ n1_ n2_ n3_ n4_; clear hb ho30))
          go_loopg [6, 7] k1 (fun kq v6 v7 w' => ∃ (x6_2 : List Int) (x7_2 : Int) (x13_2 : List Int), v7 = .int .i64 x7_2 ∧ Aside0 (qV.l1 kq x6_2 x7_2 x13_2 a0_0 a0_1 l0_2 = some r) ∧ Aside0 (kq ≤ k1) ∧ Aside0 (Kd.R (Kd.int .i64) 3 w' w.heap.size (fun k_ => some k_ ≠ ((.slice (some ⟨go23, 0, none⟩) x13_1.length co8) : Value).ownBlock) v6 x6_2) ∧ Aside0 (Kd.R (Kd.int .i64) 3 w' w.heap.size (fun k_ => some k_ ≠ (v6 : Value).ownBlock) (.slice (some ⟨go23, 0, none⟩) x13_1.length co8) x13_2) ∧ Aside0 (w'.heap[gb117]? = some (.cells #[.int .i64 a0_0, .int .i64 a0_1, (.slice A0_2 l0_2.length c0_2)] 45 (0, 0))) ∧ Aside0 (Below w.heap.size w w'))
          case atStart => exact ⟨(y128), (0), (y126), (by first | rfl | (simp; done) | (simp [*]; done)), H', ⟨Nat.le_refl _⟩, ⟨by (try simp only [hl13_1]); (with_reducible repeat (first | apply Kd.qF | apply Kd.qG | apply Kd.qH)); exact Kd.qd HO130.out (fun _ hk => hk.1.2)⟩, ⟨by (try simp only [hl13_1]); (with_reducible repeat (first | apply Kd.qF | apply Kd.qG | apply Kd.qH)); exact Kd.qd HO_13.out (fun _ hk => hk.2)⟩, ⟨by (try simp only [hl13_1]); (with_reducible repeat (first | refine qD ?_ _ | refine qE ?_ | refine qC ?_ _)); exact BK117.out⟩, ⟨bl⟩⟩
          case round =>
           clear H'
           try clear c1
           try clear p1
           try clear q1
           try clear hx1
           try clear qi1
           try clear hf1
           try clear c2
           try clear c2b0
           try clear c2b1
           try clear p2
           try clear q2
           try clear hx2
           try clear hf2
           try clear c3
           try clear c3b0
           try clear c3b1
           try clear p6
           try clear c9
           try clear c9b0
           try clear c10
           try clear c10b0
           try clear c11
           try clear c11b0
           try clear p12
           try clear q12
           try clear hx12
           try clear qi12
           try clear hf12
           try clear c16
           try clear c16b0
           try clear c16b1
           try clear c16b2
           try clear c20
           try clear c20b0
           try clear c20b1
           try clear c21
           try clear c21b0
           try clear c22
           try clear c22b0
           try clear p23
           try clear q23
           try clear hx23
           try clear hf23
           try clear hcz17_0
           try clear hcz17_1
           try clear hcz17_2
           try clear hcz24_0
           try clear hcz24_1
           try clear hcz24_2
           try clear hcz5_0
           try clear hcz5_1
           try clear hcz5_2
           try clear hfz17_0
           try clear hfz17_1
           try clear hfz17_2
           try clear hfz24_0
           try clear hfz24_1
           try clear hfz24_2
           try clear hfz5_0
           try clear hfz5_1
           try clear hfz5_2
           try clear hx125_0
           try clear hx127_0
           try clear hx12_0
           try clear hx23_0
           try clear p12
           try clear p125
           try clear p127
           try clear p2
           try clear p23
           try clear q12
           try clear q125
           try clear q127
           try clear q23
           obtain ⟨x6_2, x7_2, x13_2, rfl, HA, HK2, HO_6, HO_13, BK117, HB⟩ := hrel
           have hl13_2 := (Kd.qS HO_13.out).1
           rw [hl13_2] at HO_13
           (try simp only [hl13_2])
           (try simp only [hl13_2] at BK117)
           (try simp only [hl13_2] at HO_6)
           cases gk with
           | zero => exact absurd HA.out (by simp [qV.l1])
           | succ k2 =>
            have H := HA.out
            clear HA
            simp only [qV.l1] at H
            by_cases c31 : x7_2 < (x6_2.length : Int)
            ·rw [if_pos c31] at H
             have c31b0 : decide (x7_2 < (x6_2.length : Int)) = true := decide_eq_true c31
             (try (have c31b0_hl13_1 := c31b0; simp only [hl13_1] at c31b0_hl13_1))
             (try (have c31b0_hl13_2 := c31b0; simp only [hl13_2] at c31b0_hl13_2))
             clear c31
             have H' := Aside0.mk H
             clear H
             obtain ⟨Ao32, co32, eo32⟩ := Kd.qr HO_6.out
             subst eo32
             go_wp2
             go_loopg [6, 8] k2 (fun kq v6 v8 w' => ∃ (x6_3 : List Int) (x8_3 : Int) (x13_3 : List Int), v8 = .int .i64 x8_3 ∧ Aside0 (qV.l2 kq x6_3 x7_2 x8_3 x13_3 a0_0 a0_1 l0_2 = some r) ∧ Aside0 (kq ≤ k2) ∧ Aside0 (Kd.R (Kd.int .i64) 3 w' w.heap.size (fun k_ => some k_ ≠ ((.slice (some ⟨go23, 0, none⟩) x13_2.length co8) : Value).ownBlock) v6 x6_3) ∧ Aside0 (Kd.R (Kd.int .i64) 3 w' w.heap.size (fun k_ => some k_ ≠ (v6 : Value).ownBlock) (.slice (some ⟨go23, 0, none⟩) x13_2.length co8) x13_3) ∧ Aside0 (w'.heap[gb117]? = some (.cells #[.int .i64 a0_0, .int .i64 a0_1, (.slice A0_2 l0_2.length c0_2)] 45 (0, 0))) ∧ Aside0 (Below w.heap.size w w'))
             case atStart => exact ⟨(x6_2), (0), (x13_2), (by first | rfl | (simp; done) | (simp [*]; done)), H', ⟨Nat.le_refl _⟩, ⟨by (try simp only [hl13_1]); (try simp only [hl13_2]); (with_reducible repeat (first | apply Kd.qF | apply Kd.qG | apply Kd.qH)); exact HO_6.out⟩, ⟨by (try simp only [hl13_1]); (try simp only [hl13_2]); (with_reducible repeat (first | apply Kd.qF | apply Kd.qG | apply Kd.qH)); exact HO_13.out⟩, ⟨by (try simp only [hl13_1]); (try simp only [hl13_2]); (with_reducible repeat (first | refine qD ?_ _ | refine qE ?_ | refine qC ?_ _)); exact BK117.out⟩, ⟨bl⟩⟩
             case round =>
              clear H'
              try clear c1
              try clear p1
              try clear q1
              try clear hx1
              try clear qi1
              try clear hf1
              try clear c2
              try clear c2b0
              try clear c2b1
              try clear p2
              try clear q2
              try clear hx2
              try clear hf2
              try clear c3
              try clear c3b0
              try clear c3b1
              try clear p6
              try clear c9
              try clear c9b0
              try clear c10
              try clear c10b0
              try clear c11
              try clear c11b0
              try clear p12
              try clear q12
              try clear hx12
              try clear qi12
              try clear hf12
              try clear c16
              try clear c16b0
              try clear c16b1
              try clear c16b2
              try clear c20
              try clear c20b0
              try clear c20b1
              try clear c21
              try clear c21b0
              try clear c22
              try clear c22b0
              try clear p23
              try clear q23
              try clear hx23
              try clear hf23
              try clear c31
              try clear c31b0
              try clear hcz17_0
              try clear hcz17_1
              try clear hcz17_2
              try clear hcz24_0
              try clear hcz24_1
              try clear hcz24_2
              try clear hcz5_0
              try clear hcz5_1
              try clear hcz5_2
              try clear hfz17_0
              try clear hfz17_1
              try clear hfz17_2
              try clear hfz24_0
              try clear hfz24_1
              try clear hfz24_2
              try clear hfz5_0
              try clear hfz5_1
              try clear hfz5_2
              try clear hx125_0
              try clear hx127_0
              try clear hx12_0
              try clear hx23_0
              try clear p1
              try clear p12
              try clear p125
              try clear p127
              try clear p2
              try clear p23
              try clear p6
              try clear q1
              try clear q12
              try clear q125
              try clear q127
              try clear q2
              try clear q23
              obtain ⟨x6_3, x8_3, x13_3, rfl, HA, HK3, HO_6, HO_13, BK117, HB⟩ := hrel
              have hl13_3 := (Kd.qS HO_13.out).1
              rw [hl13_3] at HO_13
              (try simp only [hl13_3])
              (try simp only [hl13_3] at BK117)
              (try simp only [hl13_3] at HO_6)
              cases gk with
              | zero => exact absurd HA.out (by simp [qV.l2])
              | succ k3 =>
               have H := HA.out
               clear HA
               simp only [qV.l2] at H
               by_cases c33 : x8_3 < 4
               ·rw [if_pos c33] at H
                have c33b0 : decide (x8_3 < 4) = true := decide_eq_true c33
                clear c33
                by_cases c34 : 0 ≤ x7_2
                ·rw [if_pos c34] at H
                 have c34b0 : decide (0 ≤ x7_2) = true := decide_eq_true c34
                 clear c34
                 by_cases c35 : x7_2 < (x6_3.length : Int)
                 ·rw [if_pos c35] at H
                  have c35b0 : decide (x7_2 < (x6_3.length : Int)) = true := decide_eq_true c35
                  (try (have c35b0_hl13_1 := c35b0; simp only [hl13_1] at c35b0_hl13_1))
                  (try (have c35b0_hl13_2 := c35b0; simp only [hl13_2] at c35b0_hl13_2))
                  (try (have c35b0_hl13_3 := c35b0; simp only [hl13_3] at c35b0_hl13_3))
                  clear c35
                  replace H := Option.bind_eq_some_iff.mp H
                  obtain ⟨t132, A360, H⟩ := H
                  replace H : (if t132 ≥ 0 then (if 0 ≤ t132 then (if t132 < (x13_3.length : Int) then (if (rd x13_3 t132) < 0 then (if 0 ≤ (rd x6_3 x7_2) then (if (rd x6_3 x7_2) < (x13_3.length : Int) then (if x6_3.length < 17592186044416 then (qV.l2 k3 (x6_3 ++ [t132]) x7_2 (wrap64 (x8_3 + 1)) (x13_3.set (t132 : Int).toNat (wrap64 ((rd x13_3 (rd x6_3 x7_2)) + 1))) a0_0 a0_1 l0_2) else (none)) else (none)) else (none)) else (qV.l2 k3 x6_3 x7_2 (wrap64 (x8_3 + 1)) x13_3 a0_0 a0_1 l0_2)) else (none)) else (none)) else (qV.l2 k3 x6_3 x7_2 (wrap64 (x8_3 + 1)) x13_3 a0_0 a0_1 l0_2)) = some r := H
                  have A36 := Aside0.mk A360
                  clear A360
                  by_cases c37 : t132 ≥ 0
                  ·rw [if_pos c37] at H
                   have c37b0 : decide (0 ≤ t132) = true := decide_eq_true c37
                   clear c37
                   by_cases c38 : 0 ≤ t132
                   ·rw [if_pos c38] at H
                    have c38b0 : decide (0 ≤ t132) = true := decide_eq_true c38
                    clear c38
                    by_cases c39 : t132 < (x13_3.length : Int)
                    ·rw [if_pos c39] at H
                     have c39b0 : decide (t132 < (x13_3.length : Int)) = true := decide_eq_true c39
                     (try (have c39b0_hl13_1 := c39b0; simp only [hl13_1] at c39b0_hl13_1))
                     (try (have c39b0_hl13_2 := c39b0; simp only [hl13_2] at c39b0_hl13_2))
                     (try (have c39b0_hl13_3 := c39b0; simp only [hl13_3] at c39b0_hl13_3))
                     clear c39
                     by_cases c40 : (rd x13_3 t132) < 0
                     ·rw [if_pos c40] at H
                      have c40b0 : decide ((rd x13_3 t132) < 0) = true := decide_eq_true c40
                      clear c40
                      by_cases c41 : 0 ≤ (rd x6_3 x7_2)
                      ·rw [if_pos c41] at H
                       have c41b0 : decide (0 ≤ (rd x6_3 x7_2)) = true := decide_eq_true c41
                       clear c41
                       by_cases c42 : (rd x6_3 x7_2) < (x13_3.length : Int)
                       ·rw [if_pos c42] at H
                        have c42b0 : decide ((rd x6_3 x7_2) < (x13_3.length : Int)) = true := decide_eq_true c42
                        (try (have c42b0_hl13_1 := c42b0; simp only [hl13_1] at c42b0_hl13_1))
                        (try (have c42b0_hl13_2 := c42b0; simp only [hl13_2] at c42b0_hl13_2))
                        (try (have c42b0_hl13_3 := c42b0; simp only [hl13_3] at c42b0_hl13_3))
                        clear c42
                        obtain ⟨y136, hy136⟩ : ∃ y_ : List Int, y_ = (x13_3.set (t132 : Int).toNat (wrap64 ((rd x13_3 (rd x6_3 x7_2)) + 1))) := ⟨_, rfl⟩
                        replace H : (if x6_3.length < 17592186044416 then (qV.l2 k3 (x6_3 ++ [t132]) x7_2 (wrap64 (x8_3 + 1)) y136 a0_0 a0_1 l0_2) else (none)) = some r := by first | (rw [hy136]; with_reducible exact H) | (have H2_ := (Option.bind_some _ _).symm.trans H; rw [hy136]; with_reducible exact H2_) | (have H2_ := (Option.bind_some _ _).symm.trans H; with_reducible exact H2_) | with_reducible exact H | (rw [hy136]; exact H) | exact H
                        have Ny136 := Aside0.mk hy136
                        clear hy136
                        by_cases c44 : x6_3.length < 17592186044416
                        ·rw [if_pos c44] at H
                         have LMc44 := Aside0.mk c44
                         clear c44
                         obtain ⟨y137, hy137⟩ : ∃ y_ : List Int, y_ = (x6_3 ++ [t132]) := ⟨_, rfl⟩
                         replace H : (qV.l2 k3 y137 x7_2 (wrap64 (x8_3 + 1)) y136 a0_0 a0_1 l0_2) = some r := by first | (rw [hy137]; with_reducible exact H) | (have H2_ := (Option.bind_some _ _).symm.trans H; rw [hy137]; with_reducible exact H2_) | (have H2_ := (Option.bind_some _ _).symm.trans H; with_reducible exact H2_) | with_reducible exact H | (rw [hy137]; exact H) | exact H
                         have Ny137 := Aside0.mk hy137
                         clear hy137
                         have H' := Aside0.mk H
                         clear H
                         try go_wp2
                         have n0_ := Aside0.mk (Kd.qH HO_6.out)
                         have n1_ := Aside0.mk (Kd.qH HO_13.out)
                         have n2_ := Aside0.mk (qE BK117.out)
                         have n3_ := Aside0.mk (qk HB.out)
                         clear HO_6
                         clear HO_13
                         clear BK117
                         clear HB
                         have HO_6 := n0_
                         have HO_13 := n1_
                         have BK117 := n2_
                         have HB := n3_
                         clear n0_ n1_ n2_ n3_
                         obtain ⟨Ao46, co46, eo46⟩ := Kd.qr HO_6.out
                         (first | subst eo46 | (injection eo46 with f1_ f2_ f3_; have f4_ := f1_.symm; have f5_ := f3_.symm; clear f1_ f2_ f3_; subst f4_; subst f5_))
                         have p131 : 0 ≤ (x7_2 : Int) := of_decide_eq_true (by first | (with_reducible assumption) | assumption)
                         have q131 : x7_2 < (x6_3.length : Int) := of_decide_eq_true (by first | (with_reducible assumption) | assumption)
                         obtain ⟨ad131, e131, hx131_0⟩ := Kd.qGA (Kd.qS HO_6.out).2.2 x7_2 p131 q131
                         cases e131
                         replace p131 := eq_true p131
                         replace q131 := eq_true q131
                         refine qwA (n := 8) (S := fun w' => w'.cell? ⟨gb117, 0, none⟩ = some (.int .i64 a0_0) ∧ w'.cell? ⟨gb117, 1, none⟩ = some (.int .i64 a0_1) ∧ w'.cell? ⟨gb117, 2, none⟩ = some (.slice A0_2 l0_2.length c0_2) ∧ w'.cell? (ad131.add (x7_2).toNat) = some (.int .i64 (rd x6_3 x7_2))) (ds := []) #[false, false, false, false, false, false, false, false] (by kernel_rfl) rfl rfl ⟨(qL BK117.out 0).trans rfl, (qL BK117.out 1).trans rfl, (qL BK117.out 2).trans rfl, hx131_0⟩ (fun hHeld => ?_); refine qTA qV.tab18 qV.bits18 (fun HT_ HW_ => ?_)
                         generalize wr.drew = w45 at HO_6 HO_13 BK117 HB hx131_0 hHeld ⊢
                         refine pS (i := 1) (N := some 49) #[false, true, false, false, false, false, false, false] HT_ ?_
                         refine pS (i := 2) (N := some 50) #[false, true, true, false, false, false, false, false] HT_ ?_
                         refine pS (i := 3) (N := some 51) #[false, true, true, true, false, false, false, false] HT_ ?_
                         refine pS (i := 5) (N := some 53) #[false, true, true, true, false, true, false, false] HT_ ?_
                         refine tS (i := 0) (N := some 48) #[true, true, true, true, false, true, false, false] HT_ HW_ hHeld ?_
                         refine tS (i := 4) (N := some 52) #[true, true, true, true, true, true, false, false] HT_ HW_ hHeld ?_
                         refine one_ (i := 6) (N := some 54) #[true, true, true, true, true, true, true, false] rfl rfl (qnA HT_.out (by kernel_rfl)) (by decide) (fun K hK => ?_)
                         refine goes_ Tryd.func42 (by kernel_rfl) rfl #[.agg #[.int .i64 a0_0, .int .i64 a0_1, .slice A0_2 l0_2.length c0_2], .int .i64 (rd x6_3 x7_2), .int .i64 x8_3] (by rfl) rfl rfl (by (try simp only [List.map_toArray, List.map_cons, List.map_nil]); first | done | rfl | (simp only [List.length_drop, List.length_take]; rfl)) ?_
                         with_reducible refine (qgA.calls a0_0 a0_1 _ _ l0_2 (rd x6_3 x7_2) x8_3 t132 _ ?side1 ?side2 A36.out).mono ?_
                         (case side1 => repeat (first | exact (Kd.qyA HR0_2.out HB.out) | (with_reducible refine Kd.qZA ?_ _) | (with_reducible refine Kd.qYA ?_ _) | (with_reducible refine Kd.qpA ?_)))
                         (case side2 => exact HC0_2.out)
                         rintro e w47 ⟨rfl, hb⟩
                         have HS3_ := (hb.cell (World.block_lt_of_cell? _ _ (hHeld.2.2.2))).trans (hHeld.2.2.2)
                         refine ⟨_, rfl, ?_⟩
                         have n0_ := Aside0.mk (Kd.qU (by (with_reducible repeat (first | apply Kd.qF | apply Kd.qG | apply Kd.qH)); exact HO_6.out) hb)
                         have n1_ := Aside0.mk (Kd.qU (by (with_reducible repeat (first | apply Kd.qF | apply Kd.qG | apply Kd.qH)); exact HO_13.out) hb)
                         have n2_ := Aside0.mk (bb BK117 hb)
                         have n3_ := Aside0.mk (qJ bl hb)
                         clear HO_6
                         clear HO_13
                         clear BK117
                         clear HB
                         have HO_6 := n0_
                         have HO_13 := n1_
                         have BK117 := n2_
                         have HB := n3_
                         clear n0_ n1_ n2_ n3_
                         (try clear hb)
                         (try clear hb2)
                         (try clear hk)
                         (try clear hi)
                         refine hK.out _ _ ⟨(qL BK117.out 0).trans rfl, (qL BK117.out 1).trans rfl, (qL BK117.out 2).trans rfl, HS3_⟩ (fun hHeld => ?_)
                         clear hK K
                         refine norm_ (a' := ?_) ?_ ?_
                         rotate_left
                         ·show Act.put _ (some 54) _ = _
                          simp only [Act.put, List.setIfInBounds_toArray, List.set_cons_zero, List.set_cons_succ, i64_w, i32_w]
                          rfl
                         refine pS (i := 7) (N := some 9) #[true, true, true, true, true, true, true, true] HT_ ?_
                         refine done_ (qDB HT_.out (by kernel_rfl)) ?_
                         have p133 : 0 ≤ (t132 : Int) := of_decide_eq_true (by first | (with_reducible assumption) | assumption)
                         have q133 : t132 < (x13_3.length : Int) := of_decide_eq_true (by first | (with_reducible assumption) | assumption)
                         obtain ⟨ad133, e133, hx133_0⟩ := Kd.qGA (Kd.qS HO_13.out).2.2 t132 p133 q133
                         obtain rfl : (⟨go23, 0, none⟩ : Addr) = ad133 := (by injection e133)
                         (first | simp only [qDA] at hx133_0 | simp only [qoA] at hx133_0 | simp only [Addr.add, Nat.zero_add] at hx133_0 | skip)
                         replace p133 := eq_true p133
                         replace q133 := eq_true q133
                         have p134 : 0 ≤ (x7_2 : Int) := of_decide_eq_true (by first | (with_reducible assumption) | assumption)
                         have q134 : x7_2 < (x6_3.length : Int) := of_decide_eq_true (by first | (with_reducible assumption) | assumption)
                         obtain ⟨ad134, e134, hx134_0⟩ := Kd.qGA (Kd.qS HO_6.out).2.2 x7_2 p134 q134
                         obtain rfl : ad131 = ad134 := (by injection e134)
                         replace p134 := eq_true p134
                         replace q134 := eq_true q134
                         have p135 : 0 ≤ ((rd x6_3 x7_2) : Int) := of_decide_eq_true (by first | (with_reducible assumption) | assumption)
                         have q135 : (rd x6_3 x7_2) < (x13_3.length : Int) := of_decide_eq_true (by first | (with_reducible assumption) | assumption)
                         obtain ⟨ad135, e135, hx135_0⟩ := Kd.qGA (Kd.qS HO_13.out).2.2 (rd x6_3 x7_2) p135 q135
                         obtain rfl : (⟨go23, 0, none⟩ : Addr) = ad135 := (by injection e135)
                         (first | simp only [qDA] at hx135_0 | simp only [qoA] at hx135_0 | simp only [Addr.add, Nat.zero_add] at hx135_0 | skip)
                         replace p135 := eq_true p135
                         replace q135 := eq_true q135
                         have p43 : 0 ≤ (t132 : Int) := of_decide_eq_true (by first | (with_reducible assumption) | assumption)
                         have q43 : (t132 : Int) < ((x13_3.length : Int) : Int) := of_decide_eq_true (by first | (with_reducible assumption) | assumption)
                         obtain ⟨hx43_0, hf43_0⟩ := Kd.quA 0 HO_13.out (t132 : Int) p43 q43
                         replace p43 := eq_true p43
                         replace q43 := eq_true q43
                         obtain ⟨hy48_, hz48_⟩ := Kd.quA 0 HO_13.out (t132 : Int) (of_decide_eq_true (by first | (with_reducible assumption) | assumption)) (of_decide_eq_true (by first | (with_reducible assumption) | assumption))
                         have HP48 := Kd.qsB HO_13.out (t132 : Int) (wrap64 ((rd x13_3 (rd x6_3 x7_2)) + 1))
                         try go_wp2_with (first | ((with_reducible refine qiA (t := 3) (p := 74) rfl ?_); refine qcA (t := 3) (p := 74) (v := ?vo_w49) (w1 := (w47.setCell ⟨go23, (t132 : Int).toNat, none⟩ (.int .i64 (wrap64 ((rd x13_3 (rd x6_3 x7_2)) + 1))))) ?hg ?ho ?hn ?hr ?_; (case ho => rfl); (case hg => rfl); (case hn => rfl); (case hr => first | (go_simp; done) | (go_simp; rfl)); intro w49 hw; have hg : w47.grownBy w49 (some go23) := (by rw [hw]; exact HP48.2); have hp_ : Kd.R (Kd.int .i64) 3 w49 w.heap.size (fun k_ => some k_ ≠ (.slice (some ad131) x6_3.length co46 : Value).ownBlock) (.slice (some ⟨go23, 0, none⟩) x13_3.length co8) y136 := (by rw [hw, Ny136.out]; exact HP48.1); clear HP48; have n0_ := Aside0.mk (Kd.qxA (v := (.slice (some ⟨go23, 0, none⟩) x13_3.length co8)) (v1 := (.slice (some ⟨go23, 0, none⟩) x13_3.length co8)) (ok := (fun _ => True)) (by (with_reducible repeat (first | apply Kd.qF | apply Kd.qG | apply Kd.qH)); exact Kd.qd HO_6.out (fun _ hk => ⟨trivial, hk⟩)) hg (.inl rfl)); have n1_ := Aside0.mk (hp_); have n2_ := Aside0.mk (qfA (g := gb117) (o := .cells #[.int .i64 a0_0, .int .i64 a0_1, .slice A0_2 l0_2.length c0_2] 45 (0, 0)) (by (with_reducible repeat (first | refine qD ?_ _ | refine qE ?_ | refine qC ?_ _)); exact BK117.out) hg (Kd.R_ne HO_13.out BK117.out (by decide))); have n3_ := Aside0.mk ((by rw [hw]; exact ql (HB.out) GB23.out : Below w.heap.size w w49)); clear HO_6; clear HO_13; clear BK117; clear HB; have HO_6 := n0_; have HO_13 := n1_; have BK117 := n2_; have HB := n3_; clear n0_ n1_ n2_ n3_; clear hg hw hp_) | ((with_reducible refine qJB (b := .append) (xs := #[.tmp 75, .tmp 77]) rfl ?_); at_builtin; refine Kd.qAC (Kd.int .i64) (w0 := w) w.heap.size rfl (.tmp 75) (.tmp 77) 25 3 (.int .i64 0) 8 rfl Tryd.underlying25 info3 rfl (by decide) (by omega) (.slice (some ad131) x6_3.length co46) x6_3 t132 [.int .i64 t132] (fun k_ => some k_ ≠ (.slice (some ⟨go23, 0, none⟩) x13_3.length co8 : Value).ownBlock) (fun _ => False) rfl rfl ?aP (fun _ hk => hk.elim) ?aF ?aO ?aB ?aS ?aL ?_; (case aP => exact rfl); (case aB => exact bl); (case aF => exact (fun k_ hk => Kd.fresh' (Kd.R_lt (by (with_reducible repeat (first | apply Kd.qF | apply Kd.qG | apply Kd.qH)); exact HO_13.out)) k_ hk)); (case aO => exact (by (with_reducible repeat (first | apply Kd.qF | apply Kd.qG | apply Kd.qH)); exact Kd.qd HO_6.out (fun _ hk => hk.2))); (case aS => exact (qb bl)); (case aL => have := LMc44.out; omega); intro v138 w50 ho hb hg hat; rw [← Ny137.out] at ho; have n0_ := Aside0.mk (Kd.qxA (ok := (fun _ => True)) (by (with_reducible repeat (first | apply Kd.qF | apply Kd.qG | apply Kd.qH)); exact Kd.qd HO_13.out (fun _ hk => ⟨trivial, hk⟩)) hg hat); have n1_ := Aside0.mk (qfA (g := gb117) (o := .cells #[.int .i64 a0_0, .int .i64 a0_1, .slice A0_2 l0_2.length c0_2] 45 (0, 0)) (by (with_reducible repeat (first | refine qD ?_ _ | refine qE ?_ | refine qC ?_ _)); exact BK117.out) hg (Kd.R_ne HO_6.out BK117.out (by decide))); have n2_ := Aside0.mk (hb); have n3_ := Aside0.mk (ho); clear HO_13; clear BK117; clear HB; clear HO_6; have HO_13 := n0_; have BK117 := n1_; have HB := n2_; have HO139 := n3_; clear n0_ n1_ n2_ n3_; clear ho hb hg hat))
                         (try simp only [← hl13_3])
                         go_roundg k3
                         case measure => have := HK1.out; have := HK2.out; have := HK3.out; omega
                         case rel => exact ⟨(y137), (wrap64 (x8_3 + 1)), (y136), (by first | rfl | (simp; done) | (simp [*]; done)), H', ⟨by have := HK1.out; have := HK2.out; have := HK3.out; omega⟩, ⟨by (try simp only [hl13_1]); (try simp only [hl13_2]); (try simp only [hl13_3]); (with_reducible repeat (first | apply Kd.qF | apply Kd.qG | apply Kd.qH)); exact HO139.out⟩, ⟨by (try simp only [hl13_1]); (try simp only [hl13_2]); (try simp only [hl13_3]); (with_reducible repeat (first | apply Kd.qF | apply Kd.qG | apply Kd.qH)); exact Kd.qd HO_13.out (fun _ hk => hk.2)⟩, ⟨by (try simp only [hl13_1]); (try simp only [hl13_2]); (try simp only [hl13_3]); (with_reducible repeat (first | refine qD ?_ _ | refine qE ?_ | refine qC ?_ _)); exact BK117.out⟩, ⟨bl⟩⟩
                        ·rw [if_neg c44] at H
                         exact absurd H (by simp)
                       ·rw [if_neg c42] at H
                        exact absurd H (by simp)
                      ·rw [if_neg c41] at H
                       exact absurd H (by simp)
                     ·rw [if_neg c40] at H
                      have c40b0 : decide ((rd x13_3 t132) < 0) = false := decide_eq_false c40
                      clear c40
                      have H' := Aside0.mk H
                      clear H
                      try go_wp2
                      have n0_ := Aside0.mk (Kd.qH HO_6.out)
                      have n1_ := Aside0.mk (Kd.qH HO_13.out)
                      have n2_ := Aside0.mk (qE BK117.out)
                      have n3_ := Aside0.mk (qk HB.out)
                      clear HO_6
                      clear HO_13
                      clear BK117
                      clear HB
                      have HO_6 := n0_
                      have HO_13 := n1_
                      have BK117 := n2_
                      have HB := n3_
                      clear n0_ n1_ n2_ n3_
                      obtain ⟨Ao52, co52, eo52⟩ := Kd.qr HO_6.out
                      (first | subst eo52 | (injection eo52 with f1_ f2_ f3_; have f4_ := f1_.symm; have f5_ := f3_.symm; clear f1_ f2_ f3_; subst f4_; subst f5_))
                      have p131 : 0 ≤ (x7_2 : Int) := of_decide_eq_true (by first | (with_reducible assumption) | assumption)
                      have q131 : x7_2 < (x6_3.length : Int) := of_decide_eq_true (by first | (with_reducible assumption) | assumption)
                      obtain ⟨ad131, e131, hx131_0⟩ := Kd.qGA (Kd.qS HO_6.out).2.2 x7_2 p131 q131
                      cases e131
                      replace p131 := eq_true p131
                      replace q131 := eq_true q131
                      refine qwA (n := 8) (S := fun w' => w'.cell? ⟨gb117, 0, none⟩ = some (.int .i64 a0_0) ∧ w'.cell? ⟨gb117, 1, none⟩ = some (.int .i64 a0_1) ∧ w'.cell? ⟨gb117, 2, none⟩ = some (.slice A0_2 l0_2.length c0_2) ∧ w'.cell? (ad131.add (x7_2).toNat) = some (.int .i64 (rd x6_3 x7_2))) (ds := []) #[false, false, false, false, false, false, false, false] (by kernel_rfl) rfl rfl ⟨(qL BK117.out 0).trans rfl, (qL BK117.out 1).trans rfl, (qL BK117.out 2).trans rfl, hx131_0⟩ (fun hHeld => ?_); refine qTA qV.tab18 qV.bits18 (fun HT_ HW_ => ?_)
                      generalize wr.drew = w51 at HO_6 HO_13 BK117 HB hx131_0 hHeld ⊢
                      refine pS (i := 1) (N := some 49) #[false, true, false, false, false, false, false, false] HT_ ?_
                      refine pS (i := 2) (N := some 50) #[false, true, true, false, false, false, false, false] HT_ ?_
                      refine pS (i := 3) (N := some 51) #[false, true, true, true, false, false, false, false] HT_ ?_
                      refine pS (i := 5) (N := some 53) #[false, true, true, true, false, true, false, false] HT_ ?_
                      refine tS (i := 0) (N := some 48) #[true, true, true, true, false, true, false, false] HT_ HW_ hHeld ?_
                      refine tS (i := 4) (N := some 52) #[true, true, true, true, true, true, false, false] HT_ HW_ hHeld ?_
                      refine one_ (i := 6) (N := some 54) #[true, true, true, true, true, true, true, false] rfl rfl (qnA HT_.out (by kernel_rfl)) (by decide) (fun K hK => ?_)
                      refine goes_ Tryd.func42 (by kernel_rfl) rfl #[.agg #[.int .i64 a0_0, .int .i64 a0_1, .slice A0_2 l0_2.length c0_2], .int .i64 (rd x6_3 x7_2), .int .i64 x8_3] (by rfl) rfl rfl (by (try simp only [List.map_toArray, List.map_cons, List.map_nil]); first | done | rfl | (simp only [List.length_drop, List.length_take]; rfl)) ?_
                      with_reducible refine (qgA.calls a0_0 a0_1 _ _ l0_2 (rd x6_3 x7_2) x8_3 t132 _ ?side1 ?side2 A36.out).mono ?_
                      (case side1 => repeat (first | exact (Kd.qyA HR0_2.out HB.out) | (with_reducible refine Kd.qZA ?_ _) | (with_reducible refine Kd.qYA ?_ _) | (with_reducible refine Kd.qpA ?_)))
                      (case side2 => exact HC0_2.out)
                      rintro e w53 ⟨rfl, hb⟩
                      have HS3_ := (hb.cell (World.block_lt_of_cell? _ _ (hHeld.2.2.2))).trans (hHeld.2.2.2)
                      refine ⟨_, rfl, ?_⟩
                      have n0_ := Aside0.mk (Kd.qU (by (with_reducible repeat (first | apply Kd.qF | apply Kd.qG | apply Kd.qH)); exact HO_6.out) hb)
                      have n1_ := Aside0.mk (Kd.qU (by (with_reducible repeat (first | apply Kd.qF | apply Kd.qG | apply Kd.qH)); exact HO_13.out) hb)
                      have n2_ := Aside0.mk (bb BK117 hb)
                      have n3_ := Aside0.mk (qJ bl hb)
                      clear HO_6
                      clear HO_13
                      clear BK117
                      clear HB
                      have HO_6 := n0_
                      have HO_13 := n1_
                      have BK117 := n2_
                      have HB := n3_
                      clear n0_ n1_ n2_ n3_
                      (try clear hb)
                      (try clear hb2)
                      (try clear hk)
                      (try clear hi)
                      refine hK.out _ _ ⟨(qL BK117.out 0).trans rfl, (qL BK117.out 1).trans rfl, (qL BK117.out 2).trans rfl, HS3_⟩ (fun hHeld => ?_)
                      clear hK K
                      refine norm_ (a' := ?_) ?_ ?_
                      rotate_left
                      ·show Act.put _ (some 54) _ = _
                       simp only [Act.put, List.setIfInBounds_toArray, List.set_cons_zero, List.set_cons_succ, i64_w, i32_w]
                       rfl
                      refine pS (i := 7) (N := some 9) #[true, true, true, true, true, true, true, true] HT_ ?_
                      refine done_ (qDB HT_.out (by kernel_rfl)) ?_
                      have p133 : 0 ≤ (t132 : Int) := of_decide_eq_true (by first | (with_reducible assumption) | assumption)
                      have q133 : t132 < (x13_3.length : Int) := of_decide_eq_true (by first | (with_reducible assumption) | assumption)
                      obtain ⟨ad133, e133, hx133_0⟩ := Kd.qGA (Kd.qS HO_13.out).2.2 t132 p133 q133
                      obtain rfl : (⟨go23, 0, none⟩ : Addr) = ad133 := (by injection e133)
                      (first | simp only [qDA] at hx133_0 | simp only [qoA] at hx133_0 | simp only [Addr.add, Nat.zero_add] at hx133_0 | skip)
                      replace p133 := eq_true p133
                      replace q133 := eq_true q133
                      try go_wp2
                      (try simp only [← hl13_3])
                      go_roundg k3
                      case measure => have := HK1.out; have := HK2.out; have := HK3.out; omega
                      case rel => exact ⟨(x6_3), (wrap64 (x8_3 + 1)), (x13_3), (by first | rfl | (simp; done) | (simp [*]; done)), H', ⟨by have := HK1.out; have := HK2.out; have := HK3.out; omega⟩, ⟨by (try simp only [hl13_1]); (try simp only [hl13_2]); (try simp only [hl13_3]); (with_reducible repeat (first | apply Kd.qF | apply Kd.qG | apply Kd.qH)); exact HO_6.out⟩, ⟨by (try simp only [hl13_1]); (try simp only [hl13_2]); (try simp only [hl13_3]); (with_reducible repeat (first | apply Kd.qF | apply Kd.qG | apply Kd.qH)); exact HO_13.out⟩, ⟨by (try simp only [hl13_1]); (try simp only [hl13_2]); (try simp only [hl13_3]); (with_reducible repeat (first | refine qD ?_ _ | refine qE ?_ | refine qC ?_ _)); exact BK117.out⟩, ⟨bl⟩⟩
                    ·rw [if_neg c39] at H
                     exact absurd H (by simp)
                   ·rw [if_neg c38] at H
                    exact absurd H (by simp)
                  ·rw [if_neg c37] at H
                   have c37b0 : decide (0 ≤ t132) = false := decide_eq_false c37
                   clear c37
                   have H' := Aside0.mk H
                   clear H
                   try go_wp2
                   have n0_ := Aside0.mk (Kd.qH HO_6.out)
                   have n1_ := Aside0.mk (Kd.qH HO_13.out)
                   have n2_ := Aside0.mk (qE BK117.out)
                   have n3_ := Aside0.mk (qk HB.out)
                   clear HO_6
                   clear HO_13
                   clear BK117
                   clear HB
                   have HO_6 := n0_
                   have HO_13 := n1_
                   have BK117 := n2_
                   have HB := n3_
                   clear n0_ n1_ n2_ n3_
                   obtain ⟨Ao55, co55, eo55⟩ := Kd.qr HO_6.out
                   (first | subst eo55 | (injection eo55 with f1_ f2_ f3_; have f4_ := f1_.symm; have f5_ := f3_.symm; clear f1_ f2_ f3_; subst f4_; subst f5_))
                   have p131 : 0 ≤ (x7_2 : Int) := of_decide_eq_true (by first | (with_reducible assumption) | assumption)
                   have q131 : x7_2 < (x6_3.length : Int) := of_decide_eq_true (by first | (with_reducible assumption) | assumption)
                   obtain ⟨ad131, e131, hx131_0⟩ := Kd.qGA (Kd.qS HO_6.out).2.2 x7_2 p131 q131
                   cases e131
                   replace p131 := eq_true p131
                   replace q131 := eq_true q131
                   refine qwA (n := 8) (S := fun w' => w'.cell? ⟨gb117, 0, none⟩ = some (.int .i64 a0_0) ∧ w'.cell? ⟨gb117, 1, none⟩ = some (.int .i64 a0_1) ∧ w'.cell? ⟨gb117, 2, none⟩ = some (.slice A0_2 l0_2.length c0_2) ∧ w'.cell? (ad131.add (x7_2).toNat) = some (.int .i64 (rd x6_3 x7_2))) (ds := []) #[false, false, false, false, false, false, false, false] (by kernel_rfl) rfl rfl ⟨(qL BK117.out 0).trans rfl, (qL BK117.out 1).trans rfl, (qL BK117.out 2).trans rfl, hx131_0⟩ (fun hHeld => ?_); refine qTA qV.tab18 qV.bits18 (fun HT_ HW_ => ?_)
                   generalize wr.drew = w54 at HO_6 HO_13 BK117 HB hx131_0 hHeld ⊢
                   refine pS (i := 1) (N := some 49) #[false, true, false, false, false, false, false, false] HT_ ?_
                   refine pS (i := 2) (N := some 50) #[false, true, true, false, false, false, false, false] HT_ ?_
                   refine pS (i := 3) (N := some 51) #[false, true, true, true, false, false, false, false] HT_ ?_
                   refine pS (i := 5) (N := some 53) #[false, true, true, true, false, true, false, false] HT_ ?_
                   refine tS (i := 0) (N := some 48) #[true, true, true, true, false, true, false, false] HT_ HW_ hHeld ?_
                   refine tS (i := 4) (N := some 52) #[true, true, true, true, true, true, false, false] HT_ HW_ hHeld ?_
                   refine one_ (i := 6) (N := some 54) #[true, true, true, true, true, true, true, false] rfl rfl (qnA HT_.out (by kernel_rfl)) (by decide) (fun K hK => ?_)
                   refine goes_ Tryd.func42 (by kernel_rfl) rfl #[.agg #[.int .i64 a0_0, .int .i64 a0_1, .slice A0_2 l0_2.length c0_2], .int .i64 (rd x6_3 x7_2), .int .i64 x8_3] (by rfl) rfl rfl (by (try simp only [List.map_toArray, List.map_cons, List.map_nil]); first | done | rfl | (simp only [List.length_drop, List.length_take]; rfl)) ?_
                   with_reducible refine (qgA.calls a0_0 a0_1 _ _ l0_2 (rd x6_3 x7_2) x8_3 t132 _ ?side1 ?side2 A36.out).mono ?_
                   (case side1 => repeat (first | exact (Kd.qyA HR0_2.out HB.out) | (with_reducible refine Kd.qZA ?_ _) | (with_reducible refine Kd.qYA ?_ _) | (with_reducible refine Kd.qpA ?_)))
                   (case side2 => exact HC0_2.out)
                   rintro e w56 ⟨rfl, hb⟩
                   have HS3_ := (hb.cell (World.block_lt_of_cell? _ _ (hHeld.2.2.2))).trans (hHeld.2.2.2)
                   refine ⟨_, rfl, ?_⟩
                   have n0_ := Aside0.mk (Kd.qU (by (with_reducible repeat (first | apply Kd.qF | apply Kd.qG | apply Kd.qH)); exact HO_6.out) hb)
                   have n1_ := Aside0.mk (Kd.qU (by (with_reducible repeat (first | apply Kd.qF | apply Kd.qG | apply Kd.qH)); exact HO_13.out) hb)
                   have n2_ := Aside0.mk (bb BK117 hb)
                   have n3_ := Aside0.mk (qJ bl hb)
                   clear HO_6
                   clear HO_13
                   clear BK117
                   clear HB
                   have HO_6 := n0_
                   have HO_13 := n1_
                   have BK117 := n2_
                   have HB := n3_
                   clear n0_ n1_ n2_ n3_
                   (try clear hb)
                   (try clear hb2)
                   (try clear hk)
                   (try clear hi)
                   refine hK.out _ _ ⟨(qL BK117.out 0).trans rfl, (qL BK117.out 1).trans rfl, (qL BK117.out 2).trans rfl, HS3_⟩ (fun hHeld => ?_)
                   clear hK K
                   refine norm_ (a' := ?_) ?_ ?_
                   rotate_left
                   ·show Act.put _ (some 54) _ = _
                    simp only [Act.put, List.setIfInBounds_toArray, List.set_cons_zero, List.set_cons_succ, i64_w, i32_w]
                    rfl
                   refine pS (i := 7) (N := some 9) #[true, true, true, true, true, true, true, true] HT_ ?_
                   refine done_ (qDB HT_.out (by kernel_rfl)) ?_
                   try go_wp2
                   (try simp only [← hl13_3])
                   go_roundg k3
                   case measure => have := HK1.out; have := HK2.out; have := HK3.out; omega
                   case rel => exact ⟨(x6_3), (wrap64 (x8_3 + 1)), (x13_3), (by first | rfl | (simp; done) | (simp [*]; done)), H', ⟨by have := HK1.out; have := HK2.out; have := HK3.out; omega⟩, ⟨by (try simp only [hl13_1]); (try simp only [hl13_2]); (try simp only [hl13_3]); (with_reducible repeat (first | apply Kd.qF | apply Kd.qG | apply Kd.qH)); exact HO_6.out⟩, ⟨by (try simp only [hl13_1]); (try simp only [hl13_2]); (try simp only [hl13_3]); (with_reducible repeat (first | apply Kd.qF | apply Kd.qG | apply Kd.qH)); exact HO_13.out⟩, ⟨by (try simp only [hl13_1]); (try simp only [hl13_2]); (try simp only [hl13_3]); (with_reducible repeat (first | refine qD ?_ _ | refine qE ?_ | refine qC ?_ _)); exact BK117.out⟩, ⟨bl⟩⟩
                 ·rw [if_neg c35] at H
                  exact absurd H (by simp)
                ·rw [if_neg c34] at H
                 exact absurd H (by simp)
               ·rw [if_neg c33] at H
                have c33b0 : decide (x8_3 < 4) = false := decide_eq_false c33
                clear c33
                have H' := Aside0.mk H
                clear H
                go_wp2
                (try simp only [← hl13_2, ← hl13_3])
                go_roundg k3
                case measure => have := HK1.out; have := HK2.out; have := HK3.out; omega
                case rel => exact ⟨(x6_3), (wrap64 (x7_2 + 1)), (x13_3), (by first | rfl | (simp; done) | (simp [*]; done)), H', ⟨by have := HK1.out; have := HK2.out; have := HK3.out; omega⟩, ⟨by (try simp only [hl13_1]); (try simp only [hl13_2]); (try simp only [hl13_3]); (with_reducible repeat (first | apply Kd.qF | apply Kd.qG | apply Kd.qH)); exact HO_6.out⟩, ⟨by (try simp only [hl13_1]); (try simp only [hl13_2]); (try simp only [hl13_3]); (with_reducible repeat (first | apply Kd.qF | apply Kd.qG | apply Kd.qH)); exact HO_13.out⟩, ⟨by (try simp only [hl13_1]); (try simp only [hl13_2]); (try simp only [hl13_3]); (with_reducible repeat (first | refine qD ?_ _ | refine qE ?_ | refine qC ?_ _)); exact BK117.out⟩, ⟨bl⟩⟩
            ·rw [if_neg c31] at H
             have c31b0 : decide (x7_2 < (x6_2.length : Int)) = false := decide_eq_false c31
             (try (have c31b0_hl13_1 := c31b0; simp only [hl13_1] at c31b0_hl13_1))
             (try (have c31b0_hl13_2 := c31b0; simp only [hl13_2] at c31b0_hl13_2))
             clear c31
             obtain rfl := Option.some.inj H
             obtain ⟨Ao57, co57, eo57⟩ := Kd.qr HO_6.out
             subst eo57
             go_wp2
             go_ret
             exact ⟨_, by first | rfl | (simp [qN, qM] <;> rfl) | (simp [*, qN, qM] <;> rfl), by (with_reducible repeat (first | apply Kd.qF | apply Kd.qG | apply Kd.qH)); exact Kd.qd HO_13.out (fun _ hk => trivial), bl⟩
         ·rw [if_neg c22] at H
          exact absurd H (by simp)
        ·rw [if_neg c21] at H
         exact absurd H (by simp)
       ·rw [if_neg c20] at H
        exact absurd H (by simp)
  ·rw [if_neg c3] at H
   exact absurd H (by simp)
 ·rw [if_neg c2] at H
  exact absurd H (by simp)
mutual
def qf.j0 : Nat → List Int → Bool → Int → Int → List Int → Option (Bool)
 | 0, _, _, _, _, _ => none
 | k + 1, x3, x23, x141000, x141001, x141002 => if x23 = true then (some false) else ((qV.f k x141000 x141001 x141002).bind fun t144 => (qf.l0 k x3 0 0 t144 (x3.length : Int) 0 x141000 x141001 x141002))
def qf.l0 : Nat → List Int → Int → Int → List Int → Int → Int → Int → Int → List Int → Option (Bool)
 | 0, _, _, _, _, _, _, _, _, _ => none
 | k + 1, x3, x5, x6, x25, x27, x28, x141000, x141001, x141002 => if x28 < x27 then (if 0 ≤ x28 then (if x28 < (x3.length : Int) then (if 0 ≤ (rd x3 x28) then (if (rd x3 x28) < (x25.length : Int) then (if (rd x25 (rd x3 x28)) < 0 then (some false) else (if x141000 = 0 then (none) else (if 0 ≤ (Int.tmod (rd x3 x28) x141000) then (if 0 ≤ (wrap64 (Int.tdiv (rd x3 x28) x141000)) then (qf.l0 k x3 (Go.bits .or .i64 x5 (shl .i64 1 (Int.tmod (rd x3 x28) x141000))) (Go.bits .or .i64 x6 (shl .i64 1 (wrap64 (Int.tdiv (rd x3 x28) x141000)))) x25 x27 (wrap64 (x28 + 1)) x141000 x141001 x141002) else (none)) else (none)))) else (none)) else (none)) else (none)) else (none)) else (if 0 ≤ x141000 then (if x5 = (wrap64 ((shl .i64 1 x141000) - 1)) then (if 0 ≤ x141001 then (some (x6 == (wrap64 ((shl .i64 1 x141001) - 1)))) else (none)) else (some false)) else (none))
end
def qf.f (k : Nat) (a0_0 : Int) (a0_1 : Int) (l0_2 : List Int) : Option (Bool) := (qg.f k a0_0 a0_1 l0_2).bind fun t141 => (if (t141.length : Int) = 6 then (if a0_0 > 6 then (qf.j0 k t141 true a0_0 a0_1 l0_2) else (qf.j0 k t141 (decide (a0_1 > 6)) a0_0 a0_1 l0_2)) else (qf.j0 k t141 true a0_0 a0_1 l0_2))
set_option maxHeartbeats 8000000 in
set_option maxRecDepth 100000 in
theorem qf.calls (k : Nat) (a0_0 : Int) (a0_1 : Int) (A0_2 : Option Addr) (c0_2 : Nat) (l0_2 : List Int) (r : Bool) (w : World) (hr0_2 : Kd.C (Kd.int .u8) w A0_2 l0_2.length l0_2) (hc0_2 : l0_2.length ≤ c0_2) (h : qf.f k a0_0 a0_1 l0_2 = some r) :
  Calls Tryd.prog 32 #[.agg #[.int .i64 a0_0, .int .i64 a0_1, .slice A0_2 l0_2.length c0_2]] w fun e w' => e = .returned (.bool r) ∧ Below w.heap.size w w' := by
 have hu45 := Tryd.underlying45
 have HR0_2 := Aside0.mk hr0_2
 have HC0_2 := Aside0.mk hc0_2
 clear hr0_2 hc0_2
 have HB := Aside0.mk (Below.refl w.heap.size w)
 have H : ((qg.f k a0_0 a0_1 l0_2).bind fun t141 => (if (t141.length : Int) = 6 then (if a0_0 > 6 then (qf.j0 k t141 true a0_0 a0_1 l0_2) else (qf.j0 k t141 (decide (a0_1 > 6)) a0_0 a0_1 l0_2)) else (qf.j0 k t141 true a0_0 a0_1 l0_2))) = some r := h
 clear h
 replace H := Option.bind_eq_some_iff.mp H
 obtain ⟨t141, A20, H⟩ := H
 replace H : (if (t141.length : Int) = 6 then (if a0_0 > 6 then (qf.j0 k t141 true a0_0 a0_1 l0_2) else (qf.j0 k t141 (decide (a0_1 > 6)) a0_0 a0_1 l0_2)) else (qf.j0 k t141 true a0_0 a0_1 l0_2)) = some r := H
 have A2 := Aside0.mk A20
 clear A20
 have HC3 := Aside0.mk H
 clear H
 go_enter Tryd.func32, Tryd.ntmps32
 go_upto_region 2 with (first | ((with_reducible refine qX (N := 1) rfl ?_); refine qW ?hg (N := 1) ?hd (cs := #[.int .i64 a0_0, .int .i64 a0_1, .slice A0_2 l0_2.length c0_2]) (t := 45) ?hr ?_; (case hd => rfl); (case hg => rfl); (case hr => first | (go_simp; done) | (go_simp; rfl)); intro gb140 hg w4 hbox hb; have n0_ := Aside0.mk (qJ bl hb); have n1_ := Aside0.mk (hbox); have n2_ := Aside0.mk ((gg hg)); have n3_ := Aside0.mk ((gg hg)); clear HB; have HB := n0_; have BK140 := n1_; have GW140 := n2_; have GE140 := n3_; clear n0_ n1_ n2_ n3_; clear hb hbox hg; have hcz5_0 := bc BK140 0; have hcz5_1 := bc BK140 1; have hcz5_2 := bc BK140 2; have hfz5_0 := qA BK140.out 0; have hfz5_1 := qA BK140.out 1; have hfz5_2 := qA BK140.out 2) | ((with_reducible refine qa (f := 36) rfl ?_); refine qQA (some 10) rfl rfl Tryd.func36 (by kernel_rfl) rfl #[.agg #[.int .i64 a0_0, .int .i64 a0_1, .slice A0_2 l0_2.length c0_2]] rfl (by (try simp only [List.map_toArray, List.map_cons, List.map_nil]); first | done | rfl | (simp only [List.length_drop, List.length_take]; rfl)) ?_; (with_reducible refine (qg.calls k a0_0 a0_1 _ _ l0_2 t141 _ ?side1 ?side2 A2.out).mono ?_); (case side1 => repeat (first | exact (Kd.qyA HR0_2.out HB.out) | (with_reducible refine Kd.qZA ?_ _) | (with_reducible refine Kd.qYA ?_ _) | (with_reducible refine Kd.qpA ?_))); (case side2 => exact HC0_2.out); rintro e w6 ⟨v142, rfl, ho0, hb⟩; refine ⟨_, rfl, ?_⟩; have n0_ := Aside0.mk (Kd.qEA ho0 (qb bl)); have n1_ := Aside0.mk (bb BK140 hb); have n2_ := Aside0.mk (qJ bl hb); clear BK140; clear HB; have HO143 := n0_; have BK140 := n1_; have HB := n2_; clear n0_ n1_ n2_; (try clear hb); (try clear hb2); (try clear hk); (try clear hi); (try clear ho0)))
 (try simp only [Act.put, List.setIfInBounds_toArray, List.set_cons_zero, List.set_cons_succ])
 go_cut [23] (fun v23 wc => ∃ (kq : Nat) (x23_2 : Bool), v23 = .bool x23_2 ∧ Aside0 (qf.j0 kq t141 x23_2 a0_0 a0_1 l0_2 = some r) ∧ Aside0 (kq ≤ k) ∧ Aside0 (Kd.R (Kd.int .i64) 3 wc w.heap.size (fun _ => True) v142 t141) ∧ Aside0 (wc.heap[gb140]? = some (.cells #[.int .i64 a0_0, .int .i64 a0_1, (.slice A0_2 l0_2.length c0_2)] 45 (0, 0))) ∧ Aside0 (Below w.heap.size w wc))
 case first =>
  have H := HC3.out
  clear HC3
  by_cases c7 : (t141.length : Int) = 6
  ·rw [if_pos c7] at H
   have c7b0 : ((t141.length : Int) == 6) = true := beq_iff_eq.mpr c7
   have c7b1 : ((t141.length : Int) != 6) = false := bne_eq_false_iff_eq.mpr c7
   clear c7
   (first | rw [c7b0] | (simp only [i64_w, i32_w]; rw [c7b0]) | skip)
   by_cases c8 : a0_0 > 6
   ·rw [if_pos c8] at H
    have c8b0 : decide (6 < a0_0) = true := decide_eq_true c8
    clear c8
    have H' := Aside0.mk H
    clear H
    obtain ⟨Ao9, co9, eo9⟩ := Kd.qr HO143.out
    subst eo9
    have hcz10_0 := bc BK140 0
    have hcz10_1 := bc BK140 1
    have hcz10_2 := bc BK140 2
    have hfz10_0 := qA BK140.out 0
    have hfz10_1 := qA BK140.out 1
    have hfz10_2 := qA BK140.out 2
    go_wp2
    go_meet
    case rel => exact ⟨_, (true), (by first | rfl | (simp; done) | (simp [*]; done)), H', ⟨by first | omega | exact Nat.le_refl _⟩, ⟨by (with_reducible repeat (first | apply Kd.qF | apply Kd.qG | apply Kd.qH)); exact HO143.out⟩, ⟨by (with_reducible repeat (first | refine qD ?_ _ | refine qE ?_ | refine qC ?_ _)); exact BK140.out⟩, ⟨bl⟩⟩
   ·rw [if_neg c8] at H
    have c8b0 : decide (6 < a0_0) = false := decide_eq_false c8
    clear c8
    have H' := Aside0.mk H
    clear H
    obtain ⟨Ao11, co11, eo11⟩ := Kd.qr HO143.out
    subst eo11
    have hcz12_0 := bc BK140 0
    have hcz12_1 := bc BK140 1
    have hcz12_2 := bc BK140 2
    have hfz12_0 := qA BK140.out 0
    have hfz12_1 := qA BK140.out 1
    have hfz12_2 := qA BK140.out 2
    go_wp2
    go_meet
    case rel => exact ⟨_, (decide (a0_1 > 6)), (by first | rfl | (simp; done) | (simp [*]; done)), H', ⟨by first | omega | exact Nat.le_refl _⟩, ⟨by (with_reducible repeat (first | apply Kd.qF | apply Kd.qG | apply Kd.qH)); exact HO143.out⟩, ⟨by (with_reducible repeat (first | refine qD ?_ _ | refine qE ?_ | refine qC ?_ _)); exact BK140.out⟩, ⟨bl⟩⟩
  ·rw [if_neg c7] at H
   have c7b0 : ((t141.length : Int) == 6) = false := beq_eq_false_iff_ne.mpr c7
   have c7b1 : ((t141.length : Int) != 6) = true := bne_iff_ne.mpr c7
   (first | rw [c7b0] | (simp only [i64_w, i32_w]; rw [c7b0]) | skip)
   have H' := Aside0.mk H
   clear H
   obtain ⟨Ao13, co13, eo13⟩ := Kd.qr HO143.out
   subst eo13
   go_wp2
   go_meet
   case rel => exact ⟨_, (true), (by first | rfl | (simp; done) | (simp [*]; done)), H', ⟨by first | omega | exact Nat.le_refl _⟩, ⟨by (with_reducible repeat (first | apply Kd.qF | apply Kd.qG | apply Kd.qH)); exact HO143.out⟩, ⟨by (with_reducible repeat (first | refine qD ?_ _ | refine qE ?_ | refine qC ?_ _)); exact BK140.out⟩, ⟨bl⟩⟩
 case rest =>
  clear HC3
  try clear p2
  try clear c3
  try clear c7
  try clear c7b0
  try clear c7b1
  try clear c8
  try clear c8b0
  try clear hcz10_0
  try clear hcz10_1
  try clear hcz10_2
  try clear hcz12_0
  try clear hcz12_1
  try clear hcz12_2
  try clear hcz5_0
  try clear hcz5_1
  try clear hcz5_2
  try clear hfz10_0
  try clear hfz10_1
  try clear hfz10_2
  try clear hfz12_0
  try clear hfz12_1
  try clear hfz12_2
  try clear hfz5_0
  try clear hfz5_1
  try clear hfz5_2
  obtain ⟨kq, x23_2, rfl, HA, HJ2, HO_3, BK140, HB⟩ := hcut
  cases kq with
  | zero => exact absurd HA.out (by simp [qf.j0])
  | succ kj2 =>
   have H := HA.out
   clear HA
   simp only [qf.j0] at H
   by_cases c14 : x23_2 = true
   ·subst c14
    have H1 : (some false) = some r := by rw [if_pos rfl] at H; exact H
    clear H
    have H := H1
    clear H1
    obtain rfl := Option.some.inj H
    go_wp2
    go_ret
    exact ⟨by first | rfl | (simp [qN, qM] <;> rfl) | (simp [*, qN, qM] <;> rfl), bl⟩
   ·replace c14 := Bool.eq_false_iff.mpr c14
    subst c14
    have H1 : ((qV.f kj2 a0_0 a0_1 l0_2).bind fun t144 => (qf.l0 kj2 t141 0 0 t144 (t141.length : Int) 0 a0_0 a0_1 l0_2)) = some r := by rw [if_neg (show ¬ (false = true) by decide)] at H; exact H
    clear H
    have H := H1
    clear H1
    replace H := Option.bind_eq_some_iff.mp H
    obtain ⟨t144, A150, H⟩ := H
    replace H : (qf.l0 kj2 t141 0 0 t144 (t141.length : Int) 0 a0_0 a0_1 l0_2) = some r := H
    have A15 := Aside0.mk A150
    clear A150
    have H' := Aside0.mk H
    clear H
    have hcz16_0 := bc BK140 0
    have hcz16_1 := bc BK140 1
    have hcz16_2 := bc BK140 2
    have hfz16_0 := qA BK140.out 0
    have hfz16_1 := qA BK140.out 1
    have hfz16_2 := qA BK140.out 2
    go_wp2_with (first | ((with_reducible refine qa (f := 39) rfl ?_); refine qQA (some 25) rfl rfl Tryd.func39 (by kernel_rfl) rfl #[.agg #[.int .i64 a0_0, .int .i64 a0_1, .slice A0_2 l0_2.length c0_2]] rfl (by (try simp only [List.map_toArray, List.map_cons, List.map_nil]); first | done | rfl | (simp only [List.length_drop, List.length_take]; rfl)) ?_; (with_reducible refine (qV.calls kj2 a0_0 a0_1 _ _ l0_2 t144 _ ?side1 ?side2 A15.out).mono ?_); (case side1 => repeat (first | exact (Kd.qyA HR0_2.out HB.out) | (with_reducible refine Kd.qZA ?_ _) | (with_reducible refine Kd.qYA ?_ _) | (with_reducible refine Kd.qpA ?_))); (case side2 => exact HC0_2.out); rintro e w17 ⟨v145, rfl, ho0, hb⟩; refine ⟨_, rfl, ?_⟩; have n0_ := Aside0.mk (Kd.qmA (by (with_reducible repeat (first | apply Kd.qF | apply Kd.qG | apply Kd.qH)); exact HO_3.out) (Kd.qLB ho0) hb); have n1_ := Aside0.mk (Kd.qEA (Kd.qKB ho0 (Kd.R_lt (by (with_reducible repeat (first | apply Kd.qF | apply Kd.qG | apply Kd.qH)); exact HO_3.out))) (qb bl)); have n2_ := Aside0.mk (bb BK140 hb); have n3_ := Aside0.mk (qJ bl hb); clear HO_3; clear BK140; clear HB; have HO_3 := n0_; have HO146 := n1_; have BK140 := n2_; have HB := n3_; clear n0_ n1_ n2_ n3_; (try clear hb); (try clear hb2); (try clear hk); (try clear hi); (try clear ho0); obtain ⟨Ao18, co18, eo18⟩ := Kd.qr HO_3.out; subst eo18))
    go_loopg [5, 6, 28] kj2 (fun kq v5 v6 v28 w' => ∃ (x5_2 : Int) (x6_2 : Int) (x28_2 : Int), v5 = .int .i64 x5_2 ∧ v6 = .int .i64 x6_2 ∧ v28 = .int .i64 x28_2 ∧ Aside0 (qf.l0 kq t141 x5_2 x6_2 t144 (t141.length : Int) x28_2 a0_0 a0_1 l0_2 = some r) ∧ Aside0 (kq ≤ kj2) ∧ Aside0 (Kd.R (Kd.int .i64) 3 w' w.heap.size (fun k_ => some k_ ≠ (v145 : Value).ownBlock) (.slice Ao18 t141.length co18) t141) ∧ Aside0 (Kd.R (Kd.int .i64) 3 w' w.heap.size (fun k_ => some k_ ≠ ((.slice Ao18 t141.length co18) : Value).ownBlock) v145 t144) ∧ Aside0 (w'.heap[gb140]? = some (.cells #[.int .i64 a0_0, .int .i64 a0_1, (.slice A0_2 l0_2.length c0_2)] 45 (0, 0))) ∧ Aside0 (Below w.heap.size w w'))
    case atStart => exact ⟨(0), (0), (0), (by first | rfl | (simp; done) | (simp [*]; done)), (by first | rfl | (simp; done) | (simp [*]; done)), (by first | rfl | (simp; done) | (simp [*]; done)), H', ⟨Nat.le_refl _⟩, ⟨by (with_reducible repeat (first | apply Kd.qF | apply Kd.qG | apply Kd.qH)); exact Kd.qd HO_3.out (fun _ hk => hk.2)⟩, ⟨by (with_reducible repeat (first | apply Kd.qF | apply Kd.qG | apply Kd.qH)); exact Kd.qd HO146.out (fun _ hk => hk.2)⟩, ⟨by (with_reducible repeat (first | refine qD ?_ _ | refine qE ?_ | refine qC ?_ _)); exact BK140.out⟩, ⟨bl⟩⟩
    case round =>
     clear H'
     try clear c1
     try clear p2
     try clear c3
     try clear c7
     try clear c7b0
     try clear c7b1
     try clear c8
     try clear c8b0
     try clear c14
     try clear hcz10_0
     try clear hcz10_1
     try clear hcz10_2
     try clear hcz12_0
     try clear hcz12_1
     try clear hcz12_2
     try clear hcz16_0
     try clear hcz16_1
     try clear hcz16_2
     try clear hcz5_0
     try clear hcz5_1
     try clear hcz5_2
     try clear hfz10_0
     try clear hfz10_1
     try clear hfz10_2
     try clear hfz12_0
     try clear hfz12_1
     try clear hfz12_2
     try clear hfz16_0
     try clear hfz16_1
     try clear hfz16_2
     try clear hfz5_0
     try clear hfz5_1
     try clear hfz5_2
     try clear p2
     obtain ⟨x5_2, x6_2, x28_2, rfl, rfl, rfl, HA, HK2, HO_3, HO_25, BK140, HB⟩ := hrel
     cases gk with
     | zero => exact absurd HA.out (by simp [qf.l0])
     | succ k2 =>
      have H := HA.out
      clear HA
      simp only [qf.l0] at H
      by_cases c19 : x28_2 < (t141.length : Int)
      ·rw [if_pos c19] at H
       have c19b0 : decide (x28_2 < (t141.length : Int)) = true := decide_eq_true c19
       clear c19
       by_cases c20 : 0 ≤ x28_2
       ·rw [if_pos c20] at H
        have c20b0 : decide (0 ≤ x28_2) = true := decide_eq_true c20
        clear c20
        by_cases c21 : x28_2 < (t141.length : Int)
        ·rw [if_pos c21] at H
         have c21b0 : decide (x28_2 < (t141.length : Int)) = true := decide_eq_true c21
         clear c21
         by_cases c22 : 0 ≤ (rd t141 x28_2)
         ·rw [if_pos c22] at H
          have c22b0 : decide (0 ≤ (rd t141 x28_2)) = true := decide_eq_true c22
          clear c22
          by_cases c23 : (rd t141 x28_2) < (t144.length : Int)
          ·rw [if_pos c23] at H
           have c23b0 : decide ((rd t141 x28_2) < (t144.length : Int)) = true := decide_eq_true c23
           clear c23
           by_cases c24 : (rd t144 (rd t141 x28_2)) < 0
           ·rw [if_pos c24] at H
            have c24b0 : decide ((rd t144 (rd t141 x28_2)) < 0) = true := decide_eq_true c24
            clear c24
            obtain rfl := Option.some.inj H
            have p147 : 0 ≤ (x28_2 : Int) := of_decide_eq_true (by first | (with_reducible assumption) | assumption)
            have q147 : x28_2 < (t141.length : Int) := of_decide_eq_true (by first | (with_reducible assumption) | assumption)
            obtain ⟨ad147, e147, hx147_0⟩ := Kd.qGA (Kd.qS HO_3.out).2.2 x28_2 p147 q147
            cases e147
            replace p147 := eq_true p147
            replace q147 := eq_true q147
            obtain ⟨Ao25, co25, eo25⟩ := Kd.qr HO_25.out
            subst eo25
            have p148 : 0 ≤ ((rd t141 x28_2) : Int) := of_decide_eq_true (by first | (with_reducible assumption) | assumption)
            have q148 : (rd t141 x28_2) < (t144.length : Int) := of_decide_eq_true (by first | (with_reducible assumption) | assumption)
            obtain ⟨ad148, e148, hx148_0⟩ := Kd.qGA (Kd.qS HO_25.out).2.2 (rd t141 x28_2) p148 q148
            cases e148
            replace p148 := eq_true p148
            replace q148 := eq_true q148
            go_wp2
            go_ret
            exact ⟨by first | rfl | (simp [qN, qM] <;> rfl) | (simp [*, qN, qM] <;> rfl), bl⟩
           ·rw [if_neg c24] at H
            have c24b0 : decide ((rd t144 (rd t141 x28_2)) < 0) = false := decide_eq_false c24
            clear c24
            by_cases c26 : a0_0 = 0
            ·rw [if_pos c26] at H
             exact absurd H (by simp)
            ·rw [if_neg c26] at H
             have c26b0 : (a0_0 == 0) = false := beq_eq_false_iff_ne.mpr c26
             have c26b1 : (a0_0 != 0) = true := bne_iff_ne.mpr c26
             obtain ⟨ji27, hji27⟩ : ∃ j_ : Int, (Int.tmod (rd t141 x28_2) a0_0) = j_ := ⟨_, rfl⟩
             replace H : (if 0 ≤ (ji27) then (if 0 ≤ (wrap64 (Int.tdiv (rd t141 x28_2) a0_0)) then (qf.l0 k2 t141 (Go.bits .or .i64 x5_2 (shl .i64 1 (ji27))) (Go.bits .or .i64 x6_2 (shl .i64 1 (wrap64 (Int.tdiv (rd t141 x28_2) a0_0)))) t144 (t141.length : Int) (wrap64 (x28_2 + 1)) a0_0 a0_1 l0_2) else (none)) else (none)) = some r := by first | (rw [hji27] at H; exact H) | (simp only [hji27] at H ⊢; exact H)
             by_cases c28 : 0 ≤ (ji27)
             ·rw [if_pos c28] at H
              have c28b0 := eq_true c28
              have c28b1 : decide (0 ≤ (ji27)) = true := decide_eq_true c28
              clear c28
              obtain ⟨ji29, hji29⟩ : ∃ j_ : Int, (shl .i64 1 (ji27)) = j_ := ⟨_, rfl⟩
              replace H : (if 0 ≤ (wrap64 (Int.tdiv (rd t141 x28_2) a0_0)) then (qf.l0 k2 t141 (Go.bits .or .i64 x5_2 (ji29)) (Go.bits .or .i64 x6_2 (shl .i64 1 (wrap64 (Int.tdiv (rd t141 x28_2) a0_0)))) t144 (t141.length : Int) (wrap64 (x28_2 + 1)) a0_0 a0_1 l0_2) else (none)) = some r := by first | (rw [hji29] at H; exact H) | (simp only [hji29] at H ⊢; exact H)
              have hji29_ : (IntKind.i64.wrap (1 * 2 ^ min (ji27).toNat 64)) = ji29 := hji29
              have hji29z : (ji27) ≤ 64 → (IntKind.i64.wrap (1 * 2 ^ (ji27).toNat)) = ji29 := qnB hji29
              have hji29u : (IntKind.i64.wrap (2 ^ min (ji27).toNat 64)) = ji29 := by have h_ := hji29_; rw [Int.one_mul] at h_; exact h_
              have hji29v : (ji27) ≤ 64 → (IntKind.i64.wrap (2 ^ (ji27).toNat)) = ji29 := fun hle_ => by have h_ := hji29z hle_; rw [Int.one_mul] at h_; exact h_
              have hji29y : (wrap64 (1 * 2 ^ min (ji27).toNat 64)) = ji29 := (i64_w _).symm.trans hji29_
              have hji29x : (ji27) ≤ 64 → (wrap64 (1 * 2 ^ (ji27).toNat)) = ji29 := fun h_ => (i64_w _).symm.trans (hji29z h_)
              obtain ⟨ji30, hji30⟩ : ∃ j_ : Int, (wrap64 (Int.tdiv (rd t141 x28_2) a0_0)) = j_ := ⟨_, rfl⟩
              replace H : (if 0 ≤ (ji30) then (qf.l0 k2 t141 (Go.bits .or .i64 x5_2 (ji29)) (Go.bits .or .i64 x6_2 (shl .i64 1 (ji30))) t144 (t141.length : Int) (wrap64 (x28_2 + 1)) a0_0 a0_1 l0_2) else (none)) = some r := by first | (rw [hji30] at H; exact H) | (simp only [hji30] at H ⊢; exact H)
              have hji30w : (IntKind.i64.wrap (Int.tdiv (rd t141 x28_2) a0_0)) = ji30 := (i64_w _).trans hji30
              by_cases c31 : 0 ≤ (ji30)
              ·rw [if_pos c31] at H
               have c31b0 := eq_true c31
               have c31b1 : decide (0 ≤ (ji30)) = true := decide_eq_true c31
               clear c31
               obtain ⟨ji32, hji32⟩ : ∃ j_ : Int, (shl .i64 1 (ji30)) = j_ := ⟨_, rfl⟩
               replace H : (qf.l0 k2 t141 (Go.bits .or .i64 x5_2 (ji29)) (Go.bits .or .i64 x6_2 (ji32)) t144 (t141.length : Int) (wrap64 (x28_2 + 1)) a0_0 a0_1 l0_2) = some r := by first | (rw [hji32] at H; exact H) | (simp only [hji32] at H ⊢; exact H)
               have hji32_ : (IntKind.i64.wrap (1 * 2 ^ min (ji30).toNat 64)) = ji32 := hji32
               have hji32z : (ji30) ≤ 64 → (IntKind.i64.wrap (1 * 2 ^ (ji30).toNat)) = ji32 := qnB hji32
               have hji32u : (IntKind.i64.wrap (2 ^ min (ji30).toNat 64)) = ji32 := by have h_ := hji32_; rw [Int.one_mul] at h_; exact h_
               have hji32v : (ji30) ≤ 64 → (IntKind.i64.wrap (2 ^ (ji30).toNat)) = ji32 := fun hle_ => by have h_ := hji32z hle_; rw [Int.one_mul] at h_; exact h_
               have hji32y : (wrap64 (1 * 2 ^ min (ji30).toNat 64)) = ji32 := (i64_w _).symm.trans hji32_
               have hji32x : (ji30) ≤ 64 → (wrap64 (1 * 2 ^ (ji30).toNat)) = ji32 := fun h_ => (i64_w _).symm.trans (hji32z h_)
               have H' := Aside0.mk H
               clear H
               have p147 : 0 ≤ (x28_2 : Int) := of_decide_eq_true (by first | (with_reducible assumption) | assumption)
               have q147 : x28_2 < (t141.length : Int) := of_decide_eq_true (by first | (with_reducible assumption) | assumption)
               obtain ⟨ad147, e147, hx147_0⟩ := Kd.qGA (Kd.qS HO_3.out).2.2 x28_2 p147 q147
               cases e147
               replace p147 := eq_true p147
               replace q147 := eq_true q147
               obtain ⟨Ao33, co33, eo33⟩ := Kd.qr HO_25.out
               subst eo33
               have p148 : 0 ≤ ((rd t141 x28_2) : Int) := of_decide_eq_true (by first | (with_reducible assumption) | assumption)
               have q148 : (rd t141 x28_2) < (t144.length : Int) := of_decide_eq_true (by first | (with_reducible assumption) | assumption)
               obtain ⟨ad148, e148, hx148_0⟩ := Kd.qGA (Kd.qS HO_25.out).2.2 (rd t141 x28_2) p148 q148
               cases e148
               replace p148 := eq_true p148
               replace q148 := eq_true q148
               have hcz34_0 := bc BK140 0
               have hcz34_1 := bc BK140 1
               have hcz34_2 := bc BK140 2
               have hfz34_0 := qA BK140.out 0
               have hfz34_1 := qA BK140.out 1
               have hfz34_2 := qA BK140.out 2
               go_wp2
               go_roundg k2
               case measure => have := HJ2.out; have := HK2.out; omega
               case rel => exact ⟨(Go.bits .or .i64 x5_2 (ji29)), (Go.bits .or .i64 x6_2 (ji32)), (wrap64 (x28_2 + 1)), (by first | rfl | (simp; done) | (simp only [← hji29] <;> (first | rfl | simp)) | (simp [*]; done)), (by first | rfl | (simp; done) | (simp only [← hji32] <;> (first | rfl | simp)) | (simp [*]; done)), (by first | rfl | (simp; done) | (simp [*]; done)), H', ⟨by have := HJ2.out; have := HK2.out; omega⟩, ⟨by (with_reducible repeat (first | apply Kd.qF | apply Kd.qG | apply Kd.qH)); exact HO_3.out⟩, ⟨by (with_reducible repeat (first | apply Kd.qF | apply Kd.qG | apply Kd.qH)); exact HO_25.out⟩, ⟨by (with_reducible repeat (first | refine qD ?_ _ | refine qE ?_ | refine qC ?_ _)); exact BK140.out⟩, ⟨bl⟩⟩
              ·rw [if_neg c31] at H
               exact absurd H (by simp)
             ·rw [if_neg c28] at H
              exact absurd H (by simp)
          ·rw [if_neg c23] at H
           exact absurd H (by simp)
         ·rw [if_neg c22] at H
          exact absurd H (by simp)
        ·rw [if_neg c21] at H
         exact absurd H (by simp)
       ·rw [if_neg c20] at H
        exact absurd H (by simp)
      ·rw [if_neg c19] at H
       have c19b0 : decide (x28_2 < (t141.length : Int)) = false := decide_eq_false c19
       clear c19
       by_cases c35 : 0 ≤ a0_0
       ·rw [if_pos c35] at H
        have c35b0 := eq_true c35
        have c35b1 : decide (0 ≤ a0_0) = true := decide_eq_true c35
        clear c35
        obtain ⟨ji36, hji36⟩ : ∃ j_ : Int, (shl .i64 1 a0_0) = j_ := ⟨_, rfl⟩
        replace H : (if x5_2 = (wrap64 ((ji36) - 1)) then (if 0 ≤ a0_1 then (some (x6_2 == (wrap64 ((shl .i64 1 a0_1) - 1)))) else (none)) else (some false)) = some r := by first | (rw [hji36] at H; exact H) | (simp only [hji36] at H ⊢; exact H)
        have hji36_ : (IntKind.i64.wrap (1 * 2 ^ min a0_0.toNat 64)) = ji36 := hji36
        have hji36z : a0_0 ≤ 64 → (IntKind.i64.wrap (1 * 2 ^ a0_0.toNat)) = ji36 := qnB hji36
        have hji36u : (IntKind.i64.wrap (2 ^ min a0_0.toNat 64)) = ji36 := by have h_ := hji36_; rw [Int.one_mul] at h_; exact h_
        have hji36v : a0_0 ≤ 64 → (IntKind.i64.wrap (2 ^ a0_0.toNat)) = ji36 := fun hle_ => by have h_ := hji36z hle_; rw [Int.one_mul] at h_; exact h_
        have hji36y : (wrap64 (1 * 2 ^ min a0_0.toNat 64)) = ji36 := (i64_w _).symm.trans hji36_
        have hji36x : a0_0 ≤ 64 → (wrap64 (1 * 2 ^ a0_0.toNat)) = ji36 := fun h_ => (i64_w _).symm.trans (hji36z h_)
        by_cases c37 : x5_2 = (wrap64 ((ji36) - 1))
        ·rw [if_pos c37] at H
         have c37b0 : (x5_2 == (wrap64 ((ji36) - 1))) = true := beq_iff_eq.mpr c37
         have c37b1 : (x5_2 != (wrap64 ((ji36) - 1))) = false := bne_eq_false_iff_eq.mpr c37
         clear c37
         by_cases c38 : 0 ≤ a0_1
         ·rw [if_pos c38] at H
          have c38b0 := eq_true c38
          have c38b1 : decide (0 ≤ a0_1) = true := decide_eq_true c38
          clear c38
          obtain ⟨ji39, hji39⟩ : ∃ j_ : Int, (shl .i64 1 a0_1) = j_ := ⟨_, rfl⟩
          replace H : (some (x6_2 == (wrap64 ((ji39) - 1)))) = some r := by first | (rw [hji39] at H; exact H) | (simp only [hji39] at H ⊢; exact H)
          have hji39_ : (IntKind.i64.wrap (1 * 2 ^ min a0_1.toNat 64)) = ji39 := hji39
          have hji39z : a0_1 ≤ 64 → (IntKind.i64.wrap (1 * 2 ^ a0_1.toNat)) = ji39 := qnB hji39
          have hji39u : (IntKind.i64.wrap (2 ^ min a0_1.toNat 64)) = ji39 := by have h_ := hji39_; rw [Int.one_mul] at h_; exact h_
          have hji39v : a0_1 ≤ 64 → (IntKind.i64.wrap (2 ^ a0_1.toNat)) = ji39 := fun hle_ => by have h_ := hji39z hle_; rw [Int.one_mul] at h_; exact h_
          have hji39y : (wrap64 (1 * 2 ^ min a0_1.toNat 64)) = ji39 := (i64_w _).symm.trans hji39_
          have hji39x : a0_1 ≤ 64 → (wrap64 (1 * 2 ^ a0_1.toNat)) = ji39 := fun h_ => (i64_w _).symm.trans (hji39z h_)
          obtain rfl := Option.some.inj H
          have hcz40_0 := bc BK140 0
          have hcz40_1 := bc BK140 1
          have hcz40_2 := bc BK140 2
          have hfz40_0 := qA BK140.out 0
          have hfz40_1 := qA BK140.out 1
          have hfz40_2 := qA BK140.out 2
          go_wp2
          go_ret
          exact ⟨by first | rfl | (simp [qN, qM] <;> rfl) | (simp only [← hji36, ← hji39]; first | rfl | (simp [qN, qM] <;> rfl)) | (simp [*, qN, qM] <;> rfl), bl⟩
         ·rw [if_neg c38] at H
          exact absurd H (by simp)
        ·rw [if_neg c37] at H
         have c37b0 : (x5_2 == (wrap64 ((ji36) - 1))) = false := beq_eq_false_iff_ne.mpr c37
         have c37b1 : (x5_2 != (wrap64 ((ji36) - 1))) = true := bne_iff_ne.mpr c37
         obtain rfl := Option.some.inj H
         have hcz41_0 := bc BK140 0
         have hcz41_1 := bc BK140 1
         have hcz41_2 := bc BK140 2
         have hfz41_0 := qA BK140.out 0
         have hfz41_1 := qA BK140.out 1
         have hfz41_2 := qA BK140.out 2
         go_wp2
         go_ret
         exact ⟨by first | rfl | (simp [qN, qM] <;> rfl) | (simp only [← hji36]; first | rfl | (simp [qN, qM] <;> rfl)) | (simp [*, qN, qM] <;> rfl), bl⟩
       ·rw [if_neg c35] at H
        exact absurd H (by simp)
def qXA.f (l0 : List Int) : Option (Int × Int × Int × Int × Int × Int) := if 0 < (l0.length : Int) then (if 1 < (l0.length : Int) then (if 2 < (l0.length : Int) then (if 3 < (l0.length : Int) then (if 4 < (l0.length : Int) then (if 5 < (l0.length : Int) then (some (rd l0 0, rd l0 1, rd l0 2, rd l0 3, rd l0 4, rd l0 5)) else (none)) else (none)) else (none)) else (none)) else (none)) else (none)
def qXA.T1 : Bool × List (List Nat × List Nat) := (true, [([], []), ([0], [0]), ([1], [1]), ([], []), ([3], [3]), ([4], [4]), ([], []), ([6], [6]), ([7], [7]), ([], []), ([9], [9]), ([10], [10]), ([], []), ([12], [12]), ([13], [13]), ([], []), ([15], [15]), ([16], [16]), ([2, 5, 8, 11, 14, 17], [2, 5, 8, 11, 14, 17]), ([18, 0, 1, 2, 3, 4, 5, 6, 7, 8, 9, 10, 11, 12, 13, 14, 15, 16, 17, 18], [18])])
def qXA.B1 : List Nat := [0, 1, 3, 0, 8, 24, 0, 64, 192, 0, 512, 1536, 0, 4096, 12288, 0, 32768, 98304, 262143, 524287]
theorem qXA.tab1 : rtab .any (opsOf Tryd.f56 1) = qXA.T1 := by kernel_rfl
theorem qXA.bits1 : waitsOk qXA.T1.2 qXA.B1 = true := by kernel_rfl
set_option maxHeartbeats 8000000 in
set_option maxRecDepth 100000 in
theorem qXA.calls (A0 : Option Addr) (c0 : Nat) (l0 : List Int) (r1 : Int) (r2 : Int) (r3 : Int) (r4 : Int) (r5 : Int) (r6 : Int) (w : World) (hr0 : Kd.C (Kd.int .i64) w A0 l0.length l0) (hc0 : l0.length ≤ c0) (h : qXA.f l0 = some (r1, r2, r3, r4, r5, r6)) :
  Calls Tryd.prog 56 #[.slice A0 l0.length c0] w fun e w' => e = .returned (.agg #[.int .i64 r1, .int .i64 r2, .int .i64 r3, .int .i64 r4, .int .i64 r5, .int .i64 r6]) ∧ Below w.heap.size w w' := by
 have hu31 := Tryd.underlying31
 have HR0 := Aside0.mk hr0
 have HC0 := Aside0.mk hc0
 clear hr0 hc0
 have HB := Aside0.mk (Below.refl w.heap.size w)
 have H : (if 0 < (l0.length : Int) then (if 1 < (l0.length : Int) then (if 2 < (l0.length : Int) then (if 3 < (l0.length : Int) then (if 4 < (l0.length : Int) then (if 5 < (l0.length : Int) then (some (rd l0 0, rd l0 1, rd l0 2, rd l0 3, rd l0 4, rd l0 5)) else (none)) else (none)) else (none)) else (none)) else (none)) else (none)) = some (r1, r2, r3, r4, r5, r6) := h
 clear h
 by_cases c2 : 0 < (l0.length : Int)
 ·rw [if_pos c2] at H
  have c2b0 : decide (0 < (l0.length : Int)) = true := decide_eq_true c2
  have c2b1 : decide (0 < l0.length) = true := decide_eq_true (by omega)
  clear c2
  by_cases c3 : 1 < (l0.length : Int)
  ·rw [if_pos c3] at H
   have c3b0 : decide (1 < (l0.length : Int)) = true := decide_eq_true c3
   have c3b1 : decide (1 < l0.length) = true := decide_eq_true (by omega)
   clear c3
   by_cases c4 : 2 < (l0.length : Int)
   ·rw [if_pos c4] at H
    have c4b0 : decide (2 < (l0.length : Int)) = true := decide_eq_true c4
    have c4b1 : decide (2 < l0.length) = true := decide_eq_true (by omega)
    clear c4
    by_cases c5 : 3 < (l0.length : Int)
    ·rw [if_pos c5] at H
     have c5b0 : decide (3 < (l0.length : Int)) = true := decide_eq_true c5
     have c5b1 : decide (3 < l0.length) = true := decide_eq_true (by omega)
     clear c5
     by_cases c6 : 4 < (l0.length : Int)
     ·rw [if_pos c6] at H
      have c6b0 : decide (4 < (l0.length : Int)) = true := decide_eq_true c6
      have c6b1 : decide (4 < l0.length) = true := decide_eq_true (by omega)
      clear c6
      by_cases c7 : 5 < (l0.length : Int)
      ·rw [if_pos c7] at H
       have c7b0 : decide (5 < (l0.length : Int)) = true := decide_eq_true c7
       have c7b1 : decide (5 < l0.length) = true := decide_eq_true (by omega)
       clear c7
       simp only [Option.some.injEq, Prod.mk.injEq] at H
       obtain ⟨rfl, rfl, rfl, rfl, rfl, rfl⟩ := H
       go_enter Tryd.func56, Tryd.ntmps56
       try go_wp2_with (first | ((with_reducible refine qX (N := 2) rfl ?_); refine qW ?hg (N := 2) ?hd (cs := #[.int .i64 0, .int .i64 0, .int .i64 0, .int .i64 0, .int .i64 0, .int .i64 0]) (t := 31) ?hr ?_; (case hd => rfl); (case hg => rfl); (case hr => first | (go_simp; done) | (go_simp; rfl)); intro gb229 hg w8 hbox hb; have n0_ := Aside0.mk (qJ bl hb); have n1_ := Aside0.mk (hbox); have n2_ := Aside0.mk ((gg hg)); have n3_ := Aside0.mk ((gg hg)); clear HB; have HB := n0_; have BK229 := n1_; have GW229 := n2_; have GE229 := n3_; clear n0_ n1_ n2_ n3_; clear hb hbox hg))
       have n0_ := Aside0.mk (qE BK229.out)
       have n1_ := Aside0.mk (qk HB.out)
       clear BK229
       clear HB
       have BK229 := n0_
       have HB := n1_
       clear n0_ n1_
       have p230 : 0 ≤ (0 : Int) := (by omega)
       have q230 : 0 < (l0.length : Int) := of_decide_eq_true (by first | (with_reducible assumption) | assumption)
       obtain ⟨ad230, e230, hx230_0⟩ := Kd.qGA HR0.out 0 p230 q230
       have hw230_0 := hx230_0
       (try rw [show ((0 : Int)).toNat = 0 from rfl] at hw230_0)
       (try rw [show 0 * 1 = 0 from rfl] at hw230_0)
       (try rw [Addr.add_zero'] at hw230_0)
       cases e230
       have qi230 : (0 < l0.length) = True := eq_true (by omega)
       (try rw [show ((0 : Int)).toNat = 0 from rfl] at hx230_0)
       (try rw [Addr.add_zero'] at hx230_0)
       replace hx230_0 := (HB.out.cell (World.block_lt_of_cell? w _ hx230_0)).trans hx230_0
       replace p230 := eq_true p230
       replace q230 := eq_true q230
       have p231 : 0 ≤ (1 : Int) := (by omega)
       have q231 : 1 < (l0.length : Int) := of_decide_eq_true (by first | (with_reducible assumption) | assumption)
       obtain ⟨ad231, e231, hx231_0⟩ := Kd.qGA HR0.out 1 p231 q231
       have hw231_0 := hx231_0
       (try rw [show ((1 : Int)).toNat = 1 from rfl] at hw231_0)
       (try rw [show 1 * 1 = 1 from rfl] at hw231_0)
       (try simp only [Nat.reduceMul, Nat.reduceEqDiff, Go.Addr.add, ↓reduceIte] at hw231_0)
       obtain rfl : ad230 = ad231 := (by injection e231)
       (try simp only [show (1 : Int).toNat = 1 from rfl, Nat.reduceMul, Nat.reduceEqDiff, Go.Addr.add, ↓reduceIte] at hx231_0)
       have qi231 : (1 < l0.length) = True := eq_true (by omega)
       (try rw [show ((1 : Int)).toNat = 1 from rfl] at hx231_0)
       replace hx231_0 := (HB.out.cell (World.block_lt_of_cell? w _ hx231_0)).trans hx231_0
       replace p231 := eq_true p231
       replace q231 := eq_true q231
       have p232 : 0 ≤ (2 : Int) := (by omega)
       have q232 : 2 < (l0.length : Int) := of_decide_eq_true (by first | (with_reducible assumption) | assumption)
       obtain ⟨ad232, e232, hx232_0⟩ := Kd.qGA HR0.out 2 p232 q232
       have hw232_0 := hx232_0
       (try rw [show ((2 : Int)).toNat = 2 from rfl] at hw232_0)
       (try rw [show 2 * 1 = 2 from rfl] at hw232_0)
       (try simp only [Nat.reduceMul, Nat.reduceEqDiff, Go.Addr.add, ↓reduceIte] at hw232_0)
       obtain rfl : ad230 = ad232 := (by injection e232)
       (try simp only [show (2 : Int).toNat = 2 from rfl, Nat.reduceMul, Nat.reduceEqDiff, Go.Addr.add, ↓reduceIte] at hx232_0)
       have qi232 : (2 < l0.length) = True := eq_true (by omega)
       (try rw [show ((2 : Int)).toNat = 2 from rfl] at hx232_0)
       replace hx232_0 := (HB.out.cell (World.block_lt_of_cell? w _ hx232_0)).trans hx232_0
       replace p232 := eq_true p232
       replace q232 := eq_true q232
       have p233 : 0 ≤ (3 : Int) := (by omega)
       have q233 : 3 < (l0.length : Int) := of_decide_eq_true (by first | (with_reducible assumption) | assumption)
       obtain ⟨ad233, e233, hx233_0⟩ := Kd.qGA HR0.out 3 p233 q233
       have hw233_0 := hx233_0
       (try rw [show ((3 : Int)).toNat = 3 from rfl] at hw233_0)
       (try rw [show 3 * 1 = 3 from rfl] at hw233_0)
       (try simp only [Nat.reduceMul, Nat.reduceEqDiff, Go.Addr.add, ↓reduceIte] at hw233_0)
       obtain rfl : ad230 = ad233 := (by injection e233)
       (try simp only [show (3 : Int).toNat = 3 from rfl, Nat.reduceMul, Nat.reduceEqDiff, Go.Addr.add, ↓reduceIte] at hx233_0)
       have qi233 : (3 < l0.length) = True := eq_true (by omega)
       (try rw [show ((3 : Int)).toNat = 3 from rfl] at hx233_0)
       replace hx233_0 := (HB.out.cell (World.block_lt_of_cell? w _ hx233_0)).trans hx233_0
       replace p233 := eq_true p233
       replace q233 := eq_true q233
       have p234 : 0 ≤ (4 : Int) := (by omega)
       have q234 : 4 < (l0.length : Int) := of_decide_eq_true (by first | (with_reducible assumption) | assumption)
       obtain ⟨ad234, e234, hx234_0⟩ := Kd.qGA HR0.out 4 p234 q234
       have hw234_0 := hx234_0
       (try rw [show ((4 : Int)).toNat = 4 from rfl] at hw234_0)
       (try rw [show 4 * 1 = 4 from rfl] at hw234_0)
       (try simp only [Nat.reduceMul, Nat.reduceEqDiff, Go.Addr.add, ↓reduceIte] at hw234_0)
       obtain rfl : ad230 = ad234 := (by injection e234)
       (try simp only [show (4 : Int).toNat = 4 from rfl, Nat.reduceMul, Nat.reduceEqDiff, Go.Addr.add, ↓reduceIte] at hx234_0)
       have qi234 : (4 < l0.length) = True := eq_true (by omega)
       (try rw [show ((4 : Int)).toNat = 4 from rfl] at hx234_0)
       replace hx234_0 := (HB.out.cell (World.block_lt_of_cell? w _ hx234_0)).trans hx234_0
       replace p234 := eq_true p234
       replace q234 := eq_true q234
       have p235 : 0 ≤ (5 : Int) := (by omega)
       have q235 : 5 < (l0.length : Int) := of_decide_eq_true (by first | (with_reducible assumption) | assumption)
       obtain ⟨ad235, e235, hx235_0⟩ := Kd.qGA HR0.out 5 p235 q235
       have hw235_0 := hx235_0
       (try rw [show ((5 : Int)).toNat = 5 from rfl] at hw235_0)
       (try rw [show 5 * 1 = 5 from rfl] at hw235_0)
       (try simp only [Nat.reduceMul, Nat.reduceEqDiff, Go.Addr.add, ↓reduceIte] at hw235_0)
       obtain rfl : ad230 = ad235 := (by injection e235)
       (try simp only [show (5 : Int).toNat = 5 from rfl, Nat.reduceMul, Nat.reduceEqDiff, Go.Addr.add, ↓reduceIte] at hx235_0)
       have qi235 : (5 < l0.length) = True := eq_true (by omega)
       (try rw [show ((5 : Int)).toNat = 5 from rfl] at hx235_0)
       replace hx235_0 := (HB.out.cell (World.block_lt_of_cell? w _ hx235_0)).trans hx235_0
       replace p235 := eq_true p235
       replace q235 := eq_true q235
       refine qwA (n := 20) (S := fun w' => w'.cell? ad230 = some (.int .i64 (rd l0 0)) ∧ w'.cell? ⟨ad230.block, ad230.off + 1, none⟩ = some (.int .i64 (rd l0 1)) ∧ w'.cell? ⟨ad230.block, ad230.off + 2, none⟩ = some (.int .i64 (rd l0 2)) ∧ w'.cell? ⟨ad230.block, ad230.off + 3, none⟩ = some (.int .i64 (rd l0 3)) ∧ w'.cell? ⟨ad230.block, ad230.off + 4, none⟩ = some (.int .i64 (rd l0 4)) ∧ w'.cell? ⟨ad230.block, ad230.off + 5, none⟩ = some (.int .i64 (rd l0 5))) (ds := []) #[false, false, false, false, false, false, false, false, false, false, false, false, false, false, false, false, false, false, false, false] (by kernel_rfl) rfl rfl ⟨((HB.out.cell (World.block_lt_of_cell? w _ hw230_0)).trans hw230_0), ((HB.out.cell (World.block_lt_of_cell? w _ hw231_0)).trans hw231_0), ((HB.out.cell (World.block_lt_of_cell? w _ hw232_0)).trans hw232_0), ((HB.out.cell (World.block_lt_of_cell? w _ hw233_0)).trans hw233_0), ((HB.out.cell (World.block_lt_of_cell? w _ hw234_0)).trans hw234_0), ((HB.out.cell (World.block_lt_of_cell? w _ hw235_0)).trans hw235_0)⟩ (fun hHeld => ?_); refine qTA qXA.tab1 qXA.bits1 (fun HT_ HW_ => ?_)
       generalize w8.drew = w9 at BK229 HB hx230_0 hx231_0 hx232_0 hx233_0 hx234_0 hx235_0 hHeld ⊢
       refine pS (i := 0) (N := some 3) #[true, false, false, false, false, false, false, false, false, false, false, false, false, false, false, false, false, false, false, false] HT_ ?_
       refine pS (i := 1) (N := some 4) #[true, true, false, false, false, false, false, false, false, false, false, false, false, false, false, false, false, false, false, false] HT_ ?_
       refine pS (i := 3) (N := some 6) #[true, true, false, true, false, false, false, false, false, false, false, false, false, false, false, false, false, false, false, false] HT_ ?_
       refine pS (i := 4) (N := some 7) #[true, true, false, true, true, false, false, false, false, false, false, false, false, false, false, false, false, false, false, false] HT_ ?_
       refine pS (i := 6) (N := some 9) #[true, true, false, true, true, false, true, false, false, false, false, false, false, false, false, false, false, false, false, false] HT_ ?_
       refine pS (i := 7) (N := some 10) #[true, true, false, true, true, false, true, true, false, false, false, false, false, false, false, false, false, false, false, false] HT_ ?_
       refine pS (i := 9) (N := some 12) #[true, true, false, true, true, false, true, true, false, true, false, false, false, false, false, false, false, false, false, false] HT_ ?_
       refine pS (i := 10) (N := some 13) #[true, true, false, true, true, false, true, true, false, true, true, false, false, false, false, false, false, false, false, false] HT_ ?_
       refine pS (i := 12) (N := some 15) #[true, true, false, true, true, false, true, true, false, true, true, false, true, false, false, false, false, false, false, false] HT_ ?_
       refine pS (i := 13) (N := some 16) #[true, true, false, true, true, false, true, true, false, true, true, false, true, true, false, false, false, false, false, false] HT_ ?_
       refine pS (i := 15) (N := some 18) #[true, true, false, true, true, false, true, true, false, true, true, false, true, true, false, true, false, false, false, false] HT_ ?_
       refine pS (i := 16) (N := some 19) #[true, true, false, true, true, false, true, true, false, true, true, false, true, true, false, true, true, false, false, false] HT_ ?_
       refine tS (i := 2) (N := some 5) #[true, true, true, true, true, false, true, true, false, true, true, false, true, true, false, true, true, false, false, false] HT_ HW_ hHeld ?_
       refine tS (i := 5) (N := some 8) #[true, true, true, true, true, true, true, true, false, true, true, false, true, true, false, true, true, false, false, false] HT_ HW_ hHeld ?_
       refine tS (i := 8) (N := some 11) #[true, true, true, true, true, true, true, true, true, true, true, false, true, true, false, true, true, false, false, false] HT_ HW_ hHeld ?_
       refine tS (i := 11) (N := some 14) #[true, true, true, true, true, true, true, true, true, true, true, true, true, true, false, true, true, false, false, false] HT_ HW_ hHeld ?_
       refine tS (i := 14) (N := some 17) #[true, true, true, true, true, true, true, true, true, true, true, true, true, true, true, true, true, false, false, false] HT_ HW_ hHeld ?_
       refine tS (i := 17) (N := some 20) #[true, true, true, true, true, true, true, true, true, true, true, true, true, true, true, true, true, true, false, false] HT_ HW_ hHeld ?_
       refine pS (i := 18) (N := some 21) #[true, true, true, true, true, true, true, true, true, true, true, true, true, true, true, true, true, true, true, false] HT_ ?_
       refine one_ (i := 19) (N := none) #[true, true, true, true, true, true, true, true, true, true, true, true, true, true, true, true, true, true, true, true] rfl rfl (qnA HT_.out (by kernel_rfl)) (by decide) (fun K hK => ?_)
       have hs10 : w9.cell? ⟨gb229, 0, none⟩ = some (.int .i64 0) := (qL BK229.out 0).trans rfl
       have hfs10 := qA BK229.out 0
       have hs11 : w9.cell? ⟨gb229, 1, none⟩ = some (.int .i64 0) := (qL BK229.out 1).trans rfl
       have hfs11 := qA BK229.out 1
       have hs12 : w9.cell? ⟨gb229, 2, none⟩ = some (.int .i64 0) := (qL BK229.out 2).trans rfl
       have hfs12 := qA BK229.out 2
       have hs13 : w9.cell? ⟨gb229, 3, none⟩ = some (.int .i64 0) := (qL BK229.out 3).trans rfl
       have hfs13 := qA BK229.out 3
       have hs14 : w9.cell? ⟨gb229, 4, none⟩ = some (.int .i64 0) := (qL BK229.out 4).trans rfl
       have hfs14 := qA BK229.out 4
       have hs15 : w9.cell? ⟨gb229, 5, none⟩ = some (.int .i64 0) := (qL BK229.out 5).trans rfl
       have hfs15 := qA BK229.out 5
       refine skip_ (w1 := ?_) (by rfl) rfl ?_ ?_
       rotate_left
       ·go_simp
        rfl
       refine hK.out _ _ ⟨((qZ (p := ⟨gb229, _, none⟩) (by first | exact Nat.ne_of_lt (Nat.lt_of_lt_of_le (by have := World.block_lt_of_cell? _ _ hw230_0; first | rwa [qB] at this | exact this) GW229.out) | (rw [qB]; exact Nat.ne_of_lt (Nat.lt_of_lt_of_le (by have := World.block_lt_of_cell? _ _ hw230_0; first | rwa [qB] at this | exact this) GW229.out)) | (show (Addr.add _ _).block ≠ _; rw [qB]; exact Nat.ne_of_lt (Nat.lt_of_lt_of_le (by have := World.block_lt_of_cell? _ _ hw230_0; first | rwa [qB] at this | exact this) GW229.out)) | (dsimp only; exact Nat.ne_of_lt (Nat.lt_of_lt_of_le (by have := World.block_lt_of_cell? _ _ hw230_0; first | rwa [qB] at this | exact this) GW229.out))) _).trans (((qZ (p := ⟨gb229, _, none⟩) (by first | exact Nat.ne_of_lt (Nat.lt_of_lt_of_le (by have := World.block_lt_of_cell? _ _ hw230_0; first | rwa [qB] at this | exact this) GW229.out) | (rw [qB]; exact Nat.ne_of_lt (Nat.lt_of_lt_of_le (by have := World.block_lt_of_cell? _ _ hw230_0; first | rwa [qB] at this | exact this) GW229.out)) | (show (Addr.add _ _).block ≠ _; rw [qB]; exact Nat.ne_of_lt (Nat.lt_of_lt_of_le (by have := World.block_lt_of_cell? _ _ hw230_0; first | rwa [qB] at this | exact this) GW229.out)) | (dsimp only; exact Nat.ne_of_lt (Nat.lt_of_lt_of_le (by have := World.block_lt_of_cell? _ _ hw230_0; first | rwa [qB] at this | exact this) GW229.out))) _).trans (((qZ (p := ⟨gb229, _, none⟩) (by first | exact Nat.ne_of_lt (Nat.lt_of_lt_of_le (by have := World.block_lt_of_cell? _ _ hw230_0; first | rwa [qB] at this | exact this) GW229.out) | (rw [qB]; exact Nat.ne_of_lt (Nat.lt_of_lt_of_le (by have := World.block_lt_of_cell? _ _ hw230_0; first | rwa [qB] at this | exact this) GW229.out)) | (show (Addr.add _ _).block ≠ _; rw [qB]; exact Nat.ne_of_lt (Nat.lt_of_lt_of_le (by have := World.block_lt_of_cell? _ _ hw230_0; first | rwa [qB] at this | exact this) GW229.out)) | (dsimp only; exact Nat.ne_of_lt (Nat.lt_of_lt_of_le (by have := World.block_lt_of_cell? _ _ hw230_0; first | rwa [qB] at this | exact this) GW229.out))) _).trans (((qZ (p := ⟨gb229, _, none⟩) (by first | exact Nat.ne_of_lt (Nat.lt_of_lt_of_le (by have := World.block_lt_of_cell? _ _ hw230_0; first | rwa [qB] at this | exact this) GW229.out) | (rw [qB]; exact Nat.ne_of_lt (Nat.lt_of_lt_of_le (by have := World.block_lt_of_cell? _ _ hw230_0; first | rwa [qB] at this | exact this) GW229.out)) | (show (Addr.add _ _).block ≠ _; rw [qB]; exact Nat.ne_of_lt (Nat.lt_of_lt_of_le (by have := World.block_lt_of_cell? _ _ hw230_0; first | rwa [qB] at this | exact this) GW229.out)) | (dsimp only; exact Nat.ne_of_lt (Nat.lt_of_lt_of_le (by have := World.block_lt_of_cell? _ _ hw230_0; first | rwa [qB] at this | exact this) GW229.out))) _).trans (((qZ (p := ⟨gb229, _, none⟩) (by first | exact Nat.ne_of_lt (Nat.lt_of_lt_of_le (by have := World.block_lt_of_cell? _ _ hw230_0; first | rwa [qB] at this | exact this) GW229.out) | (rw [qB]; exact Nat.ne_of_lt (Nat.lt_of_lt_of_le (by have := World.block_lt_of_cell? _ _ hw230_0; first | rwa [qB] at this | exact this) GW229.out)) | (show (Addr.add _ _).block ≠ _; rw [qB]; exact Nat.ne_of_lt (Nat.lt_of_lt_of_le (by have := World.block_lt_of_cell? _ _ hw230_0; first | rwa [qB] at this | exact this) GW229.out)) | (dsimp only; exact Nat.ne_of_lt (Nat.lt_of_lt_of_le (by have := World.block_lt_of_cell? _ _ hw230_0; first | rwa [qB] at this | exact this) GW229.out))) _).trans (((qZ (p := ⟨gb229, _, none⟩) (by first | exact Nat.ne_of_lt (Nat.lt_of_lt_of_le (by have := World.block_lt_of_cell? _ _ hw230_0; first | rwa [qB] at this | exact this) GW229.out) | (rw [qB]; exact Nat.ne_of_lt (Nat.lt_of_lt_of_le (by have := World.block_lt_of_cell? _ _ hw230_0; first | rwa [qB] at this | exact this) GW229.out)) | (show (Addr.add _ _).block ≠ _; rw [qB]; exact Nat.ne_of_lt (Nat.lt_of_lt_of_le (by have := World.block_lt_of_cell? _ _ hw230_0; first | rwa [qB] at this | exact this) GW229.out)) | (dsimp only; exact Nat.ne_of_lt (Nat.lt_of_lt_of_le (by have := World.block_lt_of_cell? _ _ hw230_0; first | rwa [qB] at this | exact this) GW229.out))) _).trans (hHeld.1)))))))))))), ((qZ (p := ⟨gb229, _, none⟩) (by first | exact Nat.ne_of_lt (Nat.lt_of_lt_of_le (by have := World.block_lt_of_cell? _ _ hw231_0; first | rwa [qB] at this | exact this) GW229.out) | (rw [qB]; exact Nat.ne_of_lt (Nat.lt_of_lt_of_le (by have := World.block_lt_of_cell? _ _ hw231_0; first | rwa [qB] at this | exact this) GW229.out)) | (show (Addr.add _ _).block ≠ _; rw [qB]; exact Nat.ne_of_lt (Nat.lt_of_lt_of_le (by have := World.block_lt_of_cell? _ _ hw231_0; first | rwa [qB] at this | exact this) GW229.out)) | (dsimp only; exact Nat.ne_of_lt (Nat.lt_of_lt_of_le (by have := World.block_lt_of_cell? _ _ hw231_0; first | rwa [qB] at this | exact this) GW229.out))) _).trans (((qZ (p := ⟨gb229, _, none⟩) (by first | exact Nat.ne_of_lt (Nat.lt_of_lt_of_le (by have := World.block_lt_of_cell? _ _ hw231_0; first | rwa [qB] at this | exact this) GW229.out) | (rw [qB]; exact Nat.ne_of_lt (Nat.lt_of_lt_of_le (by have := World.block_lt_of_cell? _ _ hw231_0; first | rwa [qB] at this | exact this) GW229.out)) | (show (Addr.add _ _).block ≠ _; rw [qB]; exact Nat.ne_of_lt (Nat.lt_of_lt_of_le (by have := World.block_lt_of_cell? _ _ hw231_0; first | rwa [qB] at this | exact this) GW229.out)) | (dsimp only; exact Nat.ne_of_lt (Nat.lt_of_lt_of_le (by have := World.block_lt_of_cell? _ _ hw231_0; first | rwa [qB] at this | exact this) GW229.out))) _).trans (((qZ (p := ⟨gb229, _, none⟩) (by first | exact Nat.ne_of_lt (Nat.lt_of_lt_of_le (by have := World.block_lt_of_cell? _ _ hw231_0; first | rwa [qB] at this | exact this) GW229.out) | (rw [qB]; exact Nat.ne_of_lt (Nat.lt_of_lt_of_le (by have := World.block_lt_of_cell? _ _ hw231_0; first | rwa [qB] at this | exact this) GW229.out)) | (show (Addr.add _ _).block ≠ _; rw [qB]; exact Nat.ne_of_lt (Nat.lt_of_lt_of_le (by have := World.block_lt_of_cell? _ _ hw231_0; first | rwa [qB] at this | exact this) GW229.out)) | (dsimp only; exact Nat.ne_of_lt (Nat.lt_of_lt_of_le (by have := World.block_lt_of_cell? _ _ hw231_0; first | rwa [qB] at this | exact this) GW229.out))) _).trans (((qZ (p := ⟨gb229, _, none⟩) (by first | exact Nat.ne_of_lt (Nat.lt_of_lt_of_le (by have := World.block_lt_of_cell? _ _ hw231_0; first | rwa [qB] at this | exact this) GW229.out) | (rw [qB]; exact Nat.ne_of_lt (Nat.lt_of_lt_of_le (by have := World.block_lt_of_cell? _ _ hw231_0; first | rwa [qB] at this | exact this) GW229.out)) | (show (Addr.add _ _).block ≠ _; rw [qB]; exact Nat.ne_of_lt (Nat.lt_of_lt_of_le (by have := World.block_lt_of_cell? _ _ hw231_0; first | rwa [qB] at this | exact this) GW229.out)) | (dsimp only; exact Nat.ne_of_lt (Nat.lt_of_lt_of_le (by have := World.block_lt_of_cell? _ _ hw231_0; first | rwa [qB] at this | exact this) GW229.out))) _).trans (((qZ (p := ⟨gb229, _, none⟩) (by first | exact Nat.ne_of_lt (Nat.lt_of_lt_of_le (by have := World.block_lt_of_cell? _ _ hw231_0; first | rwa [qB] at this | exact this) GW229.out) | (rw [qB]; exact Nat.ne_of_lt (Nat.lt_of_lt_of_le (by have := World.block_lt_of_cell? _ _ hw231_0; first | rwa [qB] at this | exact this) GW229.out)) | (show (Addr.add _ _).block ≠ _; rw [qB]; exact Nat.ne_of_lt (Nat.lt_of_lt_of_le (by have := World.block_lt_of_cell? _ _ hw231_0; first | rwa [qB] at this | exact this) GW229.out)) | (dsimp only; exact Nat.ne_of_lt (Nat.lt_of_lt_of_le (by have := World.block_lt_of_cell? _ _ hw231_0; first | rwa [qB] at this | exact this) GW229.out))) _).trans (((qZ (p := ⟨gb229, _, none⟩) (by first | exact Nat.ne_of_lt (Nat.lt_of_lt_of_le (by have := World.block_lt_of_cell? _ _ hw231_0; first | rwa [qB] at this | exact this) GW229.out) | (rw [qB]; exact Nat.ne_of_lt (Nat.lt_of_lt_of_le (by have := World.block_lt_of_cell? _ _ hw231_0; first | rwa [qB] at this | exact this) GW229.out)) | (show (Addr.add _ _).block ≠ _; rw [qB]; exact Nat.ne_of_lt (Nat.lt_of_lt_of_le (by have := World.block_lt_of_cell? _ _ hw231_0; first | rwa [qB] at this | exact this) GW229.out)) | (dsimp only; exact Nat.ne_of_lt (Nat.lt_of_lt_of_le (by have := World.block_lt_of_cell? _ _ hw231_0; first | rwa [qB] at this | exact this) GW229.out))) _).trans (hHeld.2.1)))))))))))), ((qZ (p := ⟨gb229, _, none⟩) (by first | exact Nat.ne_of_lt (Nat.lt_of_lt_of_le (by have := World.block_lt_of_cell? _ _ hw232_0; first | rwa [qB] at this | exact this) GW229.out) | (rw [qB]; exact Nat.ne_of_lt (Nat.lt_of_lt_of_le (by have := World.block_lt_of_cell? _ _ hw232_0; first | rwa [qB] at this | exact this) GW229.out)) | (show (Addr.add _ _).block ≠ _; rw [qB]; exact Nat.ne_of_lt (Nat.lt_of_lt_of_le (by have := World.block_lt_of_cell? _ _ hw232_0; first | rwa [qB] at this | exact this) GW229.out)) | (dsimp only; exact Nat.ne_of_lt (Nat.lt_of_lt_of_le (by have := World.block_lt_of_cell? _ _ hw232_0; first | rwa [qB] at this | exact this) GW229.out))) _).trans (((qZ (p := ⟨gb229, _, none⟩) (by first | exact Nat.ne_of_lt (Nat.lt_of_lt_of_le (by have := World.block_lt_of_cell? _ _ hw232_0; first | rwa [qB] at this | exact this) GW229.out) | (rw [qB]; exact Nat.ne_of_lt (Nat.lt_of_lt_of_le (by have := World.block_lt_of_cell? _ _ hw232_0; first | rwa [qB] at this | exact this) GW229.out)) | (show (Addr.add _ _).block ≠ _; rw [qB]; exact Nat.ne_of_lt (Nat.lt_of_lt_of_le (by have := World.block_lt_of_cell? _ _ hw232_0; first | rwa [qB] at this | exact this) GW229.out)) | (dsimp only; exact Nat.ne_of_lt (Nat.lt_of_lt_of_le (by have := World.block_lt_of_cell? _ _ hw232_0; first | rwa [qB] at this | exact this) GW229.out))) _).trans (((qZ (p := ⟨gb229, _, none⟩) (by first | exact Nat.ne_of_lt (Nat.lt_of_lt_of_le (by have := World.block_lt_of_cell? _ _ hw232_0; first | rwa [qB] at this | exact this) GW229.out) | (rw [qB]; exact Nat.ne_of_lt (Nat.lt_of_lt_of_le (by have := World.block_lt_of_cell? _ _ hw232_0; first | rwa [qB] at this | exact this) GW229.out)) | (show (Addr.add _ _).block ≠ _; rw [qB]; exact Nat.ne_of_lt (Nat.lt_of_lt_of_le (by have := World.block_lt_of_cell? _ _ hw232_0; first | rwa [qB] at this | exact this) GW229.out)) | (dsimp only; exact Nat.ne_of_lt (Nat.lt_of_lt_of_le (by have := World.block_lt_of_cell? _ _ hw232_0; first | rwa [qB] at this | exact this) GW229.out))) _).trans (((qZ (p := ⟨gb229, _, none⟩) (by first | exact Nat.ne_of_lt (Nat.lt_of_lt_of_le (by have := World.block_lt_of_cell? _ _ hw232_0; first | rwa [qB] at this | exact this) GW229.out) | (rw [qB]; exact Nat.ne_of_lt (Nat.lt_of_lt_of_le (by have := World.block_lt_of_cell? _ _ hw232_0; first | rwa [qB] at this | exact this) GW229.out)) | (show (Addr.add _ _).block ≠ _; rw [qB]; exact Nat.ne_of_lt (Nat.lt_of_lt_of_le (by have := World.block_lt_of_cell? _ _ hw232_0; first | rwa [qB] at this | exact this) GW229.out)) | (dsimp only; exact Nat.ne_of_lt (Nat.lt_of_lt_of_le (by have := World.block_lt_of_cell? _ _ hw232_0; first | rwa [qB] at this | exact this) GW229.out))) _).trans (((qZ (p := ⟨gb229, _, none⟩) (by first | exact Nat.ne_of_lt (Nat.lt_of_lt_of_le (by have := World.block_lt_of_cell? _ _ hw232_0; first | rwa [qB] at this | exact this) GW229.out) | (rw [qB]; exact Nat.ne_of_lt (Nat.lt_of_lt_of_le (by have := World.block_lt_of_cell? _ _ hw232_0; first | rwa [qB] at this | exact this) GW229.out)) | (show (Addr.add _ _).block ≠ _; rw [qB]; exact Nat.ne_of_lt (Nat.lt_of_lt_of_le (by have := World.block_lt_of_cell? _ _ hw232_0; first | rwa [qB] at this | exact this) GW229.out)) | (dsimp only; exact Nat.ne_of_lt (Nat.lt_of_lt_of_le (by have := World.block_lt_of_cell? _ _ hw232_0; first | rwa [qB] at this | exact this) GW229.out))) _).trans (((qZ (p := ⟨gb229, _, none⟩) (by first | exact Nat.ne_of_lt (Nat.lt_of_lt_of_le (by have := World.block_lt_of_cell? _ _ hw232_0; first | rwa [qB] at this | exact this) GW229.out) | (rw [qB]; exact Nat.ne_of_lt (Nat.lt_of_lt_of_le (by have := World.block_lt_of_cell? _ _ hw232_0; first | rwa [qB] at this | exact this) GW229.out)) | (show (Addr.add _ _).block ≠ _; rw [qB]; exact Nat.ne_of_lt (Nat.lt_of_lt_of_le (by have := World.block_lt_of_cell? _ _ hw232_0; first | rwa [qB] at this | exact this) GW229.out)) | (dsimp only; exact Nat.ne_of_lt (Nat.lt_of_lt_of_le (by have := World.block_lt_of_cell? _ _ hw232_0; first | rwa [qB] at this | exact this) GW229.out))) _).trans (hHeld.2.2.1)))))))))))), ((qZ (p := ⟨gb229, _, none⟩) (by first | exact Nat.ne_of_lt (Nat.lt_of_lt_of_le (by have := World.block_lt_of_cell? _ _ hw233_0; first | rwa [qB] at this | exact this) GW229.out) | (rw [qB]; exact Nat.ne_of_lt (Nat.lt_of_lt_of_le (by have := World.block_lt_of_cell? _ _ hw233_0; first | rwa [qB] at this | exact this) GW229.out)) | (show (Addr.add _ _).block ≠ _; rw [qB]; exact Nat.ne_of_lt (Nat.lt_of_lt_of_le (by have := World.block_lt_of_cell? _ _ hw233_0; first | rwa [qB] at this | exact this) GW229.out)) | (dsimp only; exact Nat.ne_of_lt (Nat.lt_of_lt_of_le (by have := World.block_lt_of_cell? _ _ hw233_0; first | rwa [qB] at this | exact this) GW229.out))) _).trans (((qZ (p := ⟨gb229, _, none⟩) (by first | exact Nat.ne_of_lt (Nat.lt_of_lt_of_le (by have := World.block_lt_of_cell? _ _ hw233_0; first | rwa [qB] at this | exact this) GW229.out) | (rw [qB]; exact Nat.ne_of_lt (Nat.lt_of_lt_of_le (by have := World.block_lt_of_cell? _ _ hw233_0; first | rwa [qB] at this | exact this) GW229.out)) | (show (Addr.add _ _).block ≠ _; rw [qB]; exact Nat.ne_of_lt (Nat.lt_of_lt_of_le (by have := World.block_lt_of_cell? _ _ hw233_0; first | rwa [qB] at this | exact this) GW229.out)) | (dsimp only; exact Nat.ne_of_lt (Nat.lt_of_lt_of_le (by have := World.block_lt_of_cell? _ _ hw233_0; first | rwa [qB] at this | exact this) GW229.out))) _).trans (((qZ (p := ⟨gb229, _, none⟩) (by first | exact Nat.ne_of_lt (Nat.lt_of_lt_of_le (by have := World.block_lt_of_cell? _ _ hw233_0; first | rwa [qB] at this | exact this) GW229.out) | (rw [qB]; exact Nat.ne_of_lt (Nat.lt_of_lt_of_le (by have := World.block_lt_of_cell? _ _ hw233_0; first | rwa [qB] at this | exact this) GW229.out)) | (show (Addr.add _ _).block ≠ _; rw [qB]; exact Nat.ne_of_lt (Nat.lt_of_lt_of_le (by have := World.block_lt_of_cell? _ _ hw233_0; first | rwa [qB] at this | exact this) GW229.out)) | (dsimp only; exact Nat.ne_of_lt (Nat.lt_of_lt_of_le (by have := World.block_lt_of_cell? _ _ hw233_0; first | rwa [qB] at this | exact this) GW229.out))) _).trans (((qZ (p := ⟨gb229, _, none⟩) (by first | exact Nat.ne_of_lt (Nat.lt_of_lt_of_le (by have := World.block_lt_of_cell? _ _ hw233_0; first | rwa [qB] at this | exact this) GW229.out) | (rw [qB]; exact Nat.ne_of_lt (Nat.lt_of_lt_of_le (by have := World.block_lt_of_cell? _ _ hw233_0; first | rwa [qB] at this | exact this) GW229.out)) | (show (Addr.add _ _).block ≠ _; rw [qB]; exact Nat.ne_of_lt (Nat.lt_of_lt_of_le (by have := World.block_lt_of_cell? _ _ hw233_0; first | rwa [qB] at this | exact this) GW229.out)) | (dsimp only; exact Nat.ne_of_lt (Nat.lt_of_lt_of_le (by have := World.block_lt_of_cell? _ _ hw233_0; first | rwa [qB] at this | exact this) GW229.out))) _).trans (((qZ (p := ⟨gb229, _, none⟩) (by first | exact Nat.ne_of_lt (Nat.lt_of_lt_of_le (by have := World.block_lt_of_cell? _ _ hw233_0; first | rwa [qB] at this | exact this) GW229.out) | (rw [qB]; exact Nat.ne_of_lt (Nat.lt_of_lt_of_le (by have := World.block_lt_of_cell? _ _ hw233_0; first | rwa [qB] at this | exact this) GW229.out)) | (show (Addr.add _ _).block ≠ _; rw [qB]; exact Nat.ne_of_lt (Nat.lt_of_lt_of_le (by have := World.block_lt_of_cell? _ _ hw233_0; first | rwa [qB] at this | exact this) GW229.out)) | (dsimp only; exact Nat.ne_of_lt (Nat.lt_of_lt_of_le (by have := World.block_lt_of_cell? _ _ hw233_0; first | rwa [qB] at this | exact this) GW229.out))) _).trans (((qZ (p := ⟨gb229, _, none⟩) (by first | exact Nat.ne_of_lt (Nat.lt_of_lt_of_le (by have := World.block_lt_of_cell? _ _ hw233_0; first | rwa [qB] at this | exact this) GW229.out) | (rw [qB]; exact Nat.ne_of_lt (Nat.lt_of_lt_of_le (by have := World.block_lt_of_cell? _ _ hw233_0; first | rwa [qB] at this | exact this) GW229.out)) | (show (Addr.add _ _).block ≠ _; rw [qB]; exact Nat.ne_of_lt (Nat.lt_of_lt_of_le (by have := World.block_lt_of_cell? _ _ hw233_0; first | rwa [qB] at this | exact this) GW229.out)) | (dsimp only; exact Nat.ne_of_lt (Nat.lt_of_lt_of_le (by have := World.block_lt_of_cell? _ _ hw233_0; first | rwa [qB] at this | exact this) GW229.out))) _).trans (hHeld.2.2.2.1)))))))))))), ((qZ (p := ⟨gb229, _, none⟩) (by first | exact Nat.ne_of_lt (Nat.lt_of_lt_of_le (by have := World.block_lt_of_cell? _ _ hw234_0; first | rwa [qB] at this | exact this) GW229.out) | (rw [qB]; exact Nat.ne_of_lt (Nat.lt_of_lt_of_le (by have := World.block_lt_of_cell? _ _ hw234_0; first | rwa [qB] at this | exact this) GW229.out)) | (show (Addr.add _ _).block ≠ _; rw [qB]; exact Nat.ne_of_lt (Nat.lt_of_lt_of_le (by have := World.block_lt_of_cell? _ _ hw234_0; first | rwa [qB] at this | exact this) GW229.out)) | (dsimp only; exact Nat.ne_of_lt (Nat.lt_of_lt_of_le (by have := World.block_lt_of_cell? _ _ hw234_0; first | rwa [qB] at this | exact this) GW229.out))) _).trans (((qZ (p := ⟨gb229, _, none⟩) (by first | exact Nat.ne_of_lt (Nat.lt_of_lt_of_le (by have := World.block_lt_of_cell? _ _ hw234_0; first | rwa [qB] at this | exact this) GW229.out) | (rw [qB]; exact Nat.ne_of_lt (Nat.lt_of_lt_of_le (by have := World.block_lt_of_cell? _ _ hw234_0; first | rwa [qB] at this | exact this) GW229.out)) | (show (Addr.add _ _).block ≠ _; rw [qB]; exact Nat.ne_of_lt (Nat.lt_of_lt_of_le (by have := World.block_lt_of_cell? _ _ hw234_0; first | rwa [qB] at this | exact this) GW229.out)) | (dsimp only; exact Nat.ne_of_lt (Nat.lt_of_lt_of_le (by have := World.block_lt_of_cell? _ _ hw234_0; first | rwa [qB] at this | exact this) GW229.out))) _).trans (((qZ (p := ⟨gb229, _, none⟩) (by first | exact Nat.ne_of_lt (Nat.lt_of_lt_of_le (by have := World.block_lt_of_cell? _ _ hw234_0; first | rwa [qB] at this | exact this) GW229.out) | (rw [qB]; exact Nat.ne_of_lt (Nat.lt_of_lt_of_le (by have := World.block_lt_of_cell? _ _ hw234_0; first | rwa [qB] at this | exact this) GW229.out)) | (show (Addr.add _ _).block ≠ _; rw [qB]; exact Nat.ne_of_lt (Nat.lt_of_lt_of_le (by have := World.block_lt_of_cell? _ _ hw234_0; first | rwa [qB] at this | exact this) GW229.out)) | (dsimp only; exact Nat.ne_of_lt (Nat.lt_of_lt_of_le (by have := World.block_lt_of_cell? _ _ hw234_0; first | rwa [qB] at this | exact this) GW229.out))) _).trans (((qZ (p := ⟨gb229, _, none⟩) (by first | exact Nat.ne_of_lt (Nat.lt_of_lt_of_le (by have := World.block_lt_of_cell? _ _ hw234_0; first | rwa [qB] at this | exact this) GW229.out) | (rw [qB]; exact Nat.ne_of_lt (Nat.lt_of_lt_of_le (by have := World.block_lt_of_cell? _ _ hw234_0; first | rwa [qB] at this | exact this) GW229.out)) | (show (Addr.add _ _).block ≠ _; rw [qB]; exact Nat.ne_of_lt (Nat.lt_of_lt_of_le (by have := World.block_lt_of_cell? _ _ hw234_0; first | rwa [qB] at this | exact this) GW229.out)) | (dsimp only; exact Nat.ne_of_lt (Nat.lt_of_lt_of_le (by have := World.block_lt_of_cell? _ _ hw234_0; first | rwa [qB] at this | exact this) GW229.out))) _).trans (((qZ (p := ⟨gb229, _, none⟩) (by first | exact Nat.ne_of_lt (Nat.lt_of_lt_of_le (by have := World.block_lt_of_cell? _ _ hw234_0; first | rwa [qB] at this | exact this) GW229.out) | (rw [qB]; exact Nat.ne_of_lt (Nat.lt_of_lt_of_le (by have := World.block_lt_of_cell? _ _ hw234_0; first | rwa [qB] at this | exact this) GW229.out)) | (show (Addr.add _ _).block ≠ _; rw [qB]; exact Nat.ne_of_lt (Nat.lt_of_lt_of_le (by have := World.block_lt_of_cell? _ _ hw234_0; first | rwa [qB] at this | exact this) GW229.out)) | (dsimp only; exact Nat.ne_of_lt (Nat.lt_of_lt_of_le (by have := World.block_lt_of_cell? _ _ hw234_0; first | rwa [qB] at this | exact this) GW229.out))) _).trans (((qZ (p := ⟨gb229, _, none⟩) (by first | exact Nat.ne_of_lt (Nat.lt_of_lt_of_le (by have := World.block_lt_of_cell? _ _ hw234_0; first | rwa [qB] at this | exact this) GW229.out) | (rw [qB]; exact Nat.ne_of_lt (Nat.lt_of_lt_of_le (by have := World.block_lt_of_cell? _ _ hw234_0; first | rwa [qB] at this | exact this) GW229.out)) | (show (Addr.add _ _).block ≠ _; rw [qB]; exact Nat.ne_of_lt (Nat.lt_of_lt_of_le (by have := World.block_lt_of_cell? _ _ hw234_0; first | rwa [qB] at this | exact this) GW229.out)) | (dsimp only; exact Nat.ne_of_lt (Nat.lt_of_lt_of_le (by have := World.block_lt_of_cell? _ _ hw234_0; first | rwa [qB] at this | exact this) GW229.out))) _).trans (hHeld.2.2.2.2.1)))))))))))), ((qZ (p := ⟨gb229, _, none⟩) (by first | exact Nat.ne_of_lt (Nat.lt_of_lt_of_le (by have := World.block_lt_of_cell? _ _ hw235_0; first | rwa [qB] at this | exact this) GW229.out) | (rw [qB]; exact Nat.ne_of_lt (Nat.lt_of_lt_of_le (by have := World.block_lt_of_cell? _ _ hw235_0; first | rwa [qB] at this | exact this) GW229.out)) | (show (Addr.add _ _).block ≠ _; rw [qB]; exact Nat.ne_of_lt (Nat.lt_of_lt_of_le (by have := World.block_lt_of_cell? _ _ hw235_0; first | rwa [qB] at this | exact this) GW229.out)) | (dsimp only; exact Nat.ne_of_lt (Nat.lt_of_lt_of_le (by have := World.block_lt_of_cell? _ _ hw235_0; first | rwa [qB] at this | exact this) GW229.out))) _).trans (((qZ (p := ⟨gb229, _, none⟩) (by first | exact Nat.ne_of_lt (Nat.lt_of_lt_of_le (by have := World.block_lt_of_cell? _ _ hw235_0; first | rwa [qB] at this | exact this) GW229.out) | (rw [qB]; exact Nat.ne_of_lt (Nat.lt_of_lt_of_le (by have := World.block_lt_of_cell? _ _ hw235_0; first | rwa [qB] at this | exact this) GW229.out)) | (show (Addr.add _ _).block ≠ _; rw [qB]; exact Nat.ne_of_lt (Nat.lt_of_lt_of_le (by have := World.block_lt_of_cell? _ _ hw235_0; first | rwa [qB] at this | exact this) GW229.out)) | (dsimp only; exact Nat.ne_of_lt (Nat.lt_of_lt_of_le (by have := World.block_lt_of_cell? _ _ hw235_0; first | rwa [qB] at this | exact this) GW229.out))) _).trans (((qZ (p := ⟨gb229, _, none⟩) (by first | exact Nat.ne_of_lt (Nat.lt_of_lt_of_le (by have := World.block_lt_of_cell? _ _ hw235_0; first | rwa [qB] at this | exact this) GW229.out) | (rw [qB]; exact Nat.ne_of_lt (Nat.lt_of_lt_of_le (by have := World.block_lt_of_cell? _ _ hw235_0; first | rwa [qB] at this | exact this) GW229.out)) | (show (Addr.add _ _).block ≠ _; rw [qB]; exact Nat.ne_of_lt (Nat.lt_of_lt_of_le (by have := World.block_lt_of_cell? _ _ hw235_0; first | rwa [qB] at this | exact this) GW229.out)) | (dsimp only; exact Nat.ne_of_lt (Nat.lt_of_lt_of_le (by have := World.block_lt_of_cell? _ _ hw235_0; first | rwa [qB] at this | exact this) GW229.out))) _).trans (((qZ (p := ⟨gb229, _, none⟩) (by first | exact Nat.ne_of_lt (Nat.lt_of_lt_of_le (by have := World.block_lt_of_cell? _ _ hw235_0; first | rwa [qB] at this | exact this) GW229.out) | (rw [qB]; exact Nat.ne_of_lt (Nat.lt_of_lt_of_le (by have := World.block_lt_of_cell? _ _ hw235_0; first | rwa [qB] at this | exact this) GW229.out)) | (show (Addr.add _ _).block ≠ _; rw [qB]; exact Nat.ne_of_lt (Nat.lt_of_lt_of_le (by have := World.block_lt_of_cell? _ _ hw235_0; first | rwa [qB] at this | exact this) GW229.out)) | (dsimp only; exact Nat.ne_of_lt (Nat.lt_of_lt_of_le (by have := World.block_lt_of_cell? _ _ hw235_0; first | rwa [qB] at this | exact this) GW229.out))) _).trans (((qZ (p := ⟨gb229, _, none⟩) (by first | exact Nat.ne_of_lt (Nat.lt_of_lt_of_le (by have := World.block_lt_of_cell? _ _ hw235_0; first | rwa [qB] at this | exact this) GW229.out) | (rw [qB]; exact Nat.ne_of_lt (Nat.lt_of_lt_of_le (by have := World.block_lt_of_cell? _ _ hw235_0; first | rwa [qB] at this | exact this) GW229.out)) | (show (Addr.add _ _).block ≠ _; rw [qB]; exact Nat.ne_of_lt (Nat.lt_of_lt_of_le (by have := World.block_lt_of_cell? _ _ hw235_0; first | rwa [qB] at this | exact this) GW229.out)) | (dsimp only; exact Nat.ne_of_lt (Nat.lt_of_lt_of_le (by have := World.block_lt_of_cell? _ _ hw235_0; first | rwa [qB] at this | exact this) GW229.out))) _).trans (((qZ (p := ⟨gb229, _, none⟩) (by first | exact Nat.ne_of_lt (Nat.lt_of_lt_of_le (by have := World.block_lt_of_cell? _ _ hw235_0; first | rwa [qB] at this | exact this) GW229.out) | (rw [qB]; exact Nat.ne_of_lt (Nat.lt_of_lt_of_le (by have := World.block_lt_of_cell? _ _ hw235_0; first | rwa [qB] at this | exact this) GW229.out)) | (show (Addr.add _ _).block ≠ _; rw [qB]; exact Nat.ne_of_lt (Nat.lt_of_lt_of_le (by have := World.block_lt_of_cell? _ _ hw235_0; first | rwa [qB] at this | exact this) GW229.out)) | (dsimp only; exact Nat.ne_of_lt (Nat.lt_of_lt_of_le (by have := World.block_lt_of_cell? _ _ hw235_0; first | rwa [qB] at this | exact this) GW229.out))) _).trans (hHeld.2.2.2.2.2))))))))))))⟩ (fun hHeld => ?_)
       clear hK K
       refine done_ (qDB HT_.out (by kernel_rfl)) ?_
       try go_wp2
       refine bodyPost_ret (results_cell_row rfl _ _ gb229 31 #[.int .i64 (rd l0 0), .int .i64 (rd l0 1), .int .i64 (rd l0 2), .int .i64 (rd l0 3), .int .i64 (rd l0 4), .int .i64 (rd l0 5)] (0, 0) _ rfl (by (with_reducible repeat (first | refine qD ?_ _ | refine qE ?_ | refine qC ?_ _)); refine qO (cs := #[.int .i64 (rd l0 0), .int .i64 (rd l0 1), .int .i64 (rd l0 2), .int .i64 (rd l0 3), .int .i64 (rd l0 4), .int .i64 0]) ?_ 5 _ rfl; (with_reducible repeat (first | refine qD ?_ _ | refine qE ?_ | refine qC ?_ _)); refine qO (cs := #[.int .i64 (rd l0 0), .int .i64 (rd l0 1), .int .i64 (rd l0 2), .int .i64 (rd l0 3), .int .i64 0, .int .i64 0]) ?_ 4 _ rfl; (with_reducible repeat (first | refine qD ?_ _ | refine qE ?_ | refine qC ?_ _)); refine qO (cs := #[.int .i64 (rd l0 0), .int .i64 (rd l0 1), .int .i64 (rd l0 2), .int .i64 0, .int .i64 0, .int .i64 0]) ?_ 3 _ rfl; (with_reducible repeat (first | refine qD ?_ _ | refine qE ?_ | refine qC ?_ _)); refine qO (cs := #[.int .i64 (rd l0 0), .int .i64 (rd l0 1), .int .i64 0, .int .i64 0, .int .i64 0, .int .i64 0]) ?_ 2 _ rfl; (with_reducible repeat (first | refine qD ?_ _ | refine qE ?_ | refine qC ?_ _)); refine qO (cs := #[.int .i64 (rd l0 0), .int .i64 0, .int .i64 0, .int .i64 0, .int .i64 0, .int .i64 0]) ?_ 1 _ rfl; (with_reducible repeat (first | refine qD ?_ _ | refine qE ?_ | refine qC ?_ _)); refine qO (cs := #[.int .i64 0, .int .i64 0, .int .i64 0, .int .i64 0, .int .i64 0, .int .i64 0]) ?_ 0 _ rfl; (with_reducible repeat (first | refine qD ?_ _ | refine qE ?_ | refine qC ?_ _)); exact BK229.out) Tryd.underlying31 rfl (by kernel_rfl)) rfl ?_
       exact ⟨by first | rfl | (simp [qN, qM] <;> rfl) | (simp [*, qN, qM] <;> rfl), bl⟩
      ·rw [if_neg c7] at H
       exact absurd H (by simp)
     ·rw [if_neg c6] at H
      exact absurd H (by simp)
    ·rw [if_neg c5] at H
     exact absurd H (by simp)
   ·rw [if_neg c4] at H
    exact absurd H (by simp)
  ·rw [if_neg c3] at H
   exact absurd H (by simp)
 ·rw [if_neg c2] at H
  exact absurd H (by simp)
def qRB.f  : Option (Int × Int × Int × Int × Int × Int) := (qXA.f (([0, 1, 2, 3, 4, 5] : List Int))).bind fun bt240 => (some (bt240.1, bt240.2.1, bt240.2.2.1, bt240.2.2.2.1, bt240.2.2.2.2.1, bt240.2.2.2.2.2))
set_option maxHeartbeats 8000000 in
set_option maxRecDepth 100000 in
theorem qRB.calls  (r1 : Int) (r2 : Int) (r3 : Int) (r4 : Int) (r5 : Int) (r6 : Int) (w : World) (h : qRB.f  = some (r1, r2, r3, r4, r5, r6)) :
  Calls Tryd.prog 72 #[] w fun e w' => e = .returned (.agg #[.int .i64 r1, .int .i64 r2, .int .i64 r3, .int .i64 r4, .int .i64 r5, .int .i64 r6]) ∧ Below w.heap.size w w' := by
 have hu31 := Tryd.underlying31
 have HB := Aside0.mk (Below.refl w.heap.size w)
 have H : ((qXA.f (([0, 1, 2, 3, 4, 5] : List Int))).bind fun bt240 => (some (bt240.1, bt240.2.1, bt240.2.2.1, bt240.2.2.2.1, bt240.2.2.2.2.1, bt240.2.2.2.2.2))) = some (r1, r2, r3, r4, r5, r6) := h
 clear h
 obtain ⟨y237, hy237⟩ : ∃ y_ : List Int, y_ = (([0, 1, 2, 3, 4, 5] : List Int)) := ⟨_, rfl⟩
 replace H : ((qXA.f y237).bind fun bt240 => (some (bt240.1, bt240.2.1, bt240.2.2.1, bt240.2.2.2.1, bt240.2.2.2.2.1, bt240.2.2.2.2.2))) = some (r1, r2, r3, r4, r5, r6) := by first | (rw [hy237]; with_reducible exact H) | (have H2_ := (Option.bind_some _ _).symm.trans H; rw [hy237]; with_reducible exact H2_) | (have H2_ := (Option.bind_some _ _).symm.trans H; with_reducible exact H2_) | with_reducible exact H | (rw [hy237]; exact H) | exact H
 have Ny237 := Aside0.mk hy237
 clear hy237
 replace H := Option.bind_eq_some_iff.mp H
 obtain ⟨⟨t240, t241, t242, t243, t244, t245⟩, A10, H⟩ := H
 replace H : (some (t240, t241, t242, t243, t244, t245)) = some (r1, r2, r3, r4, r5, r6) := H
 have A1 := Aside0.mk A10
 clear A10
 simp only [Option.some.injEq, Prod.mk.injEq] at H
 obtain ⟨rfl, rfl, rfl, rfl, rfl, rfl⟩ := H
 go_enter Tryd.func72, Tryd.ntmps72
 go_wp2_with (first | ((with_reducible refine qX (N := 0) rfl ?_); refine qW ?hg (N := 0) ?hd (cs := #[.int .i64 0, .int .i64 0, .int .i64 0, .int .i64 0, .int .i64 0, .int .i64 0]) (t := 31) ?hr ?_; (case hd => rfl); (case hg => rfl); (case hr => first | (go_simp; done) | (go_simp; rfl)); intro gb236 hg w2 hbox hb; have n0_ := Aside0.mk (qJ bl hb); have n1_ := Aside0.mk (hbox); have n2_ := Aside0.mk ((gg hg)); have n3_ := Aside0.mk ((gg hg)); clear HB; have HB := n0_; have BK236 := n1_; have GW236 := n2_; have GE236 := n3_; clear n0_ n1_ n2_ n3_; clear hb hbox hg) | ((with_reducible refine qX (N := 1) rfl ?_); refine Kd.R_lit (Kd.int .i64) _ 3 ?hg (N := 1) ?hd (xs := ([0, 1, 2, 3, 4, 5] : List Int)) (inner := [.int .i64 0, .int .i64 1, .int .i64 2, .int .i64 3, .int .i64 4, .int .i64 5]) (ok := fun _ => True) (okp := fun _ => True) ?hr ?hp (fun _ hk => hk) trivial (Below.refl _ _) (Nat.le_refl _) (by simp) ?_; (case hd => rfl); (case hg => rfl); (case hr => first | (go_simp; done) | (go_simp; rfl)); (case hp => exact (Reps.one (show Kd.M (Kd.int .i64) _ _ _ 0 [.int .i64 0] from rfl) (Reps.one (show Kd.M (Kd.int .i64) _ _ _ 1 [.int .i64 1] from rfl) (Reps.one (show Kd.M (Kd.int .i64) _ _ _ 2 [.int .i64 2] from rfl) (Reps.one (show Kd.M (Kd.int .i64) _ _ _ 3 [.int .i64 3] from rfl) (Reps.one (show Kd.M (Kd.int .i64) _ _ _ 4 [.int .i64 4] from rfl) (Reps.one (show Kd.M (Kd.int .i64) _ _ _ 5 [.int .i64 5] from rfl) (Reps.none _ _)))))))); intro v238 w3 ho4 hb hg_ hnew_; clear hg_ hnew_; (first | rw [← Ny237.out] at ho4 | (simp only [Int.reduceToNat] at ho4; rw [← Ny237.out] at ho4)); have n0_ := Aside0.mk (Kd.qEA ho4 (qb bl)); have n1_ := Aside0.mk (bb BK236 hb); have n2_ := Aside0.mk (qJ bl hb); clear BK236; clear HB; have HO239 := n0_; have BK236 := n1_; have HB := n2_; clear n0_ n1_ n2_; clear hb ho4; obtain ⟨Ao5, co5, eo5⟩ := Kd.qr HO239.out; subst eo5) | ((with_reducible refine qa (f := 56) rfl ?_); refine qQA (some 2) rfl rfl Tryd.func56 (by kernel_rfl) rfl #[.slice Ao5 y237.length co5] rfl (by (try simp only [List.map_toArray, List.map_cons, List.map_nil]); first | done | rfl | (simp only [List.length_drop, List.length_take]; rfl)) ?_; (with_reducible refine (qXA.calls _ _ y237 t240 t241 t242 t243 t244 t245 _ ?side1 ?side2 A1.out).mono ?_); (case side1 => repeat (first | exact (Kd.qS HO239.out).2.2 | (with_reducible refine Kd.qZA ?_ _) | (with_reducible refine Kd.qYA ?_ _) | (with_reducible refine Kd.qpA ?_))); (case side2 => exact (Kd.qS HO239.out).2.1); rintro e w6 ⟨rfl, hb⟩; refine ⟨_, rfl, ?_⟩; have n0_ := Aside0.mk (Kd.qU (by (with_reducible repeat (first | apply Kd.qF | apply Kd.qG | apply Kd.qH)); exact HO239.out) hb); have n1_ := Aside0.mk (bb BK236 hb); have n2_ := Aside0.mk (qJ bl hb); clear HO239; clear BK236; clear HB; have HO239 := n0_; have BK236 := n1_; have HB := n2_; clear n0_ n1_ n2_; (try clear hb); (try clear hb2); (try clear hk); (try clear hi); have hcz7_0 := bc BK236 0; have hcz7_1 := bc BK236 1; have hcz7_2 := bc BK236 2; have hcz7_3 := bc BK236 3; have hcz7_4 := bc BK236 4; have hcz7_5 := bc BK236 5; have hfz7_0 := qA BK236.out 0; have hfz7_1 := qA BK236.out 1; have hfz7_2 := qA BK236.out 2; have hfz7_3 := qA BK236.out 3; have hfz7_4 := qA BK236.out 4; have hfz7_5 := qA BK236.out 5))
 refine bodyPost_ret (results_cell_row rfl _ _ gb236 31 #[.int .i64 t240, .int .i64 t241, .int .i64 t242, .int .i64 t243, .int .i64 t244, .int .i64 t245] (0, 0) _ rfl (by (with_reducible repeat (first | refine qD ?_ _ | refine qE ?_ | refine qC ?_ _)); refine qO (cs := #[.int .i64 t240, .int .i64 t241, .int .i64 t242, .int .i64 t243, .int .i64 t244, .int .i64 0]) ?_ 5 _ rfl; (with_reducible repeat (first | refine qD ?_ _ | refine qE ?_ | refine qC ?_ _)); refine qO (cs := #[.int .i64 t240, .int .i64 t241, .int .i64 t242, .int .i64 t243, .int .i64 0, .int .i64 0]) ?_ 4 _ rfl; (with_reducible repeat (first | refine qD ?_ _ | refine qE ?_ | refine qC ?_ _)); refine qO (cs := #[.int .i64 t240, .int .i64 t241, .int .i64 t242, .int .i64 0, .int .i64 0, .int .i64 0]) ?_ 3 _ rfl; (with_reducible repeat (first | refine qD ?_ _ | refine qE ?_ | refine qC ?_ _)); refine qO (cs := #[.int .i64 t240, .int .i64 t241, .int .i64 0, .int .i64 0, .int .i64 0, .int .i64 0]) ?_ 2 _ rfl; (with_reducible repeat (first | refine qD ?_ _ | refine qE ?_ | refine qC ?_ _)); refine qO (cs := #[.int .i64 t240, .int .i64 0, .int .i64 0, .int .i64 0, .int .i64 0, .int .i64 0]) ?_ 1 _ rfl; (with_reducible repeat (first | refine qD ?_ _ | refine qE ?_ | refine qC ?_ _)); refine qO (cs := #[.int .i64 0, .int .i64 0, .int .i64 0, .int .i64 0, .int .i64 0, .int .i64 0]) ?_ 0 _ rfl; (with_reducible repeat (first | refine qD ?_ _ | refine qE ?_ | refine qC ?_ _)); exact BK236.out) Tryd.underlying31 rfl (by kernel_rfl)) rfl ?_
 exact ⟨by first | rfl | (simp [qN, qM] <;> rfl) | (simp [*, qN, qM] <;> rfl), bl⟩
def qjA.f (a0_0 : Int) (a0_1 : Int) (a0_2 : Int) (a0_3 : Int) (a0_4 : Int) (a0_5 : Int) (a1 : Int) : Option (Int × Int × Int × Int × Int × Int) := if a1 = 0 then (some (a0_3, a0_0, a0_2, a0_5, a0_4, a0_1)) else (if a1 = 1 then (some (a0_4, a0_1, a0_0, a0_3, a0_5, a0_2)) else (if a1 = 2 then (some (a0_1, a0_5, a0_2, a0_0, a0_4, a0_3)) else (some (a0_2, a0_1, a0_5, a0_3, a0_0, a0_4))))
set_option maxHeartbeats 8000000 in
set_option maxRecDepth 100000 in
theorem qjA.calls (a0_0 : Int) (a0_1 : Int) (a0_2 : Int) (a0_3 : Int) (a0_4 : Int) (a0_5 : Int) (a1 : Int) (r1 : Int) (r2 : Int) (r3 : Int) (r4 : Int) (r5 : Int) (r6 : Int) (w : World) (h : qjA.f a0_0 a0_1 a0_2 a0_3 a0_4 a0_5 a1 = some (r1, r2, r3, r4, r5, r6)) :
  Calls Tryd.prog 73 #[.agg #[.int .i64 a0_0, .int .i64 a0_1, .int .i64 a0_2, .int .i64 a0_3, .int .i64 a0_4, .int .i64 a0_5], .int .i64 a1] w fun e w' => e = .returned (.agg #[.int .i64 r1, .int .i64 r2, .int .i64 r3, .int .i64 r4, .int .i64 r5, .int .i64 r6]) ∧ Below w.heap.size w w' := by
 have hu31 := Tryd.underlying31
 have HB := Aside0.mk (Below.refl w.heap.size w)
 have H : (if a1 = 0 then (some (a0_3, a0_0, a0_2, a0_5, a0_4, a0_1)) else (if a1 = 1 then (some (a0_4, a0_1, a0_0, a0_3, a0_5, a0_2)) else (if a1 = 2 then (some (a0_1, a0_5, a0_2, a0_0, a0_4, a0_3)) else (some (a0_2, a0_1, a0_5, a0_3, a0_0, a0_4))))) = some (r1, r2, r3, r4, r5, r6) := h
 clear h
 by_cases c3 : a1 = 0
 ·rw [if_pos c3] at H
  have c3b0 : (a1 == 0) = true := beq_iff_eq.mpr c3
  have c3b1 : (a1 != 0) = false := bne_eq_false_iff_eq.mpr c3
  clear c3
  simp only [Option.some.injEq, Prod.mk.injEq] at H
  obtain ⟨rfl, rfl, rfl, rfl, rfl, rfl⟩ := H
  go_enter Tryd.func73, Tryd.ntmps73
  go_wp2_with (first | ((with_reducible refine qX (N := 2) rfl ?_); refine qW ?hg (N := 2) ?hd (cs := #[.int .i64 a0_0, .int .i64 a0_1, .int .i64 a0_2, .int .i64 a0_3, .int .i64 a0_4, .int .i64 a0_5]) (t := 31) ?hr ?_; (case hd => rfl); (case hg => rfl); (case hr => first | (go_simp; done) | (go_simp; rfl)); intro gb246 hg w4 hbox hb; have n0_ := Aside0.mk (qJ bl hb); have n1_ := Aside0.mk (hbox); have n2_ := Aside0.mk ((gg hg)); have n3_ := Aside0.mk ((gg hg)); clear HB; have HB := n0_; have BK246 := n1_; have GW246 := n2_; have GE246 := n3_; clear n0_ n1_ n2_ n3_; clear hb hbox hg) | ((with_reducible refine qX (N := 4) rfl ?_); refine qW ?hg (N := 4) ?hd (cs := #[.int .i64 0, .int .i64 0, .int .i64 0, .int .i64 0, .int .i64 0, .int .i64 0]) (t := 31) ?hr ?_; (case hd => rfl); (case hg => rfl); (case hr => first | (go_simp; done) | (go_simp; rfl)); intro gb247 hg w5 hbox hb; have n0_ := Aside0.mk (bb BK246 hb); have n1_ := Aside0.mk (qJ bl hb); have n2_ := Aside0.mk (hbox); have n3_ := Aside0.mk ((gg hg)); have n4_ := Aside0.mk ((gg hg)); have n5_ := Aside0.mk ((nl BK246 hg)); have n6_ := Aside0.mk ((nr BK246 hg)); clear BK246; clear HB; have BK246 := n0_; have HB := n1_; have BK247 := n2_; have GW247 := n3_; have GE247 := n4_; have NB246_247 := n5_; have NB247_246 := n6_; clear n0_ n1_ n2_ n3_ n4_ n5_ n6_; clear hb hbox hg; have hnb6 := NB246_247.out; have hnc6 := NB247_246.out; have hcz7_0 := bc BK246 0; have hcz7_1 := bc BK246 1; have hcz7_2 := bc BK246 2; have hcz7_3 := bc BK246 3; have hcz7_4 := bc BK246 4; have hcz7_5 := bc BK246 5; have hfz7_0 := qA BK246.out 0; have hfz7_1 := qA BK246.out 1; have hfz7_2 := qA BK246.out 2; have hfz7_3 := qA BK246.out 3; have hfz7_4 := qA BK246.out 4; have hfz7_5 := qA BK246.out 5; have hcz8_0 := bc BK247 0; have hcz8_1 := bc BK247 1; have hcz8_2 := bc BK247 2; have hcz8_3 := bc BK247 3; have hcz8_4 := bc BK247 4; have hcz8_5 := bc BK247 5; have hfz8_0 := qA BK247.out 0; have hfz8_1 := qA BK247.out 1; have hfz8_2 := qA BK247.out 2; have hfz8_3 := qA BK247.out 3; have hfz8_4 := qA BK247.out 4; have hfz8_5 := qA BK247.out 5))
  refine bodyPost_ret (results_cell_row rfl _ _ gb247 31 #[.int .i64 a0_3, .int .i64 a0_0, .int .i64 a0_2, .int .i64 a0_5, .int .i64 a0_4, .int .i64 a0_1] (0, 0) _ rfl (by (with_reducible repeat (first | refine qD ?_ _ | refine qE ?_ | refine qC ?_ _)); refine qO (cs := #[.int .i64 a0_3, .int .i64 a0_0, .int .i64 a0_2, .int .i64 a0_5, .int .i64 a0_4, .int .i64 0]) ?_ 5 _ rfl; (with_reducible repeat (first | refine qD ?_ _ | refine qE ?_ | refine qC ?_ _)); refine qO (cs := #[.int .i64 a0_3, .int .i64 a0_0, .int .i64 a0_2, .int .i64 a0_5, .int .i64 0, .int .i64 0]) ?_ 4 _ rfl; (with_reducible repeat (first | refine qD ?_ _ | refine qE ?_ | refine qC ?_ _)); refine qO (cs := #[.int .i64 a0_3, .int .i64 a0_0, .int .i64 a0_2, .int .i64 0, .int .i64 0, .int .i64 0]) ?_ 3 _ rfl; (with_reducible repeat (first | refine qD ?_ _ | refine qE ?_ | refine qC ?_ _)); refine qO (cs := #[.int .i64 a0_3, .int .i64 a0_0, .int .i64 0, .int .i64 0, .int .i64 0, .int .i64 0]) ?_ 2 _ rfl; (with_reducible repeat (first | refine qD ?_ _ | refine qE ?_ | refine qC ?_ _)); refine qO (cs := #[.int .i64 a0_3, .int .i64 0, .int .i64 0, .int .i64 0, .int .i64 0, .int .i64 0]) ?_ 1 _ rfl; (with_reducible repeat (first | refine qD ?_ _ | refine qE ?_ | refine qC ?_ _)); refine qO (cs := #[.int .i64 0, .int .i64 0, .int .i64 0, .int .i64 0, .int .i64 0, .int .i64 0]) ?_ 0 _ rfl; (with_reducible repeat (first | refine qD ?_ _ | refine qE ?_ | refine qC ?_ _)); exact BK247.out) Tryd.underlying31 rfl (by kernel_rfl)) rfl ?_
  exact ⟨by first | rfl | (simp [qN, qM] <;> rfl) | (simp [*, qN, qM] <;> rfl), bl⟩
 ·rw [if_neg c3] at H
  have c3b0 : (a1 == 0) = false := beq_eq_false_iff_ne.mpr c3
  have c3b1 : (a1 != 0) = true := bne_iff_ne.mpr c3
  by_cases c9 : a1 = 1
  ·rw [if_pos c9] at H
   have c9b0 : (a1 == 1) = true := beq_iff_eq.mpr c9
   have c9b1 : (a1 != 1) = false := bne_eq_false_iff_eq.mpr c9
   clear c9
   simp only [Option.some.injEq, Prod.mk.injEq] at H
   obtain ⟨rfl, rfl, rfl, rfl, rfl, rfl⟩ := H
   go_enter Tryd.func73, Tryd.ntmps73
   go_wp2_with (first | ((with_reducible refine qX (N := 2) rfl ?_); refine qW ?hg (N := 2) ?hd (cs := #[.int .i64 a0_0, .int .i64 a0_1, .int .i64 a0_2, .int .i64 a0_3, .int .i64 a0_4, .int .i64 a0_5]) (t := 31) ?hr ?_; (case hd => rfl); (case hg => rfl); (case hr => first | (go_simp; done) | (go_simp; rfl)); intro gb246 hg w10 hbox hb; have n0_ := Aside0.mk (qJ bl hb); have n1_ := Aside0.mk (hbox); have n2_ := Aside0.mk ((gg hg)); have n3_ := Aside0.mk ((gg hg)); clear HB; have HB := n0_; have BK246 := n1_; have GW246 := n2_; have GE246 := n3_; clear n0_ n1_ n2_ n3_; clear hb hbox hg) | ((with_reducible refine qX (N := 4) rfl ?_); refine qW ?hg (N := 4) ?hd (cs := #[.int .i64 0, .int .i64 0, .int .i64 0, .int .i64 0, .int .i64 0, .int .i64 0]) (t := 31) ?hr ?_; (case hd => rfl); (case hg => rfl); (case hr => first | (go_simp; done) | (go_simp; rfl)); intro gb247 hg w11 hbox hb; have n0_ := Aside0.mk (bb BK246 hb); have n1_ := Aside0.mk (qJ bl hb); have n2_ := Aside0.mk (hbox); have n3_ := Aside0.mk ((gg hg)); have n4_ := Aside0.mk ((gg hg)); have n5_ := Aside0.mk ((nl BK246 hg)); have n6_ := Aside0.mk ((nr BK246 hg)); clear BK246; clear HB; have BK246 := n0_; have HB := n1_; have BK247 := n2_; have GW247 := n3_; have GE247 := n4_; have NB246_247 := n5_; have NB247_246 := n6_; clear n0_ n1_ n2_ n3_ n4_ n5_ n6_; clear hb hbox hg; have hnb12 := NB246_247.out; have hnc12 := NB247_246.out; have hcz13_0 := bc BK246 0; have hcz13_1 := bc BK246 1; have hcz13_2 := bc BK246 2; have hcz13_3 := bc BK246 3; have hcz13_4 := bc BK246 4; have hcz13_5 := bc BK246 5; have hfz13_0 := qA BK246.out 0; have hfz13_1 := qA BK246.out 1; have hfz13_2 := qA BK246.out 2; have hfz13_3 := qA BK246.out 3; have hfz13_4 := qA BK246.out 4; have hfz13_5 := qA BK246.out 5; have hcz14_0 := bc BK247 0; have hcz14_1 := bc BK247 1; have hcz14_2 := bc BK247 2; have hcz14_3 := bc BK247 3; have hcz14_4 := bc BK247 4; have hcz14_5 := bc BK247 5; have hfz14_0 := qA BK247.out 0; have hfz14_1 := qA BK247.out 1; have hfz14_2 := qA BK247.out 2; have hfz14_3 := qA BK247.out 3; have hfz14_4 := qA BK247.out 4; have hfz14_5 := qA BK247.out 5))
   refine bodyPost_ret (results_cell_row rfl _ _ gb247 31 #[.int .i64 a0_4, .int .i64 a0_1, .int .i64 a0_0, .int .i64 a0_3, .int .i64 a0_5, .int .i64 a0_2] (0, 0) _ rfl (by (with_reducible repeat (first | refine qD ?_ _ | refine qE ?_ | refine qC ?_ _)); refine qO (cs := #[.int .i64 a0_4, .int .i64 a0_1, .int .i64 a0_0, .int .i64 a0_3, .int .i64 a0_5, .int .i64 0]) ?_ 5 _ rfl; (with_reducible repeat (first | refine qD ?_ _ | refine qE ?_ | refine qC ?_ _)); refine qO (cs := #[.int .i64 a0_4, .int .i64 a0_1, .int .i64 a0_0, .int .i64 a0_3, .int .i64 0, .int .i64 0]) ?_ 4 _ rfl; (with_reducible repeat (first | refine qD ?_ _ | refine qE ?_ | refine qC ?_ _)); refine qO (cs := #[.int .i64 a0_4, .int .i64 a0_1, .int .i64 a0_0, .int .i64 0, .int .i64 0, .int .i64 0]) ?_ 3 _ rfl; (with_reducible repeat (first | refine qD ?_ _ | refine qE ?_ | refine qC ?_ _)); refine qO (cs := #[.int .i64 a0_4, .int .i64 a0_1, .int .i64 0, .int .i64 0, .int .i64 0, .int .i64 0]) ?_ 2 _ rfl; (with_reducible repeat (first | refine qD ?_ _ | refine qE ?_ | refine qC ?_ _)); refine qO (cs := #[.int .i64 a0_4, .int .i64 0, .int .i64 0, .int .i64 0, .int .i64 0, .int .i64 0]) ?_ 1 _ rfl; (with_reducible repeat (first | refine qD ?_ _ | refine qE ?_ | refine qC ?_ _)); refine qO (cs := #[.int .i64 0, .int .i64 0, .int .i64 0, .int .i64 0, .int .i64 0, .int .i64 0]) ?_ 0 _ rfl; (with_reducible repeat (first | refine qD ?_ _ | refine qE ?_ | refine qC ?_ _)); exact BK247.out) Tryd.underlying31 rfl (by kernel_rfl)) rfl ?_
   exact ⟨by first | rfl | (simp [qN, qM] <;> rfl) | (simp [*, qN, qM] <;> rfl), bl⟩
  ·rw [if_neg c9] at H
   have c9b0 : (a1 == 1) = false := beq_eq_false_iff_ne.mpr c9
   have c9b1 : (a1 != 1) = true := bne_iff_ne.mpr c9
   by_cases c15 : a1 = 2
   ·rw [if_pos c15] at H
    have c15b0 : (a1 == 2) = true := beq_iff_eq.mpr c15
    have c15b1 : (a1 != 2) = false := bne_eq_false_iff_eq.mpr c15
    clear c15
    simp only [Option.some.injEq, Prod.mk.injEq] at H
    obtain ⟨rfl, rfl, rfl, rfl, rfl, rfl⟩ := H
    go_enter Tryd.func73, Tryd.ntmps73
    go_wp2_with (first | ((with_reducible refine qX (N := 2) rfl ?_); refine qW ?hg (N := 2) ?hd (cs := #[.int .i64 a0_0, .int .i64 a0_1, .int .i64 a0_2, .int .i64 a0_3, .int .i64 a0_4, .int .i64 a0_5]) (t := 31) ?hr ?_; (case hd => rfl); (case hg => rfl); (case hr => first | (go_simp; done) | (go_simp; rfl)); intro gb246 hg w16 hbox hb; have n0_ := Aside0.mk (qJ bl hb); have n1_ := Aside0.mk (hbox); have n2_ := Aside0.mk ((gg hg)); have n3_ := Aside0.mk ((gg hg)); clear HB; have HB := n0_; have BK246 := n1_; have GW246 := n2_; have GE246 := n3_; clear n0_ n1_ n2_ n3_; clear hb hbox hg) | ((with_reducible refine qX (N := 4) rfl ?_); refine qW ?hg (N := 4) ?hd (cs := #[.int .i64 0, .int .i64 0, .int .i64 0, .int .i64 0, .int .i64 0, .int .i64 0]) (t := 31) ?hr ?_; (case hd => rfl); (case hg => rfl); (case hr => first | (go_simp; done) | (go_simp; rfl)); intro gb247 hg w17 hbox hb; have n0_ := Aside0.mk (bb BK246 hb); have n1_ := Aside0.mk (qJ bl hb); have n2_ := Aside0.mk (hbox); have n3_ := Aside0.mk ((gg hg)); have n4_ := Aside0.mk ((gg hg)); have n5_ := Aside0.mk ((nl BK246 hg)); have n6_ := Aside0.mk ((nr BK246 hg)); clear BK246; clear HB; have BK246 := n0_; have HB := n1_; have BK247 := n2_; have GW247 := n3_; have GE247 := n4_; have NB246_247 := n5_; have NB247_246 := n6_; clear n0_ n1_ n2_ n3_ n4_ n5_ n6_; clear hb hbox hg; have hnb18 := NB246_247.out; have hnc18 := NB247_246.out; have hcz19_0 := bc BK246 0; have hcz19_1 := bc BK246 1; have hcz19_2 := bc BK246 2; have hcz19_3 := bc BK246 3; have hcz19_4 := bc BK246 4; have hcz19_5 := bc BK246 5; have hfz19_0 := qA BK246.out 0; have hfz19_1 := qA BK246.out 1; have hfz19_2 := qA BK246.out 2; have hfz19_3 := qA BK246.out 3; have hfz19_4 := qA BK246.out 4; have hfz19_5 := qA BK246.out 5; have hcz20_0 := bc BK247 0; have hcz20_1 := bc BK247 1; have hcz20_2 := bc BK247 2; have hcz20_3 := bc BK247 3; have hcz20_4 := bc BK247 4; have hcz20_5 := bc BK247 5; have hfz20_0 := qA BK247.out 0; have hfz20_1 := qA BK247.out 1; have hfz20_2 := qA BK247.out 2; have hfz20_3 := qA BK247.out 3; have hfz20_4 := qA BK247.out 4; have hfz20_5 := qA BK247.out 5))
    refine bodyPost_ret (results_cell_row rfl _ _ gb247 31 #[.int .i64 a0_1, .int .i64 a0_5, .int .i64 a0_2, .int .i64 a0_0, .int .i64 a0_4, .int .i64 a0_3] (0, 0) _ rfl (by (with_reducible repeat (first | refine qD ?_ _ | refine qE ?_ | refine qC ?_ _)); refine qO (cs := #[.int .i64 a0_1, .int .i64 a0_5, .int .i64 a0_2, .int .i64 a0_0, .int .i64 a0_4, .int .i64 0]) ?_ 5 _ rfl; (with_reducible repeat (first | refine qD ?_ _ | refine qE ?_ | refine qC ?_ _)); refine qO (cs := #[.int .i64 a0_1, .int .i64 a0_5, .int .i64 a0_2, .int .i64 a0_0, .int .i64 0, .int .i64 0]) ?_ 4 _ rfl; (with_reducible repeat (first | refine qD ?_ _ | refine qE ?_ | refine qC ?_ _)); refine qO (cs := #[.int .i64 a0_1, .int .i64 a0_5, .int .i64 a0_2, .int .i64 0, .int .i64 0, .int .i64 0]) ?_ 3 _ rfl; (with_reducible repeat (first | refine qD ?_ _ | refine qE ?_ | refine qC ?_ _)); refine qO (cs := #[.int .i64 a0_1, .int .i64 a0_5, .int .i64 0, .int .i64 0, .int .i64 0, .int .i64 0]) ?_ 2 _ rfl; (with_reducible repeat (first | refine qD ?_ _ | refine qE ?_ | refine qC ?_ _)); refine qO (cs := #[.int .i64 a0_1, .int .i64 0, .int .i64 0, .int .i64 0, .int .i64 0, .int .i64 0]) ?_ 1 _ rfl; (with_reducible repeat (first | refine qD ?_ _ | refine qE ?_ | refine qC ?_ _)); refine qO (cs := #[.int .i64 0, .int .i64 0, .int .i64 0, .int .i64 0, .int .i64 0, .int .i64 0]) ?_ 0 _ rfl; (with_reducible repeat (first | refine qD ?_ _ | refine qE ?_ | refine qC ?_ _)); exact BK247.out) Tryd.underlying31 rfl (by kernel_rfl)) rfl ?_
    exact ⟨by first | rfl | (simp [qN, qM] <;> rfl) | (simp [*, qN, qM] <;> rfl), bl⟩
   ·rw [if_neg c15] at H
    have c15b0 : (a1 == 2) = false := beq_eq_false_iff_ne.mpr c15
    have c15b1 : (a1 != 2) = true := bne_iff_ne.mpr c15
    simp only [Option.some.injEq, Prod.mk.injEq] at H
    obtain ⟨rfl, rfl, rfl, rfl, rfl, rfl⟩ := H
    go_enter Tryd.func73, Tryd.ntmps73
    go_wp2_with (first | ((with_reducible refine qX (N := 2) rfl ?_); refine qW ?hg (N := 2) ?hd (cs := #[.int .i64 a0_0, .int .i64 a0_1, .int .i64 a0_2, .int .i64 a0_3, .int .i64 a0_4, .int .i64 a0_5]) (t := 31) ?hr ?_; (case hd => rfl); (case hg => rfl); (case hr => first | (go_simp; done) | (go_simp; rfl)); intro gb246 hg w21 hbox hb; have n0_ := Aside0.mk (qJ bl hb); have n1_ := Aside0.mk (hbox); have n2_ := Aside0.mk ((gg hg)); have n3_ := Aside0.mk ((gg hg)); clear HB; have HB := n0_; have BK246 := n1_; have GW246 := n2_; have GE246 := n3_; clear n0_ n1_ n2_ n3_; clear hb hbox hg) | ((with_reducible refine qX (N := 4) rfl ?_); refine qW ?hg (N := 4) ?hd (cs := #[.int .i64 0, .int .i64 0, .int .i64 0, .int .i64 0, .int .i64 0, .int .i64 0]) (t := 31) ?hr ?_; (case hd => rfl); (case hg => rfl); (case hr => first | (go_simp; done) | (go_simp; rfl)); intro gb247 hg w22 hbox hb; have n0_ := Aside0.mk (bb BK246 hb); have n1_ := Aside0.mk (qJ bl hb); have n2_ := Aside0.mk (hbox); have n3_ := Aside0.mk ((gg hg)); have n4_ := Aside0.mk ((gg hg)); have n5_ := Aside0.mk ((nl BK246 hg)); have n6_ := Aside0.mk ((nr BK246 hg)); clear BK246; clear HB; have BK246 := n0_; have HB := n1_; have BK247 := n2_; have GW247 := n3_; have GE247 := n4_; have NB246_247 := n5_; have NB247_246 := n6_; clear n0_ n1_ n2_ n3_ n4_ n5_ n6_; clear hb hbox hg; have hnb23 := NB246_247.out; have hnc23 := NB247_246.out; have hcz24_0 := bc BK246 0; have hcz24_1 := bc BK246 1; have hcz24_2 := bc BK246 2; have hcz24_3 := bc BK246 3; have hcz24_4 := bc BK246 4; have hcz24_5 := bc BK246 5; have hfz24_0 := qA BK246.out 0; have hfz24_1 := qA BK246.out 1; have hfz24_2 := qA BK246.out 2; have hfz24_3 := qA BK246.out 3; have hfz24_4 := qA BK246.out 4; have hfz24_5 := qA BK246.out 5; have hcz25_0 := bc BK247 0; have hcz25_1 := bc BK247 1; have hcz25_2 := bc BK247 2; have hcz25_3 := bc BK247 3; have hcz25_4 := bc BK247 4; have hcz25_5 := bc BK247 5; have hfz25_0 := qA BK247.out 0; have hfz25_1 := qA BK247.out 1; have hfz25_2 := qA BK247.out 2; have hfz25_3 := qA BK247.out 3; have hfz25_4 := qA BK247.out 4; have hfz25_5 := qA BK247.out 5))
    refine bodyPost_ret (results_cell_row rfl _ _ gb247 31 #[.int .i64 a0_2, .int .i64 a0_1, .int .i64 a0_5, .int .i64 a0_3, .int .i64 a0_0, .int .i64 a0_4] (0, 0) _ rfl (by (with_reducible repeat (first | refine qD ?_ _ | refine qE ?_ | refine qC ?_ _)); refine qO (cs := #[.int .i64 a0_2, .int .i64 a0_1, .int .i64 a0_5, .int .i64 a0_3, .int .i64 a0_0, .int .i64 0]) ?_ 5 _ rfl; (with_reducible repeat (first | refine qD ?_ _ | refine qE ?_ | refine qC ?_ _)); refine qO (cs := #[.int .i64 a0_2, .int .i64 a0_1, .int .i64 a0_5, .int .i64 a0_3, .int .i64 0, .int .i64 0]) ?_ 4 _ rfl; (with_reducible repeat (first | refine qD ?_ _ | refine qE ?_ | refine qC ?_ _)); refine qO (cs := #[.int .i64 a0_2, .int .i64 a0_1, .int .i64 a0_5, .int .i64 0, .int .i64 0, .int .i64 0]) ?_ 3 _ rfl; (with_reducible repeat (first | refine qD ?_ _ | refine qE ?_ | refine qC ?_ _)); refine qO (cs := #[.int .i64 a0_2, .int .i64 a0_1, .int .i64 0, .int .i64 0, .int .i64 0, .int .i64 0]) ?_ 2 _ rfl; (with_reducible repeat (first | refine qD ?_ _ | refine qE ?_ | refine qC ?_ _)); refine qO (cs := #[.int .i64 a0_2, .int .i64 0, .int .i64 0, .int .i64 0, .int .i64 0, .int .i64 0]) ?_ 1 _ rfl; (with_reducible repeat (first | refine qD ?_ _ | refine qE ?_ | refine qC ?_ _)); refine qO (cs := #[.int .i64 0, .int .i64 0, .int .i64 0, .int .i64 0, .int .i64 0, .int .i64 0]) ?_ 0 _ rfl; (with_reducible repeat (first | refine qD ?_ _ | refine qE ?_ | refine qC ?_ _)); exact BK247.out) Tryd.underlying31 rfl (by kernel_rfl)) rfl ?_
    exact ⟨by first | rfl | (simp [qN, qM] <;> rfl) | (simp [*, qN, qM] <;> rfl), bl⟩
end Go.Proofs.YtdncpkppkafkpaaDoor.P
