/- The program's MirrorNet returns what the reference's returns, for all texts (the law lets longer texts by). No further condition. -/
import Derived.Test.YtdncpkppkafkpaaGreatDoorKFnExactMirrorNet0

namespace Go.Proofs.YtdncpkppkafkpaaGreatDoor.P
open Go.RowKit Go.Proofs.YtdncpkppkafkpaaGreatDoorW.PrintWords Go.Proofs.YtdncpkppkafkpaaGreatDoorW.PrintLast Go.Proofs.YtdncpkppkafkpaaGreatDoorW.PrintMore
attribute [local go_sem] qw qu qHA qGA qj qi qv qt
set_option linter.unusedVariables false
set_option linter.unusedSimpArgs false
def qVA.f (a0_0 : Int) (a0_1 : Int) (l0_2 : List Int) (a1 : Int) (a2 : Int) : Option (Int) := if a0_0 = 0 then (none) else ((qz.f (Int.tmod a1 a0_0) (wrap64 (Int.tdiv a1 a0_0)) a2).bind fun bt112 => ((qk.f bt112.1 0 (wrap64 (a0_0 - 1))).bind fun t114 => (if t114 = true then ((qk.f bt112.2 0 (wrap64 (a0_1 - 1))).bind fun t115 => (if t115 = true then (if 0 ≤ (wrap64 ((wrap64 (bt112.2 * a0_0)) + bt112.1)) then (if (wrap64 ((wrap64 (bt112.2 * a0_0)) + bt112.1)) < (l0_2.length : Int) then (if (rd l0_2 (wrap64 ((wrap64 (bt112.2 * a0_0)) + bt112.1))) = 46 then (some (-1)) else (some (wrap64 ((wrap64 (bt112.2 * a0_0)) + bt112.1)))) else (none)) else (none)) else (some (-1)))) else (some (-1)))))
set_option maxHeartbeats 8000000 in
set_option maxRecDepth 100000 in
theorem qVA.calls (a0_0 : Int) (a0_1 : Int) (A0_2 : Option Addr) (c0_2 : Nat) (l0_2 : List Int) (a1 : Int) (a2 : Int) (r : Int) (w : World) (hr0_2 : Kd.C (Kd.int .u8) w A0_2 l0_2.length l0_2) (hc0_2 : l0_2.length ≤ c0_2) (h : qVA.f a0_0 a0_1 l0_2 a1 a2 = some r) :
  Calls Tryz.prog 23 #[.agg #[.int .i64 a0_0, .int .i64 a0_1, .slice A0_2 l0_2.length c0_2], .int .i64 a1, .int .i64 a2] w fun e w' => e = .returned (.int .i64 r) ∧ Below w.heap.size w w' := by
 have hu27 := Tryz.underlying27
 have HR0_2 := Aside0.mk hr0_2
 have HC0_2 := Aside0.mk hc0_2
 clear hr0_2 hc0_2
 have HB := Aside0.mk (Below.refl w.heap.size w)
 have H : (if a0_0 = 0 then (none) else ((qz.f (Int.tmod a1 a0_0) (wrap64 (Int.tdiv a1 a0_0)) a2).bind fun bt112 => ((qk.f bt112.1 0 (wrap64 (a0_0 - 1))).bind fun t114 => (if t114 = true then ((qk.f bt112.2 0 (wrap64 (a0_1 - 1))).bind fun t115 => (if t115 = true then (if 0 ≤ (wrap64 ((wrap64 (bt112.2 * a0_0)) + bt112.1)) then (if (wrap64 ((wrap64 (bt112.2 * a0_0)) + bt112.1)) < (l0_2.length : Int) then (if (rd l0_2 (wrap64 ((wrap64 (bt112.2 * a0_0)) + bt112.1))) = 46 then (some (-1)) else (some (wrap64 ((wrap64 (bt112.2 * a0_0)) + bt112.1)))) else (none)) else (none)) else (some (-1)))) else (some (-1)))))) = some r := h
 clear h
 by_cases c4 : a0_0 = 0
 ·rw [if_pos c4] at H
  exact absurd H (by simp)
 ·rw [if_neg c4] at H
  have c4b0 : (a0_0 == 0) = false := beq_eq_false_iff_ne.mpr c4
  have c4b1 : (a0_0 != 0) = true := bne_iff_ne.mpr c4
  replace H := Option.bind_eq_some_iff.mp H
  obtain ⟨⟨t112, t113⟩, A50, H⟩ := H
  replace H : ((qk.f t112 0 (wrap64 (a0_0 - 1))).bind fun t114 => (if t114 = true then ((qk.f t113 0 (wrap64 (a0_1 - 1))).bind fun t115 => (if t115 = true then (if 0 ≤ (wrap64 ((wrap64 (t113 * a0_0)) + t112)) then (if (wrap64 ((wrap64 (t113 * a0_0)) + t112)) < (l0_2.length : Int) then (if (rd l0_2 (wrap64 ((wrap64 (t113 * a0_0)) + t112))) = 46 then (some (-1)) else (some (wrap64 ((wrap64 (t113 * a0_0)) + t112)))) else (none)) else (none)) else (some (-1)))) else (some (-1)))) = some r := H
  have A5 := Aside0.mk A50
  clear A50
  replace H := Option.bind_eq_some_iff.mp H
  obtain ⟨t114, A60, H⟩ := H
  replace H : (if t114 = true then ((qk.f t113 0 (wrap64 (a0_1 - 1))).bind fun t115 => (if t115 = true then (if 0 ≤ (wrap64 ((wrap64 (t113 * a0_0)) + t112)) then (if (wrap64 ((wrap64 (t113 * a0_0)) + t112)) < (l0_2.length : Int) then (if (rd l0_2 (wrap64 ((wrap64 (t113 * a0_0)) + t112))) = 46 then (some (-1)) else (some (wrap64 ((wrap64 (t113 * a0_0)) + t112)))) else (none)) else (none)) else (some (-1)))) else (some (-1))) = some r := H
  have A6 := Aside0.mk A60
  clear A60
  by_cases c7 : t114 = true
  ·subst c7
   have H1 : ((qk.f t113 0 (wrap64 (a0_1 - 1))).bind fun t115 => (if t115 = true then (if 0 ≤ (wrap64 ((wrap64 (t113 * a0_0)) + t112)) then (if (wrap64 ((wrap64 (t113 * a0_0)) + t112)) < (l0_2.length : Int) then (if (rd l0_2 (wrap64 ((wrap64 (t113 * a0_0)) + t112))) = 46 then (some (-1)) else (some (wrap64 ((wrap64 (t113 * a0_0)) + t112)))) else (none)) else (none)) else (some (-1)))) = some r := by rw [if_pos rfl] at H; exact H
   clear H
   have H := H1
   clear H1
   replace H := Option.bind_eq_some_iff.mp H
   obtain ⟨t115, A80, H⟩ := H
   replace H : (if t115 = true then (if 0 ≤ (wrap64 ((wrap64 (t113 * a0_0)) + t112)) then (if (wrap64 ((wrap64 (t113 * a0_0)) + t112)) < (l0_2.length : Int) then (if (rd l0_2 (wrap64 ((wrap64 (t113 * a0_0)) + t112))) = 46 then (some (-1)) else (some (wrap64 ((wrap64 (t113 * a0_0)) + t112)))) else (none)) else (none)) else (some (-1))) = some r := H
   have A8 := Aside0.mk A80
   clear A80
   by_cases c9 : t115 = true
   ·subst c9
    have H1 : (if 0 ≤ (wrap64 ((wrap64 (t113 * a0_0)) + t112)) then (if (wrap64 ((wrap64 (t113 * a0_0)) + t112)) < (l0_2.length : Int) then (if (rd l0_2 (wrap64 ((wrap64 (t113 * a0_0)) + t112))) = 46 then (some (-1)) else (some (wrap64 ((wrap64 (t113 * a0_0)) + t112)))) else (none)) else (none)) = some r := by rw [if_pos rfl] at H; exact H
    clear H
    have H := H1
    clear H1
    obtain ⟨ji10, hji10⟩ : ∃ j_ : Int, (wrap64 ((wrap64 (t113 * a0_0)) + t112)) = j_ := ⟨_, rfl⟩
    replace H : (if 0 ≤ (ji10) then (if (ji10) < (l0_2.length : Int) then (if (rd l0_2 (ji10)) = 46 then (some (-1)) else (some ji10)) else (none)) else (none)) = some r := by first | (rw [hji10] at H; exact H) | (simp only [hji10] at H ⊢; exact H)
    (try rw [hji10] at A5)
    (try rw [hji10] at A6)
    (try rw [hji10] at A8)
    have hji10w : (IntKind.i64.wrap ((wrap64 (t113 * a0_0)) + t112)) = ji10 := (i64_w _).trans hji10
    by_cases c11 : 0 ≤ (ji10)
    ·rw [if_pos c11] at H
     have c11b0 : decide (0 ≤ (ji10)) = true := decide_eq_true c11
     clear c11
     by_cases c12 : (ji10) < (l0_2.length : Int)
     ·rw [if_pos c12] at H
      have c12b0 : decide ((ji10) < (l0_2.length : Int)) = true := decide_eq_true c12
      clear c12
      by_cases c13 : (rd l0_2 (ji10)) = 46
      ·rw [if_pos c13] at H
       have c13b0 : ((rd l0_2 (ji10)) == 46) = true := beq_iff_eq.mpr c13
       have c13b1 : ((rd l0_2 (ji10)) != 46) = false := bne_eq_false_iff_eq.mpr c13
       clear c13
       obtain rfl := Option.some.inj H
       go_enter Tryz.func23, Tryz.ntmps23
       go_wp2_with (first | ((with_reducible refine qX (N := 3) rfl ?_); refine qV ?hg (N := 3) ?hd (cs := #[.int .i64 a0_0, .int .i64 a0_1, .slice A0_2 l0_2.length c0_2]) (t := 27) ?hr ?_; (case hd => rfl); (case hg => rfl); (case hr => first | (go_simp; done) | (go_simp; rfl)); intro gb111 hg w14 hbox hb; have n0_ := Aside0.mk (qK bl hb); have n1_ := Aside0.mk (hbox); have n2_ := Aside0.mk ((gg hg)); have n3_ := Aside0.mk ((gg hg)); clear HB; have HB := n0_; have BK111 := n1_; have GW111 := n2_; have GE111 := n3_; clear n0_ n1_ n2_ n3_; clear hb hbox hg; have hcz15_0 := bc BK111 0; have hcz15_1 := bc BK111 1; have hcz15_2 := bc BK111 2; have hfz15_0 := qA BK111.out 0; have hfz15_1 := qA BK111.out 1; have hfz15_2 := qA BK111.out 2) | (go_at_call 32; (with_reducible refine (qz.calls (Int.tmod a1 a0_0) (wrap64 (Int.tdiv a1 a0_0)) a2 t112 t113 _ A5.out).mono ?_); rintro e w' ⟨rfl, ⟨nd, rfl⟩⟩; (try first | exact ⟨rfl, _, World.drewN_drewN _ _ _⟩ | exact ⟨rfl, _, Eq.trans (World.drewN_drewN _ _ _) (congrArg (World.drewN _) (Nat.add_assoc _ _ _))⟩)) | (go_at_call 33; (with_reducible refine (qk.calls t112 0 (wrap64 (a0_0 - 1)) true _ A6.out).mono ?_); rintro e w' ⟨rfl, ⟨nd, rfl⟩⟩; (try first | exact ⟨rfl, _, World.drewN_drewN _ _ _⟩ | exact ⟨rfl, _, Eq.trans (World.drewN_drewN _ _ _) (congrArg (World.drewN _) (Nat.add_assoc _ _ _))⟩)) | (go_at_call 33; (with_reducible refine (qk.calls t113 0 (wrap64 (a0_1 - 1)) true _ A8.out).mono ?_); rintro e w' ⟨rfl, ⟨nd, rfl⟩⟩; (try first | exact ⟨rfl, _, World.drewN_drewN _ _ _⟩ | exact ⟨rfl, _, Eq.trans (World.drewN_drewN _ _ _) (congrArg (World.drewN _) (Nat.add_assoc _ _ _))⟩); have p116 : 0 ≤ ((ji10) : Int) := of_decide_eq_true (by first | (with_reducible assumption) | assumption); have q116 : (ji10) < (l0_2.length : Int) := of_decide_eq_true (by first | (with_reducible assumption) | assumption); obtain ⟨ad116, e116, hx116_0⟩ := Kd.qCA HR0_2.out (ji10) p116 q116; cases e116; replace hx116_0 := (HB.out.cell (World.block_lt_of_cell? w _ hx116_0)).trans hx116_0; replace p116 := eq_true p116; replace q116 := eq_true q116))
       repeat (go_quiet (first | ((with_reducible refine qX (N := 3) rfl ?_); refine qV ?hg (N := 3) ?hd (cs := #[.int .i64 a0_0, .int .i64 a0_1, .slice A0_2 l0_2.length c0_2]) (t := 27) ?hr ?_; (case hd => rfl); (case hg => rfl); (case hr => first | (go_simp; done) | (go_simp; rfl)); intro gb111 hg w14 hbox hb; have n0_ := Aside0.mk (qK bl hb); have n1_ := Aside0.mk (hbox); have n2_ := Aside0.mk ((gg hg)); have n3_ := Aside0.mk ((gg hg)); clear HB; have HB := n0_; have BK111 := n1_; have GW111 := n2_; have GE111 := n3_; clear n0_ n1_ n2_ n3_; clear hb hbox hg; have hcz15_0 := bc BK111 0; have hcz15_1 := bc BK111 1; have hcz15_2 := bc BK111 2; have hfz15_0 := qA BK111.out 0; have hfz15_1 := qA BK111.out 1; have hfz15_2 := qA BK111.out 2) | (go_at_call 32; (with_reducible refine (qz.calls (Int.tmod a1 a0_0) (wrap64 (Int.tdiv a1 a0_0)) a2 t112 t113 _ A5.out).mono ?_); rintro e w' ⟨rfl, ⟨nd, rfl⟩⟩; (try first | exact ⟨rfl, _, World.drewN_drewN _ _ _⟩ | exact ⟨rfl, _, Eq.trans (World.drewN_drewN _ _ _) (congrArg (World.drewN _) (Nat.add_assoc _ _ _))⟩)) | (go_at_call 33; (with_reducible refine (qk.calls t112 0 (wrap64 (a0_0 - 1)) true _ A6.out).mono ?_); rintro e w' ⟨rfl, ⟨nd, rfl⟩⟩; (try first | exact ⟨rfl, _, World.drewN_drewN _ _ _⟩ | exact ⟨rfl, _, Eq.trans (World.drewN_drewN _ _ _) (congrArg (World.drewN _) (Nat.add_assoc _ _ _))⟩)) | (go_at_call 33; (with_reducible refine (qk.calls t113 0 (wrap64 (a0_1 - 1)) true _ A8.out).mono ?_); rintro e w' ⟨rfl, ⟨nd, rfl⟩⟩; (try first | exact ⟨rfl, _, World.drewN_drewN _ _ _⟩ | exact ⟨rfl, _, Eq.trans (World.drewN_drewN _ _ _) (congrArg (World.drewN _) (Nat.add_assoc _ _ _))⟩); have p116 : 0 ≤ ((ji10) : Int) := of_decide_eq_true (by first | (with_reducible assumption) | assumption); have q116 : (ji10) < (l0_2.length : Int) := of_decide_eq_true (by first | (with_reducible assumption) | assumption); obtain ⟨ad116, e116, hx116_0⟩ := Kd.qCA HR0_2.out (ji10) p116 q116; cases e116; replace hx116_0 := (HB.out.cell (World.block_lt_of_cell? w _ hx116_0)).trans hx116_0; replace p116 := eq_true p116; replace q116 := eq_true q116)); try go_wp2_with (first | ((with_reducible refine qX (N := 3) rfl ?_); refine qV ?hg (N := 3) ?hd (cs := #[.int .i64 a0_0, .int .i64 a0_1, .slice A0_2 l0_2.length c0_2]) (t := 27) ?hr ?_; (case hd => rfl); (case hg => rfl); (case hr => first | (go_simp; done) | (go_simp; rfl)); intro gb111 hg w14 hbox hb; have n0_ := Aside0.mk (qK bl hb); have n1_ := Aside0.mk (hbox); have n2_ := Aside0.mk ((gg hg)); have n3_ := Aside0.mk ((gg hg)); clear HB; have HB := n0_; have BK111 := n1_; have GW111 := n2_; have GE111 := n3_; clear n0_ n1_ n2_ n3_; clear hb hbox hg; have hcz15_0 := bc BK111 0; have hcz15_1 := bc BK111 1; have hcz15_2 := bc BK111 2; have hfz15_0 := qA BK111.out 0; have hfz15_1 := qA BK111.out 1; have hfz15_2 := qA BK111.out 2) | (go_at_call 32; (with_reducible refine (qz.calls (Int.tmod a1 a0_0) (wrap64 (Int.tdiv a1 a0_0)) a2 t112 t113 _ A5.out).mono ?_); rintro e w' ⟨rfl, ⟨nd, rfl⟩⟩; (try first | exact ⟨rfl, _, World.drewN_drewN _ _ _⟩ | exact ⟨rfl, _, Eq.trans (World.drewN_drewN _ _ _) (congrArg (World.drewN _) (Nat.add_assoc _ _ _))⟩)) | (go_at_call 33; (with_reducible refine (qk.calls t112 0 (wrap64 (a0_0 - 1)) true _ A6.out).mono ?_); rintro e w' ⟨rfl, ⟨nd, rfl⟩⟩; (try first | exact ⟨rfl, _, World.drewN_drewN _ _ _⟩ | exact ⟨rfl, _, Eq.trans (World.drewN_drewN _ _ _) (congrArg (World.drewN _) (Nat.add_assoc _ _ _))⟩)) | (go_at_call 33; (with_reducible refine (qk.calls t113 0 (wrap64 (a0_1 - 1)) true _ A8.out).mono ?_); rintro e w' ⟨rfl, ⟨nd, rfl⟩⟩; (try first | exact ⟨rfl, _, World.drewN_drewN _ _ _⟩ | exact ⟨rfl, _, Eq.trans (World.drewN_drewN _ _ _) (congrArg (World.drewN _) (Nat.add_assoc _ _ _))⟩); have p116 : 0 ≤ ((ji10) : Int) := of_decide_eq_true (by first | (with_reducible assumption) | assumption); have q116 : (ji10) < (l0_2.length : Int) := of_decide_eq_true (by first | (with_reducible assumption) | assumption); obtain ⟨ad116, e116, hx116_0⟩ := Kd.qCA HR0_2.out (ji10) p116 q116; cases e116; replace hx116_0 := (HB.out.cell (World.block_lt_of_cell? w _ hx116_0)).trans hx116_0; replace p116 := eq_true p116; replace q116 := eq_true q116)))
       go_ret
       exact ⟨by first | rfl | (simp [qN, qM] <;> rfl) | (simp only [← hji10]; first | rfl | (simp [qN, qM] <;> rfl)) | (simp [*, qN, qM] <;> rfl), bl⟩
      ·rw [if_neg c13] at H
       have c13b0 : ((rd l0_2 (ji10)) == 46) = false := beq_eq_false_iff_ne.mpr c13
       have c13b1 : ((rd l0_2 (ji10)) != 46) = true := bne_iff_ne.mpr c13
       obtain rfl := Option.some.inj H
       go_enter Tryz.func23, Tryz.ntmps23
       go_wp2_with (first | ((with_reducible refine qX (N := 3) rfl ?_); refine qV ?hg (N := 3) ?hd (cs := #[.int .i64 a0_0, .int .i64 a0_1, .slice A0_2 l0_2.length c0_2]) (t := 27) ?hr ?_; (case hd => rfl); (case hg => rfl); (case hr => first | (go_simp; done) | (go_simp; rfl)); intro gb111 hg w16 hbox hb; have n0_ := Aside0.mk (qK bl hb); have n1_ := Aside0.mk (hbox); have n2_ := Aside0.mk ((gg hg)); have n3_ := Aside0.mk ((gg hg)); clear HB; have HB := n0_; have BK111 := n1_; have GW111 := n2_; have GE111 := n3_; clear n0_ n1_ n2_ n3_; clear hb hbox hg; have hcz17_0 := bc BK111 0; have hcz17_1 := bc BK111 1; have hcz17_2 := bc BK111 2; have hfz17_0 := qA BK111.out 0; have hfz17_1 := qA BK111.out 1; have hfz17_2 := qA BK111.out 2) | (go_at_call 32; (with_reducible refine (qz.calls (Int.tmod a1 a0_0) (wrap64 (Int.tdiv a1 a0_0)) a2 t112 t113 _ A5.out).mono ?_); rintro e w' ⟨rfl, ⟨nd, rfl⟩⟩; (try first | exact ⟨rfl, _, World.drewN_drewN _ _ _⟩ | exact ⟨rfl, _, Eq.trans (World.drewN_drewN _ _ _) (congrArg (World.drewN _) (Nat.add_assoc _ _ _))⟩)) | (go_at_call 33; (with_reducible refine (qk.calls t112 0 (wrap64 (a0_0 - 1)) true _ A6.out).mono ?_); rintro e w' ⟨rfl, ⟨nd, rfl⟩⟩; (try first | exact ⟨rfl, _, World.drewN_drewN _ _ _⟩ | exact ⟨rfl, _, Eq.trans (World.drewN_drewN _ _ _) (congrArg (World.drewN _) (Nat.add_assoc _ _ _))⟩)) | (go_at_call 33; (with_reducible refine (qk.calls t113 0 (wrap64 (a0_1 - 1)) true _ A8.out).mono ?_); rintro e w' ⟨rfl, ⟨nd, rfl⟩⟩; (try first | exact ⟨rfl, _, World.drewN_drewN _ _ _⟩ | exact ⟨rfl, _, Eq.trans (World.drewN_drewN _ _ _) (congrArg (World.drewN _) (Nat.add_assoc _ _ _))⟩); have p116 : 0 ≤ ((ji10) : Int) := of_decide_eq_true (by first | (with_reducible assumption) | assumption); have q116 : (ji10) < (l0_2.length : Int) := of_decide_eq_true (by first | (with_reducible assumption) | assumption); obtain ⟨ad116, e116, hx116_0⟩ := Kd.qCA HR0_2.out (ji10) p116 q116; cases e116; replace hx116_0 := (HB.out.cell (World.block_lt_of_cell? w _ hx116_0)).trans hx116_0; replace p116 := eq_true p116; replace q116 := eq_true q116))
       repeat (go_quiet (first | ((with_reducible refine qX (N := 3) rfl ?_); refine qV ?hg (N := 3) ?hd (cs := #[.int .i64 a0_0, .int .i64 a0_1, .slice A0_2 l0_2.length c0_2]) (t := 27) ?hr ?_; (case hd => rfl); (case hg => rfl); (case hr => first | (go_simp; done) | (go_simp; rfl)); intro gb111 hg w16 hbox hb; have n0_ := Aside0.mk (qK bl hb); have n1_ := Aside0.mk (hbox); have n2_ := Aside0.mk ((gg hg)); have n3_ := Aside0.mk ((gg hg)); clear HB; have HB := n0_; have BK111 := n1_; have GW111 := n2_; have GE111 := n3_; clear n0_ n1_ n2_ n3_; clear hb hbox hg; have hcz17_0 := bc BK111 0; have hcz17_1 := bc BK111 1; have hcz17_2 := bc BK111 2; have hfz17_0 := qA BK111.out 0; have hfz17_1 := qA BK111.out 1; have hfz17_2 := qA BK111.out 2) | (go_at_call 32; (with_reducible refine (qz.calls (Int.tmod a1 a0_0) (wrap64 (Int.tdiv a1 a0_0)) a2 t112 t113 _ A5.out).mono ?_); rintro e w' ⟨rfl, ⟨nd, rfl⟩⟩; (try first | exact ⟨rfl, _, World.drewN_drewN _ _ _⟩ | exact ⟨rfl, _, Eq.trans (World.drewN_drewN _ _ _) (congrArg (World.drewN _) (Nat.add_assoc _ _ _))⟩)) | (go_at_call 33; (with_reducible refine (qk.calls t112 0 (wrap64 (a0_0 - 1)) true _ A6.out).mono ?_); rintro e w' ⟨rfl, ⟨nd, rfl⟩⟩; (try first | exact ⟨rfl, _, World.drewN_drewN _ _ _⟩ | exact ⟨rfl, _, Eq.trans (World.drewN_drewN _ _ _) (congrArg (World.drewN _) (Nat.add_assoc _ _ _))⟩)) | (go_at_call 33; (with_reducible refine (qk.calls t113 0 (wrap64 (a0_1 - 1)) true _ A8.out).mono ?_); rintro e w' ⟨rfl, ⟨nd, rfl⟩⟩; (try first | exact ⟨rfl, _, World.drewN_drewN _ _ _⟩ | exact ⟨rfl, _, Eq.trans (World.drewN_drewN _ _ _) (congrArg (World.drewN _) (Nat.add_assoc _ _ _))⟩); have p116 : 0 ≤ ((ji10) : Int) := of_decide_eq_true (by first | (with_reducible assumption) | assumption); have q116 : (ji10) < (l0_2.length : Int) := of_decide_eq_true (by first | (with_reducible assumption) | assumption); obtain ⟨ad116, e116, hx116_0⟩ := Kd.qCA HR0_2.out (ji10) p116 q116; cases e116; replace hx116_0 := (HB.out.cell (World.block_lt_of_cell? w _ hx116_0)).trans hx116_0; replace p116 := eq_true p116; replace q116 := eq_true q116)); try go_wp2_with (first | ((with_reducible refine qX (N := 3) rfl ?_); refine qV ?hg (N := 3) ?hd (cs := #[.int .i64 a0_0, .int .i64 a0_1, .slice A0_2 l0_2.length c0_2]) (t := 27) ?hr ?_; (case hd => rfl); (case hg => rfl); (case hr => first | (go_simp; done) | (go_simp; rfl)); intro gb111 hg w16 hbox hb; have n0_ := Aside0.mk (qK bl hb); have n1_ := Aside0.mk (hbox); have n2_ := Aside0.mk ((gg hg)); have n3_ := Aside0.mk ((gg hg)); clear HB; have HB := n0_; have BK111 := n1_; have GW111 := n2_; have GE111 := n3_; clear n0_ n1_ n2_ n3_; clear hb hbox hg; have hcz17_0 := bc BK111 0; have hcz17_1 := bc BK111 1; have hcz17_2 := bc BK111 2; have hfz17_0 := qA BK111.out 0; have hfz17_1 := qA BK111.out 1; have hfz17_2 := qA BK111.out 2) | (go_at_call 32; (with_reducible refine (qz.calls (Int.tmod a1 a0_0) (wrap64 (Int.tdiv a1 a0_0)) a2 t112 t113 _ A5.out).mono ?_); rintro e w' ⟨rfl, ⟨nd, rfl⟩⟩; (try first | exact ⟨rfl, _, World.drewN_drewN _ _ _⟩ | exact ⟨rfl, _, Eq.trans (World.drewN_drewN _ _ _) (congrArg (World.drewN _) (Nat.add_assoc _ _ _))⟩)) | (go_at_call 33; (with_reducible refine (qk.calls t112 0 (wrap64 (a0_0 - 1)) true _ A6.out).mono ?_); rintro e w' ⟨rfl, ⟨nd, rfl⟩⟩; (try first | exact ⟨rfl, _, World.drewN_drewN _ _ _⟩ | exact ⟨rfl, _, Eq.trans (World.drewN_drewN _ _ _) (congrArg (World.drewN _) (Nat.add_assoc _ _ _))⟩)) | (go_at_call 33; (with_reducible refine (qk.calls t113 0 (wrap64 (a0_1 - 1)) true _ A8.out).mono ?_); rintro e w' ⟨rfl, ⟨nd, rfl⟩⟩; (try first | exact ⟨rfl, _, World.drewN_drewN _ _ _⟩ | exact ⟨rfl, _, Eq.trans (World.drewN_drewN _ _ _) (congrArg (World.drewN _) (Nat.add_assoc _ _ _))⟩); have p116 : 0 ≤ ((ji10) : Int) := of_decide_eq_true (by first | (with_reducible assumption) | assumption); have q116 : (ji10) < (l0_2.length : Int) := of_decide_eq_true (by first | (with_reducible assumption) | assumption); obtain ⟨ad116, e116, hx116_0⟩ := Kd.qCA HR0_2.out (ji10) p116 q116; cases e116; replace hx116_0 := (HB.out.cell (World.block_lt_of_cell? w _ hx116_0)).trans hx116_0; replace p116 := eq_true p116; replace q116 := eq_true q116)))
       go_ret
       exact ⟨by first | rfl | (simp [qN, qM] <;> rfl) | (simp only [← hji10]; first | rfl | (simp [qN, qM] <;> rfl)) | (simp [*, qN, qM] <;> rfl), bl⟩
     ·rw [if_neg c12] at H
      exact absurd H (by simp)
    ·rw [if_neg c11] at H
     exact absurd H (by simp)
   ·replace c9 := Bool.eq_false_iff.mpr c9
    subst c9
    have H1 : (some (-1)) = some r := by rw [if_neg (show ¬ (false = true) by decide)] at H; exact H
    clear H
    have H := H1
    clear H1
    obtain rfl := Option.some.inj H
    go_enter Tryz.func23, Tryz.ntmps23
    go_wp2_with (first | ((with_reducible refine qX (N := 3) rfl ?_); refine qV ?hg (N := 3) ?hd (cs := #[.int .i64 a0_0, .int .i64 a0_1, .slice A0_2 l0_2.length c0_2]) (t := 27) ?hr ?_; (case hd => rfl); (case hg => rfl); (case hr => first | (go_simp; done) | (go_simp; rfl)); intro gb111 hg w18 hbox hb; have n0_ := Aside0.mk (qK bl hb); have n1_ := Aside0.mk (hbox); have n2_ := Aside0.mk ((gg hg)); have n3_ := Aside0.mk ((gg hg)); clear HB; have HB := n0_; have BK111 := n1_; have GW111 := n2_; have GE111 := n3_; clear n0_ n1_ n2_ n3_; clear hb hbox hg; have hcz19_0 := bc BK111 0; have hcz19_1 := bc BK111 1; have hcz19_2 := bc BK111 2; have hfz19_0 := qA BK111.out 0; have hfz19_1 := qA BK111.out 1; have hfz19_2 := qA BK111.out 2) | (go_at_call 32; (with_reducible refine (qz.calls (Int.tmod a1 a0_0) (wrap64 (Int.tdiv a1 a0_0)) a2 t112 t113 _ A5.out).mono ?_); rintro e w' ⟨rfl, ⟨nd, rfl⟩⟩; (try first | exact ⟨rfl, _, World.drewN_drewN _ _ _⟩ | exact ⟨rfl, _, Eq.trans (World.drewN_drewN _ _ _) (congrArg (World.drewN _) (Nat.add_assoc _ _ _))⟩)) | (go_at_call 33; (with_reducible refine (qk.calls t112 0 (wrap64 (a0_0 - 1)) true _ A6.out).mono ?_); rintro e w' ⟨rfl, ⟨nd, rfl⟩⟩; (try first | exact ⟨rfl, _, World.drewN_drewN _ _ _⟩ | exact ⟨rfl, _, Eq.trans (World.drewN_drewN _ _ _) (congrArg (World.drewN _) (Nat.add_assoc _ _ _))⟩)) | (go_at_call 33; (with_reducible refine (qk.calls t113 0 (wrap64 (a0_1 - 1)) false _ A8.out).mono ?_); rintro e w' ⟨rfl, ⟨nd, rfl⟩⟩; (try first | exact ⟨rfl, _, World.drewN_drewN _ _ _⟩ | exact ⟨rfl, _, Eq.trans (World.drewN_drewN _ _ _) (congrArg (World.drewN _) (Nat.add_assoc _ _ _))⟩)))
    repeat (go_quiet (first | ((with_reducible refine qX (N := 3) rfl ?_); refine qV ?hg (N := 3) ?hd (cs := #[.int .i64 a0_0, .int .i64 a0_1, .slice A0_2 l0_2.length c0_2]) (t := 27) ?hr ?_; (case hd => rfl); (case hg => rfl); (case hr => first | (go_simp; done) | (go_simp; rfl)); intro gb111 hg w18 hbox hb; have n0_ := Aside0.mk (qK bl hb); have n1_ := Aside0.mk (hbox); have n2_ := Aside0.mk ((gg hg)); have n3_ := Aside0.mk ((gg hg)); clear HB; have HB := n0_; have BK111 := n1_; have GW111 := n2_; have GE111 := n3_; clear n0_ n1_ n2_ n3_; clear hb hbox hg; have hcz19_0 := bc BK111 0; have hcz19_1 := bc BK111 1; have hcz19_2 := bc BK111 2; have hfz19_0 := qA BK111.out 0; have hfz19_1 := qA BK111.out 1; have hfz19_2 := qA BK111.out 2) | (go_at_call 32; (with_reducible refine (qz.calls (Int.tmod a1 a0_0) (wrap64 (Int.tdiv a1 a0_0)) a2 t112 t113 _ A5.out).mono ?_); rintro e w' ⟨rfl, ⟨nd, rfl⟩⟩; (try first | exact ⟨rfl, _, World.drewN_drewN _ _ _⟩ | exact ⟨rfl, _, Eq.trans (World.drewN_drewN _ _ _) (congrArg (World.drewN _) (Nat.add_assoc _ _ _))⟩)) | (go_at_call 33; (with_reducible refine (qk.calls t112 0 (wrap64 (a0_0 - 1)) true _ A6.out).mono ?_); rintro e w' ⟨rfl, ⟨nd, rfl⟩⟩; (try first | exact ⟨rfl, _, World.drewN_drewN _ _ _⟩ | exact ⟨rfl, _, Eq.trans (World.drewN_drewN _ _ _) (congrArg (World.drewN _) (Nat.add_assoc _ _ _))⟩)) | (go_at_call 33; (with_reducible refine (qk.calls t113 0 (wrap64 (a0_1 - 1)) false _ A8.out).mono ?_); rintro e w' ⟨rfl, ⟨nd, rfl⟩⟩; (try first | exact ⟨rfl, _, World.drewN_drewN _ _ _⟩ | exact ⟨rfl, _, Eq.trans (World.drewN_drewN _ _ _) (congrArg (World.drewN _) (Nat.add_assoc _ _ _))⟩))); try go_wp2_with (first | ((with_reducible refine qX (N := 3) rfl ?_); refine qV ?hg (N := 3) ?hd (cs := #[.int .i64 a0_0, .int .i64 a0_1, .slice A0_2 l0_2.length c0_2]) (t := 27) ?hr ?_; (case hd => rfl); (case hg => rfl); (case hr => first | (go_simp; done) | (go_simp; rfl)); intro gb111 hg w18 hbox hb; have n0_ := Aside0.mk (qK bl hb); have n1_ := Aside0.mk (hbox); have n2_ := Aside0.mk ((gg hg)); have n3_ := Aside0.mk ((gg hg)); clear HB; have HB := n0_; have BK111 := n1_; have GW111 := n2_; have GE111 := n3_; clear n0_ n1_ n2_ n3_; clear hb hbox hg; have hcz19_0 := bc BK111 0; have hcz19_1 := bc BK111 1; have hcz19_2 := bc BK111 2; have hfz19_0 := qA BK111.out 0; have hfz19_1 := qA BK111.out 1; have hfz19_2 := qA BK111.out 2) | (go_at_call 32; (with_reducible refine (qz.calls (Int.tmod a1 a0_0) (wrap64 (Int.tdiv a1 a0_0)) a2 t112 t113 _ A5.out).mono ?_); rintro e w' ⟨rfl, ⟨nd, rfl⟩⟩; (try first | exact ⟨rfl, _, World.drewN_drewN _ _ _⟩ | exact ⟨rfl, _, Eq.trans (World.drewN_drewN _ _ _) (congrArg (World.drewN _) (Nat.add_assoc _ _ _))⟩)) | (go_at_call 33; (with_reducible refine (qk.calls t112 0 (wrap64 (a0_0 - 1)) true _ A6.out).mono ?_); rintro e w' ⟨rfl, ⟨nd, rfl⟩⟩; (try first | exact ⟨rfl, _, World.drewN_drewN _ _ _⟩ | exact ⟨rfl, _, Eq.trans (World.drewN_drewN _ _ _) (congrArg (World.drewN _) (Nat.add_assoc _ _ _))⟩)) | (go_at_call 33; (with_reducible refine (qk.calls t113 0 (wrap64 (a0_1 - 1)) false _ A8.out).mono ?_); rintro e w' ⟨rfl, ⟨nd, rfl⟩⟩; (try first | exact ⟨rfl, _, World.drewN_drewN _ _ _⟩ | exact ⟨rfl, _, Eq.trans (World.drewN_drewN _ _ _) (congrArg (World.drewN _) (Nat.add_assoc _ _ _))⟩))))
    go_ret
    exact ⟨by first | rfl | (simp [qN, qM] <;> rfl) | (simp [*, qN, qM] <;> rfl), bl⟩
  ·replace c7 := Bool.eq_false_iff.mpr c7
   subst c7
   have H1 : (some (-1)) = some r := by rw [if_neg (show ¬ (false = true) by decide)] at H; exact H
   clear H
   have H := H1
   clear H1
   obtain rfl := Option.some.inj H
   go_enter Tryz.func23, Tryz.ntmps23
   go_wp2_with (first | ((with_reducible refine qX (N := 3) rfl ?_); refine qV ?hg (N := 3) ?hd (cs := #[.int .i64 a0_0, .int .i64 a0_1, .slice A0_2 l0_2.length c0_2]) (t := 27) ?hr ?_; (case hd => rfl); (case hg => rfl); (case hr => first | (go_simp; done) | (go_simp; rfl)); intro gb111 hg w20 hbox hb; have n0_ := Aside0.mk (qK bl hb); have n1_ := Aside0.mk (hbox); have n2_ := Aside0.mk ((gg hg)); have n3_ := Aside0.mk ((gg hg)); clear HB; have HB := n0_; have BK111 := n1_; have GW111 := n2_; have GE111 := n3_; clear n0_ n1_ n2_ n3_; clear hb hbox hg; have hcz21_0 := bc BK111 0; have hcz21_1 := bc BK111 1; have hcz21_2 := bc BK111 2; have hfz21_0 := qA BK111.out 0; have hfz21_1 := qA BK111.out 1; have hfz21_2 := qA BK111.out 2) | (go_at_call 32; (with_reducible refine (qz.calls (Int.tmod a1 a0_0) (wrap64 (Int.tdiv a1 a0_0)) a2 t112 t113 _ A5.out).mono ?_); rintro e w' ⟨rfl, ⟨nd, rfl⟩⟩; (try first | exact ⟨rfl, _, World.drewN_drewN _ _ _⟩ | exact ⟨rfl, _, Eq.trans (World.drewN_drewN _ _ _) (congrArg (World.drewN _) (Nat.add_assoc _ _ _))⟩)) | (go_at_call 33; (with_reducible refine (qk.calls t112 0 (wrap64 (a0_0 - 1)) false _ A6.out).mono ?_); rintro e w' ⟨rfl, ⟨nd, rfl⟩⟩; (try first | exact ⟨rfl, _, World.drewN_drewN _ _ _⟩ | exact ⟨rfl, _, Eq.trans (World.drewN_drewN _ _ _) (congrArg (World.drewN _) (Nat.add_assoc _ _ _))⟩)))
   repeat (go_quiet (first | ((with_reducible refine qX (N := 3) rfl ?_); refine qV ?hg (N := 3) ?hd (cs := #[.int .i64 a0_0, .int .i64 a0_1, .slice A0_2 l0_2.length c0_2]) (t := 27) ?hr ?_; (case hd => rfl); (case hg => rfl); (case hr => first | (go_simp; done) | (go_simp; rfl)); intro gb111 hg w20 hbox hb; have n0_ := Aside0.mk (qK bl hb); have n1_ := Aside0.mk (hbox); have n2_ := Aside0.mk ((gg hg)); have n3_ := Aside0.mk ((gg hg)); clear HB; have HB := n0_; have BK111 := n1_; have GW111 := n2_; have GE111 := n3_; clear n0_ n1_ n2_ n3_; clear hb hbox hg; have hcz21_0 := bc BK111 0; have hcz21_1 := bc BK111 1; have hcz21_2 := bc BK111 2; have hfz21_0 := qA BK111.out 0; have hfz21_1 := qA BK111.out 1; have hfz21_2 := qA BK111.out 2) | (go_at_call 32; (with_reducible refine (qz.calls (Int.tmod a1 a0_0) (wrap64 (Int.tdiv a1 a0_0)) a2 t112 t113 _ A5.out).mono ?_); rintro e w' ⟨rfl, ⟨nd, rfl⟩⟩; (try first | exact ⟨rfl, _, World.drewN_drewN _ _ _⟩ | exact ⟨rfl, _, Eq.trans (World.drewN_drewN _ _ _) (congrArg (World.drewN _) (Nat.add_assoc _ _ _))⟩)) | (go_at_call 33; (with_reducible refine (qk.calls t112 0 (wrap64 (a0_0 - 1)) false _ A6.out).mono ?_); rintro e w' ⟨rfl, ⟨nd, rfl⟩⟩; (try first | exact ⟨rfl, _, World.drewN_drewN _ _ _⟩ | exact ⟨rfl, _, Eq.trans (World.drewN_drewN _ _ _) (congrArg (World.drewN _) (Nat.add_assoc _ _ _))⟩))); try go_wp2_with (first | ((with_reducible refine qX (N := 3) rfl ?_); refine qV ?hg (N := 3) ?hd (cs := #[.int .i64 a0_0, .int .i64 a0_1, .slice A0_2 l0_2.length c0_2]) (t := 27) ?hr ?_; (case hd => rfl); (case hg => rfl); (case hr => first | (go_simp; done) | (go_simp; rfl)); intro gb111 hg w20 hbox hb; have n0_ := Aside0.mk (qK bl hb); have n1_ := Aside0.mk (hbox); have n2_ := Aside0.mk ((gg hg)); have n3_ := Aside0.mk ((gg hg)); clear HB; have HB := n0_; have BK111 := n1_; have GW111 := n2_; have GE111 := n3_; clear n0_ n1_ n2_ n3_; clear hb hbox hg; have hcz21_0 := bc BK111 0; have hcz21_1 := bc BK111 1; have hcz21_2 := bc BK111 2; have hfz21_0 := qA BK111.out 0; have hfz21_1 := qA BK111.out 1; have hfz21_2 := qA BK111.out 2) | (go_at_call 32; (with_reducible refine (qz.calls (Int.tmod a1 a0_0) (wrap64 (Int.tdiv a1 a0_0)) a2 t112 t113 _ A5.out).mono ?_); rintro e w' ⟨rfl, ⟨nd, rfl⟩⟩; (try first | exact ⟨rfl, _, World.drewN_drewN _ _ _⟩ | exact ⟨rfl, _, Eq.trans (World.drewN_drewN _ _ _) (congrArg (World.drewN _) (Nat.add_assoc _ _ _))⟩)) | (go_at_call 33; (with_reducible refine (qk.calls t112 0 (wrap64 (a0_0 - 1)) false _ A6.out).mono ?_); rintro e w' ⟨rfl, ⟨nd, rfl⟩⟩; (try first | exact ⟨rfl, _, World.drewN_drewN _ _ _⟩ | exact ⟨rfl, _, Eq.trans (World.drewN_drewN _ _ _) (congrArg (World.drewN _) (Nat.add_assoc _ _ _))⟩))))
   go_ret
   exact ⟨by first | rfl | (simp [qN, qM] <;> rfl) | (simp [*, qN, qM] <;> rfl), bl⟩
mutual
def qS.l0 : Nat → List Int → Int → Int → Int → Int → List Int → Option (List Int)
 | 0, _, _, _, _, _, _ => none
 | k + 1, x13, x15, x16, x118000, x118001, x118002 => if x16 < x15 then (if 0 ≤ x16 then (if x16 < (x13.length : Int) then (qS.l0 k (x13.set (x16 : Int).toNat (-1)) x15 (wrap64 (x16 + 1)) x118000 x118001 x118002) else (none)) else (none)) else ((qg.f k x118000 x118001 x118002).bind fun t122 => (if (t122.length : Int) = 0 then (some x13) else (if 0 < (t122.length : Int) then (if 0 ≤ (rd t122 0) then (if (rd t122 0) < (x13.length : Int) then (qS.l1 k (([rd t122 0] : List Int)) 0 (x13.set ((rd t122 0) : Int).toNat 0) x118000 x118001 x118002) else (none)) else (none)) else (none))))
def qS.l1 : Nat → List Int → Int → List Int → Int → Int → List Int → Option (List Int)
 | 0, _, _, _, _, _, _ => none
 | k + 1, x6, x7, x13, x118000, x118001, x118002 => if x7 < (x6.length : Int) then (qS.l2 k x6 x7 0 x13 x118000 x118001 x118002) else (some x13)
def qS.l2 : Nat → List Int → Int → Int → List Int → Int → Int → List Int → Option (List Int)
 | 0, _, _, _, _, _, _, _ => none
 | k + 1, x6, x7, x8, x13, x118000, x118001, x118002 => if x8 < 4 then (if 0 ≤ x7 then (if x7 < (x6.length : Int) then ((qVA.f x118000 x118001 x118002 (rd x6 x7) x8).bind fun t132 => (if t132 ≥ 0 then (if 0 ≤ t132 then (if t132 < (x13.length : Int) then (if (rd x13 t132) < 0 then (if 0 ≤ (rd x6 x7) then (if (rd x6 x7) < (x13.length : Int) then (if x6.length < 17592186044416 then (qS.l2 k (x6 ++ [t132]) x7 (wrap64 (x8 + 1)) (x13.set (t132 : Int).toNat (wrap64 ((rd x13 (rd x6 x7)) + 1))) x118000 x118001 x118002) else (none)) else (none)) else (none)) else (qS.l2 k x6 x7 (wrap64 (x8 + 1)) x13 x118000 x118001 x118002)) else (none)) else (none)) else (qS.l2 k x6 x7 (wrap64 (x8 + 1)) x13 x118000 x118001 x118002))) else (none)) else (none)) else (qS.l1 k x6 (wrap64 (x7 + 1)) x13 x118000 x118001 x118002)
end
def qS.f (k : Nat) (a0_0 : Int) (a0_1 : Int) (l0_2 : List Int) : Option (List Int) := if 0 ≤ (l0_2.length : Int) then (if ((l0_2.length : Int) : Int).toNat ≤ 35184372088832 then ((some (List.replicate ((l0_2.length : Int) : Int).toNat 0 : List Int)).bind fun y118 => (qS.l0 k y118 (y118.length : Int) 0 a0_0 a0_1 l0_2)) else (none)) else (none)
def qS.T18 : Bool × List (List Nat × List Nat) := (true, [([], []), ([], []), ([], []), ([1, 2], [1, 2]), ([3], [3]), ([], []), ([0, 4, 5], [0, 4, 5]), ([6, 6, 0, 1, 2, 3, 4, 5, 6], [6])])
def qS.B18 : List Nat := [0, 0, 0, 6, 14, 0, 63, 127]
theorem qS.tab18 : rtab .any (opsOf Tryz.f21 18) = qS.T18 := by kernel_rfl
theorem qS.bits18 : waitsOk qS.T18.2 qS.B18 = true := by kernel_rfl
set_option maxHeartbeats 8000000 in
set_option maxRecDepth 100000 in
theorem qS.calls (k : Nat) (a0_0 : Int) (a0_1 : Int) (A0_2 : Option Addr) (c0_2 : Nat) (l0_2 : List Int) (r : List Int) (w : World) (hr0_2 : Kd.C (Kd.int .u8) w A0_2 l0_2.length l0_2) (hc0_2 : l0_2.length ≤ c0_2) (h : qS.f k a0_0 a0_1 l0_2 = some r) :
  Calls Tryz.prog 21 #[.agg #[.int .i64 a0_0, .int .i64 a0_1, .slice A0_2 l0_2.length c0_2]] w fun e w' => ∃ v0_ : Value, e = .returned (v0_) ∧ Kd.R (Kd.int .i64) 3 w' w.heap.size (fun _ => True) v0_ r ∧ Below w.heap.size w w' := by
 have hu27 := Tryz.underlying27
 have HR0_2 := Aside0.mk hr0_2
 have HC0_2 := Aside0.mk hc0_2
 clear hr0_2 hc0_2
 have HB := Aside0.mk (Below.refl w.heap.size w)
 have H : (if 0 ≤ (l0_2.length : Int) then (if ((l0_2.length : Int) : Int).toNat ≤ 35184372088832 then ((some (List.replicate ((l0_2.length : Int) : Int).toNat 0 : List Int)).bind fun y118 => (qS.l0 k y118 (y118.length : Int) 0 a0_0 a0_1 l0_2)) else (none)) else (none)) = some r := h
 clear h
 by_cases c2 : 0 ≤ (l0_2.length : Int)
 ·rw [if_pos c2] at H
  have c2b0 := eq_true c2
  have c2b1 : decide (0 ≤ (l0_2.length : Int)) = true := decide_eq_true c2
  clear c2
  by_cases c3 : ((l0_2.length : Int) : Int).toNat ≤ 35184372088832
  ·rw [if_pos c3] at H
   have c3b0 := eq_true c3
   have c3b1 : decide (((l0_2.length : Int) : Int).toNat ≤ 35184372088832) = true := decide_eq_true c3
   clear c3
   obtain ⟨y118, hy118⟩ : ∃ y_ : List Int, y_ = (List.replicate ((l0_2.length : Int) : Int).toNat 0) := ⟨_, rfl⟩
   replace H : (qS.l0 k y118 (y118.length : Int) 0 a0_0 a0_1 l0_2) = some r := by first | (rw [hy118]; with_reducible exact H) | (have H2_ := (Option.bind_some _ _).symm.trans H; rw [hy118]; with_reducible exact H2_) | (have H2_ := (Option.bind_some _ _).symm.trans H; with_reducible exact H2_) | with_reducible exact H | (rw [hy118]; exact H) | exact H
   have Ny118 := Aside0.mk hy118
   clear hy118
   have H' := Aside0.mk H
   clear H
   go_enter Tryz.func21, Tryz.ntmps21
   go_wp2_with (first | ((with_reducible refine qX (N := 1) rfl ?_); refine qV ?hg (N := 1) ?hd (cs := #[.int .i64 a0_0, .int .i64 a0_1, .slice A0_2 l0_2.length c0_2]) (t := 27) ?hr ?_; (case hd => rfl); (case hg => rfl); (case hr => first | (go_simp; done) | (go_simp; rfl)); intro gb117 hg w4 hbox hb; have n0_ := Aside0.mk (qK bl hb); have n1_ := Aside0.mk (hbox); have n2_ := Aside0.mk ((gg hg)); have n3_ := Aside0.mk ((gg hg)); clear HB; have HB := n0_; have BK117 := n1_; have GW117 := n2_; have GE117 := n3_; clear n0_ n1_ n2_ n3_; clear hb hbox hg; have hcz5_0 := bc BK117 0; have hcz5_1 := bc BK117 1; have hcz5_2 := bc BK117 2; have hfz5_0 := qA BK117.out 0; have hfz5_1 := qA BK117.out 1; have hfz5_2 := qA BK117.out 2) | ((with_reducible refine qX (N := 13) rfl ?_); refine Kd.qoC (Kd.int .i64) _ 3 rfl (N := 13) rfl 28 _ _ rfl (l0_2.length : Int) rfl rfl Tryz.underlying28 (.int .i64 0) 8 info3 rfl (by decide) (by omega) 0 (ok := fun _ => True) (okp := fun _ => True) rfl (fun _ hk => hk) trivial (of_decide_eq_true (by first | (with_reducible assumption) | assumption)) (Nat.le_trans (Nat.mul_le_mul_right _ (of_decide_eq_true (by first | (with_reducible assumption) | assumption) : (l0_2.length : Int).toNat ≤ 35184372088832)) (by omega)) (Below.refl _ _) (Nat.le_refl _) ?_; intro v119 w6 ho7 hb hg_ hnew_; clear hg_ hnew_; (first | rw [← Ny118.out] at ho7 | (simp only [Int.reduceToNat] at ho7; rw [← Ny118.out] at ho7)); have n0_ := Aside0.mk (Kd.qAA ho7 (qa bl)); have n1_ := Aside0.mk (bb BK117 hb); have n2_ := Aside0.mk (qK bl hb); clear BK117; clear HB; have HO120 := n0_; have BK117 := n1_; have HB := n2_; clear n0_ n1_ n2_; clear hb ho7; obtain ⟨Ao8, co8, eo8⟩ := Kd.qp HO120.out; subst eo8))
   go_loopg [16] k (fun kq v16 w' => ∃ (x13_1 : List Int) (x16_1 : Int), v16 = .int .i64 x16_1 ∧ Aside0 (qS.l0 kq x13_1 (y118.length : Int) x16_1 a0_0 a0_1 l0_2 = some r) ∧ Aside0 (kq ≤ k) ∧ Aside0 (Kd.R (Kd.int .i64) 3 w' w.heap.size (fun _ => True) (.slice Ao8 y118.length co8) x13_1) ∧ Aside0 (w'.heap[gb117]? = some (.cells #[.int .i64 a0_0, .int .i64 a0_1, (.slice A0_2 l0_2.length c0_2)] 27 (0, 0))) ∧ Aside0 (Below w.heap.size w w'))
   case atStart => exact ⟨(y118), (0), (by first | rfl | (simp; done) | (simp [*]; done)), H', ⟨Nat.le_refl _⟩, ⟨by (with_reducible repeat (first | apply Kd.qG | apply Kd.qH | apply Kd.qI)); exact HO120.out⟩, ⟨by (with_reducible repeat (first | refine qC ?_ _ | refine qD ?_ | refine qB ?_ _)); exact BK117.out⟩, ⟨bl⟩⟩
   case round =>
    clear H'
    try clear c2
    try clear c2b0
    try clear c2b1
    try clear p2
    try clear c3
    try clear c3b0
    try clear c3b1
    try clear hcz5_0
    try clear hcz5_1
    try clear hcz5_2
    try clear hfz5_0
    try clear hfz5_1
    try clear hfz5_2
    obtain ⟨x13_1, x16_1, rfl, HA, HK1, HO_13, BK117, HB⟩ := hrel
    have hl13_1 := (Kd.qQ HO_13.out).1
    rw [hl13_1] at HO_13
    (try simp only [hl13_1])
    (try simp only [hl13_1] at BK117)
    cases gk with
    | zero => exact absurd HA.out (by simp [qS.l0])
    | succ k1 =>
     have H := HA.out
     clear HA
     simp only [qS.l0] at H
     by_cases c9 : x16_1 < (y118.length : Int)
     ·rw [if_pos c9] at H
      have c9b0 : decide (x16_1 < (y118.length : Int)) = true := decide_eq_true c9
      (try (have c9b0_hl13_1 := c9b0; simp only [hl13_1] at c9b0_hl13_1))
      clear c9
      by_cases c10 : 0 ≤ x16_1
      ·rw [if_pos c10] at H
       have c10b0 : decide (0 ≤ x16_1) = true := decide_eq_true c10
       clear c10
       by_cases c11 : x16_1 < (x13_1.length : Int)
       ·rw [if_pos c11] at H
        have c11b0 : decide (x16_1 < (x13_1.length : Int)) = true := decide_eq_true c11
        (try (have c11b0_hl13_1 := c11b0; simp only [hl13_1] at c11b0_hl13_1))
        clear c11
        obtain ⟨y121, hy121⟩ : ∃ y_ : List Int, y_ = (x13_1.set (x16_1 : Int).toNat (-1)) := ⟨_, rfl⟩
        replace H : (qS.l0 k1 y121 (y118.length : Int) (wrap64 (x16_1 + 1)) a0_0 a0_1 l0_2) = some r := by first | (rw [hy121]; with_reducible exact H) | (have H2_ := (Option.bind_some _ _).symm.trans H; rw [hy121]; with_reducible exact H2_) | (have H2_ := (Option.bind_some _ _).symm.trans H; with_reducible exact H2_) | with_reducible exact H | (rw [hy121]; exact H) | exact H
        have Ny121 := Aside0.mk hy121
        clear hy121
        have H' := Aside0.mk H
        clear H
        have p12 : 0 ≤ (x16_1 : Int) := of_decide_eq_true (by first | (with_reducible assumption) | assumption)
        have q12 : (x16_1 : Int) < ((x13_1.length : Int) : Int) := of_decide_eq_true (by first | (with_reducible assumption) | assumption)
        obtain ⟨go12, co12, eo12, gb12, gl12, cl12, HG12⟩ := Kd.qkB HO_13.out (by omega)
        (first | cases eo12 | (injection eo12 with ea_ en_ ec_; (first | subst ea_ | (injection ea_ with ea_; subst ea_)); subst ec_; clear en_))
        have GB12 := Aside0.mk gb12
        have GG12 := Aside0.mk HG12
        clear gb12 gl12 HG12
        obtain ⟨hx12_0, hf12_0⟩ := Kd.qhA 0 HO_13.out (x16_1 : Int) p12 q12
        replace p12 := eq_true p12
        replace q12 := eq_true q12
        have HP13 := Kd.qnB HO_13.out (x16_1 : Int) (-1)
        go_wp2_with (first | ((with_reducible refine qeA (t := 3) (p := 21) rfl ?_); refine qUA (t := 3) (p := 21) (v := ?vo_w14) (w1 := (wr.setCell ⟨go12, (x16_1 : Int).toNat, none⟩ (.int .i64 (-1)))) ?hg ?ho ?hn ?hr ?_; (case ho => rfl); (case hg => rfl); (case hn => rfl); (case hr => first | (go_simp; done) | (go_simp; rfl)); intro w14 hw; have hg : wr.grownBy w14 (some go12) := (by rw [hw]; exact HP13.2); have hp_ : Kd.R (Kd.int .i64) 3 w14 w.heap.size (fun _ => True) (.slice (some ⟨go12, 0, none⟩) x13_1.length co8) y121 := (by rw [hw, Ny121.out]; exact HP13.1); clear HP13; have n0_ := Aside0.mk (hp_); have n1_ := Aside0.mk (qaA (g := gb117) (o := .cells #[.int .i64 a0_0, .int .i64 a0_1, .slice A0_2 l0_2.length c0_2] 27 (0, 0)) (by (with_reducible repeat (first | refine qC ?_ _ | refine qD ?_ | refine qB ?_ _)); exact BK117.out) hg (Kd.R_ne HO_13.out BK117.out (by decide))); have n2_ := Aside0.mk ((by rw [hw]; exact qe (HB.out) GB12.out : Below w.heap.size w w14)); clear HO_13; clear BK117; clear HB; have HO_13 := n0_; have BK117 := n1_; have HB := n2_; clear n0_ n1_ n2_; clear hg hw hp_))
        (try simp only [← hl13_1])
        go_roundg k1
        case measure => have := HK1.out; omega
        case rel => exact ⟨(y121), (wrap64 (x16_1 + 1)), (by first | rfl | (simp; done) | (simp [*]; done)), H', ⟨by have := HK1.out; omega⟩, ⟨by (try simp only [hl13_1]); (with_reducible repeat (first | apply Kd.qG | apply Kd.qH | apply Kd.qI)); exact HO_13.out⟩, ⟨by (try simp only [hl13_1]); (with_reducible repeat (first | refine qC ?_ _ | refine qD ?_ | refine qB ?_ _)); exact BK117.out⟩, ⟨bl⟩⟩
       ·rw [if_neg c11] at H
        exact absurd H (by simp)
      ·rw [if_neg c10] at H
       exact absurd H (by simp)
     ·rw [if_neg c9] at H
      have c9b0 : decide (x16_1 < (y118.length : Int)) = false := decide_eq_false c9
      (try (have c9b0_hl13_1 := c9b0; simp only [hl13_1] at c9b0_hl13_1))
      clear c9
      replace H := Option.bind_eq_some_iff.mp H
      obtain ⟨t122, A150, H⟩ := H
      replace H : (if (t122.length : Int) = 0 then (some x13_1) else (if 0 < (t122.length : Int) then (if 0 ≤ (rd t122 0) then (if (rd t122 0) < (x13_1.length : Int) then (qS.l1 k1 (([rd t122 0] : List Int)) 0 (x13_1.set ((rd t122 0) : Int).toNat 0) a0_0 a0_1 l0_2) else (none)) else (none)) else (none))) = some r := H
      have A15 := Aside0.mk A150
      clear A150
      by_cases c16 : (t122.length : Int) = 0
      ·rw [if_pos c16] at H
       have c16b0 : ((t122.length : Int) == 0) = true := beq_iff_eq.mpr c16
       have c16b1 : ((t122.length : Int) != 0) = false := bne_eq_false_iff_eq.mpr c16
       clear c16
       obtain rfl := Option.some.inj H
       have hcz17_0 := bc BK117 0
       have hcz17_1 := bc BK117 1
       have hcz17_2 := bc BK117 2
       have hfz17_0 := qA BK117.out 0
       have hfz17_1 := qA BK117.out 1
       have hfz17_2 := qA BK117.out 2
       go_wp2_with (first | ((with_reducible refine qb (f := 20) rfl ?_); refine qRA (some 24) rfl rfl Tryz.func20 (by kernel_rfl) rfl #[.agg #[.int .i64 a0_0, .int .i64 a0_1, .slice A0_2 l0_2.length c0_2]] rfl (by (try simp only [List.map_toArray, List.map_cons, List.map_nil]); first | done | rfl | (simp only [List.length_drop, List.length_take]; rfl)) ?_; (with_reducible refine (qg.calls k1 a0_0 a0_1 _ _ l0_2 t122 _ ?side1 ?side2 A15.out).mono ?_); (case side1 => repeat (first | exact (Kd.qiA HR0_2.out HB.out) | (with_reducible refine Kd.qcA ?_ _) | (with_reducible refine Kd.qbA ?_ _) | (with_reducible refine Kd.qtA ?_))); (case side2 => exact HC0_2.out); rintro e w18 ⟨v123, rfl, ho0, hb⟩; refine ⟨_, rfl, ?_⟩; have n0_ := Aside0.mk (Kd.quA (by (with_reducible repeat (first | apply Kd.qG | apply Kd.qH | apply Kd.qI)); exact HO_13.out) (Kd.qZB ho0) hb); have n1_ := Aside0.mk (Kd.qAA (Kd.qYB ho0 (Kd.R_lt (by (with_reducible repeat (first | apply Kd.qG | apply Kd.qH | apply Kd.qI)); exact HO_13.out))) (qa bl)); have n2_ := Aside0.mk (bb BK117 hb); have n3_ := Aside0.mk (qK bl hb); clear HO_13; clear BK117; clear HB; have HO_13 := n0_; have HO124 := n1_; have BK117 := n2_; have HB := n3_; clear n0_ n1_ n2_ n3_; (try clear hb); (try clear hb2); (try clear hk); (try clear hi); (try clear ho0); obtain ⟨Ao19, co19, eo19⟩ := Kd.qp HO124.out; subst eo19))
       go_ret
       exact ⟨_, by first | rfl | (simp [qN, qM] <;> rfl) | (simp [*, qN, qM] <;> rfl), by (with_reducible repeat (first | apply Kd.qG | apply Kd.qH | apply Kd.qI)); exact Kd.qf HO_13.out (fun _ hk => trivial), bl⟩
      ·rw [if_neg c16] at H
       have c16b0 : ((t122.length : Int) == 0) = false := beq_eq_false_iff_ne.mpr c16
       have c16b1 : ((t122.length : Int) != 0) = true := bne_iff_ne.mpr c16
       have c16b2 : ¬ (t122 = []) := fun h_ => c16 (by rw [h_]; rfl)
       by_cases c20 : 0 < (t122.length : Int)
       ·rw [if_pos c20] at H
        have c20b0 : decide (0 < (t122.length : Int)) = true := decide_eq_true c20
        (try (have c20b0_hl13_1 := c20b0; simp only [hl13_1] at c20b0_hl13_1))
        have c20b1 : decide (0 < t122.length) = true := decide_eq_true (by omega)
        clear c20
        by_cases c21 : 0 ≤ (rd t122 0)
        ·rw [if_pos c21] at H
         have c21b0 : decide (0 ≤ (rd t122 0)) = true := decide_eq_true c21
         clear c21
         by_cases c22 : (rd t122 0) < (x13_1.length : Int)
         ·rw [if_pos c22] at H
          have c22b0 : decide ((rd t122 0) < (x13_1.length : Int)) = true := decide_eq_true c22
          (try (have c22b0_hl13_1 := c22b0; simp only [hl13_1] at c22b0_hl13_1))
          clear c22
          obtain ⟨y126, hy126⟩ : ∃ y_ : List Int, y_ = (x13_1.set ((rd t122 0) : Int).toNat 0) := ⟨_, rfl⟩
          replace H : (qS.l1 k1 (([rd t122 0] : List Int)) 0 y126 a0_0 a0_1 l0_2) = some r := by first | (rw [hy126]; with_reducible exact H) | (have H2_ := (Option.bind_some _ _).symm.trans H; rw [hy126]; with_reducible exact H2_) | (have H2_ := (Option.bind_some _ _).symm.trans H; with_reducible exact H2_) | with_reducible exact H | (rw [hy126]; exact H) | exact H
          have Ny126 := Aside0.mk hy126
          clear hy126
          obtain ⟨y128, hy128⟩ : ∃ y_ : List Int, y_ = (([rd t122 0] : List Int)) := ⟨_, rfl⟩
          replace H : (qS.l1 k1 y128 0 y126 a0_0 a0_1 l0_2) = some r := by first | (rw [hy128]; with_reducible exact H) | (have H2_ := (Option.bind_some _ _).symm.trans H; rw [hy128]; with_reducible exact H2_) | (have H2_ := (Option.bind_some _ _).symm.trans H; with_reducible exact H2_) | with_reducible exact H | (rw [hy128]; exact H) | exact H
          have Ny128 := Aside0.mk hy128
          clear hy128
          have H' := Aside0.mk H
          clear H
          have hcz24_0 := bc BK117 0
          have hcz24_1 := bc BK117 1
          have hcz24_2 := bc BK117 2
          have hfz24_0 := qA BK117.out 0
          have hfz24_1 := qA BK117.out 1
          have hfz24_2 := qA BK117.out 2
          go_wp2_with (first | ((with_reducible refine qb (f := 20) rfl ?_); refine qRA (some 24) rfl rfl Tryz.func20 (by kernel_rfl) rfl #[.agg #[.int .i64 a0_0, .int .i64 a0_1, .slice A0_2 l0_2.length c0_2]] rfl (by (try simp only [List.map_toArray, List.map_cons, List.map_nil]); first | done | rfl | (simp only [List.length_drop, List.length_take]; rfl)) ?_; (with_reducible refine (qg.calls k1 a0_0 a0_1 _ _ l0_2 t122 _ ?side1 ?side2 A15.out).mono ?_); (case side1 => repeat (first | exact (Kd.qiA HR0_2.out HB.out) | (with_reducible refine Kd.qcA ?_ _) | (with_reducible refine Kd.qbA ?_ _) | (with_reducible refine Kd.qtA ?_))); (case side2 => exact HC0_2.out); rintro e w25 ⟨v123, rfl, ho0, hb⟩; refine ⟨_, rfl, ?_⟩; have n0_ := Aside0.mk (Kd.quA (by (with_reducible repeat (first | apply Kd.qG | apply Kd.qH | apply Kd.qI)); exact HO_13.out) (Kd.qZB ho0) hb); have n1_ := Aside0.mk (Kd.qAA (Kd.qYB ho0 (Kd.R_lt (by (with_reducible repeat (first | apply Kd.qG | apply Kd.qH | apply Kd.qI)); exact HO_13.out))) (qa bl)); have n2_ := Aside0.mk (bb BK117 hb); have n3_ := Aside0.mk (qK bl hb); clear HO_13; clear BK117; clear HB; have HO_13 := n0_; have HO124 := n1_; have BK117 := n2_; have HB := n3_; clear n0_ n1_ n2_ n3_; (try clear hb); (try clear hb2); (try clear hk); (try clear hi); (try clear ho0); obtain ⟨Ao26, co26, eo26⟩ := Kd.qp HO124.out; subst eo26; have p125 : 0 ≤ (0 : Int) := (by omega); have q125 : 0 < (t122.length : Int) := of_decide_eq_true (by first | (with_reducible assumption) | assumption); obtain ⟨ad125, e125, hx125_0⟩ := Kd.qCA (Kd.qQ HO124.out).2.2 0 p125 q125; cases e125; have qi125 : (0 < t122.length) = True := eq_true (by omega); (try rw [show ((0 : Int)).toNat = 0 from rfl] at hx125_0); (try rw [Addr.add_zero'] at hx125_0); replace p125 := eq_true p125; replace q125 := eq_true q125; have p23 : 0 ≤ ((rd t122 0) : Int) := of_decide_eq_true (by first | (with_reducible assumption) | assumption); have q23 : ((rd t122 0) : Int) < ((x13_1.length : Int) : Int) := of_decide_eq_true (by first | (with_reducible assumption) | assumption); obtain ⟨go23, co23, eo23, gb23, gl23, cl23, HG23⟩ := Kd.qkB HO_13.out (by omega); (first | cases eo23 | (injection eo23 with ea_ en_ ec_; (first | subst ea_ | (injection ea_ with ea_; subst ea_)); subst ec_; clear en_)); have GB23 := Aside0.mk gb23; have GG23 := Aside0.mk HG23; clear gb23 gl23 HG23; obtain ⟨hx23_0, hf23_0⟩ := Kd.qhA 0 HO_13.out ((rd t122 0) : Int) p23 q23; replace p23 := eq_true p23; replace q23 := eq_true q23; have n_ := Aside0.mk (Kd.qf (ok' := (fun k_ => some k_ ≠ (.slice (some ad125) t122.length co26 : Value).ownBlock)) HO_13.out (fun k_ hk => hk.2)); clear HO_13; have HO_13 := n_; clear n_; obtain ⟨hy27_, hz27_⟩ := Kd.qhA 0 HO_13.out ((rd t122 0) : Int) (of_decide_eq_true (by first | (with_reducible assumption) | assumption)) (of_decide_eq_true (by first | (with_reducible assumption) | assumption)); have HP27 := Kd.qnB HO_13.out ((rd t122 0) : Int) 0) | ((with_reducible refine qeA (t := 3) (p := 33) rfl ?_); refine qUA (t := 3) (p := 33) (v := ?vo_w28) (w1 := (w25.setCell ⟨go23, ((rd t122 0) : Int).toNat, none⟩ (.int .i64 0))) ?hg ?ho ?hn ?hr ?_; (case ho => rfl); (case hg => rfl); (case hn => rfl); (case hr => first | (go_simp; done) | (go_simp; rfl)); intro w28 hw; have hg : w25.grownBy w28 (some go23) := (by rw [hw]; exact HP27.2); have hp_ : Kd.R (Kd.int .i64) 3 w28 w.heap.size (fun k_ => some k_ ≠ (.slice (some ad125) t122.length co26 : Value).ownBlock) (.slice (some ⟨go23, 0, none⟩) x13_1.length co8) y126 := (by rw [hw, Ny126.out]; exact HP27.1); clear HP27; have n0_ := Aside0.mk (hp_); have n1_ := Aside0.mk (qaA (g := gb117) (o := .cells #[.int .i64 a0_0, .int .i64 a0_1, .slice A0_2 l0_2.length c0_2] 27 (0, 0)) (by (with_reducible repeat (first | refine qC ?_ _ | refine qD ?_ | refine qB ?_ _)); exact BK117.out) hg (Kd.R_ne HO_13.out BK117.out (by decide))); have n2_ := Aside0.mk (Kd.qsA (v := (.slice (some ⟨go23, 0, none⟩) x13_1.length co8)) (v1 := (.slice (some ⟨go23, 0, none⟩) x13_1.length co8)) (ok := (fun _ => True)) (by (with_reducible repeat (first | apply Kd.qG | apply Kd.qH | apply Kd.qI)); exact HO124.out) hg (.inl rfl)); have n3_ := Aside0.mk ((by rw [hw]; exact qe (HB.out) GB23.out : Below w.heap.size w w28)); clear HO_13; clear BK117; clear HO124; clear HB; have HO_13 := n0_; have BK117 := n1_; have HO124 := n2_; have HB := n3_; clear n0_ n1_ n2_ n3_; clear hg hw hp_; have p127 : 0 ≤ (0 : Int) := (by omega); have q127 : 0 < (t122.length : Int) := of_decide_eq_true (by first | (with_reducible assumption) | assumption); obtain ⟨ad127, e127, hx127_0⟩ := Kd.qCA (Kd.qQ HO124.out).2.2 0 p127 q127; obtain rfl : ad125 = ad127 := (by injection e127); have qi127 : (0 < t122.length) = True := eq_true (by omega); (try rw [show ((0 : Int)).toNat = 0 from rfl] at hx127_0); (try rw [Addr.add_zero'] at hx127_0); replace p127 := eq_true p127; replace q127 := eq_true q127) | ((with_reducible refine qX (N := 37) rfl ?_); refine Kd.R_lit (Kd.int .i64) _ 3 ?hg (N := 37) ?hd (xs := ([rd t122 0] : List Int)) (inner := [.int .i64 (rd t122 0)]) (ok := fun _ => True) (okp := fun _ => True) ?hr ?hp (fun _ hk => hk) trivial (Below.refl _ _) (Nat.le_refl _) (by simp) ?_; (case hd => rfl); (case hg => rfl); (case hr => first | (go_simp; done) | (go_simp; rfl)); (case hp => exact (Reps.one (show Kd.M (Kd.int .i64) _ _ _ (rd t122 0) [.int .i64 (rd t122 0)] from rfl) (Reps.none _ _))); intro v129 w29 ho30 hb hg_ hnew_; clear hg_ hnew_; (first | rw [← Ny128.out] at ho30 | (simp only [Int.reduceToNat] at ho30; rw [← Ny128.out] at ho30)); have n0_ := Aside0.mk (Kd.quA (by (with_reducible repeat (first | apply Kd.qG | apply Kd.qH | apply Kd.qI)); exact HO_13.out) (Kd.qZB ho30) hb); have n1_ := Aside0.mk (Kd.quA (by (with_reducible repeat (first | apply Kd.qG | apply Kd.qH | apply Kd.qI)); exact HO124.out) (Kd.qZB ho30) hb); have n2_ := Aside0.mk (Kd.qAA (Kd.qYB (Kd.qYB ho30 (Kd.R_lt (by (with_reducible repeat (first | apply Kd.qG | apply Kd.qH | apply Kd.qI)); exact HO_13.out))) (Kd.R_lt (by (with_reducible repeat (first | apply Kd.qG | apply Kd.qH | apply Kd.qI)); exact HO124.out))) (qa bl)); have n3_ := Aside0.mk (bb BK117 hb); have n4_ := Aside0.mk (qK bl hb); clear HO_13; clear HO124; clear BK117; clear HB; have HO_13 := n0_; have HO124 := n1_; have HO130 := n2_; have BK117 := n3_; have HB := n4_; clear n0_ n1_ n2_ n3_ n4_; clear hb ho30))
          go_loopg [6, 7] k1 (fun kq v6 v7 w' => ∃ (x6_2 : List Int) (x7_2 : Int) (x13_2 : List Int), v7 = .int .i64 x7_2 ∧ Aside0 (qS.l1 kq x6_2 x7_2 x13_2 a0_0 a0_1 l0_2 = some r) ∧ Aside0 (kq ≤ k1) ∧ Aside0 (Kd.R (Kd.int .i64) 3 w' w.heap.size (fun k_ => some k_ ≠ ((.slice (some ⟨go23, 0, none⟩) x13_1.length co8) : Value).ownBlock) v6 x6_2) ∧ Aside0 (Kd.R (Kd.int .i64) 3 w' w.heap.size (fun k_ => some k_ ≠ (v6 : Value).ownBlock) (.slice (some ⟨go23, 0, none⟩) x13_1.length co8) x13_2) ∧ Aside0 (w'.heap[gb117]? = some (.cells #[.int .i64 a0_0, .int .i64 a0_1, (.slice A0_2 l0_2.length c0_2)] 27 (0, 0))) ∧ Aside0 (Below w.heap.size w w'))
          case atStart => exact ⟨(y128), (0), (y126), (by first | rfl | (simp; done) | (simp [*]; done)), H', ⟨Nat.le_refl _⟩, ⟨by (try simp only [hl13_1]); (with_reducible repeat (first | apply Kd.qG | apply Kd.qH | apply Kd.qI)); exact Kd.qf HO130.out (fun _ hk => hk.1.2)⟩, ⟨by (try simp only [hl13_1]); (with_reducible repeat (first | apply Kd.qG | apply Kd.qH | apply Kd.qI)); exact Kd.qf HO_13.out (fun _ hk => hk.2)⟩, ⟨by (try simp only [hl13_1]); (with_reducible repeat (first | refine qC ?_ _ | refine qD ?_ | refine qB ?_ _)); exact BK117.out⟩, ⟨bl⟩⟩
          case round =>
           clear H'
           try clear c1
           try clear p1
           try clear q1
           try clear hx1
           try clear qi1
           try clear hf1
           try clear c2
           try clear c2b0
           try clear c2b1
           try clear p2
           try clear q2
           try clear hx2
           try clear hf2
           try clear c3
           try clear c3b0
           try clear c3b1
           try clear p6
           try clear c9
           try clear c9b0
           try clear c10
           try clear c10b0
           try clear c11
           try clear c11b0
           try clear p12
           try clear q12
           try clear hx12
           try clear qi12
           try clear hf12
           try clear c16
           try clear c16b0
           try clear c16b1
           try clear c16b2
           try clear c20
           try clear c20b0
           try clear c20b1
           try clear c21
           try clear c21b0
           try clear c22
           try clear c22b0
           try clear p23
           try clear q23
           try clear hx23
           try clear hf23
           try clear hcz17_0
           try clear hcz17_1
           try clear hcz17_2
           try clear hcz24_0
           try clear hcz24_1
           try clear hcz24_2
           try clear hcz5_0
           try clear hcz5_1
           try clear hcz5_2
           try clear hfz17_0
           try clear hfz17_1
           try clear hfz17_2
           try clear hfz24_0
           try clear hfz24_1
           try clear hfz24_2
           try clear hfz5_0
           try clear hfz5_1
           try clear hfz5_2
           try clear hx125_0
           try clear hx127_0
           try clear hx12_0
           try clear hx23_0
           try clear p12
           try clear p125
           try clear p127
           try clear p2
           try clear p23
           try clear q12
           try clear q125
           try clear q127
           try clear q23
           obtain ⟨x6_2, x7_2, x13_2, rfl, HA, HK2, HO_6, HO_13, BK117, HB⟩ := hrel
           have hl13_2 := (Kd.qQ HO_13.out).1
           rw [hl13_2] at HO_13
           (try simp only [hl13_2])
           (try simp only [hl13_2] at BK117)
           (try simp only [hl13_2] at HO_6)
           cases gk with
           | zero => exact absurd HA.out (by simp [qS.l1])
           | succ k2 =>
            have H := HA.out
            clear HA
            simp only [qS.l1] at H
            by_cases c31 : x7_2 < (x6_2.length : Int)
            ·rw [if_pos c31] at H
             have c31b0 : decide (x7_2 < (x6_2.length : Int)) = true := decide_eq_true c31
             (try (have c31b0_hl13_1 := c31b0; simp only [hl13_1] at c31b0_hl13_1))
             (try (have c31b0_hl13_2 := c31b0; simp only [hl13_2] at c31b0_hl13_2))
             clear c31
             have H' := Aside0.mk H
             clear H
             obtain ⟨Ao32, co32, eo32⟩ := Kd.qp HO_6.out
             subst eo32
             go_wp2
             go_loopg [6, 8] k2 (fun kq v6 v8 w' => ∃ (x6_3 : List Int) (x8_3 : Int) (x13_3 : List Int), v8 = .int .i64 x8_3 ∧ Aside0 (qS.l2 kq x6_3 x7_2 x8_3 x13_3 a0_0 a0_1 l0_2 = some r) ∧ Aside0 (kq ≤ k2) ∧ Aside0 (Kd.R (Kd.int .i64) 3 w' w.heap.size (fun k_ => some k_ ≠ ((.slice (some ⟨go23, 0, none⟩) x13_2.length co8) : Value).ownBlock) v6 x6_3) ∧ Aside0 (Kd.R (Kd.int .i64) 3 w' w.heap.size (fun k_ => some k_ ≠ (v6 : Value).ownBlock) (.slice (some ⟨go23, 0, none⟩) x13_2.length co8) x13_3) ∧ Aside0 (w'.heap[gb117]? = some (.cells #[.int .i64 a0_0, .int .i64 a0_1, (.slice A0_2 l0_2.length c0_2)] 27 (0, 0))) ∧ Aside0 (Below w.heap.size w w'))
             case atStart => exact ⟨(x6_2), (0), (x13_2), (by first | rfl | (simp; done) | (simp [*]; done)), H', ⟨Nat.le_refl _⟩, ⟨by (try simp only [hl13_1]); (try simp only [hl13_2]); (with_reducible repeat (first | apply Kd.qG | apply Kd.qH | apply Kd.qI)); exact HO_6.out⟩, ⟨by (try simp only [hl13_1]); (try simp only [hl13_2]); (with_reducible repeat (first | apply Kd.qG | apply Kd.qH | apply Kd.qI)); exact HO_13.out⟩, ⟨by (try simp only [hl13_1]); (try simp only [hl13_2]); (with_reducible repeat (first | refine qC ?_ _ | refine qD ?_ | refine qB ?_ _)); exact BK117.out⟩, ⟨bl⟩⟩
             case round =>
              clear H'
              try clear c1
              try clear p1
              try clear q1
              try clear hx1
              try clear qi1
              try clear hf1
              try clear c2
              try clear c2b0
              try clear c2b1
              try clear p2
              try clear q2
              try clear hx2
              try clear hf2
              try clear c3
              try clear c3b0
              try clear c3b1
              try clear p6
              try clear c9
              try clear c9b0
              try clear c10
              try clear c10b0
              try clear c11
              try clear c11b0
              try clear p12
              try clear q12
              try clear hx12
              try clear qi12
              try clear hf12
              try clear c16
              try clear c16b0
              try clear c16b1
              try clear c16b2
              try clear c20
              try clear c20b0
              try clear c20b1
              try clear c21
              try clear c21b0
              try clear c22
              try clear c22b0
              try clear p23
              try clear q23
              try clear hx23
              try clear hf23
              try clear c31
              try clear c31b0
              try clear hcz17_0
              try clear hcz17_1
              try clear hcz17_2
              try clear hcz24_0
              try clear hcz24_1
              try clear hcz24_2
              try clear hcz5_0
              try clear hcz5_1
              try clear hcz5_2
              try clear hfz17_0
              try clear hfz17_1
              try clear hfz17_2
              try clear hfz24_0
              try clear hfz24_1
              try clear hfz24_2
              try clear hfz5_0
              try clear hfz5_1
              try clear hfz5_2
              try clear hx125_0
              try clear hx127_0
              try clear hx12_0
              try clear hx23_0
              try clear p1
              try clear p12
              try clear p125
              try clear p127
              try clear p2
              try clear p23
              try clear p6
              try clear q1
              try clear q12
              try clear q125
              try clear q127
              try clear q2
              try clear q23
              obtain ⟨x6_3, x8_3, x13_3, rfl, HA, HK3, HO_6, HO_13, BK117, HB⟩ := hrel
              have hl13_3 := (Kd.qQ HO_13.out).1
              rw [hl13_3] at HO_13
              (try simp only [hl13_3])
              (try simp only [hl13_3] at BK117)
              (try simp only [hl13_3] at HO_6)
              cases gk with
              | zero => exact absurd HA.out (by simp [qS.l2])
              | succ k3 =>
               have H := HA.out
               clear HA
               simp only [qS.l2] at H
               by_cases c33 : x8_3 < 4
               ·rw [if_pos c33] at H
                have c33b0 : decide (x8_3 < 4) = true := decide_eq_true c33
                clear c33
                by_cases c34 : 0 ≤ x7_2
                ·rw [if_pos c34] at H
                 have c34b0 : decide (0 ≤ x7_2) = true := decide_eq_true c34
                 clear c34
                 by_cases c35 : x7_2 < (x6_3.length : Int)
                 ·rw [if_pos c35] at H
                  have c35b0 : decide (x7_2 < (x6_3.length : Int)) = true := decide_eq_true c35
                  (try (have c35b0_hl13_1 := c35b0; simp only [hl13_1] at c35b0_hl13_1))
                  (try (have c35b0_hl13_2 := c35b0; simp only [hl13_2] at c35b0_hl13_2))
                  (try (have c35b0_hl13_3 := c35b0; simp only [hl13_3] at c35b0_hl13_3))
                  clear c35
                  replace H := Option.bind_eq_some_iff.mp H
                  obtain ⟨t132, A360, H⟩ := H
                  replace H : (if t132 ≥ 0 then (if 0 ≤ t132 then (if t132 < (x13_3.length : Int) then (if (rd x13_3 t132) < 0 then (if 0 ≤ (rd x6_3 x7_2) then (if (rd x6_3 x7_2) < (x13_3.length : Int) then (if x6_3.length < 17592186044416 then (qS.l2 k3 (x6_3 ++ [t132]) x7_2 (wrap64 (x8_3 + 1)) (x13_3.set (t132 : Int).toNat (wrap64 ((rd x13_3 (rd x6_3 x7_2)) + 1))) a0_0 a0_1 l0_2) else (none)) else (none)) else (none)) else (qS.l2 k3 x6_3 x7_2 (wrap64 (x8_3 + 1)) x13_3 a0_0 a0_1 l0_2)) else (none)) else (none)) else (qS.l2 k3 x6_3 x7_2 (wrap64 (x8_3 + 1)) x13_3 a0_0 a0_1 l0_2)) = some r := H
                  have A36 := Aside0.mk A360
                  clear A360
                  by_cases c37 : t132 ≥ 0
                  ·rw [if_pos c37] at H
                   have c37b0 : decide (0 ≤ t132) = true := decide_eq_true c37
                   clear c37
                   by_cases c38 : 0 ≤ t132
                   ·rw [if_pos c38] at H
                    have c38b0 : decide (0 ≤ t132) = true := decide_eq_true c38
                    clear c38
                    by_cases c39 : t132 < (x13_3.length : Int)
                    ·rw [if_pos c39] at H
                     have c39b0 : decide (t132 < (x13_3.length : Int)) = true := decide_eq_true c39
                     (try (have c39b0_hl13_1 := c39b0; simp only [hl13_1] at c39b0_hl13_1))
                     (try (have c39b0_hl13_2 := c39b0; simp only [hl13_2] at c39b0_hl13_2))
                     (try (have c39b0_hl13_3 := c39b0; simp only [hl13_3] at c39b0_hl13_3))
                     clear c39
                     by_cases c40 : (rd x13_3 t132) < 0
                     ·rw [if_pos c40] at H
                      have c40b0 : decide ((rd x13_3 t132) < 0) = true := decide_eq_true c40
                      clear c40
                      by_cases c41 : 0 ≤ (rd x6_3 x7_2)
                      ·rw [if_pos c41] at H
                       have c41b0 : decide (0 ≤ (rd x6_3 x7_2)) = true := decide_eq_true c41
                       clear c41
                       by_cases c42 : (rd x6_3 x7_2) < (x13_3.length : Int)
                       ·rw [if_pos c42] at H
                        have c42b0 : decide ((rd x6_3 x7_2) < (x13_3.length : Int)) = true := decide_eq_true c42
                        (try (have c42b0_hl13_1 := c42b0; simp only [hl13_1] at c42b0_hl13_1))
                        (try (have c42b0_hl13_2 := c42b0; simp only [hl13_2] at c42b0_hl13_2))
                        (try (have c42b0_hl13_3 := c42b0; simp only [hl13_3] at c42b0_hl13_3))
                        clear c42
                        obtain ⟨y136, hy136⟩ : ∃ y_ : List Int, y_ = (x13_3.set (t132 : Int).toNat (wrap64 ((rd x13_3 (rd x6_3 x7_2)) + 1))) := ⟨_, rfl⟩
                        replace H : (if x6_3.length < 17592186044416 then (qS.l2 k3 (x6_3 ++ [t132]) x7_2 (wrap64 (x8_3 + 1)) y136 a0_0 a0_1 l0_2) else (none)) = some r := by first | (rw [hy136]; with_reducible exact H) | (have H2_ := (Option.bind_some _ _).symm.trans H; rw [hy136]; with_reducible exact H2_) | (have H2_ := (Option.bind_some _ _).symm.trans H; with_reducible exact H2_) | with_reducible exact H | (rw [hy136]; exact H) | exact H
                        have Ny136 := Aside0.mk hy136
                        clear hy136
                        by_cases c44 : x6_3.length < 17592186044416
                        ·rw [if_pos c44] at H
                         have LMc44 := Aside0.mk c44
                         clear c44
                         obtain ⟨y137, hy137⟩ : ∃ y_ : List Int, y_ = (x6_3 ++ [t132]) := ⟨_, rfl⟩
                         replace H : (qS.l2 k3 y137 x7_2 (wrap64 (x8_3 + 1)) y136 a0_0 a0_1 l0_2) = some r := by first | (rw [hy137]; with_reducible exact H) | (have H2_ := (Option.bind_some _ _).symm.trans H; rw [hy137]; with_reducible exact H2_) | (have H2_ := (Option.bind_some _ _).symm.trans H; with_reducible exact H2_) | with_reducible exact H | (rw [hy137]; exact H) | exact H
                         have Ny137 := Aside0.mk hy137
                         clear hy137
                         have H' := Aside0.mk H
                         clear H
                         try go_wp2
                         have n0_ := Aside0.mk (Kd.qI HO_6.out)
                         have n1_ := Aside0.mk (Kd.qI HO_13.out)
                         have n2_ := Aside0.mk (qD BK117.out)
                         have n3_ := Aside0.mk (qh HB.out)
                         clear HO_6
                         clear HO_13
                         clear BK117
                         clear HB
                         have HO_6 := n0_
                         have HO_13 := n1_
                         have BK117 := n2_
                         have HB := n3_
                         clear n0_ n1_ n2_ n3_
                         obtain ⟨Ao46, co46, eo46⟩ := Kd.qp HO_6.out
                         (first | subst eo46 | (injection eo46 with f1_ f2_ f3_; have f4_ := f1_.symm; have f5_ := f3_.symm; clear f1_ f2_ f3_; subst f4_; subst f5_))
                         have p131 : 0 ≤ (x7_2 : Int) := of_decide_eq_true (by first | (with_reducible assumption) | assumption)
                         have q131 : x7_2 < (x6_3.length : Int) := of_decide_eq_true (by first | (with_reducible assumption) | assumption)
                         obtain ⟨ad131, e131, hx131_0⟩ := Kd.qCA (Kd.qQ HO_6.out).2.2 x7_2 p131 q131
                         cases e131
                         replace p131 := eq_true p131
                         replace q131 := eq_true q131
                         refine qxA (n := 8) (S := fun w' => w'.cell? ⟨gb117, 0, none⟩ = some (.int .i64 a0_0) ∧ w'.cell? ⟨gb117, 1, none⟩ = some (.int .i64 a0_1) ∧ w'.cell? ⟨gb117, 2, none⟩ = some (.slice A0_2 l0_2.length c0_2) ∧ w'.cell? (ad131.add (x7_2).toNat) = some (.int .i64 (rd x6_3 x7_2))) (ds := []) #[false, false, false, false, false, false, false, false] (by kernel_rfl) rfl rfl ⟨(qU BK117.out 0).trans rfl, (qU BK117.out 1).trans rfl, (qU BK117.out 2).trans rfl, hx131_0⟩ (fun hHeld => ?_); refine qNA qS.tab18 qS.bits18 (fun HT_ HW_ => ?_)
                         generalize wr.drew = w45 at HO_6 HO_13 BK117 HB hx131_0 hHeld ⊢
                         refine pS (i := 1) (N := some 49) #[false, true, false, false, false, false, false, false] HT_ ?_
                         refine pS (i := 2) (N := some 50) #[false, true, true, false, false, false, false, false] HT_ ?_
                         refine pS (i := 3) (N := some 51) #[false, true, true, true, false, false, false, false] HT_ ?_
                         refine pS (i := 5) (N := some 53) #[false, true, true, true, false, true, false, false] HT_ ?_
                         refine tS (i := 0) (N := some 48) #[true, true, true, true, false, true, false, false] HT_ HW_ hHeld ?_
                         refine tS (i := 4) (N := some 52) #[true, true, true, true, true, true, false, false] HT_ HW_ hHeld ?_
                         refine one_ (i := 6) (N := some 54) #[true, true, true, true, true, true, true, false] rfl rfl (qjA HT_.out (by kernel_rfl)) (by decide) (fun K hK => ?_)
                         refine goes_ Tryz.func23 (by kernel_rfl) rfl #[.agg #[.int .i64 a0_0, .int .i64 a0_1, .slice A0_2 l0_2.length c0_2], .int .i64 (rd x6_3 x7_2), .int .i64 x8_3] (by rfl) rfl rfl (by (try simp only [List.map_toArray, List.map_cons, List.map_nil]); first | done | rfl | (simp only [List.length_drop, List.length_take]; rfl)) ?_
                         with_reducible refine (qVA.calls a0_0 a0_1 _ _ l0_2 (rd x6_3 x7_2) x8_3 t132 _ ?side1 ?side2 A36.out).mono ?_
                         (case side1 => repeat (first | exact (Kd.qiA HR0_2.out HB.out) | (with_reducible refine Kd.qcA ?_ _) | (with_reducible refine Kd.qbA ?_ _) | (with_reducible refine Kd.qtA ?_)))
                         (case side2 => exact HC0_2.out)
                         rintro e w47 ⟨rfl, hb⟩
                         have HS3_ := (hb.cell (World.block_lt_of_cell? _ _ (hHeld.2.2.2))).trans (hHeld.2.2.2)
                         refine ⟨_, rfl, ?_⟩
                         have n0_ := Aside0.mk (Kd.qW (by (with_reducible repeat (first | apply Kd.qG | apply Kd.qH | apply Kd.qI)); exact HO_6.out) hb)
                         have n1_ := Aside0.mk (Kd.qW (by (with_reducible repeat (first | apply Kd.qG | apply Kd.qH | apply Kd.qI)); exact HO_13.out) hb)
                         have n2_ := Aside0.mk (bb BK117 hb)
                         have n3_ := Aside0.mk (qK bl hb)
                         clear HO_6
                         clear HO_13
                         clear BK117
                         clear HB
                         have HO_6 := n0_
                         have HO_13 := n1_
                         have BK117 := n2_
                         have HB := n3_
                         clear n0_ n1_ n2_ n3_
                         (try clear hb)
                         (try clear hb2)
                         (try clear hk)
                         (try clear hi)
                         refine hK.out _ _ ⟨(qU BK117.out 0).trans rfl, (qU BK117.out 1).trans rfl, (qU BK117.out 2).trans rfl, HS3_⟩ (fun hHeld => ?_)
                         clear hK K
                         refine norm_ (a' := ?_) ?_ ?_
                         rotate_left
                         ·show Act.put _ (some 54) _ = _
                          simp only [Act.put, List.setIfInBounds_toArray, List.set_cons_zero, List.set_cons_succ, i64_w, i32_w]
                          rfl
                         refine pS (i := 7) (N := some 9) #[true, true, true, true, true, true, true, true] HT_ ?_
                         refine done_ (qvA HT_.out (by kernel_rfl)) ?_
                         have p133 : 0 ≤ (t132 : Int) := of_decide_eq_true (by first | (with_reducible assumption) | assumption)
                         have q133 : t132 < (x13_3.length : Int) := of_decide_eq_true (by first | (with_reducible assumption) | assumption)
                         obtain ⟨ad133, e133, hx133_0⟩ := Kd.qCA (Kd.qQ HO_13.out).2.2 t132 p133 q133
                         obtain rfl : (⟨go23, 0, none⟩ : Addr) = ad133 := (by injection e133)
                         (first | simp only [ql] at hx133_0 | simp only [qfA] at hx133_0 | simp only [Addr.add, Nat.zero_add] at hx133_0 | skip)
                         replace p133 := eq_true p133
                         replace q133 := eq_true q133
                         have p134 : 0 ≤ (x7_2 : Int) := of_decide_eq_true (by first | (with_reducible assumption) | assumption)
                         have q134 : x7_2 < (x6_3.length : Int) := of_decide_eq_true (by first | (with_reducible assumption) | assumption)
                         obtain ⟨ad134, e134, hx134_0⟩ := Kd.qCA (Kd.qQ HO_6.out).2.2 x7_2 p134 q134
                         obtain rfl : ad131 = ad134 := (by injection e134)
                         replace p134 := eq_true p134
                         replace q134 := eq_true q134
                         have p135 : 0 ≤ ((rd x6_3 x7_2) : Int) := of_decide_eq_true (by first | (with_reducible assumption) | assumption)
                         have q135 : (rd x6_3 x7_2) < (x13_3.length : Int) := of_decide_eq_true (by first | (with_reducible assumption) | assumption)
                         obtain ⟨ad135, e135, hx135_0⟩ := Kd.qCA (Kd.qQ HO_13.out).2.2 (rd x6_3 x7_2) p135 q135
                         obtain rfl : (⟨go23, 0, none⟩ : Addr) = ad135 := (by injection e135)
                         (first | simp only [ql] at hx135_0 | simp only [qfA] at hx135_0 | simp only [Addr.add, Nat.zero_add] at hx135_0 | skip)
                         replace p135 := eq_true p135
                         replace q135 := eq_true q135
                         have p43 : 0 ≤ (t132 : Int) := of_decide_eq_true (by first | (with_reducible assumption) | assumption)
                         have q43 : (t132 : Int) < ((x13_3.length : Int) : Int) := of_decide_eq_true (by first | (with_reducible assumption) | assumption)
                         obtain ⟨hx43_0, hf43_0⟩ := Kd.qhA 0 HO_13.out (t132 : Int) p43 q43
                         replace p43 := eq_true p43
                         replace q43 := eq_true q43
                         obtain ⟨hy48_, hz48_⟩ := Kd.qhA 0 HO_13.out (t132 : Int) (of_decide_eq_true (by first | (with_reducible assumption) | assumption)) (of_decide_eq_true (by first | (with_reducible assumption) | assumption))
                         have HP48 := Kd.qnB HO_13.out (t132 : Int) (wrap64 ((rd x13_3 (rd x6_3 x7_2)) + 1))
                         try go_wp2_with (first | ((with_reducible refine qeA (t := 3) (p := 74) rfl ?_); refine qUA (t := 3) (p := 74) (v := ?vo_w49) (w1 := (w47.setCell ⟨go23, (t132 : Int).toNat, none⟩ (.int .i64 (wrap64 ((rd x13_3 (rd x6_3 x7_2)) + 1))))) ?hg ?ho ?hn ?hr ?_; (case ho => rfl); (case hg => rfl); (case hn => rfl); (case hr => first | (go_simp; done) | (go_simp; rfl)); intro w49 hw; have hg : w47.grownBy w49 (some go23) := (by rw [hw]; exact HP48.2); have hp_ : Kd.R (Kd.int .i64) 3 w49 w.heap.size (fun k_ => some k_ ≠ (.slice (some ad131) x6_3.length co46 : Value).ownBlock) (.slice (some ⟨go23, 0, none⟩) x13_3.length co8) y136 := (by rw [hw, Ny136.out]; exact HP48.1); clear HP48; have n0_ := Aside0.mk (Kd.qsA (v := (.slice (some ⟨go23, 0, none⟩) x13_3.length co8)) (v1 := (.slice (some ⟨go23, 0, none⟩) x13_3.length co8)) (ok := (fun _ => True)) (by (with_reducible repeat (first | apply Kd.qG | apply Kd.qH | apply Kd.qI)); exact Kd.qf HO_6.out (fun _ hk => ⟨trivial, hk⟩)) hg (.inl rfl)); have n1_ := Aside0.mk (hp_); have n2_ := Aside0.mk (qaA (g := gb117) (o := .cells #[.int .i64 a0_0, .int .i64 a0_1, .slice A0_2 l0_2.length c0_2] 27 (0, 0)) (by (with_reducible repeat (first | refine qC ?_ _ | refine qD ?_ | refine qB ?_ _)); exact BK117.out) hg (Kd.R_ne HO_13.out BK117.out (by decide))); have n3_ := Aside0.mk ((by rw [hw]; exact qe (HB.out) GB23.out : Below w.heap.size w w49)); clear HO_6; clear HO_13; clear BK117; clear HB; have HO_6 := n0_; have HO_13 := n1_; have BK117 := n2_; have HB := n3_; clear n0_ n1_ n2_ n3_; clear hg hw hp_) | ((with_reducible refine qSB (b := .append) (xs := #[.tmp 75, .tmp 77]) rfl ?_); at_builtin; refine Kd.qQC (Kd.int .i64) (w0 := w) w.heap.size rfl (.tmp 75) (.tmp 77) 28 3 (.int .i64 0) 8 rfl Tryz.underlying28 info3 rfl (by decide) (by omega) (.slice (some ad131) x6_3.length co46) x6_3 t132 [.int .i64 t132] (fun k_ => some k_ ≠ (.slice (some ⟨go23, 0, none⟩) x13_3.length co8 : Value).ownBlock) (fun _ => False) rfl rfl ?aP (fun _ hk => hk.elim) ?aF ?aO ?aB ?aS ?aL ?_; (case aP => exact rfl); (case aB => exact bl); (case aF => exact (fun k_ hk => Kd.fresh' (Kd.R_lt (by (with_reducible repeat (first | apply Kd.qG | apply Kd.qH | apply Kd.qI)); exact HO_13.out)) k_ hk)); (case aO => exact (by (with_reducible repeat (first | apply Kd.qG | apply Kd.qH | apply Kd.qI)); exact Kd.qf HO_6.out (fun _ hk => hk.2))); (case aS => exact (qa bl)); (case aL => have := LMc44.out; omega); intro v138 w50 ho hb hg hat; rw [← Ny137.out] at ho; have n0_ := Aside0.mk (Kd.qsA (ok := (fun _ => True)) (by (with_reducible repeat (first | apply Kd.qG | apply Kd.qH | apply Kd.qI)); exact Kd.qf HO_13.out (fun _ hk => ⟨trivial, hk⟩)) hg hat); have n1_ := Aside0.mk (qaA (g := gb117) (o := .cells #[.int .i64 a0_0, .int .i64 a0_1, .slice A0_2 l0_2.length c0_2] 27 (0, 0)) (by (with_reducible repeat (first | refine qC ?_ _ | refine qD ?_ | refine qB ?_ _)); exact BK117.out) hg (Kd.R_ne HO_6.out BK117.out (by decide))); have n2_ := Aside0.mk (hb); have n3_ := Aside0.mk (ho); clear HO_13; clear BK117; clear HB; clear HO_6; have HO_13 := n0_; have BK117 := n1_; have HB := n2_; have HO139 := n3_; clear n0_ n1_ n2_ n3_; clear ho hb hg hat))
                         (try simp only [← hl13_3])
                         go_roundg k3
                         case measure => have := HK1.out; have := HK2.out; have := HK3.out; omega
                         case rel => exact ⟨(y137), (wrap64 (x8_3 + 1)), (y136), (by first | rfl | (simp; done) | (simp [*]; done)), H', ⟨by have := HK1.out; have := HK2.out; have := HK3.out; omega⟩, ⟨by (try simp only [hl13_1]); (try simp only [hl13_2]); (try simp only [hl13_3]); (with_reducible repeat (first | apply Kd.qG | apply Kd.qH | apply Kd.qI)); exact HO139.out⟩, ⟨by (try simp only [hl13_1]); (try simp only [hl13_2]); (try simp only [hl13_3]); (with_reducible repeat (first | apply Kd.qG | apply Kd.qH | apply Kd.qI)); exact Kd.qf HO_13.out (fun _ hk => hk.2)⟩, ⟨by (try simp only [hl13_1]); (try simp only [hl13_2]); (try simp only [hl13_3]); (with_reducible repeat (first | refine qC ?_ _ | refine qD ?_ | refine qB ?_ _)); exact BK117.out⟩, ⟨bl⟩⟩
                        ·rw [if_neg c44] at H
                         exact absurd H (by simp)
                       ·rw [if_neg c42] at H
                        exact absurd H (by simp)
                      ·rw [if_neg c41] at H
                       exact absurd H (by simp)
                     ·rw [if_neg c40] at H
                      have c40b0 : decide ((rd x13_3 t132) < 0) = false := decide_eq_false c40
                      clear c40
                      have H' := Aside0.mk H
                      clear H
                      try go_wp2
                      have n0_ := Aside0.mk (Kd.qI HO_6.out)
                      have n1_ := Aside0.mk (Kd.qI HO_13.out)
                      have n2_ := Aside0.mk (qD BK117.out)
                      have n3_ := Aside0.mk (qh HB.out)
                      clear HO_6
                      clear HO_13
                      clear BK117
                      clear HB
                      have HO_6 := n0_
                      have HO_13 := n1_
                      have BK117 := n2_
                      have HB := n3_
                      clear n0_ n1_ n2_ n3_
                      obtain ⟨Ao52, co52, eo52⟩ := Kd.qp HO_6.out
                      (first | subst eo52 | (injection eo52 with f1_ f2_ f3_; have f4_ := f1_.symm; have f5_ := f3_.symm; clear f1_ f2_ f3_; subst f4_; subst f5_))
                      have p131 : 0 ≤ (x7_2 : Int) := of_decide_eq_true (by first | (with_reducible assumption) | assumption)
                      have q131 : x7_2 < (x6_3.length : Int) := of_decide_eq_true (by first | (with_reducible assumption) | assumption)
                      obtain ⟨ad131, e131, hx131_0⟩ := Kd.qCA (Kd.qQ HO_6.out).2.2 x7_2 p131 q131
                      cases e131
                      replace p131 := eq_true p131
                      replace q131 := eq_true q131
                      refine qxA (n := 8) (S := fun w' => w'.cell? ⟨gb117, 0, none⟩ = some (.int .i64 a0_0) ∧ w'.cell? ⟨gb117, 1, none⟩ = some (.int .i64 a0_1) ∧ w'.cell? ⟨gb117, 2, none⟩ = some (.slice A0_2 l0_2.length c0_2) ∧ w'.cell? (ad131.add (x7_2).toNat) = some (.int .i64 (rd x6_3 x7_2))) (ds := []) #[false, false, false, false, false, false, false, false] (by kernel_rfl) rfl rfl ⟨(qU BK117.out 0).trans rfl, (qU BK117.out 1).trans rfl, (qU BK117.out 2).trans rfl, hx131_0⟩ (fun hHeld => ?_); refine qNA qS.tab18 qS.bits18 (fun HT_ HW_ => ?_)
                      generalize wr.drew = w51 at HO_6 HO_13 BK117 HB hx131_0 hHeld ⊢
                      refine pS (i := 1) (N := some 49) #[false, true, false, false, false, false, false, false] HT_ ?_
                      refine pS (i := 2) (N := some 50) #[false, true, true, false, false, false, false, false] HT_ ?_
                      refine pS (i := 3) (N := some 51) #[false, true, true, true, false, false, false, false] HT_ ?_
                      refine pS (i := 5) (N := some 53) #[false, true, true, true, false, true, false, false] HT_ ?_
                      refine tS (i := 0) (N := some 48) #[true, true, true, true, false, true, false, false] HT_ HW_ hHeld ?_
                      refine tS (i := 4) (N := some 52) #[true, true, true, true, true, true, false, false] HT_ HW_ hHeld ?_
                      refine one_ (i := 6) (N := some 54) #[true, true, true, true, true, true, true, false] rfl rfl (qjA HT_.out (by kernel_rfl)) (by decide) (fun K hK => ?_)
                      refine goes_ Tryz.func23 (by kernel_rfl) rfl #[.agg #[.int .i64 a0_0, .int .i64 a0_1, .slice A0_2 l0_2.length c0_2], .int .i64 (rd x6_3 x7_2), .int .i64 x8_3] (by rfl) rfl rfl (by (try simp only [List.map_toArray, List.map_cons, List.map_nil]); first | done | rfl | (simp only [List.length_drop, List.length_take]; rfl)) ?_
                      with_reducible refine (qVA.calls a0_0 a0_1 _ _ l0_2 (rd x6_3 x7_2) x8_3 t132 _ ?side1 ?side2 A36.out).mono ?_
                      (case side1 => repeat (first | exact (Kd.qiA HR0_2.out HB.out) | (with_reducible refine Kd.qcA ?_ _) | (with_reducible refine Kd.qbA ?_ _) | (with_reducible refine Kd.qtA ?_)))
                      (case side2 => exact HC0_2.out)
                      rintro e w53 ⟨rfl, hb⟩
                      have HS3_ := (hb.cell (World.block_lt_of_cell? _ _ (hHeld.2.2.2))).trans (hHeld.2.2.2)
                      refine ⟨_, rfl, ?_⟩
                      have n0_ := Aside0.mk (Kd.qW (by (with_reducible repeat (first | apply Kd.qG | apply Kd.qH | apply Kd.qI)); exact HO_6.out) hb)
                      have n1_ := Aside0.mk (Kd.qW (by (with_reducible repeat (first | apply Kd.qG | apply Kd.qH | apply Kd.qI)); exact HO_13.out) hb)
                      have n2_ := Aside0.mk (bb BK117 hb)
                      have n3_ := Aside0.mk (qK bl hb)
                      clear HO_6
                      clear HO_13
                      clear BK117
                      clear HB
                      have HO_6 := n0_
                      have HO_13 := n1_
                      have BK117 := n2_
                      have HB := n3_
                      clear n0_ n1_ n2_ n3_
                      (try clear hb)
                      (try clear hb2)
                      (try clear hk)
                      (try clear hi)
                      refine hK.out _ _ ⟨(qU BK117.out 0).trans rfl, (qU BK117.out 1).trans rfl, (qU BK117.out 2).trans rfl, HS3_⟩ (fun hHeld => ?_)
                      clear hK K
                      refine norm_ (a' := ?_) ?_ ?_
                      rotate_left
                      ·show Act.put _ (some 54) _ = _
                       simp only [Act.put, List.setIfInBounds_toArray, List.set_cons_zero, List.set_cons_succ, i64_w, i32_w]
                       rfl
                      refine pS (i := 7) (N := some 9) #[true, true, true, true, true, true, true, true] HT_ ?_
                      refine done_ (qvA HT_.out (by kernel_rfl)) ?_
                      have p133 : 0 ≤ (t132 : Int) := of_decide_eq_true (by first | (with_reducible assumption) | assumption)
                      have q133 : t132 < (x13_3.length : Int) := of_decide_eq_true (by first | (with_reducible assumption) | assumption)
                      obtain ⟨ad133, e133, hx133_0⟩ := Kd.qCA (Kd.qQ HO_13.out).2.2 t132 p133 q133
                      obtain rfl : (⟨go23, 0, none⟩ : Addr) = ad133 := (by injection e133)
                      (first | simp only [ql] at hx133_0 | simp only [qfA] at hx133_0 | simp only [Addr.add, Nat.zero_add] at hx133_0 | skip)
                      replace p133 := eq_true p133
                      replace q133 := eq_true q133
                      try go_wp2
                      (try simp only [← hl13_3])
                      go_roundg k3
                      case measure => have := HK1.out; have := HK2.out; have := HK3.out; omega
                      case rel => exact ⟨(x6_3), (wrap64 (x8_3 + 1)), (x13_3), (by first | rfl | (simp; done) | (simp [*]; done)), H', ⟨by have := HK1.out; have := HK2.out; have := HK3.out; omega⟩, ⟨by (try simp only [hl13_1]); (try simp only [hl13_2]); (try simp only [hl13_3]); (with_reducible repeat (first | apply Kd.qG | apply Kd.qH | apply Kd.qI)); exact HO_6.out⟩, ⟨by (try simp only [hl13_1]); (try simp only [hl13_2]); (try simp only [hl13_3]); (with_reducible repeat (first | apply Kd.qG | apply Kd.qH | apply Kd.qI)); exact HO_13.out⟩, ⟨by (try simp only [hl13_1]); (try simp only [hl13_2]); (try simp only [hl13_3]); (with_reducible repeat (first | refine qC ?_ _ | refine qD ?_ | refine qB ?_ _)); exact BK117.out⟩, ⟨bl⟩⟩
                    ·rw [if_neg c39] at H
                     exact absurd H (by simp)
                   ·rw [if_neg c38] at H
                    exact absurd H (by simp)
                  ·rw [if_neg c37] at H
                   have c37b0 : decide (0 ≤ t132) = false := decide_eq_false c37
                   clear c37
                   have H' := Aside0.mk H
                   clear H
                   try go_wp2
                   have n0_ := Aside0.mk (Kd.qI HO_6.out)
                   have n1_ := Aside0.mk (Kd.qI HO_13.out)
                   have n2_ := Aside0.mk (qD BK117.out)
                   have n3_ := Aside0.mk (qh HB.out)
                   clear HO_6
                   clear HO_13
                   clear BK117
                   clear HB
                   have HO_6 := n0_
                   have HO_13 := n1_
                   have BK117 := n2_
                   have HB := n3_
                   clear n0_ n1_ n2_ n3_
                   obtain ⟨Ao55, co55, eo55⟩ := Kd.qp HO_6.out
                   (first | subst eo55 | (injection eo55 with f1_ f2_ f3_; have f4_ := f1_.symm; have f5_ := f3_.symm; clear f1_ f2_ f3_; subst f4_; subst f5_))
                   have p131 : 0 ≤ (x7_2 : Int) := of_decide_eq_true (by first | (with_reducible assumption) | assumption)
                   have q131 : x7_2 < (x6_3.length : Int) := of_decide_eq_true (by first | (with_reducible assumption) | assumption)
                   obtain ⟨ad131, e131, hx131_0⟩ := Kd.qCA (Kd.qQ HO_6.out).2.2 x7_2 p131 q131
                   cases e131
                   replace p131 := eq_true p131
                   replace q131 := eq_true q131
                   refine qxA (n := 8) (S := fun w' => w'.cell? ⟨gb117, 0, none⟩ = some (.int .i64 a0_0) ∧ w'.cell? ⟨gb117, 1, none⟩ = some (.int .i64 a0_1) ∧ w'.cell? ⟨gb117, 2, none⟩ = some (.slice A0_2 l0_2.length c0_2) ∧ w'.cell? (ad131.add (x7_2).toNat) = some (.int .i64 (rd x6_3 x7_2))) (ds := []) #[false, false, false, false, false, false, false, false] (by kernel_rfl) rfl rfl ⟨(qU BK117.out 0).trans rfl, (qU BK117.out 1).trans rfl, (qU BK117.out 2).trans rfl, hx131_0⟩ (fun hHeld => ?_); refine qNA qS.tab18 qS.bits18 (fun HT_ HW_ => ?_)
                   generalize wr.drew = w54 at HO_6 HO_13 BK117 HB hx131_0 hHeld ⊢
                   refine pS (i := 1) (N := some 49) #[false, true, false, false, false, false, false, false] HT_ ?_
                   refine pS (i := 2) (N := some 50) #[false, true, true, false, false, false, false, false] HT_ ?_
                   refine pS (i := 3) (N := some 51) #[false, true, true, true, false, false, false, false] HT_ ?_
                   refine pS (i := 5) (N := some 53) #[false, true, true, true, false, true, false, false] HT_ ?_
                   refine tS (i := 0) (N := some 48) #[true, true, true, true, false, true, false, false] HT_ HW_ hHeld ?_
                   refine tS (i := 4) (N := some 52) #[true, true, true, true, true, true, false, false] HT_ HW_ hHeld ?_
                   refine one_ (i := 6) (N := some 54) #[true, true, true, true, true, true, true, false] rfl rfl (qjA HT_.out (by kernel_rfl)) (by decide) (fun K hK => ?_)
                   refine goes_ Tryz.func23 (by kernel_rfl) rfl #[.agg #[.int .i64 a0_0, .int .i64 a0_1, .slice A0_2 l0_2.length c0_2], .int .i64 (rd x6_3 x7_2), .int .i64 x8_3] (by rfl) rfl rfl (by (try simp only [List.map_toArray, List.map_cons, List.map_nil]); first | done | rfl | (simp only [List.length_drop, List.length_take]; rfl)) ?_
                   with_reducible refine (qVA.calls a0_0 a0_1 _ _ l0_2 (rd x6_3 x7_2) x8_3 t132 _ ?side1 ?side2 A36.out).mono ?_
                   (case side1 => repeat (first | exact (Kd.qiA HR0_2.out HB.out) | (with_reducible refine Kd.qcA ?_ _) | (with_reducible refine Kd.qbA ?_ _) | (with_reducible refine Kd.qtA ?_)))
                   (case side2 => exact HC0_2.out)
                   rintro e w56 ⟨rfl, hb⟩
                   have HS3_ := (hb.cell (World.block_lt_of_cell? _ _ (hHeld.2.2.2))).trans (hHeld.2.2.2)
                   refine ⟨_, rfl, ?_⟩
                   have n0_ := Aside0.mk (Kd.qW (by (with_reducible repeat (first | apply Kd.qG | apply Kd.qH | apply Kd.qI)); exact HO_6.out) hb)
                   have n1_ := Aside0.mk (Kd.qW (by (with_reducible repeat (first | apply Kd.qG | apply Kd.qH | apply Kd.qI)); exact HO_13.out) hb)
                   have n2_ := Aside0.mk (bb BK117 hb)
                   have n3_ := Aside0.mk (qK bl hb)
                   clear HO_6
                   clear HO_13
                   clear BK117
                   clear HB
                   have HO_6 := n0_
                   have HO_13 := n1_
                   have BK117 := n2_
                   have HB := n3_
                   clear n0_ n1_ n2_ n3_
                   (try clear hb)
                   (try clear hb2)
                   (try clear hk)
                   (try clear hi)
                   refine hK.out _ _ ⟨(qU BK117.out 0).trans rfl, (qU BK117.out 1).trans rfl, (qU BK117.out 2).trans rfl, HS3_⟩ (fun hHeld => ?_)
                   clear hK K
                   refine norm_ (a' := ?_) ?_ ?_
                   rotate_left
                   ·show Act.put _ (some 54) _ = _
                    simp only [Act.put, List.setIfInBounds_toArray, List.set_cons_zero, List.set_cons_succ, i64_w, i32_w]
                    rfl
                   refine pS (i := 7) (N := some 9) #[true, true, true, true, true, true, true, true] HT_ ?_
                   refine done_ (qvA HT_.out (by kernel_rfl)) ?_
                   try go_wp2
                   (try simp only [← hl13_3])
                   go_roundg k3
                   case measure => have := HK1.out; have := HK2.out; have := HK3.out; omega
                   case rel => exact ⟨(x6_3), (wrap64 (x8_3 + 1)), (x13_3), (by first | rfl | (simp; done) | (simp [*]; done)), H', ⟨by have := HK1.out; have := HK2.out; have := HK3.out; omega⟩, ⟨by (try simp only [hl13_1]); (try simp only [hl13_2]); (try simp only [hl13_3]); (with_reducible repeat (first | apply Kd.qG | apply Kd.qH | apply Kd.qI)); exact HO_6.out⟩, ⟨by (try simp only [hl13_1]); (try simp only [hl13_2]); (try simp only [hl13_3]); (with_reducible repeat (first | apply Kd.qG | apply Kd.qH | apply Kd.qI)); exact HO_13.out⟩, ⟨by (try simp only [hl13_1]); (try simp only [hl13_2]); (try simp only [hl13_3]); (with_reducible repeat (first | refine qC ?_ _ | refine qD ?_ | refine qB ?_ _)); exact BK117.out⟩, ⟨bl⟩⟩
                 ·rw [if_neg c35] at H
                  exact absurd H (by simp)
                ·rw [if_neg c34] at H
                 exact absurd H (by simp)
               ·rw [if_neg c33] at H
                have c33b0 : decide (x8_3 < 4) = false := decide_eq_false c33
                clear c33
                have H' := Aside0.mk H
                clear H
                go_wp2
                (try simp only [← hl13_2, ← hl13_3])
                go_roundg k3
                case measure => have := HK1.out; have := HK2.out; have := HK3.out; omega
                case rel => exact ⟨(x6_3), (wrap64 (x7_2 + 1)), (x13_3), (by first | rfl | (simp; done) | (simp [*]; done)), H', ⟨by have := HK1.out; have := HK2.out; have := HK3.out; omega⟩, ⟨by (try simp only [hl13_1]); (try simp only [hl13_2]); (try simp only [hl13_3]); (with_reducible repeat (first | apply Kd.qG | apply Kd.qH | apply Kd.qI)); exact HO_6.out⟩, ⟨by (try simp only [hl13_1]); (try simp only [hl13_2]); (try simp only [hl13_3]); (with_reducible repeat (first | apply Kd.qG | apply Kd.qH | apply Kd.qI)); exact HO_13.out⟩, ⟨by (try simp only [hl13_1]); (try simp only [hl13_2]); (try simp only [hl13_3]); (with_reducible repeat (first | refine qC ?_ _ | refine qD ?_ | refine qB ?_ _)); exact BK117.out⟩, ⟨bl⟩⟩
            ·rw [if_neg c31] at H
             have c31b0 : decide (x7_2 < (x6_2.length : Int)) = false := decide_eq_false c31
             (try (have c31b0_hl13_1 := c31b0; simp only [hl13_1] at c31b0_hl13_1))
             (try (have c31b0_hl13_2 := c31b0; simp only [hl13_2] at c31b0_hl13_2))
             clear c31
             obtain rfl := Option.some.inj H
             obtain ⟨Ao57, co57, eo57⟩ := Kd.qp HO_6.out
             subst eo57
             go_wp2
             go_ret
             exact ⟨_, by first | rfl | (simp [qN, qM] <;> rfl) | (simp [*, qN, qM] <;> rfl), by (with_reducible repeat (first | apply Kd.qG | apply Kd.qH | apply Kd.qI)); exact Kd.qf HO_13.out (fun _ hk => trivial), bl⟩
         ·rw [if_neg c22] at H
          exact absurd H (by simp)
        ·rw [if_neg c21] at H
         exact absurd H (by simp)
       ·rw [if_neg c20] at H
        exact absurd H (by simp)
  ·rw [if_neg c3] at H
   exact absurd H (by simp)
 ·rw [if_neg c2] at H
  exact absurd H (by simp)
mutual
def qc.j0 : Nat → List Int → Bool → Int → Int → List Int → Option (Bool)
 | 0, _, _, _, _, _ => none
 | k + 1, x3, x23, x141000, x141001, x141002 => if x23 = true then (some false) else ((qS.f k x141000 x141001 x141002).bind fun t144 => (qc.l0 k x3 0 0 t144 (x3.length : Int) 0 x141000 x141001 x141002))
def qc.l0 : Nat → List Int → Int → Int → List Int → Int → Int → Int → Int → List Int → Option (Bool)
 | 0, _, _, _, _, _, _, _, _, _ => none
 | k + 1, x3, x5, x6, x25, x27, x28, x141000, x141001, x141002 => if x28 < x27 then (if 0 ≤ x28 then (if x28 < (x3.length : Int) then (if 0 ≤ (rd x3 x28) then (if (rd x3 x28) < (x25.length : Int) then (if (rd x25 (rd x3 x28)) < 0 then (some false) else (if x141000 = 0 then (none) else (if 0 ≤ (Int.tmod (rd x3 x28) x141000) then (if 0 ≤ (wrap64 (Int.tdiv (rd x3 x28) x141000)) then (qc.l0 k x3 (Go.bits .or .i64 x5 (shl .i64 1 (Int.tmod (rd x3 x28) x141000))) (Go.bits .or .i64 x6 (shl .i64 1 (wrap64 (Int.tdiv (rd x3 x28) x141000)))) x25 x27 (wrap64 (x28 + 1)) x141000 x141001 x141002) else (none)) else (none)))) else (none)) else (none)) else (none)) else (none)) else (if 0 ≤ x141000 then (if x5 = (wrap64 ((shl .i64 1 x141000) - 1)) then (if 0 ≤ x141001 then (some (x6 == (wrap64 ((shl .i64 1 x141001) - 1)))) else (none)) else (some false)) else (none))
end
def qc.f (k : Nat) (a0_0 : Int) (a0_1 : Int) (l0_2 : List Int) : Option (Bool) := (qg.f k a0_0 a0_1 l0_2).bind fun t141 => (if (t141.length : Int) = 6 then (if a0_0 > 6 then (qc.j0 k t141 true a0_0 a0_1 l0_2) else (qc.j0 k t141 (decide (a0_1 > 6)) a0_0 a0_1 l0_2)) else (qc.j0 k t141 true a0_0 a0_1 l0_2))
set_option maxHeartbeats 8000000 in
set_option maxRecDepth 100000 in
theorem qc.calls (k : Nat) (a0_0 : Int) (a0_1 : Int) (A0_2 : Option Addr) (c0_2 : Nat) (l0_2 : List Int) (r : Bool) (w : World) (hr0_2 : Kd.C (Kd.int .u8) w A0_2 l0_2.length l0_2) (hc0_2 : l0_2.length ≤ c0_2) (h : qc.f k a0_0 a0_1 l0_2 = some r) :
  Calls Tryz.prog 12 #[.agg #[.int .i64 a0_0, .int .i64 a0_1, .slice A0_2 l0_2.length c0_2]] w fun e w' => e = .returned (.bool r) ∧ Below w.heap.size w w' := by
 have hu27 := Tryz.underlying27
 have HR0_2 := Aside0.mk hr0_2
 have HC0_2 := Aside0.mk hc0_2
 clear hr0_2 hc0_2
 have HB := Aside0.mk (Below.refl w.heap.size w)
 have H : ((qg.f k a0_0 a0_1 l0_2).bind fun t141 => (if (t141.length : Int) = 6 then (if a0_0 > 6 then (qc.j0 k t141 true a0_0 a0_1 l0_2) else (qc.j0 k t141 (decide (a0_1 > 6)) a0_0 a0_1 l0_2)) else (qc.j0 k t141 true a0_0 a0_1 l0_2))) = some r := h
 clear h
 replace H := Option.bind_eq_some_iff.mp H
 obtain ⟨t141, A20, H⟩ := H
 replace H : (if (t141.length : Int) = 6 then (if a0_0 > 6 then (qc.j0 k t141 true a0_0 a0_1 l0_2) else (qc.j0 k t141 (decide (a0_1 > 6)) a0_0 a0_1 l0_2)) else (qc.j0 k t141 true a0_0 a0_1 l0_2)) = some r := H
 have A2 := Aside0.mk A20
 clear A20
 have HC3 := Aside0.mk H
 clear H
 go_enter Tryz.func12, Tryz.ntmps12
 go_upto_region 2 with (first | ((with_reducible refine qX (N := 1) rfl ?_); refine qV ?hg (N := 1) ?hd (cs := #[.int .i64 a0_0, .int .i64 a0_1, .slice A0_2 l0_2.length c0_2]) (t := 27) ?hr ?_; (case hd => rfl); (case hg => rfl); (case hr => first | (go_simp; done) | (go_simp; rfl)); intro gb140 hg w4 hbox hb; have n0_ := Aside0.mk (qK bl hb); have n1_ := Aside0.mk (hbox); have n2_ := Aside0.mk ((gg hg)); have n3_ := Aside0.mk ((gg hg)); clear HB; have HB := n0_; have BK140 := n1_; have GW140 := n2_; have GE140 := n3_; clear n0_ n1_ n2_ n3_; clear hb hbox hg; have hcz5_0 := bc BK140 0; have hcz5_1 := bc BK140 1; have hcz5_2 := bc BK140 2; have hfz5_0 := qA BK140.out 0; have hfz5_1 := qA BK140.out 1; have hfz5_2 := qA BK140.out 2) | ((with_reducible refine qb (f := 20) rfl ?_); refine qRA (some 10) rfl rfl Tryz.func20 (by kernel_rfl) rfl #[.agg #[.int .i64 a0_0, .int .i64 a0_1, .slice A0_2 l0_2.length c0_2]] rfl (by (try simp only [List.map_toArray, List.map_cons, List.map_nil]); first | done | rfl | (simp only [List.length_drop, List.length_take]; rfl)) ?_; (with_reducible refine (qg.calls k a0_0 a0_1 _ _ l0_2 t141 _ ?side1 ?side2 A2.out).mono ?_); (case side1 => repeat (first | exact (Kd.qiA HR0_2.out HB.out) | (with_reducible refine Kd.qcA ?_ _) | (with_reducible refine Kd.qbA ?_ _) | (with_reducible refine Kd.qtA ?_))); (case side2 => exact HC0_2.out); rintro e w6 ⟨v142, rfl, ho0, hb⟩; refine ⟨_, rfl, ?_⟩; have n0_ := Aside0.mk (Kd.qAA ho0 (qa bl)); have n1_ := Aside0.mk (bb BK140 hb); have n2_ := Aside0.mk (qK bl hb); clear BK140; clear HB; have HO143 := n0_; have BK140 := n1_; have HB := n2_; clear n0_ n1_ n2_; (try clear hb); (try clear hb2); (try clear hk); (try clear hi); (try clear ho0)))
 (try simp only [Act.put, List.setIfInBounds_toArray, List.set_cons_zero, List.set_cons_succ])
 go_cut [23] (fun v23 wc => ∃ (kq : Nat) (x23_2 : Bool), v23 = .bool x23_2 ∧ Aside0 (qc.j0 kq t141 x23_2 a0_0 a0_1 l0_2 = some r) ∧ Aside0 (kq ≤ k) ∧ Aside0 (Kd.R (Kd.int .i64) 3 wc w.heap.size (fun _ => True) v142 t141) ∧ Aside0 (wc.heap[gb140]? = some (.cells #[.int .i64 a0_0, .int .i64 a0_1, (.slice A0_2 l0_2.length c0_2)] 27 (0, 0))) ∧ Aside0 (Below w.heap.size w wc))
 case first =>
  have H := HC3.out
  clear HC3
  by_cases c7 : (t141.length : Int) = 6
  ·rw [if_pos c7] at H
   have c7b0 : ((t141.length : Int) == 6) = true := beq_iff_eq.mpr c7
   have c7b1 : ((t141.length : Int) != 6) = false := bne_eq_false_iff_eq.mpr c7
   clear c7
   (first | rw [c7b0] | (simp only [i64_w, i32_w]; rw [c7b0]) | skip)
   by_cases c8 : a0_0 > 6
   ·rw [if_pos c8] at H
    have c8b0 : decide (6 < a0_0) = true := decide_eq_true c8
    clear c8
    have H' := Aside0.mk H
    clear H
    obtain ⟨Ao9, co9, eo9⟩ := Kd.qp HO143.out
    subst eo9
    have hcz10_0 := bc BK140 0
    have hcz10_1 := bc BK140 1
    have hcz10_2 := bc BK140 2
    have hfz10_0 := qA BK140.out 0
    have hfz10_1 := qA BK140.out 1
    have hfz10_2 := qA BK140.out 2
    go_wp2
    go_meet
    case rel => exact ⟨_, (true), (by first | rfl | (simp; done) | (simp [*]; done)), H', ⟨by first | omega | exact Nat.le_refl _⟩, ⟨by (with_reducible repeat (first | apply Kd.qG | apply Kd.qH | apply Kd.qI)); exact HO143.out⟩, ⟨by (with_reducible repeat (first | refine qC ?_ _ | refine qD ?_ | refine qB ?_ _)); exact BK140.out⟩, ⟨bl⟩⟩
   ·rw [if_neg c8] at H
    have c8b0 : decide (6 < a0_0) = false := decide_eq_false c8
    clear c8
    have H' := Aside0.mk H
    clear H
    obtain ⟨Ao11, co11, eo11⟩ := Kd.qp HO143.out
    subst eo11
    have hcz12_0 := bc BK140 0
    have hcz12_1 := bc BK140 1
    have hcz12_2 := bc BK140 2
    have hfz12_0 := qA BK140.out 0
    have hfz12_1 := qA BK140.out 1
    have hfz12_2 := qA BK140.out 2
    go_wp2
    go_meet
    case rel => exact ⟨_, (decide (a0_1 > 6)), (by first | rfl | (simp; done) | (simp [*]; done)), H', ⟨by first | omega | exact Nat.le_refl _⟩, ⟨by (with_reducible repeat (first | apply Kd.qG | apply Kd.qH | apply Kd.qI)); exact HO143.out⟩, ⟨by (with_reducible repeat (first | refine qC ?_ _ | refine qD ?_ | refine qB ?_ _)); exact BK140.out⟩, ⟨bl⟩⟩
  ·rw [if_neg c7] at H
   have c7b0 : ((t141.length : Int) == 6) = false := beq_eq_false_iff_ne.mpr c7
   have c7b1 : ((t141.length : Int) != 6) = true := bne_iff_ne.mpr c7
   (first | rw [c7b0] | (simp only [i64_w, i32_w]; rw [c7b0]) | skip)
   have H' := Aside0.mk H
   clear H
   obtain ⟨Ao13, co13, eo13⟩ := Kd.qp HO143.out
   subst eo13
   go_wp2
   go_meet
   case rel => exact ⟨_, (true), (by first | rfl | (simp; done) | (simp [*]; done)), H', ⟨by first | omega | exact Nat.le_refl _⟩, ⟨by (with_reducible repeat (first | apply Kd.qG | apply Kd.qH | apply Kd.qI)); exact HO143.out⟩, ⟨by (with_reducible repeat (first | refine qC ?_ _ | refine qD ?_ | refine qB ?_ _)); exact BK140.out⟩, ⟨bl⟩⟩
 case rest =>
  clear HC3
  try clear c1
  try clear c2
  try clear p2
  try clear c7
  try clear c7b0
  try clear c7b1
  try clear c8
  try clear c8b0
  try clear c12
  try clear hcz10_0
  try clear hcz10_1
  try clear hcz10_2
  try clear hcz12_0
  try clear hcz12_1
  try clear hcz12_2
  try clear hcz5_0
  try clear hcz5_1
  try clear hcz5_2
  try clear hfz10_0
  try clear hfz10_1
  try clear hfz10_2
  try clear hfz12_0
  try clear hfz12_1
  try clear hfz12_2
  try clear hfz5_0
  try clear hfz5_1
  try clear hfz5_2
  obtain ⟨kq, x23_2, rfl, HA, HJ2, HO_3, BK140, HB⟩ := hcut
  cases kq with
  | zero => exact absurd HA.out (by simp [qc.j0])
  | succ kj2 =>
   have H := HA.out
   clear HA
   simp only [qc.j0] at H
   by_cases c14 : x23_2 = true
   ·subst c14
    have H1 : (some false) = some r := by rw [if_pos rfl] at H; exact H
    clear H
    have H := H1
    clear H1
    obtain rfl := Option.some.inj H
    go_wp2
    go_ret
    exact ⟨by first | rfl | (simp [qN, qM] <;> rfl) | (simp [*, qN, qM] <;> rfl), bl⟩
   ·replace c14 := Bool.eq_false_iff.mpr c14
    subst c14
    have H1 : ((qS.f kj2 a0_0 a0_1 l0_2).bind fun t144 => (qc.l0 kj2 t141 0 0 t144 (t141.length : Int) 0 a0_0 a0_1 l0_2)) = some r := by rw [if_neg (show ¬ (false = true) by decide)] at H; exact H
    clear H
    have H := H1
    clear H1
    replace H := Option.bind_eq_some_iff.mp H
    obtain ⟨t144, A150, H⟩ := H
    replace H : (qc.l0 kj2 t141 0 0 t144 (t141.length : Int) 0 a0_0 a0_1 l0_2) = some r := H
    have A15 := Aside0.mk A150
    clear A150
    have H' := Aside0.mk H
    clear H
    have hcz16_0 := bc BK140 0
    have hcz16_1 := bc BK140 1
    have hcz16_2 := bc BK140 2
    have hfz16_0 := qA BK140.out 0
    have hfz16_1 := qA BK140.out 1
    have hfz16_2 := qA BK140.out 2
    go_wp2_with (first | ((with_reducible refine qb (f := 21) rfl ?_); refine qRA (some 25) rfl rfl Tryz.func21 (by kernel_rfl) rfl #[.agg #[.int .i64 a0_0, .int .i64 a0_1, .slice A0_2 l0_2.length c0_2]] rfl (by (try simp only [List.map_toArray, List.map_cons, List.map_nil]); first | done | rfl | (simp only [List.length_drop, List.length_take]; rfl)) ?_; (with_reducible refine (qS.calls kj2 a0_0 a0_1 _ _ l0_2 t144 _ ?side1 ?side2 A15.out).mono ?_); (case side1 => repeat (first | exact (Kd.qiA HR0_2.out HB.out) | (with_reducible refine Kd.qcA ?_ _) | (with_reducible refine Kd.qbA ?_ _) | (with_reducible refine Kd.qtA ?_))); (case side2 => exact HC0_2.out); rintro e w17 ⟨v145, rfl, ho0, hb⟩; refine ⟨_, rfl, ?_⟩; have n0_ := Aside0.mk (Kd.quA (by (with_reducible repeat (first | apply Kd.qG | apply Kd.qH | apply Kd.qI)); exact HO_3.out) (Kd.qZB ho0) hb); have n1_ := Aside0.mk (Kd.qAA (Kd.qYB ho0 (Kd.R_lt (by (with_reducible repeat (first | apply Kd.qG | apply Kd.qH | apply Kd.qI)); exact HO_3.out))) (qa bl)); have n2_ := Aside0.mk (bb BK140 hb); have n3_ := Aside0.mk (qK bl hb); clear HO_3; clear BK140; clear HB; have HO_3 := n0_; have HO146 := n1_; have BK140 := n2_; have HB := n3_; clear n0_ n1_ n2_ n3_; (try clear hb); (try clear hb2); (try clear hk); (try clear hi); (try clear ho0); obtain ⟨Ao18, co18, eo18⟩ := Kd.qp HO_3.out; subst eo18))
    go_loopg [5, 6, 28] kj2 (fun kq v5 v6 v28 w' => ∃ (x5_2 : Int) (x6_2 : Int) (x28_2 : Int), v5 = .int .i64 x5_2 ∧ v6 = .int .i64 x6_2 ∧ v28 = .int .i64 x28_2 ∧ Aside0 (qc.l0 kq t141 x5_2 x6_2 t144 (t141.length : Int) x28_2 a0_0 a0_1 l0_2 = some r) ∧ Aside0 (kq ≤ kj2) ∧ Aside0 (Kd.R (Kd.int .i64) 3 w' w.heap.size (fun k_ => some k_ ≠ (v145 : Value).ownBlock) (.slice Ao18 t141.length co18) t141) ∧ Aside0 (Kd.R (Kd.int .i64) 3 w' w.heap.size (fun k_ => some k_ ≠ ((.slice Ao18 t141.length co18) : Value).ownBlock) v145 t144) ∧ Aside0 (w'.heap[gb140]? = some (.cells #[.int .i64 a0_0, .int .i64 a0_1, (.slice A0_2 l0_2.length c0_2)] 27 (0, 0))) ∧ Aside0 (Below w.heap.size w w'))
    case atStart => exact ⟨(0), (0), (0), (by first | rfl | (simp; done) | (simp [*]; done)), (by first | rfl | (simp; done) | (simp [*]; done)), (by first | rfl | (simp; done) | (simp [*]; done)), H', ⟨Nat.le_refl _⟩, ⟨by (with_reducible repeat (first | apply Kd.qG | apply Kd.qH | apply Kd.qI)); exact Kd.qf HO_3.out (fun _ hk => hk.2)⟩, ⟨by (with_reducible repeat (first | apply Kd.qG | apply Kd.qH | apply Kd.qI)); exact Kd.qf HO146.out (fun _ hk => hk.2)⟩, ⟨by (with_reducible repeat (first | refine qC ?_ _ | refine qD ?_ | refine qB ?_ _)); exact BK140.out⟩, ⟨bl⟩⟩
    case round =>
     clear H'
     try clear c1
     try clear c2
     try clear p2
     try clear c7
     try clear c7b0
     try clear c7b1
     try clear c8
     try clear c8b0
     try clear c12
     try clear c14
     try clear hcz10_0
     try clear hcz10_1
     try clear hcz10_2
     try clear hcz12_0
     try clear hcz12_1
     try clear hcz12_2
     try clear hcz16_0
     try clear hcz16_1
     try clear hcz16_2
     try clear hcz5_0
     try clear hcz5_1
     try clear hcz5_2
     try clear hfz10_0
     try clear hfz10_1
     try clear hfz10_2
     try clear hfz12_0
     try clear hfz12_1
     try clear hfz12_2
     try clear hfz16_0
     try clear hfz16_1
     try clear hfz16_2
     try clear hfz5_0
     try clear hfz5_1
     try clear hfz5_2
     try clear p2
     obtain ⟨x5_2, x6_2, x28_2, rfl, rfl, rfl, HA, HK2, HO_3, HO_25, BK140, HB⟩ := hrel
     cases gk with
     | zero => exact absurd HA.out (by simp [qc.l0])
     | succ k2 =>
      have H := HA.out
      clear HA
      simp only [qc.l0] at H
      by_cases c19 : x28_2 < (t141.length : Int)
      ·rw [if_pos c19] at H
       have c19b0 : decide (x28_2 < (t141.length : Int)) = true := decide_eq_true c19
       clear c19
       by_cases c20 : 0 ≤ x28_2
       ·rw [if_pos c20] at H
        have c20b0 : decide (0 ≤ x28_2) = true := decide_eq_true c20
        clear c20
        by_cases c21 : x28_2 < (t141.length : Int)
        ·rw [if_pos c21] at H
         have c21b0 : decide (x28_2 < (t141.length : Int)) = true := decide_eq_true c21
         clear c21
         by_cases c22 : 0 ≤ (rd t141 x28_2)
         ·rw [if_pos c22] at H
          have c22b0 : decide (0 ≤ (rd t141 x28_2)) = true := decide_eq_true c22
          clear c22
          by_cases c23 : (rd t141 x28_2) < (t144.length : Int)
          ·rw [if_pos c23] at H
           have c23b0 : decide ((rd t141 x28_2) < (t144.length : Int)) = true := decide_eq_true c23
           clear c23
           by_cases c24 : (rd t144 (rd t141 x28_2)) < 0
           ·rw [if_pos c24] at H
            have c24b0 : decide ((rd t144 (rd t141 x28_2)) < 0) = true := decide_eq_true c24
            clear c24
            obtain rfl := Option.some.inj H
            have p147 : 0 ≤ (x28_2 : Int) := of_decide_eq_true (by first | (with_reducible assumption) | assumption)
            have q147 : x28_2 < (t141.length : Int) := of_decide_eq_true (by first | (with_reducible assumption) | assumption)
            obtain ⟨ad147, e147, hx147_0⟩ := Kd.qCA (Kd.qQ HO_3.out).2.2 x28_2 p147 q147
            cases e147
            replace p147 := eq_true p147
            replace q147 := eq_true q147
            obtain ⟨Ao25, co25, eo25⟩ := Kd.qp HO_25.out
            subst eo25
            have p148 : 0 ≤ ((rd t141 x28_2) : Int) := of_decide_eq_true (by first | (with_reducible assumption) | assumption)
            have q148 : (rd t141 x28_2) < (t144.length : Int) := of_decide_eq_true (by first | (with_reducible assumption) | assumption)
            obtain ⟨ad148, e148, hx148_0⟩ := Kd.qCA (Kd.qQ HO_25.out).2.2 (rd t141 x28_2) p148 q148
            cases e148
            replace p148 := eq_true p148
            replace q148 := eq_true q148
            go_wp2
            go_ret
            exact ⟨by first | rfl | (simp [qN, qM] <;> rfl) | (simp [*, qN, qM] <;> rfl), bl⟩
           ·rw [if_neg c24] at H
            have c24b0 : decide ((rd t144 (rd t141 x28_2)) < 0) = false := decide_eq_false c24
            clear c24
            by_cases c26 : a0_0 = 0
            ·rw [if_pos c26] at H
             exact absurd H (by simp)
            ·rw [if_neg c26] at H
             have c26b0 : (a0_0 == 0) = false := beq_eq_false_iff_ne.mpr c26
             have c26b1 : (a0_0 != 0) = true := bne_iff_ne.mpr c26
             obtain ⟨ji27, hji27⟩ : ∃ j_ : Int, (Int.tmod (rd t141 x28_2) a0_0) = j_ := ⟨_, rfl⟩
             replace H : (if 0 ≤ (ji27) then (if 0 ≤ (wrap64 (Int.tdiv (rd t141 x28_2) a0_0)) then (qc.l0 k2 t141 (Go.bits .or .i64 x5_2 (shl .i64 1 (ji27))) (Go.bits .or .i64 x6_2 (shl .i64 1 (wrap64 (Int.tdiv (rd t141 x28_2) a0_0)))) t144 (t141.length : Int) (wrap64 (x28_2 + 1)) a0_0 a0_1 l0_2) else (none)) else (none)) = some r := by first | (rw [hji27] at H; exact H) | (simp only [hji27] at H ⊢; exact H)
             by_cases c28 : 0 ≤ (ji27)
             ·rw [if_pos c28] at H
              have c28b0 := eq_true c28
              have c28b1 : decide (0 ≤ (ji27)) = true := decide_eq_true c28
              clear c28
              obtain ⟨ji29, hji29⟩ : ∃ j_ : Int, (shl .i64 1 (ji27)) = j_ := ⟨_, rfl⟩
              replace H : (if 0 ≤ (wrap64 (Int.tdiv (rd t141 x28_2) a0_0)) then (qc.l0 k2 t141 (Go.bits .or .i64 x5_2 (ji29)) (Go.bits .or .i64 x6_2 (shl .i64 1 (wrap64 (Int.tdiv (rd t141 x28_2) a0_0)))) t144 (t141.length : Int) (wrap64 (x28_2 + 1)) a0_0 a0_1 l0_2) else (none)) = some r := by first | (rw [hji29] at H; exact H) | (simp only [hji29] at H ⊢; exact H)
              have hji29_ : (IntKind.i64.wrap (1 * 2 ^ min (ji27).toNat 64)) = ji29 := hji29
              have hji29z : (ji27) ≤ 64 → (IntKind.i64.wrap (1 * 2 ^ (ji27).toNat)) = ji29 := qhB hji29
              have hji29u : (IntKind.i64.wrap (2 ^ min (ji27).toNat 64)) = ji29 := by have h_ := hji29_; rw [Int.one_mul] at h_; exact h_
              have hji29v : (ji27) ≤ 64 → (IntKind.i64.wrap (2 ^ (ji27).toNat)) = ji29 := fun hle_ => by have h_ := hji29z hle_; rw [Int.one_mul] at h_; exact h_
              have hji29y : (wrap64 (1 * 2 ^ min (ji27).toNat 64)) = ji29 := (i64_w _).symm.trans hji29_
              have hji29x : (ji27) ≤ 64 → (wrap64 (1 * 2 ^ (ji27).toNat)) = ji29 := fun h_ => (i64_w _).symm.trans (hji29z h_)
              obtain ⟨ji30, hji30⟩ : ∃ j_ : Int, (wrap64 (Int.tdiv (rd t141 x28_2) a0_0)) = j_ := ⟨_, rfl⟩
              replace H : (if 0 ≤ (ji30) then (qc.l0 k2 t141 (Go.bits .or .i64 x5_2 (ji29)) (Go.bits .or .i64 x6_2 (shl .i64 1 (ji30))) t144 (t141.length : Int) (wrap64 (x28_2 + 1)) a0_0 a0_1 l0_2) else (none)) = some r := by first | (rw [hji30] at H; exact H) | (simp only [hji30] at H ⊢; exact H)
              have hji30w : (IntKind.i64.wrap (Int.tdiv (rd t141 x28_2) a0_0)) = ji30 := (i64_w _).trans hji30
              by_cases c31 : 0 ≤ (ji30)
              ·rw [if_pos c31] at H
               have c31b0 := eq_true c31
               have c31b1 : decide (0 ≤ (ji30)) = true := decide_eq_true c31
               clear c31
               obtain ⟨ji32, hji32⟩ : ∃ j_ : Int, (shl .i64 1 (ji30)) = j_ := ⟨_, rfl⟩
               replace H : (qc.l0 k2 t141 (Go.bits .or .i64 x5_2 (ji29)) (Go.bits .or .i64 x6_2 (ji32)) t144 (t141.length : Int) (wrap64 (x28_2 + 1)) a0_0 a0_1 l0_2) = some r := by first | (rw [hji32] at H; exact H) | (simp only [hji32] at H ⊢; exact H)
               have hji32_ : (IntKind.i64.wrap (1 * 2 ^ min (ji30).toNat 64)) = ji32 := hji32
               have hji32z : (ji30) ≤ 64 → (IntKind.i64.wrap (1 * 2 ^ (ji30).toNat)) = ji32 := qhB hji32
               have hji32u : (IntKind.i64.wrap (2 ^ min (ji30).toNat 64)) = ji32 := by have h_ := hji32_; rw [Int.one_mul] at h_; exact h_
               have hji32v : (ji30) ≤ 64 → (IntKind.i64.wrap (2 ^ (ji30).toNat)) = ji32 := fun hle_ => by have h_ := hji32z hle_; rw [Int.one_mul] at h_; exact h_
               have hji32y : (wrap64 (1 * 2 ^ min (ji30).toNat 64)) = ji32 := (i64_w _).symm.trans hji32_
               have hji32x : (ji30) ≤ 64 → (wrap64 (1 * 2 ^ (ji30).toNat)) = ji32 := fun h_ => (i64_w _).symm.trans (hji32z h_)
               have H' := Aside0.mk H
               clear H
               have p147 : 0 ≤ (x28_2 : Int) := of_decide_eq_true (by first | (with_reducible assumption) | assumption)
               have q147 : x28_2 < (t141.length : Int) := of_decide_eq_true (by first | (with_reducible assumption) | assumption)
               obtain ⟨ad147, e147, hx147_0⟩ := Kd.qCA (Kd.qQ HO_3.out).2.2 x28_2 p147 q147
               cases e147
               replace p147 := eq_true p147
               replace q147 := eq_true q147
               obtain ⟨Ao33, co33, eo33⟩ := Kd.qp HO_25.out
               subst eo33
               have p148 : 0 ≤ ((rd t141 x28_2) : Int) := of_decide_eq_true (by first | (with_reducible assumption) | assumption)
               have q148 : (rd t141 x28_2) < (t144.length : Int) := of_decide_eq_true (by first | (with_reducible assumption) | assumption)
               obtain ⟨ad148, e148, hx148_0⟩ := Kd.qCA (Kd.qQ HO_25.out).2.2 (rd t141 x28_2) p148 q148
               cases e148
               replace p148 := eq_true p148
               replace q148 := eq_true q148
               have hcz34_0 := bc BK140 0
               have hcz34_1 := bc BK140 1
               have hcz34_2 := bc BK140 2
               have hfz34_0 := qA BK140.out 0
               have hfz34_1 := qA BK140.out 1
               have hfz34_2 := qA BK140.out 2
               go_wp2
               go_roundg k2
               case measure => have := HJ2.out; have := HK2.out; omega
               case rel => exact ⟨(Go.bits .or .i64 x5_2 (ji29)), (Go.bits .or .i64 x6_2 (ji32)), (wrap64 (x28_2 + 1)), (by first | rfl | (simp; done) | (simp only [← hji29] <;> (first | rfl | simp)) | (simp [*]; done)), (by first | rfl | (simp; done) | (simp only [← hji32] <;> (first | rfl | simp)) | (simp [*]; done)), (by first | rfl | (simp; done) | (simp [*]; done)), H', ⟨by have := HJ2.out; have := HK2.out; omega⟩, ⟨by (with_reducible repeat (first | apply Kd.qG | apply Kd.qH | apply Kd.qI)); exact HO_3.out⟩, ⟨by (with_reducible repeat (first | apply Kd.qG | apply Kd.qH | apply Kd.qI)); exact HO_25.out⟩, ⟨by (with_reducible repeat (first | refine qC ?_ _ | refine qD ?_ | refine qB ?_ _)); exact BK140.out⟩, ⟨bl⟩⟩
              ·rw [if_neg c31] at H
               exact absurd H (by simp)
             ·rw [if_neg c28] at H
              exact absurd H (by simp)
          ·rw [if_neg c23] at H
           exact absurd H (by simp)
         ·rw [if_neg c22] at H
          exact absurd H (by simp)
        ·rw [if_neg c21] at H
         exact absurd H (by simp)
       ·rw [if_neg c20] at H
        exact absurd H (by simp)
      ·rw [if_neg c19] at H
       have c19b0 : decide (x28_2 < (t141.length : Int)) = false := decide_eq_false c19
       clear c19
       by_cases c35 : 0 ≤ a0_0
       ·rw [if_pos c35] at H
        have c35b0 := eq_true c35
        have c35b1 : decide (0 ≤ a0_0) = true := decide_eq_true c35
        clear c35
        obtain ⟨ji36, hji36⟩ : ∃ j_ : Int, (shl .i64 1 a0_0) = j_ := ⟨_, rfl⟩
        replace H : (if x5_2 = (wrap64 ((ji36) - 1)) then (if 0 ≤ a0_1 then (some (x6_2 == (wrap64 ((shl .i64 1 a0_1) - 1)))) else (none)) else (some false)) = some r := by first | (rw [hji36] at H; exact H) | (simp only [hji36] at H ⊢; exact H)
        have hji36_ : (IntKind.i64.wrap (1 * 2 ^ min a0_0.toNat 64)) = ji36 := hji36
        have hji36z : a0_0 ≤ 64 → (IntKind.i64.wrap (1 * 2 ^ a0_0.toNat)) = ji36 := qhB hji36
        have hji36u : (IntKind.i64.wrap (2 ^ min a0_0.toNat 64)) = ji36 := by have h_ := hji36_; rw [Int.one_mul] at h_; exact h_
        have hji36v : a0_0 ≤ 64 → (IntKind.i64.wrap (2 ^ a0_0.toNat)) = ji36 := fun hle_ => by have h_ := hji36z hle_; rw [Int.one_mul] at h_; exact h_
        have hji36y : (wrap64 (1 * 2 ^ min a0_0.toNat 64)) = ji36 := (i64_w _).symm.trans hji36_
        have hji36x : a0_0 ≤ 64 → (wrap64 (1 * 2 ^ a0_0.toNat)) = ji36 := fun h_ => (i64_w _).symm.trans (hji36z h_)
        by_cases c37 : x5_2 = (wrap64 ((ji36) - 1))
        ·rw [if_pos c37] at H
         have c37b0 : (x5_2 == (wrap64 ((ji36) - 1))) = true := beq_iff_eq.mpr c37
         have c37b1 : (x5_2 != (wrap64 ((ji36) - 1))) = false := bne_eq_false_iff_eq.mpr c37
         clear c37
         by_cases c38 : 0 ≤ a0_1
         ·rw [if_pos c38] at H
          have c38b0 := eq_true c38
          have c38b1 : decide (0 ≤ a0_1) = true := decide_eq_true c38
          clear c38
          obtain ⟨ji39, hji39⟩ : ∃ j_ : Int, (shl .i64 1 a0_1) = j_ := ⟨_, rfl⟩
          replace H : (some (x6_2 == (wrap64 ((ji39) - 1)))) = some r := by first | (rw [hji39] at H; exact H) | (simp only [hji39] at H ⊢; exact H)
          have hji39_ : (IntKind.i64.wrap (1 * 2 ^ min a0_1.toNat 64)) = ji39 := hji39
          have hji39z : a0_1 ≤ 64 → (IntKind.i64.wrap (1 * 2 ^ a0_1.toNat)) = ji39 := qhB hji39
          have hji39u : (IntKind.i64.wrap (2 ^ min a0_1.toNat 64)) = ji39 := by have h_ := hji39_; rw [Int.one_mul] at h_; exact h_
          have hji39v : a0_1 ≤ 64 → (IntKind.i64.wrap (2 ^ a0_1.toNat)) = ji39 := fun hle_ => by have h_ := hji39z hle_; rw [Int.one_mul] at h_; exact h_
          have hji39y : (wrap64 (1 * 2 ^ min a0_1.toNat 64)) = ji39 := (i64_w _).symm.trans hji39_
          have hji39x : a0_1 ≤ 64 → (wrap64 (1 * 2 ^ a0_1.toNat)) = ji39 := fun h_ => (i64_w _).symm.trans (hji39z h_)
          obtain rfl := Option.some.inj H
          have hcz40_0 := bc BK140 0
          have hcz40_1 := bc BK140 1
          have hcz40_2 := bc BK140 2
          have hfz40_0 := qA BK140.out 0
          have hfz40_1 := qA BK140.out 1
          have hfz40_2 := qA BK140.out 2
          go_wp2
          go_ret
          exact ⟨by first | rfl | (simp [qN, qM] <;> rfl) | (simp only [← hji36, ← hji39]; first | rfl | (simp [qN, qM] <;> rfl)) | (simp [*, qN, qM] <;> rfl), bl⟩
         ·rw [if_neg c38] at H
          exact absurd H (by simp)
        ·rw [if_neg c37] at H
         have c37b0 : (x5_2 == (wrap64 ((ji36) - 1))) = false := beq_eq_false_iff_ne.mpr c37
         have c37b1 : (x5_2 != (wrap64 ((ji36) - 1))) = true := bne_iff_ne.mpr c37
         obtain rfl := Option.some.inj H
         have hcz41_0 := bc BK140 0
         have hcz41_1 := bc BK140 1
         have hcz41_2 := bc BK140 2
         have hfz41_0 := qA BK140.out 0
         have hfz41_1 := qA BK140.out 1
         have hfz41_2 := qA BK140.out 2
         go_wp2
         go_ret
         exact ⟨by first | rfl | (simp [qN, qM] <;> rfl) | (simp only [← hji36]; first | rfl | (simp [qN, qM] <;> rfl)) | (simp [*, qN, qM] <;> rfl), bl⟩
       ·rw [if_neg c35] at H
        exact absurd H (by simp)
def qZA.f (l0 : List Int) : Option (Int × Int × Int × Int × Int × Int) := if 0 < (l0.length : Int) then (if 1 < (l0.length : Int) then (if 2 < (l0.length : Int) then (if 3 < (l0.length : Int) then (if 4 < (l0.length : Int) then (if 5 < (l0.length : Int) then (some (rd l0 0, rd l0 1, rd l0 2, rd l0 3, rd l0 4, rd l0 5)) else (none)) else (none)) else (none)) else (none)) else (none)) else (none)
def qZA.T1 : Bool × List (List Nat × List Nat) := (true, [([], []), ([0], [0]), ([1], [1]), ([], []), ([3], [3]), ([4], [4]), ([], []), ([6], [6]), ([7], [7]), ([], []), ([9], [9]), ([10], [10]), ([], []), ([12], [12]), ([13], [13]), ([], []), ([15], [15]), ([16], [16]), ([2, 5, 8, 11, 14, 17], [2, 5, 8, 11, 14, 17]), ([18, 0, 1, 2, 3, 4, 5, 6, 7, 8, 9, 10, 11, 12, 13, 14, 15, 16, 17, 18], [18])])
def qZA.B1 : List Nat := [0, 1, 3, 0, 8, 24, 0, 64, 192, 0, 512, 1536, 0, 4096, 12288, 0, 32768, 98304, 262143, 524287]
theorem qZA.tab1 : rtab .any (opsOf Tryz.f31 1) = qZA.T1 := by kernel_rfl
theorem qZA.bits1 : waitsOk qZA.T1.2 qZA.B1 = true := by kernel_rfl
set_option maxHeartbeats 8000000 in
set_option maxRecDepth 100000 in
theorem qZA.calls (A0 : Option Addr) (c0 : Nat) (l0 : List Int) (r1 : Int) (r2 : Int) (r3 : Int) (r4 : Int) (r5 : Int) (r6 : Int) (w : World) (hr0 : Kd.C (Kd.int .i64) w A0 l0.length l0) (hc0 : l0.length ≤ c0) (h : qZA.f l0 = some (r1, r2, r3, r4, r5, r6)) :
  Calls Tryz.prog 31 #[.slice A0 l0.length c0] w fun e w' => e = .returned (.agg #[.int .i64 r1, .int .i64 r2, .int .i64 r3, .int .i64 r4, .int .i64 r5, .int .i64 r6]) ∧ Below w.heap.size w w' := by
 have hu53 := Tryz.underlying53
 have HR0 := Aside0.mk hr0
 have HC0 := Aside0.mk hc0
 clear hr0 hc0
 have HB := Aside0.mk (Below.refl w.heap.size w)
 have H : (if 0 < (l0.length : Int) then (if 1 < (l0.length : Int) then (if 2 < (l0.length : Int) then (if 3 < (l0.length : Int) then (if 4 < (l0.length : Int) then (if 5 < (l0.length : Int) then (some (rd l0 0, rd l0 1, rd l0 2, rd l0 3, rd l0 4, rd l0 5)) else (none)) else (none)) else (none)) else (none)) else (none)) else (none)) = some (r1, r2, r3, r4, r5, r6) := h
 clear h
 by_cases c2 : 0 < (l0.length : Int)
 ·rw [if_pos c2] at H
  have c2b0 : decide (0 < (l0.length : Int)) = true := decide_eq_true c2
  have c2b1 : decide (0 < l0.length) = true := decide_eq_true (by omega)
  clear c2
  by_cases c3 : 1 < (l0.length : Int)
  ·rw [if_pos c3] at H
   have c3b0 : decide (1 < (l0.length : Int)) = true := decide_eq_true c3
   have c3b1 : decide (1 < l0.length) = true := decide_eq_true (by omega)
   clear c3
   by_cases c4 : 2 < (l0.length : Int)
   ·rw [if_pos c4] at H
    have c4b0 : decide (2 < (l0.length : Int)) = true := decide_eq_true c4
    have c4b1 : decide (2 < l0.length) = true := decide_eq_true (by omega)
    clear c4
    by_cases c5 : 3 < (l0.length : Int)
    ·rw [if_pos c5] at H
     have c5b0 : decide (3 < (l0.length : Int)) = true := decide_eq_true c5
     have c5b1 : decide (3 < l0.length) = true := decide_eq_true (by omega)
     clear c5
     by_cases c6 : 4 < (l0.length : Int)
     ·rw [if_pos c6] at H
      have c6b0 : decide (4 < (l0.length : Int)) = true := decide_eq_true c6
      have c6b1 : decide (4 < l0.length) = true := decide_eq_true (by omega)
      clear c6
      by_cases c7 : 5 < (l0.length : Int)
      ·rw [if_pos c7] at H
       have c7b0 : decide (5 < (l0.length : Int)) = true := decide_eq_true c7
       have c7b1 : decide (5 < l0.length) = true := decide_eq_true (by omega)
       clear c7
       simp only [Option.some.injEq, Prod.mk.injEq] at H
       obtain ⟨rfl, rfl, rfl, rfl, rfl, rfl⟩ := H
       go_enter Tryz.func31, Tryz.ntmps31
       try go_wp2_with (first | ((with_reducible refine qX (N := 2) rfl ?_); refine qV ?hg (N := 2) ?hd (cs := #[.int .i64 0, .int .i64 0, .int .i64 0, .int .i64 0, .int .i64 0, .int .i64 0]) (t := 53) ?hr ?_; (case hd => rfl); (case hg => rfl); (case hr => first | (go_simp; done) | (go_simp; rfl)); intro gb149 hg w8 hbox hb; have n0_ := Aside0.mk (qK bl hb); have n1_ := Aside0.mk (hbox); have n2_ := Aside0.mk ((gg hg)); have n3_ := Aside0.mk ((gg hg)); clear HB; have HB := n0_; have BK149 := n1_; have GW149 := n2_; have GE149 := n3_; clear n0_ n1_ n2_ n3_; clear hb hbox hg))
       have n0_ := Aside0.mk (qD BK149.out)
       have n1_ := Aside0.mk (qh HB.out)
       clear BK149
       clear HB
       have BK149 := n0_
       have HB := n1_
       clear n0_ n1_
       have p150 : 0 ≤ (0 : Int) := (by omega)
       have q150 : 0 < (l0.length : Int) := of_decide_eq_true (by first | (with_reducible assumption) | assumption)
       obtain ⟨ad150, e150, hx150_0⟩ := Kd.qCA HR0.out 0 p150 q150
       have hw150_0 := hx150_0
       (try rw [show ((0 : Int)).toNat = 0 from rfl] at hw150_0)
       (try rw [show 0 * 1 = 0 from rfl] at hw150_0)
       (try rw [Addr.add_zero'] at hw150_0)
       cases e150
       have qi150 : (0 < l0.length) = True := eq_true (by omega)
       (try rw [show ((0 : Int)).toNat = 0 from rfl] at hx150_0)
       (try rw [Addr.add_zero'] at hx150_0)
       replace hx150_0 := (HB.out.cell (World.block_lt_of_cell? w _ hx150_0)).trans hx150_0
       replace p150 := eq_true p150
       replace q150 := eq_true q150
       have p151 : 0 ≤ (1 : Int) := (by omega)
       have q151 : 1 < (l0.length : Int) := of_decide_eq_true (by first | (with_reducible assumption) | assumption)
       obtain ⟨ad151, e151, hx151_0⟩ := Kd.qCA HR0.out 1 p151 q151
       have hw151_0 := hx151_0
       (try rw [show ((1 : Int)).toNat = 1 from rfl] at hw151_0)
       (try rw [show 1 * 1 = 1 from rfl] at hw151_0)
       (try simp only [Nat.reduceMul, Nat.reduceEqDiff, Go.Addr.add, ↓reduceIte] at hw151_0)
       obtain rfl : ad150 = ad151 := (by injection e151)
       (try simp only [show (1 : Int).toNat = 1 from rfl, Nat.reduceMul, Nat.reduceEqDiff, Go.Addr.add, ↓reduceIte] at hx151_0)
       have qi151 : (1 < l0.length) = True := eq_true (by omega)
       (try rw [show ((1 : Int)).toNat = 1 from rfl] at hx151_0)
       replace hx151_0 := (HB.out.cell (World.block_lt_of_cell? w _ hx151_0)).trans hx151_0
       replace p151 := eq_true p151
       replace q151 := eq_true q151
       have p152 : 0 ≤ (2 : Int) := (by omega)
       have q152 : 2 < (l0.length : Int) := of_decide_eq_true (by first | (with_reducible assumption) | assumption)
       obtain ⟨ad152, e152, hx152_0⟩ := Kd.qCA HR0.out 2 p152 q152
       have hw152_0 := hx152_0
       (try rw [show ((2 : Int)).toNat = 2 from rfl] at hw152_0)
       (try rw [show 2 * 1 = 2 from rfl] at hw152_0)
       (try simp only [Nat.reduceMul, Nat.reduceEqDiff, Go.Addr.add, ↓reduceIte] at hw152_0)
       obtain rfl : ad150 = ad152 := (by injection e152)
       (try simp only [show (2 : Int).toNat = 2 from rfl, Nat.reduceMul, Nat.reduceEqDiff, Go.Addr.add, ↓reduceIte] at hx152_0)
       have qi152 : (2 < l0.length) = True := eq_true (by omega)
       (try rw [show ((2 : Int)).toNat = 2 from rfl] at hx152_0)
       replace hx152_0 := (HB.out.cell (World.block_lt_of_cell? w _ hx152_0)).trans hx152_0
       replace p152 := eq_true p152
       replace q152 := eq_true q152
       have p153 : 0 ≤ (3 : Int) := (by omega)
       have q153 : 3 < (l0.length : Int) := of_decide_eq_true (by first | (with_reducible assumption) | assumption)
       obtain ⟨ad153, e153, hx153_0⟩ := Kd.qCA HR0.out 3 p153 q153
       have hw153_0 := hx153_0
       (try rw [show ((3 : Int)).toNat = 3 from rfl] at hw153_0)
       (try rw [show 3 * 1 = 3 from rfl] at hw153_0)
       (try simp only [Nat.reduceMul, Nat.reduceEqDiff, Go.Addr.add, ↓reduceIte] at hw153_0)
       obtain rfl : ad150 = ad153 := (by injection e153)
       (try simp only [show (3 : Int).toNat = 3 from rfl, Nat.reduceMul, Nat.reduceEqDiff, Go.Addr.add, ↓reduceIte] at hx153_0)
       have qi153 : (3 < l0.length) = True := eq_true (by omega)
       (try rw [show ((3 : Int)).toNat = 3 from rfl] at hx153_0)
       replace hx153_0 := (HB.out.cell (World.block_lt_of_cell? w _ hx153_0)).trans hx153_0
       replace p153 := eq_true p153
       replace q153 := eq_true q153
       have p154 : 0 ≤ (4 : Int) := (by omega)
       have q154 : 4 < (l0.length : Int) := of_decide_eq_true (by first | (with_reducible assumption) | assumption)
       obtain ⟨ad154, e154, hx154_0⟩ := Kd.qCA HR0.out 4 p154 q154
       have hw154_0 := hx154_0
       (try rw [show ((4 : Int)).toNat = 4 from rfl] at hw154_0)
       (try rw [show 4 * 1 = 4 from rfl] at hw154_0)
       (try simp only [Nat.reduceMul, Nat.reduceEqDiff, Go.Addr.add, ↓reduceIte] at hw154_0)
       obtain rfl : ad150 = ad154 := (by injection e154)
       (try simp only [show (4 : Int).toNat = 4 from rfl, Nat.reduceMul, Nat.reduceEqDiff, Go.Addr.add, ↓reduceIte] at hx154_0)
       have qi154 : (4 < l0.length) = True := eq_true (by omega)
       (try rw [show ((4 : Int)).toNat = 4 from rfl] at hx154_0)
       replace hx154_0 := (HB.out.cell (World.block_lt_of_cell? w _ hx154_0)).trans hx154_0
       replace p154 := eq_true p154
       replace q154 := eq_true q154
       have p155 : 0 ≤ (5 : Int) := (by omega)
       have q155 : 5 < (l0.length : Int) := of_decide_eq_true (by first | (with_reducible assumption) | assumption)
       obtain ⟨ad155, e155, hx155_0⟩ := Kd.qCA HR0.out 5 p155 q155
       have hw155_0 := hx155_0
       (try rw [show ((5 : Int)).toNat = 5 from rfl] at hw155_0)
       (try rw [show 5 * 1 = 5 from rfl] at hw155_0)
       (try simp only [Nat.reduceMul, Nat.reduceEqDiff, Go.Addr.add, ↓reduceIte] at hw155_0)
       obtain rfl : ad150 = ad155 := (by injection e155)
       (try simp only [show (5 : Int).toNat = 5 from rfl, Nat.reduceMul, Nat.reduceEqDiff, Go.Addr.add, ↓reduceIte] at hx155_0)
       have qi155 : (5 < l0.length) = True := eq_true (by omega)
       (try rw [show ((5 : Int)).toNat = 5 from rfl] at hx155_0)
       replace hx155_0 := (HB.out.cell (World.block_lt_of_cell? w _ hx155_0)).trans hx155_0
       replace p155 := eq_true p155
       replace q155 := eq_true q155
       refine qxA (n := 20) (S := fun w' => w'.cell? ad150 = some (.int .i64 (rd l0 0)) ∧ w'.cell? ⟨ad150.block, ad150.off + 1, none⟩ = some (.int .i64 (rd l0 1)) ∧ w'.cell? ⟨ad150.block, ad150.off + 2, none⟩ = some (.int .i64 (rd l0 2)) ∧ w'.cell? ⟨ad150.block, ad150.off + 3, none⟩ = some (.int .i64 (rd l0 3)) ∧ w'.cell? ⟨ad150.block, ad150.off + 4, none⟩ = some (.int .i64 (rd l0 4)) ∧ w'.cell? ⟨ad150.block, ad150.off + 5, none⟩ = some (.int .i64 (rd l0 5))) (ds := []) #[false, false, false, false, false, false, false, false, false, false, false, false, false, false, false, false, false, false, false, false] (by kernel_rfl) rfl rfl ⟨((HB.out.cell (World.block_lt_of_cell? w _ hw150_0)).trans hw150_0), ((HB.out.cell (World.block_lt_of_cell? w _ hw151_0)).trans hw151_0), ((HB.out.cell (World.block_lt_of_cell? w _ hw152_0)).trans hw152_0), ((HB.out.cell (World.block_lt_of_cell? w _ hw153_0)).trans hw153_0), ((HB.out.cell (World.block_lt_of_cell? w _ hw154_0)).trans hw154_0), ((HB.out.cell (World.block_lt_of_cell? w _ hw155_0)).trans hw155_0)⟩ (fun hHeld => ?_); refine qNA qZA.tab1 qZA.bits1 (fun HT_ HW_ => ?_)
       generalize w8.drew = w9 at BK149 HB hx150_0 hx151_0 hx152_0 hx153_0 hx154_0 hx155_0 hHeld ⊢
       refine pS (i := 0) (N := some 3) #[true, false, false, false, false, false, false, false, false, false, false, false, false, false, false, false, false, false, false, false] HT_ ?_
       refine pS (i := 1) (N := some 4) #[true, true, false, false, false, false, false, false, false, false, false, false, false, false, false, false, false, false, false, false] HT_ ?_
       refine pS (i := 3) (N := some 6) #[true, true, false, true, false, false, false, false, false, false, false, false, false, false, false, false, false, false, false, false] HT_ ?_
       refine pS (i := 4) (N := some 7) #[true, true, false, true, true, false, false, false, false, false, false, false, false, false, false, false, false, false, false, false] HT_ ?_
       refine pS (i := 6) (N := some 9) #[true, true, false, true, true, false, true, false, false, false, false, false, false, false, false, false, false, false, false, false] HT_ ?_
       refine pS (i := 7) (N := some 10) #[true, true, false, true, true, false, true, true, false, false, false, false, false, false, false, false, false, false, false, false] HT_ ?_
       refine pS (i := 9) (N := some 12) #[true, true, false, true, true, false, true, true, false, true, false, false, false, false, false, false, false, false, false, false] HT_ ?_
       refine pS (i := 10) (N := some 13) #[true, true, false, true, true, false, true, true, false, true, true, false, false, false, false, false, false, false, false, false] HT_ ?_
       refine pS (i := 12) (N := some 15) #[true, true, false, true, true, false, true, true, false, true, true, false, true, false, false, false, false, false, false, false] HT_ ?_
       refine pS (i := 13) (N := some 16) #[true, true, false, true, true, false, true, true, false, true, true, false, true, true, false, false, false, false, false, false] HT_ ?_
       refine pS (i := 15) (N := some 18) #[true, true, false, true, true, false, true, true, false, true, true, false, true, true, false, true, false, false, false, false] HT_ ?_
       refine pS (i := 16) (N := some 19) #[true, true, false, true, true, false, true, true, false, true, true, false, true, true, false, true, true, false, false, false] HT_ ?_
       refine tS (i := 2) (N := some 5) #[true, true, true, true, true, false, true, true, false, true, true, false, true, true, false, true, true, false, false, false] HT_ HW_ hHeld ?_
       refine tS (i := 5) (N := some 8) #[true, true, true, true, true, true, true, true, false, true, true, false, true, true, false, true, true, false, false, false] HT_ HW_ hHeld ?_
       refine tS (i := 8) (N := some 11) #[true, true, true, true, true, true, true, true, true, true, true, false, true, true, false, true, true, false, false, false] HT_ HW_ hHeld ?_
       refine tS (i := 11) (N := some 14) #[true, true, true, true, true, true, true, true, true, true, true, true, true, true, false, true, true, false, false, false] HT_ HW_ hHeld ?_
       refine tS (i := 14) (N := some 17) #[true, true, true, true, true, true, true, true, true, true, true, true, true, true, true, true, true, false, false, false] HT_ HW_ hHeld ?_
       refine tS (i := 17) (N := some 20) #[true, true, true, true, true, true, true, true, true, true, true, true, true, true, true, true, true, true, false, false] HT_ HW_ hHeld ?_
       refine pS (i := 18) (N := some 21) #[true, true, true, true, true, true, true, true, true, true, true, true, true, true, true, true, true, true, true, false] HT_ ?_
       refine one_ (i := 19) (N := none) #[true, true, true, true, true, true, true, true, true, true, true, true, true, true, true, true, true, true, true, true] rfl rfl (qjA HT_.out (by kernel_rfl)) (by decide) (fun K hK => ?_)
       have hs10 : w9.cell? ⟨gb149, 0, none⟩ = some (.int .i64 0) := (qU BK149.out 0).trans rfl
       have hfs10 := qA BK149.out 0
       have hs11 : w9.cell? ⟨gb149, 1, none⟩ = some (.int .i64 0) := (qU BK149.out 1).trans rfl
       have hfs11 := qA BK149.out 1
       have hs12 : w9.cell? ⟨gb149, 2, none⟩ = some (.int .i64 0) := (qU BK149.out 2).trans rfl
       have hfs12 := qA BK149.out 2
       have hs13 : w9.cell? ⟨gb149, 3, none⟩ = some (.int .i64 0) := (qU BK149.out 3).trans rfl
       have hfs13 := qA BK149.out 3
       have hs14 : w9.cell? ⟨gb149, 4, none⟩ = some (.int .i64 0) := (qU BK149.out 4).trans rfl
       have hfs14 := qA BK149.out 4
       have hs15 : w9.cell? ⟨gb149, 5, none⟩ = some (.int .i64 0) := (qU BK149.out 5).trans rfl
       have hfs15 := qA BK149.out 5
       refine skip_ (w1 := ?_) (by rfl) rfl ?_ ?_
       rotate_left
       ·go_simp
        rfl
       refine hK.out _ _ ⟨((qr (p := ⟨gb149, _, none⟩) (by first | exact Nat.ne_of_lt (Nat.lt_of_lt_of_le (by have := World.block_lt_of_cell? _ _ hw150_0; first | rwa [qE] at this | exact this) GW149.out) | (rw [qE]; exact Nat.ne_of_lt (Nat.lt_of_lt_of_le (by have := World.block_lt_of_cell? _ _ hw150_0; first | rwa [qE] at this | exact this) GW149.out)) | (show (Addr.add _ _).block ≠ _; rw [qE]; exact Nat.ne_of_lt (Nat.lt_of_lt_of_le (by have := World.block_lt_of_cell? _ _ hw150_0; first | rwa [qE] at this | exact this) GW149.out)) | (dsimp only; exact Nat.ne_of_lt (Nat.lt_of_lt_of_le (by have := World.block_lt_of_cell? _ _ hw150_0; first | rwa [qE] at this | exact this) GW149.out))) _).trans (((qr (p := ⟨gb149, _, none⟩) (by first | exact Nat.ne_of_lt (Nat.lt_of_lt_of_le (by have := World.block_lt_of_cell? _ _ hw150_0; first | rwa [qE] at this | exact this) GW149.out) | (rw [qE]; exact Nat.ne_of_lt (Nat.lt_of_lt_of_le (by have := World.block_lt_of_cell? _ _ hw150_0; first | rwa [qE] at this | exact this) GW149.out)) | (show (Addr.add _ _).block ≠ _; rw [qE]; exact Nat.ne_of_lt (Nat.lt_of_lt_of_le (by have := World.block_lt_of_cell? _ _ hw150_0; first | rwa [qE] at this | exact this) GW149.out)) | (dsimp only; exact Nat.ne_of_lt (Nat.lt_of_lt_of_le (by have := World.block_lt_of_cell? _ _ hw150_0; first | rwa [qE] at this | exact this) GW149.out))) _).trans (((qr (p := ⟨gb149, _, none⟩) (by first | exact Nat.ne_of_lt (Nat.lt_of_lt_of_le (by have := World.block_lt_of_cell? _ _ hw150_0; first | rwa [qE] at this | exact this) GW149.out) | (rw [qE]; exact Nat.ne_of_lt (Nat.lt_of_lt_of_le (by have := World.block_lt_of_cell? _ _ hw150_0; first | rwa [qE] at this | exact this) GW149.out)) | (show (Addr.add _ _).block ≠ _; rw [qE]; exact Nat.ne_of_lt (Nat.lt_of_lt_of_le (by have := World.block_lt_of_cell? _ _ hw150_0; first | rwa [qE] at this | exact this) GW149.out)) | (dsimp only; exact Nat.ne_of_lt (Nat.lt_of_lt_of_le (by have := World.block_lt_of_cell? _ _ hw150_0; first | rwa [qE] at this | exact this) GW149.out))) _).trans (((qr (p := ⟨gb149, _, none⟩) (by first | exact Nat.ne_of_lt (Nat.lt_of_lt_of_le (by have := World.block_lt_of_cell? _ _ hw150_0; first | rwa [qE] at this | exact this) GW149.out) | (rw [qE]; exact Nat.ne_of_lt (Nat.lt_of_lt_of_le (by have := World.block_lt_of_cell? _ _ hw150_0; first | rwa [qE] at this | exact this) GW149.out)) | (show (Addr.add _ _).block ≠ _; rw [qE]; exact Nat.ne_of_lt (Nat.lt_of_lt_of_le (by have := World.block_lt_of_cell? _ _ hw150_0; first | rwa [qE] at this | exact this) GW149.out)) | (dsimp only; exact Nat.ne_of_lt (Nat.lt_of_lt_of_le (by have := World.block_lt_of_cell? _ _ hw150_0; first | rwa [qE] at this | exact this) GW149.out))) _).trans (((qr (p := ⟨gb149, _, none⟩) (by first | exact Nat.ne_of_lt (Nat.lt_of_lt_of_le (by have := World.block_lt_of_cell? _ _ hw150_0; first | rwa [qE] at this | exact this) GW149.out) | (rw [qE]; exact Nat.ne_of_lt (Nat.lt_of_lt_of_le (by have := World.block_lt_of_cell? _ _ hw150_0; first | rwa [qE] at this | exact this) GW149.out)) | (show (Addr.add _ _).block ≠ _; rw [qE]; exact Nat.ne_of_lt (Nat.lt_of_lt_of_le (by have := World.block_lt_of_cell? _ _ hw150_0; first | rwa [qE] at this | exact this) GW149.out)) | (dsimp only; exact Nat.ne_of_lt (Nat.lt_of_lt_of_le (by have := World.block_lt_of_cell? _ _ hw150_0; first | rwa [qE] at this | exact this) GW149.out))) _).trans (((qr (p := ⟨gb149, _, none⟩) (by first | exact Nat.ne_of_lt (Nat.lt_of_lt_of_le (by have := World.block_lt_of_cell? _ _ hw150_0; first | rwa [qE] at this | exact this) GW149.out) | (rw [qE]; exact Nat.ne_of_lt (Nat.lt_of_lt_of_le (by have := World.block_lt_of_cell? _ _ hw150_0; first | rwa [qE] at this | exact this) GW149.out)) | (show (Addr.add _ _).block ≠ _; rw [qE]; exact Nat.ne_of_lt (Nat.lt_of_lt_of_le (by have := World.block_lt_of_cell? _ _ hw150_0; first | rwa [qE] at this | exact this) GW149.out)) | (dsimp only; exact Nat.ne_of_lt (Nat.lt_of_lt_of_le (by have := World.block_lt_of_cell? _ _ hw150_0; first | rwa [qE] at this | exact this) GW149.out))) _).trans (hHeld.1)))))))))))), ((qr (p := ⟨gb149, _, none⟩) (by first | exact Nat.ne_of_lt (Nat.lt_of_lt_of_le (by have := World.block_lt_of_cell? _ _ hw151_0; first | rwa [qE] at this | exact this) GW149.out) | (rw [qE]; exact Nat.ne_of_lt (Nat.lt_of_lt_of_le (by have := World.block_lt_of_cell? _ _ hw151_0; first | rwa [qE] at this | exact this) GW149.out)) | (show (Addr.add _ _).block ≠ _; rw [qE]; exact Nat.ne_of_lt (Nat.lt_of_lt_of_le (by have := World.block_lt_of_cell? _ _ hw151_0; first | rwa [qE] at this | exact this) GW149.out)) | (dsimp only; exact Nat.ne_of_lt (Nat.lt_of_lt_of_le (by have := World.block_lt_of_cell? _ _ hw151_0; first | rwa [qE] at this | exact this) GW149.out))) _).trans (((qr (p := ⟨gb149, _, none⟩) (by first | exact Nat.ne_of_lt (Nat.lt_of_lt_of_le (by have := World.block_lt_of_cell? _ _ hw151_0; first | rwa [qE] at this | exact this) GW149.out) | (rw [qE]; exact Nat.ne_of_lt (Nat.lt_of_lt_of_le (by have := World.block_lt_of_cell? _ _ hw151_0; first | rwa [qE] at this | exact this) GW149.out)) | (show (Addr.add _ _).block ≠ _; rw [qE]; exact Nat.ne_of_lt (Nat.lt_of_lt_of_le (by have := World.block_lt_of_cell? _ _ hw151_0; first | rwa [qE] at this | exact this) GW149.out)) | (dsimp only; exact Nat.ne_of_lt (Nat.lt_of_lt_of_le (by have := World.block_lt_of_cell? _ _ hw151_0; first | rwa [qE] at this | exact this) GW149.out))) _).trans (((qr (p := ⟨gb149, _, none⟩) (by first | exact Nat.ne_of_lt (Nat.lt_of_lt_of_le (by have := World.block_lt_of_cell? _ _ hw151_0; first | rwa [qE] at this | exact this) GW149.out) | (rw [qE]; exact Nat.ne_of_lt (Nat.lt_of_lt_of_le (by have := World.block_lt_of_cell? _ _ hw151_0; first | rwa [qE] at this | exact this) GW149.out)) | (show (Addr.add _ _).block ≠ _; rw [qE]; exact Nat.ne_of_lt (Nat.lt_of_lt_of_le (by have := World.block_lt_of_cell? _ _ hw151_0; first | rwa [qE] at this | exact this) GW149.out)) | (dsimp only; exact Nat.ne_of_lt (Nat.lt_of_lt_of_le (by have := World.block_lt_of_cell? _ _ hw151_0; first | rwa [qE] at this | exact this) GW149.out))) _).trans (((qr (p := ⟨gb149, _, none⟩) (by first | exact Nat.ne_of_lt (Nat.lt_of_lt_of_le (by have := World.block_lt_of_cell? _ _ hw151_0; first | rwa [qE] at this | exact this) GW149.out) | (rw [qE]; exact Nat.ne_of_lt (Nat.lt_of_lt_of_le (by have := World.block_lt_of_cell? _ _ hw151_0; first | rwa [qE] at this | exact this) GW149.out)) | (show (Addr.add _ _).block ≠ _; rw [qE]; exact Nat.ne_of_lt (Nat.lt_of_lt_of_le (by have := World.block_lt_of_cell? _ _ hw151_0; first | rwa [qE] at this | exact this) GW149.out)) | (dsimp only; exact Nat.ne_of_lt (Nat.lt_of_lt_of_le (by have := World.block_lt_of_cell? _ _ hw151_0; first | rwa [qE] at this | exact this) GW149.out))) _).trans (((qr (p := ⟨gb149, _, none⟩) (by first | exact Nat.ne_of_lt (Nat.lt_of_lt_of_le (by have := World.block_lt_of_cell? _ _ hw151_0; first | rwa [qE] at this | exact this) GW149.out) | (rw [qE]; exact Nat.ne_of_lt (Nat.lt_of_lt_of_le (by have := World.block_lt_of_cell? _ _ hw151_0; first | rwa [qE] at this | exact this) GW149.out)) | (show (Addr.add _ _).block ≠ _; rw [qE]; exact Nat.ne_of_lt (Nat.lt_of_lt_of_le (by have := World.block_lt_of_cell? _ _ hw151_0; first | rwa [qE] at this | exact this) GW149.out)) | (dsimp only; exact Nat.ne_of_lt (Nat.lt_of_lt_of_le (by have := World.block_lt_of_cell? _ _ hw151_0; first | rwa [qE] at this | exact this) GW149.out))) _).trans (((qr (p := ⟨gb149, _, none⟩) (by first | exact Nat.ne_of_lt (Nat.lt_of_lt_of_le (by have := World.block_lt_of_cell? _ _ hw151_0; first | rwa [qE] at this | exact this) GW149.out) | (rw [qE]; exact Nat.ne_of_lt (Nat.lt_of_lt_of_le (by have := World.block_lt_of_cell? _ _ hw151_0; first | rwa [qE] at this | exact this) GW149.out)) | (show (Addr.add _ _).block ≠ _; rw [qE]; exact Nat.ne_of_lt (Nat.lt_of_lt_of_le (by have := World.block_lt_of_cell? _ _ hw151_0; first | rwa [qE] at this | exact this) GW149.out)) | (dsimp only; exact Nat.ne_of_lt (Nat.lt_of_lt_of_le (by have := World.block_lt_of_cell? _ _ hw151_0; first | rwa [qE] at this | exact this) GW149.out))) _).trans (hHeld.2.1)))))))))))), ((qr (p := ⟨gb149, _, none⟩) (by first | exact Nat.ne_of_lt (Nat.lt_of_lt_of_le (by have := World.block_lt_of_cell? _ _ hw152_0; first | rwa [qE] at this | exact this) GW149.out) | (rw [qE]; exact Nat.ne_of_lt (Nat.lt_of_lt_of_le (by have := World.block_lt_of_cell? _ _ hw152_0; first | rwa [qE] at this | exact this) GW149.out)) | (show (Addr.add _ _).block ≠ _; rw [qE]; exact Nat.ne_of_lt (Nat.lt_of_lt_of_le (by have := World.block_lt_of_cell? _ _ hw152_0; first | rwa [qE] at this | exact this) GW149.out)) | (dsimp only; exact Nat.ne_of_lt (Nat.lt_of_lt_of_le (by have := World.block_lt_of_cell? _ _ hw152_0; first | rwa [qE] at this | exact this) GW149.out))) _).trans (((qr (p := ⟨gb149, _, none⟩) (by first | exact Nat.ne_of_lt (Nat.lt_of_lt_of_le (by have := World.block_lt_of_cell? _ _ hw152_0; first | rwa [qE] at this | exact this) GW149.out) | (rw [qE]; exact Nat.ne_of_lt (Nat.lt_of_lt_of_le (by have := World.block_lt_of_cell? _ _ hw152_0; first | rwa [qE] at this | exact this) GW149.out)) | (show (Addr.add _ _).block ≠ _; rw [qE]; exact Nat.ne_of_lt (Nat.lt_of_lt_of_le (by have := World.block_lt_of_cell? _ _ hw152_0; first | rwa [qE] at this | exact this) GW149.out)) | (dsimp only; exact Nat.ne_of_lt (Nat.lt_of_lt_of_le (by have := World.block_lt_of_cell? _ _ hw152_0; first | rwa [qE] at this | exact this) GW149.out))) _).trans (((qr (p := ⟨gb149, _, none⟩) (by first | exact Nat.ne_of_lt (Nat.lt_of_lt_of_le (by have := World.block_lt_of_cell? _ _ hw152_0; first | rwa [qE] at this | exact this) GW149.out) | (rw [qE]; exact Nat.ne_of_lt (Nat.lt_of_lt_of_le (by have := World.block_lt_of_cell? _ _ hw152_0; first | rwa [qE] at this | exact this) GW149.out)) | (show (Addr.add _ _).block ≠ _; rw [qE]; exact Nat.ne_of_lt (Nat.lt_of_lt_of_le (by have := World.block_lt_of_cell? _ _ hw152_0; first | rwa [qE] at this | exact this) GW149.out)) | (dsimp only; exact Nat.ne_of_lt (Nat.lt_of_lt_of_le (by have := World.block_lt_of_cell? _ _ hw152_0; first | rwa [qE] at this | exact this) GW149.out))) _).trans (((qr (p := ⟨gb149, _, none⟩) (by first | exact Nat.ne_of_lt (Nat.lt_of_lt_of_le (by have := World.block_lt_of_cell? _ _ hw152_0; first | rwa [qE] at this | exact this) GW149.out) | (rw [qE]; exact Nat.ne_of_lt (Nat.lt_of_lt_of_le (by have := World.block_lt_of_cell? _ _ hw152_0; first | rwa [qE] at this | exact this) GW149.out)) | (show (Addr.add _ _).block ≠ _; rw [qE]; exact Nat.ne_of_lt (Nat.lt_of_lt_of_le (by have := World.block_lt_of_cell? _ _ hw152_0; first | rwa [qE] at this | exact this) GW149.out)) | (dsimp only; exact Nat.ne_of_lt (Nat.lt_of_lt_of_le (by have := World.block_lt_of_cell? _ _ hw152_0; first | rwa [qE] at this | exact this) GW149.out))) _).trans (((qr (p := ⟨gb149, _, none⟩) (by first | exact Nat.ne_of_lt (Nat.lt_of_lt_of_le (by have := World.block_lt_of_cell? _ _ hw152_0; first | rwa [qE] at this | exact this) GW149.out) | (rw [qE]; exact Nat.ne_of_lt (Nat.lt_of_lt_of_le (by have := World.block_lt_of_cell? _ _ hw152_0; first | rwa [qE] at this | exact this) GW149.out)) | (show (Addr.add _ _).block ≠ _; rw [qE]; exact Nat.ne_of_lt (Nat.lt_of_lt_of_le (by have := World.block_lt_of_cell? _ _ hw152_0; first | rwa [qE] at this | exact this) GW149.out)) | (dsimp only; exact Nat.ne_of_lt (Nat.lt_of_lt_of_le (by have := World.block_lt_of_cell? _ _ hw152_0; first | rwa [qE] at this | exact this) GW149.out))) _).trans (((qr (p := ⟨gb149, _, none⟩) (by first | exact Nat.ne_of_lt (Nat.lt_of_lt_of_le (by have := World.block_lt_of_cell? _ _ hw152_0; first | rwa [qE] at this | exact this) GW149.out) | (rw [qE]; exact Nat.ne_of_lt (Nat.lt_of_lt_of_le (by have := World.block_lt_of_cell? _ _ hw152_0; first | rwa [qE] at this | exact this) GW149.out)) | (show (Addr.add _ _).block ≠ _; rw [qE]; exact Nat.ne_of_lt (Nat.lt_of_lt_of_le (by have := World.block_lt_of_cell? _ _ hw152_0; first | rwa [qE] at this | exact this) GW149.out)) | (dsimp only; exact Nat.ne_of_lt (Nat.lt_of_lt_of_le (by have := World.block_lt_of_cell? _ _ hw152_0; first | rwa [qE] at this | exact this) GW149.out))) _).trans (hHeld.2.2.1)))))))))))), ((qr (p := ⟨gb149, _, none⟩) (by first | exact Nat.ne_of_lt (Nat.lt_of_lt_of_le (by have := World.block_lt_of_cell? _ _ hw153_0; first | rwa [qE] at this | exact this) GW149.out) | (rw [qE]; exact Nat.ne_of_lt (Nat.lt_of_lt_of_le (by have := World.block_lt_of_cell? _ _ hw153_0; first | rwa [qE] at this | exact this) GW149.out)) | (show (Addr.add _ _).block ≠ _; rw [qE]; exact Nat.ne_of_lt (Nat.lt_of_lt_of_le (by have := World.block_lt_of_cell? _ _ hw153_0; first | rwa [qE] at this | exact this) GW149.out)) | (dsimp only; exact Nat.ne_of_lt (Nat.lt_of_lt_of_le (by have := World.block_lt_of_cell? _ _ hw153_0; first | rwa [qE] at this | exact this) GW149.out))) _).trans (((qr (p := ⟨gb149, _, none⟩) (by first | exact Nat.ne_of_lt (Nat.lt_of_lt_of_le (by have := World.block_lt_of_cell? _ _ hw153_0; first | rwa [qE] at this | exact this) GW149.out) | (rw [qE]; exact Nat.ne_of_lt (Nat.lt_of_lt_of_le (by have := World.block_lt_of_cell? _ _ hw153_0; first | rwa [qE] at this | exact this) GW149.out)) | (show (Addr.add _ _).block ≠ _; rw [qE]; exact Nat.ne_of_lt (Nat.lt_of_lt_of_le (by have := World.block_lt_of_cell? _ _ hw153_0; first | rwa [qE] at this | exact this) GW149.out)) | (dsimp only; exact Nat.ne_of_lt (Nat.lt_of_lt_of_le (by have := World.block_lt_of_cell? _ _ hw153_0; first | rwa [qE] at this | exact this) GW149.out))) _).trans (((qr (p := ⟨gb149, _, none⟩) (by first | exact Nat.ne_of_lt (Nat.lt_of_lt_of_le (by have := World.block_lt_of_cell? _ _ hw153_0; first | rwa [qE] at this | exact this) GW149.out) | (rw [qE]; exact Nat.ne_of_lt (Nat.lt_of_lt_of_le (by have := World.block_lt_of_cell? _ _ hw153_0; first | rwa [qE] at this | exact this) GW149.out)) | (show (Addr.add _ _).block ≠ _; rw [qE]; exact Nat.ne_of_lt (Nat.lt_of_lt_of_le (by have := World.block_lt_of_cell? _ _ hw153_0; first | rwa [qE] at this | exact this) GW149.out)) | (dsimp only; exact Nat.ne_of_lt (Nat.lt_of_lt_of_le (by have := World.block_lt_of_cell? _ _ hw153_0; first | rwa [qE] at this | exact this) GW149.out))) _).trans (((qr (p := ⟨gb149, _, none⟩) (by first | exact Nat.ne_of_lt (Nat.lt_of_lt_of_le (by have := World.block_lt_of_cell? _ _ hw153_0; first | rwa [qE] at this | exact this) GW149.out) | (rw [qE]; exact Nat.ne_of_lt (Nat.lt_of_lt_of_le (by have := World.block_lt_of_cell? _ _ hw153_0; first | rwa [qE] at this | exact this) GW149.out)) | (show (Addr.add _ _).block ≠ _; rw [qE]; exact Nat.ne_of_lt (Nat.lt_of_lt_of_le (by have := World.block_lt_of_cell? _ _ hw153_0; first | rwa [qE] at this | exact this) GW149.out)) | (dsimp only; exact Nat.ne_of_lt (Nat.lt_of_lt_of_le (by have := World.block_lt_of_cell? _ _ hw153_0; first | rwa [qE] at this | exact this) GW149.out))) _).trans (((qr (p := ⟨gb149, _, none⟩) (by first | exact Nat.ne_of_lt (Nat.lt_of_lt_of_le (by have := World.block_lt_of_cell? _ _ hw153_0; first | rwa [qE] at this | exact this) GW149.out) | (rw [qE]; exact Nat.ne_of_lt (Nat.lt_of_lt_of_le (by have := World.block_lt_of_cell? _ _ hw153_0; first | rwa [qE] at this | exact this) GW149.out)) | (show (Addr.add _ _).block ≠ _; rw [qE]; exact Nat.ne_of_lt (Nat.lt_of_lt_of_le (by have := World.block_lt_of_cell? _ _ hw153_0; first | rwa [qE] at this | exact this) GW149.out)) | (dsimp only; exact Nat.ne_of_lt (Nat.lt_of_lt_of_le (by have := World.block_lt_of_cell? _ _ hw153_0; first | rwa [qE] at this | exact this) GW149.out))) _).trans (((qr (p := ⟨gb149, _, none⟩) (by first | exact Nat.ne_of_lt (Nat.lt_of_lt_of_le (by have := World.block_lt_of_cell? _ _ hw153_0; first | rwa [qE] at this | exact this) GW149.out) | (rw [qE]; exact Nat.ne_of_lt (Nat.lt_of_lt_of_le (by have := World.block_lt_of_cell? _ _ hw153_0; first | rwa [qE] at this | exact this) GW149.out)) | (show (Addr.add _ _).block ≠ _; rw [qE]; exact Nat.ne_of_lt (Nat.lt_of_lt_of_le (by have := World.block_lt_of_cell? _ _ hw153_0; first | rwa [qE] at this | exact this) GW149.out)) | (dsimp only; exact Nat.ne_of_lt (Nat.lt_of_lt_of_le (by have := World.block_lt_of_cell? _ _ hw153_0; first | rwa [qE] at this | exact this) GW149.out))) _).trans (hHeld.2.2.2.1)))))))))))), ((qr (p := ⟨gb149, _, none⟩) (by first | exact Nat.ne_of_lt (Nat.lt_of_lt_of_le (by have := World.block_lt_of_cell? _ _ hw154_0; first | rwa [qE] at this | exact this) GW149.out) | (rw [qE]; exact Nat.ne_of_lt (Nat.lt_of_lt_of_le (by have := World.block_lt_of_cell? _ _ hw154_0; first | rwa [qE] at this | exact this) GW149.out)) | (show (Addr.add _ _).block ≠ _; rw [qE]; exact Nat.ne_of_lt (Nat.lt_of_lt_of_le (by have := World.block_lt_of_cell? _ _ hw154_0; first | rwa [qE] at this | exact this) GW149.out)) | (dsimp only; exact Nat.ne_of_lt (Nat.lt_of_lt_of_le (by have := World.block_lt_of_cell? _ _ hw154_0; first | rwa [qE] at this | exact this) GW149.out))) _).trans (((qr (p := ⟨gb149, _, none⟩) (by first | exact Nat.ne_of_lt (Nat.lt_of_lt_of_le (by have := World.block_lt_of_cell? _ _ hw154_0; first | rwa [qE] at this | exact this) GW149.out) | (rw [qE]; exact Nat.ne_of_lt (Nat.lt_of_lt_of_le (by have := World.block_lt_of_cell? _ _ hw154_0; first | rwa [qE] at this | exact this) GW149.out)) | (show (Addr.add _ _).block ≠ _; rw [qE]; exact Nat.ne_of_lt (Nat.lt_of_lt_of_le (by have := World.block_lt_of_cell? _ _ hw154_0; first | rwa [qE] at this | exact this) GW149.out)) | (dsimp only; exact Nat.ne_of_lt (Nat.lt_of_lt_of_le (by have := World.block_lt_of_cell? _ _ hw154_0; first | rwa [qE] at this | exact this) GW149.out))) _).trans (((qr (p := ⟨gb149, _, none⟩) (by first | exact Nat.ne_of_lt (Nat.lt_of_lt_of_le (by have := World.block_lt_of_cell? _ _ hw154_0; first | rwa [qE] at this | exact this) GW149.out) | (rw [qE]; exact Nat.ne_of_lt (Nat.lt_of_lt_of_le (by have := World.block_lt_of_cell? _ _ hw154_0; first | rwa [qE] at this | exact this) GW149.out)) | (show (Addr.add _ _).block ≠ _; rw [qE]; exact Nat.ne_of_lt (Nat.lt_of_lt_of_le (by have := World.block_lt_of_cell? _ _ hw154_0; first | rwa [qE] at this | exact this) GW149.out)) | (dsimp only; exact Nat.ne_of_lt (Nat.lt_of_lt_of_le (by have := World.block_lt_of_cell? _ _ hw154_0; first | rwa [qE] at this | exact this) GW149.out))) _).trans (((qr (p := ⟨gb149, _, none⟩) (by first | exact Nat.ne_of_lt (Nat.lt_of_lt_of_le (by have := World.block_lt_of_cell? _ _ hw154_0; first | rwa [qE] at this | exact this) GW149.out) | (rw [qE]; exact Nat.ne_of_lt (Nat.lt_of_lt_of_le (by have := World.block_lt_of_cell? _ _ hw154_0; first | rwa [qE] at this | exact this) GW149.out)) | (show (Addr.add _ _).block ≠ _; rw [qE]; exact Nat.ne_of_lt (Nat.lt_of_lt_of_le (by have := World.block_lt_of_cell? _ _ hw154_0; first | rwa [qE] at this | exact this) GW149.out)) | (dsimp only; exact Nat.ne_of_lt (Nat.lt_of_lt_of_le (by have := World.block_lt_of_cell? _ _ hw154_0; first | rwa [qE] at this | exact this) GW149.out))) _).trans (((qr (p := ⟨gb149, _, none⟩) (by first | exact Nat.ne_of_lt (Nat.lt_of_lt_of_le (by have := World.block_lt_of_cell? _ _ hw154_0; first | rwa [qE] at this | exact this) GW149.out) | (rw [qE]; exact Nat.ne_of_lt (Nat.lt_of_lt_of_le (by have := World.block_lt_of_cell? _ _ hw154_0; first | rwa [qE] at this | exact this) GW149.out)) | (show (Addr.add _ _).block ≠ _; rw [qE]; exact Nat.ne_of_lt (Nat.lt_of_lt_of_le (by have := World.block_lt_of_cell? _ _ hw154_0; first | rwa [qE] at this | exact this) GW149.out)) | (dsimp only; exact Nat.ne_of_lt (Nat.lt_of_lt_of_le (by have := World.block_lt_of_cell? _ _ hw154_0; first | rwa [qE] at this | exact this) GW149.out))) _).trans (((qr (p := ⟨gb149, _, none⟩) (by first | exact Nat.ne_of_lt (Nat.lt_of_lt_of_le (by have := World.block_lt_of_cell? _ _ hw154_0; first | rwa [qE] at this | exact this) GW149.out) | (rw [qE]; exact Nat.ne_of_lt (Nat.lt_of_lt_of_le (by have := World.block_lt_of_cell? _ _ hw154_0; first | rwa [qE] at this | exact this) GW149.out)) | (show (Addr.add _ _).block ≠ _; rw [qE]; exact Nat.ne_of_lt (Nat.lt_of_lt_of_le (by have := World.block_lt_of_cell? _ _ hw154_0; first | rwa [qE] at this | exact this) GW149.out)) | (dsimp only; exact Nat.ne_of_lt (Nat.lt_of_lt_of_le (by have := World.block_lt_of_cell? _ _ hw154_0; first | rwa [qE] at this | exact this) GW149.out))) _).trans (hHeld.2.2.2.2.1)))))))))))), ((qr (p := ⟨gb149, _, none⟩) (by first | exact Nat.ne_of_lt (Nat.lt_of_lt_of_le (by have := World.block_lt_of_cell? _ _ hw155_0; first | rwa [qE] at this | exact this) GW149.out) | (rw [qE]; exact Nat.ne_of_lt (Nat.lt_of_lt_of_le (by have := World.block_lt_of_cell? _ _ hw155_0; first | rwa [qE] at this | exact this) GW149.out)) | (show (Addr.add _ _).block ≠ _; rw [qE]; exact Nat.ne_of_lt (Nat.lt_of_lt_of_le (by have := World.block_lt_of_cell? _ _ hw155_0; first | rwa [qE] at this | exact this) GW149.out)) | (dsimp only; exact Nat.ne_of_lt (Nat.lt_of_lt_of_le (by have := World.block_lt_of_cell? _ _ hw155_0; first | rwa [qE] at this | exact this) GW149.out))) _).trans (((qr (p := ⟨gb149, _, none⟩) (by first | exact Nat.ne_of_lt (Nat.lt_of_lt_of_le (by have := World.block_lt_of_cell? _ _ hw155_0; first | rwa [qE] at this | exact this) GW149.out) | (rw [qE]; exact Nat.ne_of_lt (Nat.lt_of_lt_of_le (by have := World.block_lt_of_cell? _ _ hw155_0; first | rwa [qE] at this | exact this) GW149.out)) | (show (Addr.add _ _).block ≠ _; rw [qE]; exact Nat.ne_of_lt (Nat.lt_of_lt_of_le (by have := World.block_lt_of_cell? _ _ hw155_0; first | rwa [qE] at this | exact this) GW149.out)) | (dsimp only; exact Nat.ne_of_lt (Nat.lt_of_lt_of_le (by have := World.block_lt_of_cell? _ _ hw155_0; first | rwa [qE] at this | exact this) GW149.out))) _).trans (((qr (p := ⟨gb149, _, none⟩) (by first | exact Nat.ne_of_lt (Nat.lt_of_lt_of_le (by have := World.block_lt_of_cell? _ _ hw155_0; first | rwa [qE] at this | exact this) GW149.out) | (rw [qE]; exact Nat.ne_of_lt (Nat.lt_of_lt_of_le (by have := World.block_lt_of_cell? _ _ hw155_0; first | rwa [qE] at this | exact this) GW149.out)) | (show (Addr.add _ _).block ≠ _; rw [qE]; exact Nat.ne_of_lt (Nat.lt_of_lt_of_le (by have := World.block_lt_of_cell? _ _ hw155_0; first | rwa [qE] at this | exact this) GW149.out)) | (dsimp only; exact Nat.ne_of_lt (Nat.lt_of_lt_of_le (by have := World.block_lt_of_cell? _ _ hw155_0; first | rwa [qE] at this | exact this) GW149.out))) _).trans (((qr (p := ⟨gb149, _, none⟩) (by first | exact Nat.ne_of_lt (Nat.lt_of_lt_of_le (by have := World.block_lt_of_cell? _ _ hw155_0; first | rwa [qE] at this | exact this) GW149.out) | (rw [qE]; exact Nat.ne_of_lt (Nat.lt_of_lt_of_le (by have := World.block_lt_of_cell? _ _ hw155_0; first | rwa [qE] at this | exact this) GW149.out)) | (show (Addr.add _ _).block ≠ _; rw [qE]; exact Nat.ne_of_lt (Nat.lt_of_lt_of_le (by have := World.block_lt_of_cell? _ _ hw155_0; first | rwa [qE] at this | exact this) GW149.out)) | (dsimp only; exact Nat.ne_of_lt (Nat.lt_of_lt_of_le (by have := World.block_lt_of_cell? _ _ hw155_0; first | rwa [qE] at this | exact this) GW149.out))) _).trans (((qr (p := ⟨gb149, _, none⟩) (by first | exact Nat.ne_of_lt (Nat.lt_of_lt_of_le (by have := World.block_lt_of_cell? _ _ hw155_0; first | rwa [qE] at this | exact this) GW149.out) | (rw [qE]; exact Nat.ne_of_lt (Nat.lt_of_lt_of_le (by have := World.block_lt_of_cell? _ _ hw155_0; first | rwa [qE] at this | exact this) GW149.out)) | (show (Addr.add _ _).block ≠ _; rw [qE]; exact Nat.ne_of_lt (Nat.lt_of_lt_of_le (by have := World.block_lt_of_cell? _ _ hw155_0; first | rwa [qE] at this | exact this) GW149.out)) | (dsimp only; exact Nat.ne_of_lt (Nat.lt_of_lt_of_le (by have := World.block_lt_of_cell? _ _ hw155_0; first | rwa [qE] at this | exact this) GW149.out))) _).trans (((qr (p := ⟨gb149, _, none⟩) (by first | exact Nat.ne_of_lt (Nat.lt_of_lt_of_le (by have := World.block_lt_of_cell? _ _ hw155_0; first | rwa [qE] at this | exact this) GW149.out) | (rw [qE]; exact Nat.ne_of_lt (Nat.lt_of_lt_of_le (by have := World.block_lt_of_cell? _ _ hw155_0; first | rwa [qE] at this | exact this) GW149.out)) | (show (Addr.add _ _).block ≠ _; rw [qE]; exact Nat.ne_of_lt (Nat.lt_of_lt_of_le (by have := World.block_lt_of_cell? _ _ hw155_0; first | rwa [qE] at this | exact this) GW149.out)) | (dsimp only; exact Nat.ne_of_lt (Nat.lt_of_lt_of_le (by have := World.block_lt_of_cell? _ _ hw155_0; first | rwa [qE] at this | exact this) GW149.out))) _).trans (hHeld.2.2.2.2.2))))))))))))⟩ (fun hHeld => ?_)
       clear hK K
       refine done_ (qvA HT_.out (by kernel_rfl)) ?_
       try go_wp2
       refine bodyPost_ret (results_cell_row rfl _ _ gb149 53 #[.int .i64 (rd l0 0), .int .i64 (rd l0 1), .int .i64 (rd l0 2), .int .i64 (rd l0 3), .int .i64 (rd l0 4), .int .i64 (rd l0 5)] (0, 0) _ rfl (by (with_reducible repeat (first | refine qC ?_ _ | refine qD ?_ | refine qB ?_ _)); refine qR (cs := #[.int .i64 (rd l0 0), .int .i64 (rd l0 1), .int .i64 (rd l0 2), .int .i64 (rd l0 3), .int .i64 (rd l0 4), .int .i64 0]) ?_ 5 _ rfl; (with_reducible repeat (first | refine qC ?_ _ | refine qD ?_ | refine qB ?_ _)); refine qR (cs := #[.int .i64 (rd l0 0), .int .i64 (rd l0 1), .int .i64 (rd l0 2), .int .i64 (rd l0 3), .int .i64 0, .int .i64 0]) ?_ 4 _ rfl; (with_reducible repeat (first | refine qC ?_ _ | refine qD ?_ | refine qB ?_ _)); refine qR (cs := #[.int .i64 (rd l0 0), .int .i64 (rd l0 1), .int .i64 (rd l0 2), .int .i64 0, .int .i64 0, .int .i64 0]) ?_ 3 _ rfl; (with_reducible repeat (first | refine qC ?_ _ | refine qD ?_ | refine qB ?_ _)); refine qR (cs := #[.int .i64 (rd l0 0), .int .i64 (rd l0 1), .int .i64 0, .int .i64 0, .int .i64 0, .int .i64 0]) ?_ 2 _ rfl; (with_reducible repeat (first | refine qC ?_ _ | refine qD ?_ | refine qB ?_ _)); refine qR (cs := #[.int .i64 (rd l0 0), .int .i64 0, .int .i64 0, .int .i64 0, .int .i64 0, .int .i64 0]) ?_ 1 _ rfl; (with_reducible repeat (first | refine qC ?_ _ | refine qD ?_ | refine qB ?_ _)); refine qR (cs := #[.int .i64 0, .int .i64 0, .int .i64 0, .int .i64 0, .int .i64 0, .int .i64 0]) ?_ 0 _ rfl; (with_reducible repeat (first | refine qC ?_ _ | refine qD ?_ | refine qB ?_ _)); exact BK149.out) Tryz.underlying53 rfl (by kernel_rfl)) rfl ?_
       exact ⟨by first | rfl | (simp [qN, qM] <;> rfl) | (simp [*, qN, qM] <;> rfl), bl⟩
      ·rw [if_neg c7] at H
       exact absurd H (by simp)
     ·rw [if_neg c6] at H
      exact absurd H (by simp)
    ·rw [if_neg c5] at H
     exact absurd H (by simp)
   ·rw [if_neg c4] at H
    exact absurd H (by simp)
  ·rw [if_neg c3] at H
   exact absurd H (by simp)
 ·rw [if_neg c2] at H
  exact absurd H (by simp)
def qEB.f  : Option (Int × Int × Int × Int × Int × Int) := (qZA.f (([0, 1, 2, 3, 4, 5] : List Int))).bind fun bt160 => (some (bt160.1, bt160.2.1, bt160.2.2.1, bt160.2.2.2.1, bt160.2.2.2.2.1, bt160.2.2.2.2.2))
set_option maxHeartbeats 8000000 in
set_option maxRecDepth 100000 in
theorem qEB.calls  (r1 : Int) (r2 : Int) (r3 : Int) (r4 : Int) (r5 : Int) (r6 : Int) (w : World) (h : qEB.f  = some (r1, r2, r3, r4, r5, r6)) :
  Calls Tryz.prog 22 #[] w fun e w' => e = .returned (.agg #[.int .i64 r1, .int .i64 r2, .int .i64 r3, .int .i64 r4, .int .i64 r5, .int .i64 r6]) ∧ Below w.heap.size w w' := by
 have hu53 := Tryz.underlying53
 have HB := Aside0.mk (Below.refl w.heap.size w)
 have H : ((qZA.f (([0, 1, 2, 3, 4, 5] : List Int))).bind fun bt160 => (some (bt160.1, bt160.2.1, bt160.2.2.1, bt160.2.2.2.1, bt160.2.2.2.2.1, bt160.2.2.2.2.2))) = some (r1, r2, r3, r4, r5, r6) := h
 clear h
 obtain ⟨y157, hy157⟩ : ∃ y_ : List Int, y_ = (([0, 1, 2, 3, 4, 5] : List Int)) := ⟨_, rfl⟩
 replace H : ((qZA.f y157).bind fun bt160 => (some (bt160.1, bt160.2.1, bt160.2.2.1, bt160.2.2.2.1, bt160.2.2.2.2.1, bt160.2.2.2.2.2))) = some (r1, r2, r3, r4, r5, r6) := by first | (rw [hy157]; with_reducible exact H) | (have H2_ := (Option.bind_some _ _).symm.trans H; rw [hy157]; with_reducible exact H2_) | (have H2_ := (Option.bind_some _ _).symm.trans H; with_reducible exact H2_) | with_reducible exact H | (rw [hy157]; exact H) | exact H
 have Ny157 := Aside0.mk hy157
 clear hy157
 replace H := Option.bind_eq_some_iff.mp H
 obtain ⟨⟨t160, t161, t162, t163, t164, t165⟩, A10, H⟩ := H
 replace H : (some (t160, t161, t162, t163, t164, t165)) = some (r1, r2, r3, r4, r5, r6) := H
 have A1 := Aside0.mk A10
 clear A10
 simp only [Option.some.injEq, Prod.mk.injEq] at H
 obtain ⟨rfl, rfl, rfl, rfl, rfl, rfl⟩ := H
 go_enter Tryz.func22, Tryz.ntmps22
 go_wp2_with (first | ((with_reducible refine qX (N := 0) rfl ?_); refine qV ?hg (N := 0) ?hd (cs := #[.int .i64 0, .int .i64 0, .int .i64 0, .int .i64 0, .int .i64 0, .int .i64 0]) (t := 53) ?hr ?_; (case hd => rfl); (case hg => rfl); (case hr => first | (go_simp; done) | (go_simp; rfl)); intro gb156 hg w2 hbox hb; have n0_ := Aside0.mk (qK bl hb); have n1_ := Aside0.mk (hbox); have n2_ := Aside0.mk ((gg hg)); have n3_ := Aside0.mk ((gg hg)); clear HB; have HB := n0_; have BK156 := n1_; have GW156 := n2_; have GE156 := n3_; clear n0_ n1_ n2_ n3_; clear hb hbox hg) | ((with_reducible refine qX (N := 1) rfl ?_); refine Kd.R_lit (Kd.int .i64) _ 3 ?hg (N := 1) ?hd (xs := ([0, 1, 2, 3, 4, 5] : List Int)) (inner := [.int .i64 0, .int .i64 1, .int .i64 2, .int .i64 3, .int .i64 4, .int .i64 5]) (ok := fun _ => True) (okp := fun _ => True) ?hr ?hp (fun _ hk => hk) trivial (Below.refl _ _) (Nat.le_refl _) (by simp) ?_; (case hd => rfl); (case hg => rfl); (case hr => first | (go_simp; done) | (go_simp; rfl)); (case hp => exact (Reps.one (show Kd.M (Kd.int .i64) _ _ _ 0 [.int .i64 0] from rfl) (Reps.one (show Kd.M (Kd.int .i64) _ _ _ 1 [.int .i64 1] from rfl) (Reps.one (show Kd.M (Kd.int .i64) _ _ _ 2 [.int .i64 2] from rfl) (Reps.one (show Kd.M (Kd.int .i64) _ _ _ 3 [.int .i64 3] from rfl) (Reps.one (show Kd.M (Kd.int .i64) _ _ _ 4 [.int .i64 4] from rfl) (Reps.one (show Kd.M (Kd.int .i64) _ _ _ 5 [.int .i64 5] from rfl) (Reps.none _ _)))))))); intro v158 w3 ho4 hb hg_ hnew_; clear hg_ hnew_; (first | rw [← Ny157.out] at ho4 | (simp only [Int.reduceToNat] at ho4; rw [← Ny157.out] at ho4)); have n0_ := Aside0.mk (Kd.qAA ho4 (qa bl)); have n1_ := Aside0.mk (bb BK156 hb); have n2_ := Aside0.mk (qK bl hb); clear BK156; clear HB; have HO159 := n0_; have BK156 := n1_; have HB := n2_; clear n0_ n1_ n2_; clear hb ho4; obtain ⟨Ao5, co5, eo5⟩ := Kd.qp HO159.out; subst eo5) | ((with_reducible refine qb (f := 31) rfl ?_); refine qRA (some 2) rfl rfl Tryz.func31 (by kernel_rfl) rfl #[.slice Ao5 y157.length co5] rfl (by (try simp only [List.map_toArray, List.map_cons, List.map_nil]); first | done | rfl | (simp only [List.length_drop, List.length_take]; rfl)) ?_; (with_reducible refine (qZA.calls _ _ y157 t160 t161 t162 t163 t164 t165 _ ?side1 ?side2 A1.out).mono ?_); (case side1 => repeat (first | exact (Kd.qQ HO159.out).2.2 | (with_reducible refine Kd.qcA ?_ _) | (with_reducible refine Kd.qbA ?_ _) | (with_reducible refine Kd.qtA ?_))); (case side2 => exact (Kd.qQ HO159.out).2.1); rintro e w6 ⟨rfl, hb⟩; refine ⟨_, rfl, ?_⟩; have n0_ := Aside0.mk (Kd.qW (by (with_reducible repeat (first | apply Kd.qG | apply Kd.qH | apply Kd.qI)); exact HO159.out) hb); have n1_ := Aside0.mk (bb BK156 hb); have n2_ := Aside0.mk (qK bl hb); clear HO159; clear BK156; clear HB; have HO159 := n0_; have BK156 := n1_; have HB := n2_; clear n0_ n1_ n2_; (try clear hb); (try clear hb2); (try clear hk); (try clear hi); have hcz7_0 := bc BK156 0; have hcz7_1 := bc BK156 1; have hcz7_2 := bc BK156 2; have hcz7_3 := bc BK156 3; have hcz7_4 := bc BK156 4; have hcz7_5 := bc BK156 5; have hfz7_0 := qA BK156.out 0; have hfz7_1 := qA BK156.out 1; have hfz7_2 := qA BK156.out 2; have hfz7_3 := qA BK156.out 3; have hfz7_4 := qA BK156.out 4; have hfz7_5 := qA BK156.out 5))
 refine bodyPost_ret (results_cell_row rfl _ _ gb156 53 #[.int .i64 t160, .int .i64 t161, .int .i64 t162, .int .i64 t163, .int .i64 t164, .int .i64 t165] (0, 0) _ rfl (by (with_reducible repeat (first | refine qC ?_ _ | refine qD ?_ | refine qB ?_ _)); refine qR (cs := #[.int .i64 t160, .int .i64 t161, .int .i64 t162, .int .i64 t163, .int .i64 t164, .int .i64 0]) ?_ 5 _ rfl; (with_reducible repeat (first | refine qC ?_ _ | refine qD ?_ | refine qB ?_ _)); refine qR (cs := #[.int .i64 t160, .int .i64 t161, .int .i64 t162, .int .i64 t163, .int .i64 0, .int .i64 0]) ?_ 4 _ rfl; (with_reducible repeat (first | refine qC ?_ _ | refine qD ?_ | refine qB ?_ _)); refine qR (cs := #[.int .i64 t160, .int .i64 t161, .int .i64 t162, .int .i64 0, .int .i64 0, .int .i64 0]) ?_ 3 _ rfl; (with_reducible repeat (first | refine qC ?_ _ | refine qD ?_ | refine qB ?_ _)); refine qR (cs := #[.int .i64 t160, .int .i64 t161, .int .i64 0, .int .i64 0, .int .i64 0, .int .i64 0]) ?_ 2 _ rfl; (with_reducible repeat (first | refine qC ?_ _ | refine qD ?_ | refine qB ?_ _)); refine qR (cs := #[.int .i64 t160, .int .i64 0, .int .i64 0, .int .i64 0, .int .i64 0, .int .i64 0]) ?_ 1 _ rfl; (with_reducible repeat (first | refine qC ?_ _ | refine qD ?_ | refine qB ?_ _)); refine qR (cs := #[.int .i64 0, .int .i64 0, .int .i64 0, .int .i64 0, .int .i64 0, .int .i64 0]) ?_ 0 _ rfl; (with_reducible repeat (first | refine qC ?_ _ | refine qD ?_ | refine qB ?_ _)); exact BK156.out) Tryz.underlying53 rfl (by kernel_rfl)) rfl ?_
 exact ⟨by first | rfl | (simp [qN, qM] <;> rfl) | (simp [*, qN, qM] <;> rfl), bl⟩
def qyA.f (a0_0 : Int) (a0_1 : Int) (a0_2 : Int) (a0_3 : Int) (a0_4 : Int) (a0_5 : Int) (a1 : Int) : Option (Int × Int × Int × Int × Int × Int) := if a1 = 0 then (some (a0_3, a0_0, a0_2, a0_5, a0_4, a0_1)) else (if a1 = 1 then (some (a0_4, a0_1, a0_0, a0_3, a0_5, a0_2)) else (if a1 = 2 then (some (a0_1, a0_5, a0_2, a0_0, a0_4, a0_3)) else (some (a0_2, a0_1, a0_5, a0_3, a0_0, a0_4))))
set_option maxHeartbeats 8000000 in
set_option maxRecDepth 100000 in
theorem qyA.calls (a0_0 : Int) (a0_1 : Int) (a0_2 : Int) (a0_3 : Int) (a0_4 : Int) (a0_5 : Int) (a1 : Int) (r1 : Int) (r2 : Int) (r3 : Int) (r4 : Int) (r5 : Int) (r6 : Int) (w : World) (h : qyA.f a0_0 a0_1 a0_2 a0_3 a0_4 a0_5 a1 = some (r1, r2, r3, r4, r5, r6)) :
  Calls Tryz.prog 24 #[.agg #[.int .i64 a0_0, .int .i64 a0_1, .int .i64 a0_2, .int .i64 a0_3, .int .i64 a0_4, .int .i64 a0_5], .int .i64 a1] w fun e w' => e = .returned (.agg #[.int .i64 r1, .int .i64 r2, .int .i64 r3, .int .i64 r4, .int .i64 r5, .int .i64 r6]) ∧ Below w.heap.size w w' := by
 have hu53 := Tryz.underlying53
 have HB := Aside0.mk (Below.refl w.heap.size w)
 have H : (if a1 = 0 then (some (a0_3, a0_0, a0_2, a0_5, a0_4, a0_1)) else (if a1 = 1 then (some (a0_4, a0_1, a0_0, a0_3, a0_5, a0_2)) else (if a1 = 2 then (some (a0_1, a0_5, a0_2, a0_0, a0_4, a0_3)) else (some (a0_2, a0_1, a0_5, a0_3, a0_0, a0_4))))) = some (r1, r2, r3, r4, r5, r6) := h
 clear h
 by_cases c3 : a1 = 0
 ·rw [if_pos c3] at H
  have c3b0 : (a1 == 0) = true := beq_iff_eq.mpr c3
  have c3b1 : (a1 != 0) = false := bne_eq_false_iff_eq.mpr c3
  clear c3
  simp only [Option.some.injEq, Prod.mk.injEq] at H
  obtain ⟨rfl, rfl, rfl, rfl, rfl, rfl⟩ := H
  go_enter Tryz.func24, Tryz.ntmps24
  go_wp2_with (first | ((with_reducible refine qX (N := 2) rfl ?_); refine qV ?hg (N := 2) ?hd (cs := #[.int .i64 a0_0, .int .i64 a0_1, .int .i64 a0_2, .int .i64 a0_3, .int .i64 a0_4, .int .i64 a0_5]) (t := 53) ?hr ?_; (case hd => rfl); (case hg => rfl); (case hr => first | (go_simp; done) | (go_simp; rfl)); intro gb166 hg w4 hbox hb; have n0_ := Aside0.mk (qK bl hb); have n1_ := Aside0.mk (hbox); have n2_ := Aside0.mk ((gg hg)); have n3_ := Aside0.mk ((gg hg)); clear HB; have HB := n0_; have BK166 := n1_; have GW166 := n2_; have GE166 := n3_; clear n0_ n1_ n2_ n3_; clear hb hbox hg) | ((with_reducible refine qX (N := 4) rfl ?_); refine qV ?hg (N := 4) ?hd (cs := #[.int .i64 0, .int .i64 0, .int .i64 0, .int .i64 0, .int .i64 0, .int .i64 0]) (t := 53) ?hr ?_; (case hd => rfl); (case hg => rfl); (case hr => first | (go_simp; done) | (go_simp; rfl)); intro gb167 hg w5 hbox hb; have n0_ := Aside0.mk (bb BK166 hb); have n1_ := Aside0.mk (qK bl hb); have n2_ := Aside0.mk (hbox); have n3_ := Aside0.mk ((gg hg)); have n4_ := Aside0.mk ((gg hg)); have n5_ := Aside0.mk ((nl BK166 hg)); have n6_ := Aside0.mk ((nr BK166 hg)); clear BK166; clear HB; have BK166 := n0_; have HB := n1_; have BK167 := n2_; have GW167 := n3_; have GE167 := n4_; have NB166_167 := n5_; have NB167_166 := n6_; clear n0_ n1_ n2_ n3_ n4_ n5_ n6_; clear hb hbox hg; have hnb6 := NB166_167.out; have hnc6 := NB167_166.out; have hcz7_0 := bc BK166 0; have hcz7_1 := bc BK166 1; have hcz7_2 := bc BK166 2; have hcz7_3 := bc BK166 3; have hcz7_4 := bc BK166 4; have hcz7_5 := bc BK166 5; have hfz7_0 := qA BK166.out 0; have hfz7_1 := qA BK166.out 1; have hfz7_2 := qA BK166.out 2; have hfz7_3 := qA BK166.out 3; have hfz7_4 := qA BK166.out 4; have hfz7_5 := qA BK166.out 5; have hcz8_0 := bc BK167 0; have hcz8_1 := bc BK167 1; have hcz8_2 := bc BK167 2; have hcz8_3 := bc BK167 3; have hcz8_4 := bc BK167 4; have hcz8_5 := bc BK167 5; have hfz8_0 := qA BK167.out 0; have hfz8_1 := qA BK167.out 1; have hfz8_2 := qA BK167.out 2; have hfz8_3 := qA BK167.out 3; have hfz8_4 := qA BK167.out 4; have hfz8_5 := qA BK167.out 5))
  refine bodyPost_ret (results_cell_row rfl _ _ gb167 53 #[.int .i64 a0_3, .int .i64 a0_0, .int .i64 a0_2, .int .i64 a0_5, .int .i64 a0_4, .int .i64 a0_1] (0, 0) _ rfl (by (with_reducible repeat (first | refine qC ?_ _ | refine qD ?_ | refine qB ?_ _)); refine qR (cs := #[.int .i64 a0_3, .int .i64 a0_0, .int .i64 a0_2, .int .i64 a0_5, .int .i64 a0_4, .int .i64 0]) ?_ 5 _ rfl; (with_reducible repeat (first | refine qC ?_ _ | refine qD ?_ | refine qB ?_ _)); refine qR (cs := #[.int .i64 a0_3, .int .i64 a0_0, .int .i64 a0_2, .int .i64 a0_5, .int .i64 0, .int .i64 0]) ?_ 4 _ rfl; (with_reducible repeat (first | refine qC ?_ _ | refine qD ?_ | refine qB ?_ _)); refine qR (cs := #[.int .i64 a0_3, .int .i64 a0_0, .int .i64 a0_2, .int .i64 0, .int .i64 0, .int .i64 0]) ?_ 3 _ rfl; (with_reducible repeat (first | refine qC ?_ _ | refine qD ?_ | refine qB ?_ _)); refine qR (cs := #[.int .i64 a0_3, .int .i64 a0_0, .int .i64 0, .int .i64 0, .int .i64 0, .int .i64 0]) ?_ 2 _ rfl; (with_reducible repeat (first | refine qC ?_ _ | refine qD ?_ | refine qB ?_ _)); refine qR (cs := #[.int .i64 a0_3, .int .i64 0, .int .i64 0, .int .i64 0, .int .i64 0, .int .i64 0]) ?_ 1 _ rfl; (with_reducible repeat (first | refine qC ?_ _ | refine qD ?_ | refine qB ?_ _)); refine qR (cs := #[.int .i64 0, .int .i64 0, .int .i64 0, .int .i64 0, .int .i64 0, .int .i64 0]) ?_ 0 _ rfl; (with_reducible repeat (first | refine qC ?_ _ | refine qD ?_ | refine qB ?_ _)); exact BK167.out) Tryz.underlying53 rfl (by kernel_rfl)) rfl ?_
  exact ⟨by first | rfl | (simp [qN, qM] <;> rfl) | (simp [*, qN, qM] <;> rfl), bl⟩
 ·rw [if_neg c3] at H
  have c3b0 : (a1 == 0) = false := beq_eq_false_iff_ne.mpr c3
  have c3b1 : (a1 != 0) = true := bne_iff_ne.mpr c3
  by_cases c9 : a1 = 1
  ·rw [if_pos c9] at H
   have c9b0 : (a1 == 1) = true := beq_iff_eq.mpr c9
   have c9b1 : (a1 != 1) = false := bne_eq_false_iff_eq.mpr c9
   clear c9
   simp only [Option.some.injEq, Prod.mk.injEq] at H
   obtain ⟨rfl, rfl, rfl, rfl, rfl, rfl⟩ := H
   go_enter Tryz.func24, Tryz.ntmps24
   go_wp2_with (first | ((with_reducible refine qX (N := 2) rfl ?_); refine qV ?hg (N := 2) ?hd (cs := #[.int .i64 a0_0, .int .i64 a0_1, .int .i64 a0_2, .int .i64 a0_3, .int .i64 a0_4, .int .i64 a0_5]) (t := 53) ?hr ?_; (case hd => rfl); (case hg => rfl); (case hr => first | (go_simp; done) | (go_simp; rfl)); intro gb166 hg w10 hbox hb; have n0_ := Aside0.mk (qK bl hb); have n1_ := Aside0.mk (hbox); have n2_ := Aside0.mk ((gg hg)); have n3_ := Aside0.mk ((gg hg)); clear HB; have HB := n0_; have BK166 := n1_; have GW166 := n2_; have GE166 := n3_; clear n0_ n1_ n2_ n3_; clear hb hbox hg) | ((with_reducible refine qX (N := 4) rfl ?_); refine qV ?hg (N := 4) ?hd (cs := #[.int .i64 0, .int .i64 0, .int .i64 0, .int .i64 0, .int .i64 0, .int .i64 0]) (t := 53) ?hr ?_; (case hd => rfl); (case hg => rfl); (case hr => first | (go_simp; done) | (go_simp; rfl)); intro gb167 hg w11 hbox hb; have n0_ := Aside0.mk (bb BK166 hb); have n1_ := Aside0.mk (qK bl hb); have n2_ := Aside0.mk (hbox); have n3_ := Aside0.mk ((gg hg)); have n4_ := Aside0.mk ((gg hg)); have n5_ := Aside0.mk ((nl BK166 hg)); have n6_ := Aside0.mk ((nr BK166 hg)); clear BK166; clear HB; have BK166 := n0_; have HB := n1_; have BK167 := n2_; have GW167 := n3_; have GE167 := n4_; have NB166_167 := n5_; have NB167_166 := n6_; clear n0_ n1_ n2_ n3_ n4_ n5_ n6_; clear hb hbox hg; have hnb12 := NB166_167.out; have hnc12 := NB167_166.out; have hcz13_0 := bc BK166 0; have hcz13_1 := bc BK166 1; have hcz13_2 := bc BK166 2; have hcz13_3 := bc BK166 3; have hcz13_4 := bc BK166 4; have hcz13_5 := bc BK166 5; have hfz13_0 := qA BK166.out 0; have hfz13_1 := qA BK166.out 1; have hfz13_2 := qA BK166.out 2; have hfz13_3 := qA BK166.out 3; have hfz13_4 := qA BK166.out 4; have hfz13_5 := qA BK166.out 5; have hcz14_0 := bc BK167 0; have hcz14_1 := bc BK167 1; have hcz14_2 := bc BK167 2; have hcz14_3 := bc BK167 3; have hcz14_4 := bc BK167 4; have hcz14_5 := bc BK167 5; have hfz14_0 := qA BK167.out 0; have hfz14_1 := qA BK167.out 1; have hfz14_2 := qA BK167.out 2; have hfz14_3 := qA BK167.out 3; have hfz14_4 := qA BK167.out 4; have hfz14_5 := qA BK167.out 5))
   refine bodyPost_ret (results_cell_row rfl _ _ gb167 53 #[.int .i64 a0_4, .int .i64 a0_1, .int .i64 a0_0, .int .i64 a0_3, .int .i64 a0_5, .int .i64 a0_2] (0, 0) _ rfl (by (with_reducible repeat (first | refine qC ?_ _ | refine qD ?_ | refine qB ?_ _)); refine qR (cs := #[.int .i64 a0_4, .int .i64 a0_1, .int .i64 a0_0, .int .i64 a0_3, .int .i64 a0_5, .int .i64 0]) ?_ 5 _ rfl; (with_reducible repeat (first | refine qC ?_ _ | refine qD ?_ | refine qB ?_ _)); refine qR (cs := #[.int .i64 a0_4, .int .i64 a0_1, .int .i64 a0_0, .int .i64 a0_3, .int .i64 0, .int .i64 0]) ?_ 4 _ rfl; (with_reducible repeat (first | refine qC ?_ _ | refine qD ?_ | refine qB ?_ _)); refine qR (cs := #[.int .i64 a0_4, .int .i64 a0_1, .int .i64 a0_0, .int .i64 0, .int .i64 0, .int .i64 0]) ?_ 3 _ rfl; (with_reducible repeat (first | refine qC ?_ _ | refine qD ?_ | refine qB ?_ _)); refine qR (cs := #[.int .i64 a0_4, .int .i64 a0_1, .int .i64 0, .int .i64 0, .int .i64 0, .int .i64 0]) ?_ 2 _ rfl; (with_reducible repeat (first | refine qC ?_ _ | refine qD ?_ | refine qB ?_ _)); refine qR (cs := #[.int .i64 a0_4, .int .i64 0, .int .i64 0, .int .i64 0, .int .i64 0, .int .i64 0]) ?_ 1 _ rfl; (with_reducible repeat (first | refine qC ?_ _ | refine qD ?_ | refine qB ?_ _)); refine qR (cs := #[.int .i64 0, .int .i64 0, .int .i64 0, .int .i64 0, .int .i64 0, .int .i64 0]) ?_ 0 _ rfl; (with_reducible repeat (first | refine qC ?_ _ | refine qD ?_ | refine qB ?_ _)); exact BK167.out) Tryz.underlying53 rfl (by kernel_rfl)) rfl ?_
   exact ⟨by first | rfl | (simp [qN, qM] <;> rfl) | (simp [*, qN, qM] <;> rfl), bl⟩
  ·rw [if_neg c9] at H
   have c9b0 : (a1 == 1) = false := beq_eq_false_iff_ne.mpr c9
   have c9b1 : (a1 != 1) = true := bne_iff_ne.mpr c9
   by_cases c15 : a1 = 2
   ·rw [if_pos c15] at H
    have c15b0 : (a1 == 2) = true := beq_iff_eq.mpr c15
    have c15b1 : (a1 != 2) = false := bne_eq_false_iff_eq.mpr c15
    clear c15
    simp only [Option.some.injEq, Prod.mk.injEq] at H
    obtain ⟨rfl, rfl, rfl, rfl, rfl, rfl⟩ := H
    go_enter Tryz.func24, Tryz.ntmps24
    go_wp2_with (first | ((with_reducible refine qX (N := 2) rfl ?_); refine qV ?hg (N := 2) ?hd (cs := #[.int .i64 a0_0, .int .i64 a0_1, .int .i64 a0_2, .int .i64 a0_3, .int .i64 a0_4, .int .i64 a0_5]) (t := 53) ?hr ?_; (case hd => rfl); (case hg => rfl); (case hr => first | (go_simp; done) | (go_simp; rfl)); intro gb166 hg w16 hbox hb; have n0_ := Aside0.mk (qK bl hb); have n1_ := Aside0.mk (hbox); have n2_ := Aside0.mk ((gg hg)); have n3_ := Aside0.mk ((gg hg)); clear HB; have HB := n0_; have BK166 := n1_; have GW166 := n2_; have GE166 := n3_; clear n0_ n1_ n2_ n3_; clear hb hbox hg) | ((with_reducible refine qX (N := 4) rfl ?_); refine qV ?hg (N := 4) ?hd (cs := #[.int .i64 0, .int .i64 0, .int .i64 0, .int .i64 0, .int .i64 0, .int .i64 0]) (t := 53) ?hr ?_; (case hd => rfl); (case hg => rfl); (case hr => first | (go_simp; done) | (go_simp; rfl)); intro gb167 hg w17 hbox hb; have n0_ := Aside0.mk (bb BK166 hb); have n1_ := Aside0.mk (qK bl hb); have n2_ := Aside0.mk (hbox); have n3_ := Aside0.mk ((gg hg)); have n4_ := Aside0.mk ((gg hg)); have n5_ := Aside0.mk ((nl BK166 hg)); have n6_ := Aside0.mk ((nr BK166 hg)); clear BK166; clear HB; have BK166 := n0_; have HB := n1_; have BK167 := n2_; have GW167 := n3_; have GE167 := n4_; have NB166_167 := n5_; have NB167_166 := n6_; clear n0_ n1_ n2_ n3_ n4_ n5_ n6_; clear hb hbox hg; have hnb18 := NB166_167.out; have hnc18 := NB167_166.out; have hcz19_0 := bc BK166 0; have hcz19_1 := bc BK166 1; have hcz19_2 := bc BK166 2; have hcz19_3 := bc BK166 3; have hcz19_4 := bc BK166 4; have hcz19_5 := bc BK166 5; have hfz19_0 := qA BK166.out 0; have hfz19_1 := qA BK166.out 1; have hfz19_2 := qA BK166.out 2; have hfz19_3 := qA BK166.out 3; have hfz19_4 := qA BK166.out 4; have hfz19_5 := qA BK166.out 5; have hcz20_0 := bc BK167 0; have hcz20_1 := bc BK167 1; have hcz20_2 := bc BK167 2; have hcz20_3 := bc BK167 3; have hcz20_4 := bc BK167 4; have hcz20_5 := bc BK167 5; have hfz20_0 := qA BK167.out 0; have hfz20_1 := qA BK167.out 1; have hfz20_2 := qA BK167.out 2; have hfz20_3 := qA BK167.out 3; have hfz20_4 := qA BK167.out 4; have hfz20_5 := qA BK167.out 5))
    refine bodyPost_ret (results_cell_row rfl _ _ gb167 53 #[.int .i64 a0_1, .int .i64 a0_5, .int .i64 a0_2, .int .i64 a0_0, .int .i64 a0_4, .int .i64 a0_3] (0, 0) _ rfl (by (with_reducible repeat (first | refine qC ?_ _ | refine qD ?_ | refine qB ?_ _)); refine qR (cs := #[.int .i64 a0_1, .int .i64 a0_5, .int .i64 a0_2, .int .i64 a0_0, .int .i64 a0_4, .int .i64 0]) ?_ 5 _ rfl; (with_reducible repeat (first | refine qC ?_ _ | refine qD ?_ | refine qB ?_ _)); refine qR (cs := #[.int .i64 a0_1, .int .i64 a0_5, .int .i64 a0_2, .int .i64 a0_0, .int .i64 0, .int .i64 0]) ?_ 4 _ rfl; (with_reducible repeat (first | refine qC ?_ _ | refine qD ?_ | refine qB ?_ _)); refine qR (cs := #[.int .i64 a0_1, .int .i64 a0_5, .int .i64 a0_2, .int .i64 0, .int .i64 0, .int .i64 0]) ?_ 3 _ rfl; (with_reducible repeat (first | refine qC ?_ _ | refine qD ?_ | refine qB ?_ _)); refine qR (cs := #[.int .i64 a0_1, .int .i64 a0_5, .int .i64 0, .int .i64 0, .int .i64 0, .int .i64 0]) ?_ 2 _ rfl; (with_reducible repeat (first | refine qC ?_ _ | refine qD ?_ | refine qB ?_ _)); refine qR (cs := #[.int .i64 a0_1, .int .i64 0, .int .i64 0, .int .i64 0, .int .i64 0, .int .i64 0]) ?_ 1 _ rfl; (with_reducible repeat (first | refine qC ?_ _ | refine qD ?_ | refine qB ?_ _)); refine qR (cs := #[.int .i64 0, .int .i64 0, .int .i64 0, .int .i64 0, .int .i64 0, .int .i64 0]) ?_ 0 _ rfl; (with_reducible repeat (first | refine qC ?_ _ | refine qD ?_ | refine qB ?_ _)); exact BK167.out) Tryz.underlying53 rfl (by kernel_rfl)) rfl ?_
    exact ⟨by first | rfl | (simp [qN, qM] <;> rfl) | (simp [*, qN, qM] <;> rfl), bl⟩
   ·rw [if_neg c15] at H
    have c15b0 : (a1 == 2) = false := beq_eq_false_iff_ne.mpr c15
    have c15b1 : (a1 != 2) = true := bne_iff_ne.mpr c15
    simp only [Option.some.injEq, Prod.mk.injEq] at H
    obtain ⟨rfl, rfl, rfl, rfl, rfl, rfl⟩ := H
    go_enter Tryz.func24, Tryz.ntmps24
    go_wp2_with (first | ((with_reducible refine qX (N := 2) rfl ?_); refine qV ?hg (N := 2) ?hd (cs := #[.int .i64 a0_0, .int .i64 a0_1, .int .i64 a0_2, .int .i64 a0_3, .int .i64 a0_4, .int .i64 a0_5]) (t := 53) ?hr ?_; (case hd => rfl); (case hg => rfl); (case hr => first | (go_simp; done) | (go_simp; rfl)); intro gb166 hg w21 hbox hb; have n0_ := Aside0.mk (qK bl hb); have n1_ := Aside0.mk (hbox); have n2_ := Aside0.mk ((gg hg)); have n3_ := Aside0.mk ((gg hg)); clear HB; have HB := n0_; have BK166 := n1_; have GW166 := n2_; have GE166 := n3_; clear n0_ n1_ n2_ n3_; clear hb hbox hg) | ((with_reducible refine qX (N := 4) rfl ?_); refine qV ?hg (N := 4) ?hd (cs := #[.int .i64 0, .int .i64 0, .int .i64 0, .int .i64 0, .int .i64 0, .int .i64 0]) (t := 53) ?hr ?_; (case hd => rfl); (case hg => rfl); (case hr => first | (go_simp; done) | (go_simp; rfl)); intro gb167 hg w22 hbox hb; have n0_ := Aside0.mk (bb BK166 hb); have n1_ := Aside0.mk (qK bl hb); have n2_ := Aside0.mk (hbox); have n3_ := Aside0.mk ((gg hg)); have n4_ := Aside0.mk ((gg hg)); have n5_ := Aside0.mk ((nl BK166 hg)); have n6_ := Aside0.mk ((nr BK166 hg)); clear BK166; clear HB; have BK166 := n0_; have HB := n1_; have BK167 := n2_; have GW167 := n3_; have GE167 := n4_; have NB166_167 := n5_; have NB167_166 := n6_; clear n0_ n1_ n2_ n3_ n4_ n5_ n6_; clear hb hbox hg; have hnb23 := NB166_167.out; have hnc23 := NB167_166.out; have hcz24_0 := bc BK166 0; have hcz24_1 := bc BK166 1; have hcz24_2 := bc BK166 2; have hcz24_3 := bc BK166 3; have hcz24_4 := bc BK166 4; have hcz24_5 := bc BK166 5; have hfz24_0 := qA BK166.out 0; have hfz24_1 := qA BK166.out 1; have hfz24_2 := qA BK166.out 2; have hfz24_3 := qA BK166.out 3; have hfz24_4 := qA BK166.out 4; have hfz24_5 := qA BK166.out 5; have hcz25_0 := bc BK167 0; have hcz25_1 := bc BK167 1; have hcz25_2 := bc BK167 2; have hcz25_3 := bc BK167 3; have hcz25_4 := bc BK167 4; have hcz25_5 := bc BK167 5; have hfz25_0 := qA BK167.out 0; have hfz25_1 := qA BK167.out 1; have hfz25_2 := qA BK167.out 2; have hfz25_3 := qA BK167.out 3; have hfz25_4 := qA BK167.out 4; have hfz25_5 := qA BK167.out 5))
    refine bodyPost_ret (results_cell_row rfl _ _ gb167 53 #[.int .i64 a0_2, .int .i64 a0_1, .int .i64 a0_5, .int .i64 a0_3, .int .i64 a0_0, .int .i64 a0_4] (0, 0) _ rfl (by (with_reducible repeat (first | refine qC ?_ _ | refine qD ?_ | refine qB ?_ _)); refine qR (cs := #[.int .i64 a0_2, .int .i64 a0_1, .int .i64 a0_5, .int .i64 a0_3, .int .i64 a0_0, .int .i64 0]) ?_ 5 _ rfl; (with_reducible repeat (first | refine qC ?_ _ | refine qD ?_ | refine qB ?_ _)); refine qR (cs := #[.int .i64 a0_2, .int .i64 a0_1, .int .i64 a0_5, .int .i64 a0_3, .int .i64 0, .int .i64 0]) ?_ 4 _ rfl; (with_reducible repeat (first | refine qC ?_ _ | refine qD ?_ | refine qB ?_ _)); refine qR (cs := #[.int .i64 a0_2, .int .i64 a0_1, .int .i64 a0_5, .int .i64 0, .int .i64 0, .int .i64 0]) ?_ 3 _ rfl; (with_reducible repeat (first | refine qC ?_ _ | refine qD ?_ | refine qB ?_ _)); refine qR (cs := #[.int .i64 a0_2, .int .i64 a0_1, .int .i64 0, .int .i64 0, .int .i64 0, .int .i64 0]) ?_ 2 _ rfl; (with_reducible repeat (first | refine qC ?_ _ | refine qD ?_ | refine qB ?_ _)); refine qR (cs := #[.int .i64 a0_2, .int .i64 0, .int .i64 0, .int .i64 0, .int .i64 0, .int .i64 0]) ?_ 1 _ rfl; (with_reducible repeat (first | refine qC ?_ _ | refine qD ?_ | refine qB ?_ _)); refine qR (cs := #[.int .i64 0, .int .i64 0, .int .i64 0, .int .i64 0, .int .i64 0, .int .i64 0]) ?_ 0 _ rfl; (with_reducible repeat (first | refine qC ?_ _ | refine qD ?_ | refine qB ?_ _)); exact BK167.out) Tryz.underlying53 rfl (by kernel_rfl)) rfl ?_
    exact ⟨by first | rfl | (simp [qN, qM] <;> rfl) | (simp [*, qN, qM] <;> rfl), bl⟩
end Go.Proofs.YtdncpkppkafkpaaGreatDoor.P
