/- The program's CountWays returns what the reference's returns, for every die. No further condition. -/
import Derived.Test.YtbmiekopflgicaaKC2

namespace Go.Proofs.Ytbmiekopflgicaa.P
open Go.RowKit Go.Proofs.YtbmiekopflgicaaW.PrintWords Go.Proofs.YtbmiekopflgicaaW.PrintLast Go.Proofs.YtbmiekopflgicaaW.PrintMore
attribute [local go_sem] qn ql qx qw qh qg qm qk
set_option linter.unusedVariables false
set_option linter.unusedSimpArgs false
def qMA.f (k : Nat) (a0_0 : Int) (a0_1 : Int) (a0_2 : Int) (a0_3 : Int) (a0_4 : Int) (a0_5 : Int) : Option (Int × Bool) := (qFA.f k a0_0 a0_1 a0_2 a0_3 a0_4 a0_5).bind fun t400 => (if t400 = true then ((qN.f k a0_0 a0_1 a0_2 a0_3 a0_4 a0_5).bind fun t401 => (some ((t401.length : Int), true))) else (some (0, false)))
set_option maxHeartbeats 8000000 in
set_option maxRecDepth 100000 in
theorem qMA.calls (k : Nat) (a0_0 : Int) (a0_1 : Int) (a0_2 : Int) (a0_3 : Int) (a0_4 : Int) (a0_5 : Int) (r1 : Int) (r2 : Bool) (w : World) (h : qMA.f k a0_0 a0_1 a0_2 a0_3 a0_4 a0_5 = some (r1, r2)) :
  Calls Try.prog 22 #[.agg #[.int .i64 a0_0, .int .i64 a0_1, .int .i64 a0_2, .int .i64 a0_3, .int .i64 a0_4, .int .i64 a0_5]] w fun e w' => e = .returned (.tuple #[.int .i64 r1, .bool r2]) ∧ Below w.heap.size w w' := by
 have hu29 := Try.underlying29
 have HB := Aside0.mk (Below.refl w.heap.size w)
 have H : ((qFA.f k a0_0 a0_1 a0_2 a0_3 a0_4 a0_5).bind fun t400 => (if t400 = true then ((qN.f k a0_0 a0_1 a0_2 a0_3 a0_4 a0_5).bind fun t401 => (some ((t401.length : Int), true))) else (some (0, false)))) = some (r1, r2) := h
 clear h
 replace H := Option.bind_eq_some_iff.mp H
 obtain ⟨t400, A20, H⟩ := H
 replace H : (if t400 = true then ((qN.f k a0_0 a0_1 a0_2 a0_3 a0_4 a0_5).bind fun t401 => (some ((t401.length : Int), true))) else (some (0, false))) = some (r1, r2) := H
 have A2 := Aside0.mk A20
 clear A20
 by_cases c3 : t400 = true
 ·subst c3
  have H1 : ((qN.f k a0_0 a0_1 a0_2 a0_3 a0_4 a0_5).bind fun t401 => (some ((t401.length : Int), true))) = some (r1, r2) := by rw [if_pos rfl] at H; exact H
  clear H
  have H := H1
  clear H1
  replace H := Option.bind_eq_some_iff.mp H
  obtain ⟨t401, A40, H⟩ := H
  replace H : (some ((t401.length : Int), true)) = some (r1, r2) := H
  have A4 := Aside0.mk A40
  clear A40
  simp only [Option.some.injEq, Prod.mk.injEq] at H
  obtain ⟨rfl, rfl⟩ := H
  go_enter Try.func22, Try.ntmps22
  go_wp2_with (first | ((with_reducible refine qU (N := 1) rfl ?_); refine qS ?hg (N := 1) ?hd (cs := #[.int .i64 a0_0, .int .i64 a0_1, .int .i64 a0_2, .int .i64 a0_3, .int .i64 a0_4, .int .i64 a0_5]) (t := 29) ?hr ?_; (case hd => rfl); (case hg => rfl); (case hr => first | (go_simp; done) | (go_simp; rfl)); intro gb399 hg w5 hbox hb; have n0_ := Aside0.mk (qF bl hb); have n1_ := Aside0.mk (hbox); have n2_ := Aside0.mk ((gg hg)); have n3_ := Aside0.mk ((gg hg)); clear HB; have HB := n0_; have BK399 := n1_; have GW399 := n2_; have GE399 := n3_; clear n0_ n1_ n2_ n3_; clear hb hbox hg; have hcz6_0 := bc BK399 0; have hcz6_1 := bc BK399 1; have hcz6_2 := bc BK399 2; have hcz6_3 := bc BK399 3; have hcz6_4 := bc BK399 4; have hcz6_5 := bc BK399 5; have hfz6_0 := qA BK399.out 0; have hfz6_1 := qA BK399.out 1; have hfz6_2 := qA BK399.out 2; have hfz6_3 := qA BK399.out 3; have hfz6_4 := qA BK399.out 4; have hfz6_5 := qA BK399.out 5) | ((with_reducible refine qL (f := 33) rfl ?_); refine qc (some 5) rfl rfl Try.func33 (by kernel_rfl) rfl #[.agg #[.int .i64 a0_0, .int .i64 a0_1, .int .i64 a0_2, .int .i64 a0_3, .int .i64 a0_4, .int .i64 a0_5]] rfl (by (try simp only [List.map_toArray, List.map_cons, List.map_nil]); first | done | rfl | (simp only [List.length_drop, List.length_take]; rfl)) ?_; (with_reducible refine (qFA.calls k a0_0 a0_1 a0_2 a0_3 a0_4 a0_5 true _ A2.out).mono ?_); rintro e w7 ⟨rfl, hb⟩; refine ⟨_, rfl, ?_⟩; have n0_ := Aside0.mk (bb BK399 hb); have n1_ := Aside0.mk (qF bl hb); clear BK399; clear HB; have BK399 := n0_; have HB := n1_; clear n0_ n1_; (try clear hb); (try clear hb2); (try clear hk); (try clear hi); have hcz8_0 := bc BK399 0; have hcz8_1 := bc BK399 1; have hcz8_2 := bc BK399 2; have hcz8_3 := bc BK399 3; have hcz8_4 := bc BK399 4; have hcz8_5 := bc BK399 5; have hfz8_0 := qA BK399.out 0; have hfz8_1 := qA BK399.out 1; have hfz8_2 := qA BK399.out 2; have hfz8_3 := qA BK399.out 3; have hfz8_4 := qA BK399.out 4; have hfz8_5 := qA BK399.out 5) | ((with_reducible refine qL (f := 44) rfl ?_); refine qc (some 8) rfl rfl Try.func44 (by kernel_rfl) rfl #[.agg #[.int .i64 a0_0, .int .i64 a0_1, .int .i64 a0_2, .int .i64 a0_3, .int .i64 a0_4, .int .i64 a0_5]] rfl (by (try simp only [List.map_toArray, List.map_cons, List.map_nil]); first | done | rfl | (simp only [List.length_drop, List.length_take]; rfl)) ?_; (with_reducible refine (qN.calls k a0_0 a0_1 a0_2 a0_3 a0_4 a0_5 t401 _ A4.out).mono ?_); rintro e w9 ⟨v402, rfl, ho0, hb⟩; refine ⟨_, rfl, ?_⟩; have n0_ := Aside0.mk (Kd.qLA (Kd.qWA ho0 (g := gb399) (o := .cells #[.int .i64 a0_0, .int .i64 a0_1, .int .i64 a0_2, .int .i64 a0_3, .int .i64 a0_4, .int .i64 a0_5] 29 (0, 0)) (by (with_reducible repeat (first | refine qC ?_ _ | refine qE ?_ | refine qD ?_ _)); exact BK399.out)) (qb bl)); have n1_ := Aside0.mk (bb BK399 hb); have n2_ := Aside0.mk (qF bl hb); clear BK399; clear HB; have HO403 := n0_; have BK399 := n1_; have HB := n2_; clear n0_ n1_ n2_; (try clear hb); (try clear hb2); (try clear hk); (try clear hi); (try clear ho0); obtain ⟨Ao10, co10, eo10⟩ := Kd.qHA HO403.out; subst eo10))
  go_ret2
  exact ⟨by first | rfl | (simp [qP, qO] <;> rfl) | (simp [*, qP, qO] <;> rfl), bl⟩
 ·replace c3 := Bool.eq_false_iff.mpr c3
  subst c3
  have H1 : (some (0, false)) = some (r1, r2) := by rw [if_neg (show ¬ (false = true) by decide)] at H; exact H
  clear H
  have H := H1
  clear H1
  simp only [Option.some.injEq, Prod.mk.injEq] at H
  obtain ⟨rfl, rfl⟩ := H
  go_enter Try.func22, Try.ntmps22
  go_wp2_with (first | ((with_reducible refine qU (N := 1) rfl ?_); refine qS ?hg (N := 1) ?hd (cs := #[.int .i64 a0_0, .int .i64 a0_1, .int .i64 a0_2, .int .i64 a0_3, .int .i64 a0_4, .int .i64 a0_5]) (t := 29) ?hr ?_; (case hd => rfl); (case hg => rfl); (case hr => first | (go_simp; done) | (go_simp; rfl)); intro gb399 hg w11 hbox hb; have n0_ := Aside0.mk (qF bl hb); have n1_ := Aside0.mk (hbox); have n2_ := Aside0.mk ((gg hg)); have n3_ := Aside0.mk ((gg hg)); clear HB; have HB := n0_; have BK399 := n1_; have GW399 := n2_; have GE399 := n3_; clear n0_ n1_ n2_ n3_; clear hb hbox hg; have hcz12_0 := bc BK399 0; have hcz12_1 := bc BK399 1; have hcz12_2 := bc BK399 2; have hcz12_3 := bc BK399 3; have hcz12_4 := bc BK399 4; have hcz12_5 := bc BK399 5; have hfz12_0 := qA BK399.out 0; have hfz12_1 := qA BK399.out 1; have hfz12_2 := qA BK399.out 2; have hfz12_3 := qA BK399.out 3; have hfz12_4 := qA BK399.out 4; have hfz12_5 := qA BK399.out 5) | ((with_reducible refine qL (f := 33) rfl ?_); refine qc (some 5) rfl rfl Try.func33 (by kernel_rfl) rfl #[.agg #[.int .i64 a0_0, .int .i64 a0_1, .int .i64 a0_2, .int .i64 a0_3, .int .i64 a0_4, .int .i64 a0_5]] rfl (by (try simp only [List.map_toArray, List.map_cons, List.map_nil]); first | done | rfl | (simp only [List.length_drop, List.length_take]; rfl)) ?_; (with_reducible refine (qFA.calls k a0_0 a0_1 a0_2 a0_3 a0_4 a0_5 false _ A2.out).mono ?_); rintro e w13 ⟨rfl, hb⟩; refine ⟨_, rfl, ?_⟩; have n0_ := Aside0.mk (bb BK399 hb); have n1_ := Aside0.mk (qF bl hb); clear BK399; clear HB; have BK399 := n0_; have HB := n1_; clear n0_ n1_; (try clear hb); (try clear hb2); (try clear hk); (try clear hi)))
  go_ret2
  exact ⟨by first | rfl | (simp [qP, qO] <;> rfl) | (simp [*, qP, qO] <;> rfl), bl⟩
def qDA.f (k : Nat) (a0_0 : Int) (a0_1 : Int) (a0_2 : Int) (a0_3 : Int) (a0_4 : Int) (a0_5 : Int) : Option (Int × Bool) := (qQA.f k a0_0 a0_1 a0_2 a0_3 a0_4 a0_5).bind fun t447 => (if t447 = true then ((qr.f a0_0 a0_1 a0_2 a0_3 a0_4 a0_5).bind fun t448 => (some ((t448.length : Int), true))) else (some (0, false)))
set_option maxHeartbeats 8000000 in
set_option maxRecDepth 100000 in
theorem qDA.calls (k : Nat) (a0_0 : Int) (a0_1 : Int) (a0_2 : Int) (a0_3 : Int) (a0_4 : Int) (a0_5 : Int) (r1 : Int) (r2 : Bool) (w : World) (h : qDA.f k a0_0 a0_1 a0_2 a0_3 a0_4 a0_5 = some (r1, r2)) :
  Calls Try.prog 23 #[.agg #[.int .i64 a0_0, .int .i64 a0_1, .int .i64 a0_2, .int .i64 a0_3, .int .i64 a0_4, .int .i64 a0_5]] w fun e w' => e = .returned (.tuple #[.int .i64 r1, .bool r2]) ∧ Below w.heap.size w w' := by
 have hu29 := Try.underlying29
 have HB := Aside0.mk (Below.refl w.heap.size w)
 have H : ((qQA.f k a0_0 a0_1 a0_2 a0_3 a0_4 a0_5).bind fun t447 => (if t447 = true then ((qr.f a0_0 a0_1 a0_2 a0_3 a0_4 a0_5).bind fun t448 => (some ((t448.length : Int), true))) else (some (0, false)))) = some (r1, r2) := h
 clear h
 replace H := Option.bind_eq_some_iff.mp H
 obtain ⟨t447, A20, H⟩ := H
 replace H : (if t447 = true then ((qr.f a0_0 a0_1 a0_2 a0_3 a0_4 a0_5).bind fun t448 => (some ((t448.length : Int), true))) else (some (0, false))) = some (r1, r2) := H
 have A2 := Aside0.mk A20
 clear A20
 by_cases c3 : t447 = true
 ·subst c3
  have H1 : ((qr.f a0_0 a0_1 a0_2 a0_3 a0_4 a0_5).bind fun t448 => (some ((t448.length : Int), true))) = some (r1, r2) := by rw [if_pos rfl] at H; exact H
  clear H
  have H := H1
  clear H1
  replace H := Option.bind_eq_some_iff.mp H
  obtain ⟨t448, A40, H⟩ := H
  replace H : (some ((t448.length : Int), true)) = some (r1, r2) := H
  have A4 := Aside0.mk A40
  clear A40
  simp only [Option.some.injEq, Prod.mk.injEq] at H
  obtain ⟨rfl, rfl⟩ := H
  go_enter Try.func23, Try.ntmps23
  go_wp2_with (first | ((with_reducible refine qU (N := 1) rfl ?_); refine qS ?hg (N := 1) ?hd (cs := #[.int .i64 a0_0, .int .i64 a0_1, .int .i64 a0_2, .int .i64 a0_3, .int .i64 a0_4, .int .i64 a0_5]) (t := 29) ?hr ?_; (case hd => rfl); (case hg => rfl); (case hr => first | (go_simp; done) | (go_simp; rfl)); intro gb446 hg w5 hbox hb; have n0_ := Aside0.mk (qF bl hb); have n1_ := Aside0.mk (hbox); have n2_ := Aside0.mk ((gg hg)); have n3_ := Aside0.mk ((gg hg)); clear HB; have HB := n0_; have BK446 := n1_; have GW446 := n2_; have GE446 := n3_; clear n0_ n1_ n2_ n3_; clear hb hbox hg; have hcz6_0 := bc BK446 0; have hcz6_1 := bc BK446 1; have hcz6_2 := bc BK446 2; have hcz6_3 := bc BK446 3; have hcz6_4 := bc BK446 4; have hcz6_5 := bc BK446 5; have hfz6_0 := qA BK446.out 0; have hfz6_1 := qA BK446.out 1; have hfz6_2 := qA BK446.out 2; have hfz6_3 := qA BK446.out 3; have hfz6_4 := qA BK446.out 4; have hfz6_5 := qA BK446.out 5) | ((with_reducible refine qL (f := 35) rfl ?_); refine qc (some 5) rfl rfl Try.func35 (by kernel_rfl) rfl #[.agg #[.int .i64 a0_0, .int .i64 a0_1, .int .i64 a0_2, .int .i64 a0_3, .int .i64 a0_4, .int .i64 a0_5]] rfl (by (try simp only [List.map_toArray, List.map_cons, List.map_nil]); first | done | rfl | (simp only [List.length_drop, List.length_take]; rfl)) ?_; (with_reducible refine (qQA.calls k a0_0 a0_1 a0_2 a0_3 a0_4 a0_5 true _ A2.out).mono ?_); rintro e w7 ⟨rfl, hb⟩; refine ⟨_, rfl, ?_⟩; have n0_ := Aside0.mk (bb BK446 hb); have n1_ := Aside0.mk (qF bl hb); clear BK446; clear HB; have BK446 := n0_; have HB := n1_; clear n0_ n1_; (try clear hb); (try clear hb2); (try clear hk); (try clear hi); have hcz8_0 := bc BK446 0; have hcz8_1 := bc BK446 1; have hcz8_2 := bc BK446 2; have hcz8_3 := bc BK446 3; have hcz8_4 := bc BK446 4; have hcz8_5 := bc BK446 5; have hfz8_0 := qA BK446.out 0; have hfz8_1 := qA BK446.out 1; have hfz8_2 := qA BK446.out 2; have hfz8_3 := qA BK446.out 3; have hfz8_4 := qA BK446.out 4; have hfz8_5 := qA BK446.out 5) | ((with_reducible refine qL (f := 45) rfl ?_); refine qc (some 8) rfl rfl Try.func45 (by kernel_rfl) rfl #[.agg #[.int .i64 a0_0, .int .i64 a0_1, .int .i64 a0_2, .int .i64 a0_3, .int .i64 a0_4, .int .i64 a0_5]] rfl (by (try simp only [List.map_toArray, List.map_cons, List.map_nil]); first | done | rfl | (simp only [List.length_drop, List.length_take]; rfl)) ?_; (with_reducible refine (qr.calls a0_0 a0_1 a0_2 a0_3 a0_4 a0_5 t448 _ A4.out).mono ?_); rintro e w9 ⟨v449, rfl, ho0, hb⟩; refine ⟨_, rfl, ?_⟩; have n0_ := Aside0.mk (Kd.qLA (Kd.qWA ho0 (g := gb446) (o := .cells #[.int .i64 a0_0, .int .i64 a0_1, .int .i64 a0_2, .int .i64 a0_3, .int .i64 a0_4, .int .i64 a0_5] 29 (0, 0)) (by (with_reducible repeat (first | refine qC ?_ _ | refine qE ?_ | refine qD ?_ _)); exact BK446.out)) (qb bl)); have n1_ := Aside0.mk (bb BK446 hb); have n2_ := Aside0.mk (qF bl hb); clear BK446; clear HB; have HO450 := n0_; have BK446 := n1_; have HB := n2_; clear n0_ n1_ n2_; (try clear hb); (try clear hb2); (try clear hk); (try clear hi); (try clear ho0); obtain ⟨Ao10, co10, eo10⟩ := Kd.qHA HO450.out; subst eo10))
  go_ret2
  exact ⟨by first | rfl | (simp [qP, qO] <;> rfl) | (simp [*, qP, qO] <;> rfl), bl⟩
 ·replace c3 := Bool.eq_false_iff.mpr c3
  subst c3
  have H1 : (some (0, false)) = some (r1, r2) := by rw [if_neg (show ¬ (false = true) by decide)] at H; exact H
  clear H
  have H := H1
  clear H1
  simp only [Option.some.injEq, Prod.mk.injEq] at H
  obtain ⟨rfl, rfl⟩ := H
  go_enter Try.func23, Try.ntmps23
  go_wp2_with (first | ((with_reducible refine qU (N := 1) rfl ?_); refine qS ?hg (N := 1) ?hd (cs := #[.int .i64 a0_0, .int .i64 a0_1, .int .i64 a0_2, .int .i64 a0_3, .int .i64 a0_4, .int .i64 a0_5]) (t := 29) ?hr ?_; (case hd => rfl); (case hg => rfl); (case hr => first | (go_simp; done) | (go_simp; rfl)); intro gb446 hg w11 hbox hb; have n0_ := Aside0.mk (qF bl hb); have n1_ := Aside0.mk (hbox); have n2_ := Aside0.mk ((gg hg)); have n3_ := Aside0.mk ((gg hg)); clear HB; have HB := n0_; have BK446 := n1_; have GW446 := n2_; have GE446 := n3_; clear n0_ n1_ n2_ n3_; clear hb hbox hg; have hcz12_0 := bc BK446 0; have hcz12_1 := bc BK446 1; have hcz12_2 := bc BK446 2; have hcz12_3 := bc BK446 3; have hcz12_4 := bc BK446 4; have hcz12_5 := bc BK446 5; have hfz12_0 := qA BK446.out 0; have hfz12_1 := qA BK446.out 1; have hfz12_2 := qA BK446.out 2; have hfz12_3 := qA BK446.out 3; have hfz12_4 := qA BK446.out 4; have hfz12_5 := qA BK446.out 5) | ((with_reducible refine qL (f := 35) rfl ?_); refine qc (some 5) rfl rfl Try.func35 (by kernel_rfl) rfl #[.agg #[.int .i64 a0_0, .int .i64 a0_1, .int .i64 a0_2, .int .i64 a0_3, .int .i64 a0_4, .int .i64 a0_5]] rfl (by (try simp only [List.map_toArray, List.map_cons, List.map_nil]); first | done | rfl | (simp only [List.length_drop, List.length_take]; rfl)) ?_; (with_reducible refine (qQA.calls k a0_0 a0_1 a0_2 a0_3 a0_4 a0_5 false _ A2.out).mono ?_); rintro e w13 ⟨rfl, hb⟩; refine ⟨_, rfl, ?_⟩; have n0_ := Aside0.mk (bb BK446 hb); have n1_ := Aside0.mk (qF bl hb); clear BK446; clear HB; have BK446 := n0_; have HB := n1_; clear n0_ n1_; (try clear hb); (try clear hb2); (try clear hk); (try clear hi)))
  go_ret2
  exact ⟨by first | rfl | (simp [qP, qO] <;> rfl) | (simp [*, qP, qO] <;> rfl), bl⟩
def qCA.f (k : Nat) (a0_0 : Int) (a0_1 : Int) (a0_2 : Int) (a0_3 : Int) (a0_4 : Int) (a0_5 : Int) : Option (Bool) := (qd.f a0_0 a0_1 a0_2 a0_3 a0_4 a0_5).bind fun bt452 => ((qMA.f k bt452.1 bt452.2.1 bt452.2.2.1 bt452.2.2.2.1 bt452.2.2.2.2.1 bt452.2.2.2.2.2).bind fun bt458 => ((qd.f a0_0 a0_1 a0_2 a0_3 a0_4 a0_5).bind fun bt460 => ((qDA.f k bt460.1 bt460.2.1 bt460.2.2.1 bt460.2.2.2.1 bt460.2.2.2.2.1 bt460.2.2.2.2.2).bind fun bt466 => (if bt466.1 = bt458.1 then (if (bt466.2 != bt458.2) = true then (some false) else (some true)) else (some false)))))
set_option maxHeartbeats 8000000 in
set_option maxRecDepth 100000 in
theorem qCA.calls (k : Nat) (a0_0 : Int) (a0_1 : Int) (a0_2 : Int) (a0_3 : Int) (a0_4 : Int) (a0_5 : Int) (r : Bool) (w : World) (h : qCA.f k a0_0 a0_1 a0_2 a0_3 a0_4 a0_5 = some r) :
  Calls Try.prog 6 #[.agg #[.int .i64 a0_0, .int .i64 a0_1, .int .i64 a0_2, .int .i64 a0_3, .int .i64 a0_4, .int .i64 a0_5]] w fun e w' => e = .returned (.bool r) ∧ Below w.heap.size w w' := by
 have hu25 := Try.underlying25
 have HB := Aside0.mk (Below.refl w.heap.size w)
 have H : ((qd.f a0_0 a0_1 a0_2 a0_3 a0_4 a0_5).bind fun bt452 => ((qMA.f k bt452.1 bt452.2.1 bt452.2.2.1 bt452.2.2.2.1 bt452.2.2.2.2.1 bt452.2.2.2.2.2).bind fun bt458 => ((qd.f a0_0 a0_1 a0_2 a0_3 a0_4 a0_5).bind fun bt460 => ((qDA.f k bt460.1 bt460.2.1 bt460.2.2.1 bt460.2.2.2.1 bt460.2.2.2.2.1 bt460.2.2.2.2.2).bind fun bt466 => (if bt466.1 = bt458.1 then (if (bt466.2 != bt458.2) = true then (some false) else (some true)) else (some false)))))) = some r := h
 clear h
 replace H := Option.bind_eq_some_iff.mp H
 obtain ⟨⟨t452, t453, t454, t455, t456, t457⟩, A20, H⟩ := H
 replace H : ((qMA.f k t452 t453 t454 t455 t456 t457).bind fun bt458 => ((qd.f a0_0 a0_1 a0_2 a0_3 a0_4 a0_5).bind fun bt460 => ((qDA.f k bt460.1 bt460.2.1 bt460.2.2.1 bt460.2.2.2.1 bt460.2.2.2.2.1 bt460.2.2.2.2.2).bind fun bt466 => (if bt466.1 = bt458.1 then (if (bt466.2 != bt458.2) = true then (some false) else (some true)) else (some false))))) = some r := H
 have A2 := Aside0.mk A20
 clear A20
 replace H := Option.bind_eq_some_iff.mp H
 obtain ⟨⟨t458, t459⟩, A30, H⟩ := H
 replace H : ((qd.f a0_0 a0_1 a0_2 a0_3 a0_4 a0_5).bind fun bt460 => ((qDA.f k bt460.1 bt460.2.1 bt460.2.2.1 bt460.2.2.2.1 bt460.2.2.2.2.1 bt460.2.2.2.2.2).bind fun bt466 => (if bt466.1 = t458 then (if (bt466.2 != t459) = true then (some false) else (some true)) else (some false)))) = some r := H
 have A3 := Aside0.mk A30
 clear A30
 replace H := Option.bind_eq_some_iff.mp H
 obtain ⟨⟨t460, t461, t462, t463, t464, t465⟩, A40, H⟩ := H
 replace H : ((qDA.f k t460 t461 t462 t463 t464 t465).bind fun bt466 => (if bt466.1 = t458 then (if (bt466.2 != t459) = true then (some false) else (some true)) else (some false))) = some r := H
 have A4 := Aside0.mk A40
 clear A40
 replace H := Option.bind_eq_some_iff.mp H
 obtain ⟨⟨t466, t467⟩, A50, H⟩ := H
 replace H : (if t466 = t458 then (if (t467 != t459) = true then (some false) else (some true)) else (some false)) = some r := H
 have A5 := Aside0.mk A50
 clear A50
 by_cases c6 : t466 = t458
 ·rw [if_pos c6] at H
  have c6b0 : (t466 == t458) = true := beq_iff_eq.mpr c6
  have c6b1 : (t466 != t458) = false := bne_eq_false_iff_eq.mpr c6
  clear c6
  by_cases c7 : (t467 != t459) = true
  ·rw [if_pos c7] at H
   have c7b0 : (t467 != t459) = true := c7
   (try (have c7b1 : decide (t467 = t459) = false := by simpa using c7))
   (try (have c7b2 : (t467 == t459) = false := by simpa using c7))
   (try (have c7b3 : ¬ (t467 = t459) := by simpa using c7))
   clear c7
   obtain rfl := Option.some.inj H
   go_enter Try.func6, Try.ntmps6
   go_wp2_with (first | ((with_reducible refine qU (N := 1) rfl ?_); refine qS ?hg (N := 1) ?hd (cs := #[.int .i64 a0_0, .int .i64 a0_1, .int .i64 a0_2, .int .i64 a0_3, .int .i64 a0_4, .int .i64 a0_5]) (t := 25) ?hr ?_; (case hd => rfl); (case hg => rfl); (case hr => first | (go_simp; done) | (go_simp; rfl)); intro gb451 hg w8 hbox hb; have n0_ := Aside0.mk (qF bl hb); have n1_ := Aside0.mk (hbox); have n2_ := Aside0.mk ((gg hg)); have n3_ := Aside0.mk ((gg hg)); clear HB; have HB := n0_; have BK451 := n1_; have GW451 := n2_; have GE451 := n3_; clear n0_ n1_ n2_ n3_; clear hb hbox hg; have hcz9_0 := bc BK451 0; have hcz9_1 := bc BK451 1; have hcz9_2 := bc BK451 2; have hcz9_3 := bc BK451 3; have hcz9_4 := bc BK451 4; have hcz9_5 := bc BK451 5; have hfz9_0 := qA BK451.out 0; have hfz9_1 := qA BK451.out 1; have hfz9_2 := qA BK451.out 2; have hfz9_3 := qA BK451.out 3; have hfz9_4 := qA BK451.out 4; have hfz9_5 := qA BK451.out 5) | ((with_reducible refine qL (f := 12) rfl ?_); refine qc (some 9) rfl rfl Try.func12 (by kernel_rfl) rfl #[.agg #[.int .i64 a0_0, .int .i64 a0_1, .int .i64 a0_2, .int .i64 a0_3, .int .i64 a0_4, .int .i64 a0_5]] rfl (by (try simp only [List.map_toArray, List.map_cons, List.map_nil]); first | done | rfl | (simp only [List.length_drop, List.length_take]; rfl)) ?_; (with_reducible refine (qd.calls a0_0 a0_1 a0_2 a0_3 a0_4 a0_5 t452 t453 t454 t455 t456 t457 _ A2.out).mono ?_); rintro e w10 ⟨rfl, hb⟩; refine ⟨_, rfl, ?_⟩; have n0_ := Aside0.mk (bb BK451 hb); have n1_ := Aside0.mk (qF bl hb); clear BK451; clear HB; have BK451 := n0_; have HB := n1_; clear n0_ n1_; (try clear hb); (try clear hb2); (try clear hk); (try clear hi)) | ((with_reducible refine qL (f := 22) rfl ?_); refine qc (some 10) rfl rfl Try.func22 (by kernel_rfl) rfl #[.agg #[.int .i64 t452, .int .i64 t453, .int .i64 t454, .int .i64 t455, .int .i64 t456, .int .i64 t457]] rfl (by (try simp only [List.map_toArray, List.map_cons, List.map_nil]); first | done | rfl | (simp only [List.length_drop, List.length_take]; rfl)) ?_; (with_reducible refine (qMA.calls k t452 t453 t454 t455 t456 t457 t458 t459 _ A3.out).mono ?_); rintro e w11 ⟨rfl, hb⟩; refine ⟨_, rfl, ?_⟩; have n0_ := Aside0.mk (bb BK451 hb); have n1_ := Aside0.mk (qF bl hb); clear BK451; clear HB; have BK451 := n0_; have HB := n1_; clear n0_ n1_; (try clear hb); (try clear hb2); (try clear hk); (try clear hi); have hcz12_0 := bc BK451 0; have hcz12_1 := bc BK451 1; have hcz12_2 := bc BK451 2; have hcz12_3 := bc BK451 3; have hcz12_4 := bc BK451 4; have hcz12_5 := bc BK451 5; have hfz12_0 := qA BK451.out 0; have hfz12_1 := qA BK451.out 1; have hfz12_2 := qA BK451.out 2; have hfz12_3 := qA BK451.out 3; have hfz12_4 := qA BK451.out 4; have hfz12_5 := qA BK451.out 5) | ((with_reducible refine qL (f := 12) rfl ?_); refine qc (some 15) rfl rfl Try.func12 (by kernel_rfl) rfl #[.agg #[.int .i64 a0_0, .int .i64 a0_1, .int .i64 a0_2, .int .i64 a0_3, .int .i64 a0_4, .int .i64 a0_5]] rfl (by (try simp only [List.map_toArray, List.map_cons, List.map_nil]); first | done | rfl | (simp only [List.length_drop, List.length_take]; rfl)) ?_; (with_reducible refine (qd.calls a0_0 a0_1 a0_2 a0_3 a0_4 a0_5 t460 t461 t462 t463 t464 t465 _ A4.out).mono ?_); rintro e w13 ⟨rfl, hb⟩; refine ⟨_, rfl, ?_⟩; have n0_ := Aside0.mk (bb BK451 hb); have n1_ := Aside0.mk (qF bl hb); clear BK451; clear HB; have BK451 := n0_; have HB := n1_; clear n0_ n1_; (try clear hb); (try clear hb2); (try clear hk); (try clear hi)) | ((with_reducible refine qL (f := 23) rfl ?_); refine qc (some 16) rfl rfl Try.func23 (by kernel_rfl) rfl #[.agg #[.int .i64 t460, .int .i64 t461, .int .i64 t462, .int .i64 t463, .int .i64 t464, .int .i64 t465]] rfl (by (try simp only [List.map_toArray, List.map_cons, List.map_nil]); first | done | rfl | (simp only [List.length_drop, List.length_take]; rfl)) ?_; (with_reducible refine (qDA.calls k t460 t461 t462 t463 t464 t465 t466 t467 _ A5.out).mono ?_); rintro e w14 ⟨rfl, hb⟩; refine ⟨_, rfl, ?_⟩; have n0_ := Aside0.mk (bb BK451 hb); have n1_ := Aside0.mk (qF bl hb); clear BK451; clear HB; have BK451 := n0_; have HB := n1_; clear n0_ n1_; (try clear hb); (try clear hb2); (try clear hk); (try clear hi)))
   go_ret
   exact ⟨by first | rfl | (simp [qP, qO] <;> rfl) | (simp [*, qP, qO] <;> rfl), bl⟩
  ·rw [if_neg c7] at H
   have c7b0 : (t467 != t459) = false := by simpa using c7
   (try (have c7b1 : decide (t467 = t459) = true := by simpa using c7))
   (try (have c7b2 : (t467 == t459) = true := by simpa using c7))
   clear c7
   obtain rfl := Option.some.inj H
   go_enter Try.func6, Try.ntmps6
   go_wp2_with (first | ((with_reducible refine qU (N := 1) rfl ?_); refine qS ?hg (N := 1) ?hd (cs := #[.int .i64 a0_0, .int .i64 a0_1, .int .i64 a0_2, .int .i64 a0_3, .int .i64 a0_4, .int .i64 a0_5]) (t := 25) ?hr ?_; (case hd => rfl); (case hg => rfl); (case hr => first | (go_simp; done) | (go_simp; rfl)); intro gb451 hg w15 hbox hb; have n0_ := Aside0.mk (qF bl hb); have n1_ := Aside0.mk (hbox); have n2_ := Aside0.mk ((gg hg)); have n3_ := Aside0.mk ((gg hg)); clear HB; have HB := n0_; have BK451 := n1_; have GW451 := n2_; have GE451 := n3_; clear n0_ n1_ n2_ n3_; clear hb hbox hg; have hcz16_0 := bc BK451 0; have hcz16_1 := bc BK451 1; have hcz16_2 := bc BK451 2; have hcz16_3 := bc BK451 3; have hcz16_4 := bc BK451 4; have hcz16_5 := bc BK451 5; have hfz16_0 := qA BK451.out 0; have hfz16_1 := qA BK451.out 1; have hfz16_2 := qA BK451.out 2; have hfz16_3 := qA BK451.out 3; have hfz16_4 := qA BK451.out 4; have hfz16_5 := qA BK451.out 5) | ((with_reducible refine qL (f := 12) rfl ?_); refine qc (some 9) rfl rfl Try.func12 (by kernel_rfl) rfl #[.agg #[.int .i64 a0_0, .int .i64 a0_1, .int .i64 a0_2, .int .i64 a0_3, .int .i64 a0_4, .int .i64 a0_5]] rfl (by (try simp only [List.map_toArray, List.map_cons, List.map_nil]); first | done | rfl | (simp only [List.length_drop, List.length_take]; rfl)) ?_; (with_reducible refine (qd.calls a0_0 a0_1 a0_2 a0_3 a0_4 a0_5 t452 t453 t454 t455 t456 t457 _ A2.out).mono ?_); rintro e w17 ⟨rfl, hb⟩; refine ⟨_, rfl, ?_⟩; have n0_ := Aside0.mk (bb BK451 hb); have n1_ := Aside0.mk (qF bl hb); clear BK451; clear HB; have BK451 := n0_; have HB := n1_; clear n0_ n1_; (try clear hb); (try clear hb2); (try clear hk); (try clear hi)) | ((with_reducible refine qL (f := 22) rfl ?_); refine qc (some 10) rfl rfl Try.func22 (by kernel_rfl) rfl #[.agg #[.int .i64 t452, .int .i64 t453, .int .i64 t454, .int .i64 t455, .int .i64 t456, .int .i64 t457]] rfl (by (try simp only [List.map_toArray, List.map_cons, List.map_nil]); first | done | rfl | (simp only [List.length_drop, List.length_take]; rfl)) ?_; (with_reducible refine (qMA.calls k t452 t453 t454 t455 t456 t457 t458 t459 _ A3.out).mono ?_); rintro e w18 ⟨rfl, hb⟩; refine ⟨_, rfl, ?_⟩; have n0_ := Aside0.mk (bb BK451 hb); have n1_ := Aside0.mk (qF bl hb); clear BK451; clear HB; have BK451 := n0_; have HB := n1_; clear n0_ n1_; (try clear hb); (try clear hb2); (try clear hk); (try clear hi); have hcz19_0 := bc BK451 0; have hcz19_1 := bc BK451 1; have hcz19_2 := bc BK451 2; have hcz19_3 := bc BK451 3; have hcz19_4 := bc BK451 4; have hcz19_5 := bc BK451 5; have hfz19_0 := qA BK451.out 0; have hfz19_1 := qA BK451.out 1; have hfz19_2 := qA BK451.out 2; have hfz19_3 := qA BK451.out 3; have hfz19_4 := qA BK451.out 4; have hfz19_5 := qA BK451.out 5) | ((with_reducible refine qL (f := 12) rfl ?_); refine qc (some 15) rfl rfl Try.func12 (by kernel_rfl) rfl #[.agg #[.int .i64 a0_0, .int .i64 a0_1, .int .i64 a0_2, .int .i64 a0_3, .int .i64 a0_4, .int .i64 a0_5]] rfl (by (try simp only [List.map_toArray, List.map_cons, List.map_nil]); first | done | rfl | (simp only [List.length_drop, List.length_take]; rfl)) ?_; (with_reducible refine (qd.calls a0_0 a0_1 a0_2 a0_3 a0_4 a0_5 t460 t461 t462 t463 t464 t465 _ A4.out).mono ?_); rintro e w20 ⟨rfl, hb⟩; refine ⟨_, rfl, ?_⟩; have n0_ := Aside0.mk (bb BK451 hb); have n1_ := Aside0.mk (qF bl hb); clear BK451; clear HB; have BK451 := n0_; have HB := n1_; clear n0_ n1_; (try clear hb); (try clear hb2); (try clear hk); (try clear hi)) | ((with_reducible refine qL (f := 23) rfl ?_); refine qc (some 16) rfl rfl Try.func23 (by kernel_rfl) rfl #[.agg #[.int .i64 t460, .int .i64 t461, .int .i64 t462, .int .i64 t463, .int .i64 t464, .int .i64 t465]] rfl (by (try simp only [List.map_toArray, List.map_cons, List.map_nil]); first | done | rfl | (simp only [List.length_drop, List.length_take]; rfl)) ?_; (with_reducible refine (qDA.calls k t460 t461 t462 t463 t464 t465 t466 t467 _ A5.out).mono ?_); rintro e w21 ⟨rfl, hb⟩; refine ⟨_, rfl, ?_⟩; have n0_ := Aside0.mk (bb BK451 hb); have n1_ := Aside0.mk (qF bl hb); clear BK451; clear HB; have BK451 := n0_; have HB := n1_; clear n0_ n1_; (try clear hb); (try clear hb2); (try clear hk); (try clear hi)))
   go_ret
   exact ⟨by first | rfl | (simp [qP, qO] <;> rfl) | (simp [*, qP, qO] <;> rfl), bl⟩
 ·rw [if_neg c6] at H
  have c6b0 : (t466 == t458) = false := beq_eq_false_iff_ne.mpr c6
  have c6b1 : (t466 != t458) = true := bne_iff_ne.mpr c6
  obtain rfl := Option.some.inj H
  go_enter Try.func6, Try.ntmps6
  go_wp2_with (first | ((with_reducible refine qU (N := 1) rfl ?_); refine qS ?hg (N := 1) ?hd (cs := #[.int .i64 a0_0, .int .i64 a0_1, .int .i64 a0_2, .int .i64 a0_3, .int .i64 a0_4, .int .i64 a0_5]) (t := 25) ?hr ?_; (case hd => rfl); (case hg => rfl); (case hr => first | (go_simp; done) | (go_simp; rfl)); intro gb451 hg w22 hbox hb; have n0_ := Aside0.mk (qF bl hb); have n1_ := Aside0.mk (hbox); have n2_ := Aside0.mk ((gg hg)); have n3_ := Aside0.mk ((gg hg)); clear HB; have HB := n0_; have BK451 := n1_; have GW451 := n2_; have GE451 := n3_; clear n0_ n1_ n2_ n3_; clear hb hbox hg; have hcz23_0 := bc BK451 0; have hcz23_1 := bc BK451 1; have hcz23_2 := bc BK451 2; have hcz23_3 := bc BK451 3; have hcz23_4 := bc BK451 4; have hcz23_5 := bc BK451 5; have hfz23_0 := qA BK451.out 0; have hfz23_1 := qA BK451.out 1; have hfz23_2 := qA BK451.out 2; have hfz23_3 := qA BK451.out 3; have hfz23_4 := qA BK451.out 4; have hfz23_5 := qA BK451.out 5) | ((with_reducible refine qL (f := 12) rfl ?_); refine qc (some 9) rfl rfl Try.func12 (by kernel_rfl) rfl #[.agg #[.int .i64 a0_0, .int .i64 a0_1, .int .i64 a0_2, .int .i64 a0_3, .int .i64 a0_4, .int .i64 a0_5]] rfl (by (try simp only [List.map_toArray, List.map_cons, List.map_nil]); first | done | rfl | (simp only [List.length_drop, List.length_take]; rfl)) ?_; (with_reducible refine (qd.calls a0_0 a0_1 a0_2 a0_3 a0_4 a0_5 t452 t453 t454 t455 t456 t457 _ A2.out).mono ?_); rintro e w24 ⟨rfl, hb⟩; refine ⟨_, rfl, ?_⟩; have n0_ := Aside0.mk (bb BK451 hb); have n1_ := Aside0.mk (qF bl hb); clear BK451; clear HB; have BK451 := n0_; have HB := n1_; clear n0_ n1_; (try clear hb); (try clear hb2); (try clear hk); (try clear hi)) | ((with_reducible refine qL (f := 22) rfl ?_); refine qc (some 10) rfl rfl Try.func22 (by kernel_rfl) rfl #[.agg #[.int .i64 t452, .int .i64 t453, .int .i64 t454, .int .i64 t455, .int .i64 t456, .int .i64 t457]] rfl (by (try simp only [List.map_toArray, List.map_cons, List.map_nil]); first | done | rfl | (simp only [List.length_drop, List.length_take]; rfl)) ?_; (with_reducible refine (qMA.calls k t452 t453 t454 t455 t456 t457 t458 t459 _ A3.out).mono ?_); rintro e w25 ⟨rfl, hb⟩; refine ⟨_, rfl, ?_⟩; have n0_ := Aside0.mk (bb BK451 hb); have n1_ := Aside0.mk (qF bl hb); clear BK451; clear HB; have BK451 := n0_; have HB := n1_; clear n0_ n1_; (try clear hb); (try clear hb2); (try clear hk); (try clear hi); have hcz26_0 := bc BK451 0; have hcz26_1 := bc BK451 1; have hcz26_2 := bc BK451 2; have hcz26_3 := bc BK451 3; have hcz26_4 := bc BK451 4; have hcz26_5 := bc BK451 5; have hfz26_0 := qA BK451.out 0; have hfz26_1 := qA BK451.out 1; have hfz26_2 := qA BK451.out 2; have hfz26_3 := qA BK451.out 3; have hfz26_4 := qA BK451.out 4; have hfz26_5 := qA BK451.out 5) | ((with_reducible refine qL (f := 12) rfl ?_); refine qc (some 15) rfl rfl Try.func12 (by kernel_rfl) rfl #[.agg #[.int .i64 a0_0, .int .i64 a0_1, .int .i64 a0_2, .int .i64 a0_3, .int .i64 a0_4, .int .i64 a0_5]] rfl (by (try simp only [List.map_toArray, List.map_cons, List.map_nil]); first | done | rfl | (simp only [List.length_drop, List.length_take]; rfl)) ?_; (with_reducible refine (qd.calls a0_0 a0_1 a0_2 a0_3 a0_4 a0_5 t460 t461 t462 t463 t464 t465 _ A4.out).mono ?_); rintro e w27 ⟨rfl, hb⟩; refine ⟨_, rfl, ?_⟩; have n0_ := Aside0.mk (bb BK451 hb); have n1_ := Aside0.mk (qF bl hb); clear BK451; clear HB; have BK451 := n0_; have HB := n1_; clear n0_ n1_; (try clear hb); (try clear hb2); (try clear hk); (try clear hi)) | ((with_reducible refine qL (f := 23) rfl ?_); refine qc (some 16) rfl rfl Try.func23 (by kernel_rfl) rfl #[.agg #[.int .i64 t460, .int .i64 t461, .int .i64 t462, .int .i64 t463, .int .i64 t464, .int .i64 t465]] rfl (by (try simp only [List.map_toArray, List.map_cons, List.map_nil]); first | done | rfl | (simp only [List.length_drop, List.length_take]; rfl)) ?_; (with_reducible refine (qDA.calls k t460 t461 t462 t463 t464 t465 t466 t467 _ A5.out).mono ?_); rintro e w28 ⟨rfl, hb⟩; refine ⟨_, rfl, ?_⟩; have n0_ := Aside0.mk (bb BK451 hb); have n1_ := Aside0.mk (qF bl hb); clear BK451; clear HB; have BK451 := n0_; have HB := n1_; clear n0_ n1_; (try clear hb); (try clear hb2); (try clear hk); (try clear hi)))
  go_ret
  exact ⟨by first | rfl | (simp [qP, qO] <;> rfl) | (simp [*, qP, qO] <;> rfl), bl⟩
def qCA.Pure : Prop := ∀ (a0_0 : Int) (a0_1 : Int) (a0_2 : Int) (a0_3 : Int) (a0_4 : Int) (a0_5 : Int), (Lit.int .i64 a0_0).wf = true → (Lit.int .i64 a0_1).wf = true → (Lit.int .i64 a0_2).wf = true → (Lit.int .i64 a0_3).wf = true → (Lit.int .i64 a0_4).wf = true → (Lit.int .i64 a0_5).wf = true → ∃ k, qCA.f k a0_0 a0_1 a0_2 a0_3 a0_4 a0_5 = some true
end Go.Proofs.Ytbmiekopflgicaa.P
namespace Go.Proofs.Ytbmiekopflgicaa.Pure
open Go.RowKit Go.Proofs.Ytbmiekopflgicaa.P Go.Proofs.YtbmiekopflgicaaW.PrintWords Go.Proofs.YtbmiekopflgicaaW.PrintLast
set_option linter.unusedVariables false
set_option linter.unusedSimpArgs false
theorem qpB (a b c d e f : Int) : Ev (fun k => qMA.f k a b c d e f) (if dieB a b c d e f = true then (((waysD ⟨a, b, c, d, e, f⟩).length : Int), true) else (0, false)) := by
 unfold qMA.f
 refine Ev.bind (qEB a b c d e f) ?_
 split
 ·exact Ev.bind (qwB ⟨a, b, c, d, e, f⟩) (Ev.now _)
 ·exact Ev.now _
theorem qhB (a b c d e f : Int) : Ev (fun k => qDA.f k a b c d e f) (if dieB a b c d e f = true then (((waysD ⟨a, b, c, d, e, f⟩).length : Int), true) else (0, false)) := by
 unfold qDA.f
 refine Ev.bind (qIB a b c d e f) ?_
 split
 ·exact Ev.bindc (a := waysD ⟨a, b, c, d, e, f⟩) rfl (Ev.now _)
 ·exact Ev.now _
theorem FnExactCountWays : qCA.Pure := by
 intro a b c d e f _ _ _ _ _ _
 refine Ev.rounds (r := true) ?_
 unfold qCA.f
 refine Ev.bindc (a := (a, b, c, d, e, f)) rfl (Ev.bind (qpB a b c d e f) (Ev.bindc (a := (a, b, c, d, e, f)) rfl (Ev.bind (qhB a b c d e f) (Ev.pos rfl (Ev.neg (by simp) (Ev.now _))))))
end Go.Proofs.Ytbmiekopflgicaa.Pure
