/- The program's WaysToLie returns what the reference's returns, for every die, and leaves no shared memory behind. No further condition. -/
import Derived.Test.YtbmiekopflgicaaKC2

namespace Go.Proofs.Ytbmiekopflgicaa.P
open Go.RowKit Go.Proofs.YtbmiekopflgicaaW.PrintWords Go.Proofs.YtbmiekopflgicaaW.PrintLast Go.Proofs.YtbmiekopflgicaaW.PrintMore
attribute [local go_sem] qn ql qx qw qh qg qm qk
set_option linter.unusedVariables false
set_option linter.unusedSimpArgs false
def qTA.f (k : Nat) (a0_0 : Int) (a0_1 : Int) (a0_2 : Int) (a0_3 : Int) (a0_4 : Int) (a0_5 : Int) : Option ((List (S29)) × Bool) := (qFA.f k a0_0 a0_1 a0_2 a0_3 a0_4 a0_5).bind fun t513 => (if t513 = true then ((qN.f k a0_0 a0_1 a0_2 a0_3 a0_4 a0_5).bind fun t514 => (some (t514, true))) else (some (([] : List (S29)), false)))
set_option maxHeartbeats 8000000 in
set_option maxRecDepth 100000 in
theorem qTA.calls (k : Nat) (a0_0 : Int) (a0_1 : Int) (a0_2 : Int) (a0_3 : Int) (a0_4 : Int) (a0_5 : Int) (r1 : List (S29)) (r2 : Bool) (w : World) (h : qTA.f k a0_0 a0_1 a0_2 a0_3 a0_4 a0_5 = some (r1, r2)) :
  Calls Try.prog 27 #[.agg #[.int .i64 a0_0, .int .i64 a0_1, .int .i64 a0_2, .int .i64 a0_3, .int .i64 a0_4, .int .i64 a0_5]] w fun e w' => ∃ v0_ : Value, e = .returned (.tuple #[v0_, .bool r2]) ∧ Kd.R k29 29 w' w.heap.size (fun _ => True) v0_ r1 ∧ Below w.heap.size w w' := by
 have hu29 := Try.underlying29
 have HB := Aside0.mk (Below.refl w.heap.size w)
 have H : ((qFA.f k a0_0 a0_1 a0_2 a0_3 a0_4 a0_5).bind fun t513 => (if t513 = true then ((qN.f k a0_0 a0_1 a0_2 a0_3 a0_4 a0_5).bind fun t514 => (some (t514, true))) else (some (([] : List (S29)), false)))) = some (r1, r2) := h
 clear h
 replace H := Option.bind_eq_some_iff.mp H
 obtain ⟨t513, A20, H⟩ := H
 replace H : (if t513 = true then ((qN.f k a0_0 a0_1 a0_2 a0_3 a0_4 a0_5).bind fun t514 => (some (t514, true))) else (some (([] : List (S29)), false))) = some (r1, r2) := H
 have A2 := Aside0.mk A20
 clear A20
 by_cases c3 : t513 = true
 ·subst c3
  have H1 : ((qN.f k a0_0 a0_1 a0_2 a0_3 a0_4 a0_5).bind fun t514 => (some (t514, true))) = some (r1, r2) := by rw [if_pos rfl] at H; exact H
  clear H
  have H := H1
  clear H1
  replace H := Option.bind_eq_some_iff.mp H
  obtain ⟨t514, A40, H⟩ := H
  replace H : (some (t514, true)) = some (r1, r2) := H
  have A4 := Aside0.mk A40
  clear A40
  simp only [Option.some.injEq, Prod.mk.injEq] at H
  obtain ⟨rfl, rfl⟩ := H
  go_enter Try.func27, Try.ntmps27
  go_wp2_with (first | ((with_reducible refine qU (N := 1) rfl ?_); refine qS ?hg (N := 1) ?hd (cs := #[.int .i64 a0_0, .int .i64 a0_1, .int .i64 a0_2, .int .i64 a0_3, .int .i64 a0_4, .int .i64 a0_5]) (t := 29) ?hr ?_; (case hd => rfl); (case hg => rfl); (case hr => first | (go_simp; done) | (go_simp; rfl)); intro gb512 hg w5 hbox hb; have n0_ := Aside0.mk (qF bl hb); have n1_ := Aside0.mk (hbox); have n2_ := Aside0.mk ((gg hg)); have n3_ := Aside0.mk ((gg hg)); clear HB; have HB := n0_; have BK512 := n1_; have GW512 := n2_; have GE512 := n3_; clear n0_ n1_ n2_ n3_; clear hb hbox hg; have hcz6_0 := bc BK512 0; have hcz6_1 := bc BK512 1; have hcz6_2 := bc BK512 2; have hcz6_3 := bc BK512 3; have hcz6_4 := bc BK512 4; have hcz6_5 := bc BK512 5; have hfz6_0 := qA BK512.out 0; have hfz6_1 := qA BK512.out 1; have hfz6_2 := qA BK512.out 2; have hfz6_3 := qA BK512.out 3; have hfz6_4 := qA BK512.out 4; have hfz6_5 := qA BK512.out 5) | ((with_reducible refine qL (f := 33) rfl ?_); refine qc (some 5) rfl rfl Try.func33 (by kernel_rfl) rfl #[.agg #[.int .i64 a0_0, .int .i64 a0_1, .int .i64 a0_2, .int .i64 a0_3, .int .i64 a0_4, .int .i64 a0_5]] rfl (by (try simp only [List.map_toArray, List.map_cons, List.map_nil]); first | done | rfl | (simp only [List.length_drop, List.length_take]; rfl)) ?_; (with_reducible refine (qFA.calls k a0_0 a0_1 a0_2 a0_3 a0_4 a0_5 true _ A2.out).mono ?_); rintro e w7 ⟨rfl, hb⟩; refine ⟨_, rfl, ?_⟩; have n0_ := Aside0.mk (bb BK512 hb); have n1_ := Aside0.mk (qF bl hb); clear BK512; clear HB; have BK512 := n0_; have HB := n1_; clear n0_ n1_; (try clear hb); (try clear hb2); (try clear hk); (try clear hi); have hcz8_0 := bc BK512 0; have hcz8_1 := bc BK512 1; have hcz8_2 := bc BK512 2; have hcz8_3 := bc BK512 3; have hcz8_4 := bc BK512 4; have hcz8_5 := bc BK512 5; have hfz8_0 := qA BK512.out 0; have hfz8_1 := qA BK512.out 1; have hfz8_2 := qA BK512.out 2; have hfz8_3 := qA BK512.out 3; have hfz8_4 := qA BK512.out 4; have hfz8_5 := qA BK512.out 5) | ((with_reducible refine qL (f := 44) rfl ?_); refine qc (some 8) rfl rfl Try.func44 (by kernel_rfl) rfl #[.agg #[.int .i64 a0_0, .int .i64 a0_1, .int .i64 a0_2, .int .i64 a0_3, .int .i64 a0_4, .int .i64 a0_5]] rfl (by (try simp only [List.map_toArray, List.map_cons, List.map_nil]); first | done | rfl | (simp only [List.length_drop, List.length_take]; rfl)) ?_; (with_reducible refine (qN.calls k a0_0 a0_1 a0_2 a0_3 a0_4 a0_5 t514 _ A4.out).mono ?_); rintro e w9 ⟨v515, rfl, ho0, hb⟩; refine ⟨_, rfl, ?_⟩; have n0_ := Aside0.mk (Kd.qLA (Kd.qWA ho0 (g := gb512) (o := .cells #[.int .i64 a0_0, .int .i64 a0_1, .int .i64 a0_2, .int .i64 a0_3, .int .i64 a0_4, .int .i64 a0_5] 29 (0, 0)) (by (with_reducible repeat (first | refine qC ?_ _ | refine qE ?_ | refine qD ?_ _)); exact BK512.out)) (qb bl)); have n1_ := Aside0.mk (bb BK512 hb); have n2_ := Aside0.mk (qF bl hb); clear BK512; clear HB; have HO516 := n0_; have BK512 := n1_; have HB := n2_; clear n0_ n1_ n2_; (try clear hb); (try clear hb2); (try clear hk); (try clear hi); (try clear ho0)))
  go_ret2
  exact ⟨_, by first | rfl | (simp [qP, qO] <;> rfl) | (simp [*, qP, qO] <;> rfl), by (with_reducible repeat (first | apply Kd.qH | apply Kd.qI | apply Kd.qK)); exact Kd.qa HO516.out (fun _ hk => trivial), bl⟩
 ·replace c3 := Bool.eq_false_iff.mpr c3
  subst c3
  have H1 : (some (([] : List (S29)), false)) = some (r1, r2) := by rw [if_neg (show ¬ (false = true) by decide)] at H; exact H
  clear H
  have H := H1
  clear H1
  simp only [Option.some.injEq, Prod.mk.injEq] at H
  obtain ⟨rfl, rfl⟩ := H
  go_enter Try.func27, Try.ntmps27
  go_wp2_with (first | ((with_reducible refine qU (N := 1) rfl ?_); refine qS ?hg (N := 1) ?hd (cs := #[.int .i64 a0_0, .int .i64 a0_1, .int .i64 a0_2, .int .i64 a0_3, .int .i64 a0_4, .int .i64 a0_5]) (t := 29) ?hr ?_; (case hd => rfl); (case hg => rfl); (case hr => first | (go_simp; done) | (go_simp; rfl)); intro gb512 hg w10 hbox hb; have n0_ := Aside0.mk (qF bl hb); have n1_ := Aside0.mk (hbox); have n2_ := Aside0.mk ((gg hg)); have n3_ := Aside0.mk ((gg hg)); clear HB; have HB := n0_; have BK512 := n1_; have GW512 := n2_; have GE512 := n3_; clear n0_ n1_ n2_ n3_; clear hb hbox hg; have hcz11_0 := bc BK512 0; have hcz11_1 := bc BK512 1; have hcz11_2 := bc BK512 2; have hcz11_3 := bc BK512 3; have hcz11_4 := bc BK512 4; have hcz11_5 := bc BK512 5; have hfz11_0 := qA BK512.out 0; have hfz11_1 := qA BK512.out 1; have hfz11_2 := qA BK512.out 2; have hfz11_3 := qA BK512.out 3; have hfz11_4 := qA BK512.out 4; have hfz11_5 := qA BK512.out 5) | ((with_reducible refine qL (f := 33) rfl ?_); refine qc (some 5) rfl rfl Try.func33 (by kernel_rfl) rfl #[.agg #[.int .i64 a0_0, .int .i64 a0_1, .int .i64 a0_2, .int .i64 a0_3, .int .i64 a0_4, .int .i64 a0_5]] rfl (by (try simp only [List.map_toArray, List.map_cons, List.map_nil]); first | done | rfl | (simp only [List.length_drop, List.length_take]; rfl)) ?_; (with_reducible refine (qFA.calls k a0_0 a0_1 a0_2 a0_3 a0_4 a0_5 false _ A2.out).mono ?_); rintro e w12 ⟨rfl, hb⟩; refine ⟨_, rfl, ?_⟩; have n0_ := Aside0.mk (bb BK512 hb); have n1_ := Aside0.mk (qF bl hb); clear BK512; clear HB; have BK512 := n0_; have HB := n1_; clear n0_ n1_; (try clear hb); (try clear hb2); (try clear hk); (try clear hi)))
  go_ret2
  exact ⟨_, by first | rfl | (simp [qP, qO] <;> rfl) | (simp [*, qP, qO] <;> rfl), by first | exact Kd.R_nil _ _ _ _ _ | exact Kd.N_nil _ _ _ _ _ | exact Kd.V_nil _ _ _ _ _ | exact Kd.Q_nil _ _ _ _ _ | exact Kd.S_nil _ _ _ _ _, bl⟩
def qo.f (k : Nat) (a0_0 : Int) (a0_1 : Int) (a0_2 : Int) (a0_3 : Int) (a0_4 : Int) (a0_5 : Int) : Option ((List (S29)) × Bool) := (qQA.f k a0_0 a0_1 a0_2 a0_3 a0_4 a0_5).bind fun t518 => (if t518 = true then ((qr.f a0_0 a0_1 a0_2 a0_3 a0_4 a0_5).bind fun t519 => (some (t519, true))) else (some (([] : List (S29)), false)))
set_option maxHeartbeats 8000000 in
set_option maxRecDepth 100000 in
theorem qo.calls (k : Nat) (a0_0 : Int) (a0_1 : Int) (a0_2 : Int) (a0_3 : Int) (a0_4 : Int) (a0_5 : Int) (r1 : List (S29)) (r2 : Bool) (w : World) (h : qo.f k a0_0 a0_1 a0_2 a0_3 a0_4 a0_5 = some (r1, r2)) :
  Calls Try.prog 28 #[.agg #[.int .i64 a0_0, .int .i64 a0_1, .int .i64 a0_2, .int .i64 a0_3, .int .i64 a0_4, .int .i64 a0_5]] w fun e w' => ∃ v0_ : Value, e = .returned (.tuple #[v0_, .bool r2]) ∧ Kd.R k29 29 w' w.heap.size (fun _ => True) v0_ r1 ∧ Below w.heap.size w w' := by
 have hu29 := Try.underlying29
 have HB := Aside0.mk (Below.refl w.heap.size w)
 have H : ((qQA.f k a0_0 a0_1 a0_2 a0_3 a0_4 a0_5).bind fun t518 => (if t518 = true then ((qr.f a0_0 a0_1 a0_2 a0_3 a0_4 a0_5).bind fun t519 => (some (t519, true))) else (some (([] : List (S29)), false)))) = some (r1, r2) := h
 clear h
 replace H := Option.bind_eq_some_iff.mp H
 obtain ⟨t518, A20, H⟩ := H
 replace H : (if t518 = true then ((qr.f a0_0 a0_1 a0_2 a0_3 a0_4 a0_5).bind fun t519 => (some (t519, true))) else (some (([] : List (S29)), false))) = some (r1, r2) := H
 have A2 := Aside0.mk A20
 clear A20
 by_cases c3 : t518 = true
 ·subst c3
  have H1 : ((qr.f a0_0 a0_1 a0_2 a0_3 a0_4 a0_5).bind fun t519 => (some (t519, true))) = some (r1, r2) := by rw [if_pos rfl] at H; exact H
  clear H
  have H := H1
  clear H1
  replace H := Option.bind_eq_some_iff.mp H
  obtain ⟨t519, A40, H⟩ := H
  replace H : (some (t519, true)) = some (r1, r2) := H
  have A4 := Aside0.mk A40
  clear A40
  simp only [Option.some.injEq, Prod.mk.injEq] at H
  obtain ⟨rfl, rfl⟩ := H
  go_enter Try.func28, Try.ntmps28
  go_wp2_with (first | ((with_reducible refine qU (N := 1) rfl ?_); refine qS ?hg (N := 1) ?hd (cs := #[.int .i64 a0_0, .int .i64 a0_1, .int .i64 a0_2, .int .i64 a0_3, .int .i64 a0_4, .int .i64 a0_5]) (t := 29) ?hr ?_; (case hd => rfl); (case hg => rfl); (case hr => first | (go_simp; done) | (go_simp; rfl)); intro gb517 hg w5 hbox hb; have n0_ := Aside0.mk (qF bl hb); have n1_ := Aside0.mk (hbox); have n2_ := Aside0.mk ((gg hg)); have n3_ := Aside0.mk ((gg hg)); clear HB; have HB := n0_; have BK517 := n1_; have GW517 := n2_; have GE517 := n3_; clear n0_ n1_ n2_ n3_; clear hb hbox hg; have hcz6_0 := bc BK517 0; have hcz6_1 := bc BK517 1; have hcz6_2 := bc BK517 2; have hcz6_3 := bc BK517 3; have hcz6_4 := bc BK517 4; have hcz6_5 := bc BK517 5; have hfz6_0 := qA BK517.out 0; have hfz6_1 := qA BK517.out 1; have hfz6_2 := qA BK517.out 2; have hfz6_3 := qA BK517.out 3; have hfz6_4 := qA BK517.out 4; have hfz6_5 := qA BK517.out 5) | ((with_reducible refine qL (f := 35) rfl ?_); refine qc (some 5) rfl rfl Try.func35 (by kernel_rfl) rfl #[.agg #[.int .i64 a0_0, .int .i64 a0_1, .int .i64 a0_2, .int .i64 a0_3, .int .i64 a0_4, .int .i64 a0_5]] rfl (by (try simp only [List.map_toArray, List.map_cons, List.map_nil]); first | done | rfl | (simp only [List.length_drop, List.length_take]; rfl)) ?_; (with_reducible refine (qQA.calls k a0_0 a0_1 a0_2 a0_3 a0_4 a0_5 true _ A2.out).mono ?_); rintro e w7 ⟨rfl, hb⟩; refine ⟨_, rfl, ?_⟩; have n0_ := Aside0.mk (bb BK517 hb); have n1_ := Aside0.mk (qF bl hb); clear BK517; clear HB; have BK517 := n0_; have HB := n1_; clear n0_ n1_; (try clear hb); (try clear hb2); (try clear hk); (try clear hi); have hcz8_0 := bc BK517 0; have hcz8_1 := bc BK517 1; have hcz8_2 := bc BK517 2; have hcz8_3 := bc BK517 3; have hcz8_4 := bc BK517 4; have hcz8_5 := bc BK517 5; have hfz8_0 := qA BK517.out 0; have hfz8_1 := qA BK517.out 1; have hfz8_2 := qA BK517.out 2; have hfz8_3 := qA BK517.out 3; have hfz8_4 := qA BK517.out 4; have hfz8_5 := qA BK517.out 5) | ((with_reducible refine qL (f := 45) rfl ?_); refine qc (some 8) rfl rfl Try.func45 (by kernel_rfl) rfl #[.agg #[.int .i64 a0_0, .int .i64 a0_1, .int .i64 a0_2, .int .i64 a0_3, .int .i64 a0_4, .int .i64 a0_5]] rfl (by (try simp only [List.map_toArray, List.map_cons, List.map_nil]); first | done | rfl | (simp only [List.length_drop, List.length_take]; rfl)) ?_; (with_reducible refine (qr.calls a0_0 a0_1 a0_2 a0_3 a0_4 a0_5 t519 _ A4.out).mono ?_); rintro e w9 ⟨v520, rfl, ho0, hb⟩; refine ⟨_, rfl, ?_⟩; have n0_ := Aside0.mk (Kd.qLA (Kd.qWA ho0 (g := gb517) (o := .cells #[.int .i64 a0_0, .int .i64 a0_1, .int .i64 a0_2, .int .i64 a0_3, .int .i64 a0_4, .int .i64 a0_5] 29 (0, 0)) (by (with_reducible repeat (first | refine qC ?_ _ | refine qE ?_ | refine qD ?_ _)); exact BK517.out)) (qb bl)); have n1_ := Aside0.mk (bb BK517 hb); have n2_ := Aside0.mk (qF bl hb); clear BK517; clear HB; have HO521 := n0_; have BK517 := n1_; have HB := n2_; clear n0_ n1_ n2_; (try clear hb); (try clear hb2); (try clear hk); (try clear hi); (try clear ho0)))
  go_ret2
  exact ⟨_, by first | rfl | (simp [qP, qO] <;> rfl) | (simp [*, qP, qO] <;> rfl), by (with_reducible repeat (first | apply Kd.qH | apply Kd.qI | apply Kd.qK)); exact Kd.qa HO521.out (fun _ hk => trivial), bl⟩
 ·replace c3 := Bool.eq_false_iff.mpr c3
  subst c3
  have H1 : (some (([] : List (S29)), false)) = some (r1, r2) := by rw [if_neg (show ¬ (false = true) by decide)] at H; exact H
  clear H
  have H := H1
  clear H1
  simp only [Option.some.injEq, Prod.mk.injEq] at H
  obtain ⟨rfl, rfl⟩ := H
  go_enter Try.func28, Try.ntmps28
  go_wp2_with (first | ((with_reducible refine qU (N := 1) rfl ?_); refine qS ?hg (N := 1) ?hd (cs := #[.int .i64 a0_0, .int .i64 a0_1, .int .i64 a0_2, .int .i64 a0_3, .int .i64 a0_4, .int .i64 a0_5]) (t := 29) ?hr ?_; (case hd => rfl); (case hg => rfl); (case hr => first | (go_simp; done) | (go_simp; rfl)); intro gb517 hg w10 hbox hb; have n0_ := Aside0.mk (qF bl hb); have n1_ := Aside0.mk (hbox); have n2_ := Aside0.mk ((gg hg)); have n3_ := Aside0.mk ((gg hg)); clear HB; have HB := n0_; have BK517 := n1_; have GW517 := n2_; have GE517 := n3_; clear n0_ n1_ n2_ n3_; clear hb hbox hg; have hcz11_0 := bc BK517 0; have hcz11_1 := bc BK517 1; have hcz11_2 := bc BK517 2; have hcz11_3 := bc BK517 3; have hcz11_4 := bc BK517 4; have hcz11_5 := bc BK517 5; have hfz11_0 := qA BK517.out 0; have hfz11_1 := qA BK517.out 1; have hfz11_2 := qA BK517.out 2; have hfz11_3 := qA BK517.out 3; have hfz11_4 := qA BK517.out 4; have hfz11_5 := qA BK517.out 5) | ((with_reducible refine qL (f := 35) rfl ?_); refine qc (some 5) rfl rfl Try.func35 (by kernel_rfl) rfl #[.agg #[.int .i64 a0_0, .int .i64 a0_1, .int .i64 a0_2, .int .i64 a0_3, .int .i64 a0_4, .int .i64 a0_5]] rfl (by (try simp only [List.map_toArray, List.map_cons, List.map_nil]); first | done | rfl | (simp only [List.length_drop, List.length_take]; rfl)) ?_; (with_reducible refine (qQA.calls k a0_0 a0_1 a0_2 a0_3 a0_4 a0_5 false _ A2.out).mono ?_); rintro e w12 ⟨rfl, hb⟩; refine ⟨_, rfl, ?_⟩; have n0_ := Aside0.mk (bb BK517 hb); have n1_ := Aside0.mk (qF bl hb); clear BK517; clear HB; have BK517 := n0_; have HB := n1_; clear n0_ n1_; (try clear hb); (try clear hb2); (try clear hk); (try clear hi)))
  go_ret2
  exact ⟨_, by first | rfl | (simp [qP, qO] <;> rfl) | (simp [*, qP, qO] <;> rfl), by first | exact Kd.R_nil _ _ _ _ _ | exact Kd.N_nil _ _ _ _ _ | exact Kd.V_nil _ _ _ _ _ | exact Kd.Q_nil _ _ _ _ _ | exact Kd.S_nil _ _ _ _ _, bl⟩
mutual
def qJ.j0 : Nat → List (S29) → Bool → List (S29) → Bool → Int → Int → Int → Int → Int → Int → Option (Bool)
 | 0, _, _, _, _, _, _, _, _, _, _ => none
 | k + 1, x3, x4, x5, x31, x535000, x535001, x535002, x535003, x535004, x535005 => if x31 = true then (some false) else ((qe.f k x5 1).bind fun bt556 => ((qf.f k bt556.2 1).bind fun t558 => (if t558 < 0 then (some false) else (if t558 = bt556.1 then ((qd.f x535000 x535001 x535002 x535003 x535004 x535005).bind fun bt559 => ((qo.f k bt559.1 bt559.2.1 bt559.2.2.1 bt559.2.2.2.1 bt559.2.2.2.2.1 bt559.2.2.2.2.2).bind fun bt565 => ((qX.f k bt565.1 x3).bind fun t569 => (if t569 = true then (qJ.j1 k bt556.2 bt556.1 (bt565.2 != x4)) else (qJ.j1 k bt556.2 bt556.1 true))))) else (some false)))))
def qJ.j1 : Nat → List (S29) → Int → Bool → Option (Bool)
 | 0, _, _, _ => none
 | k + 1, x5, x7, x57 => if x57 = true then (some false) else ((qf.f k x5 1).bind fun t570 => (if t570 < 0 then (some false) else (if t570 = x7 then (some true) else (some false))))
end
def qJ.f (k : Nat) (a0_0 : Int) (a0_1 : Int) (a0_2 : Int) (a0_3 : Int) (a0_4 : Int) (a0_5 : Int) : Option (Bool) := (qd.f a0_0 a0_1 a0_2 a0_3 a0_4 a0_5).bind fun bt535 => ((qTA.f k bt535.1 bt535.2.1 bt535.2.2.1 bt535.2.2.2.1 bt535.2.2.2.2.1 bt535.2.2.2.2.2).bind fun bt541 => ((qd.f a0_0 a0_1 a0_2 a0_3 a0_4 a0_5).bind fun bt545 => ((qo.f k bt545.1 bt545.2.1 bt545.2.2.1 bt545.2.2.2.1 bt545.2.2.2.2.1 bt545.2.2.2.2.2).bind fun bt551 => ((qX.f k bt551.1 bt541.1).bind fun t555 => (if t555 = true then (qJ.j0 k bt541.1 bt541.2 bt551.1 (bt551.2 != bt541.2) a0_0 a0_1 a0_2 a0_3 a0_4 a0_5) else (qJ.j0 k bt541.1 bt541.2 bt551.1 true a0_0 a0_1 a0_2 a0_3 a0_4 a0_5))))))
set_option maxHeartbeats 8000000 in
set_option maxRecDepth 100000 in
theorem qJ.calls (k : Nat) (a0_0 : Int) (a0_1 : Int) (a0_2 : Int) (a0_3 : Int) (a0_4 : Int) (a0_5 : Int) (r : Bool) (w : World) (h : qJ.f k a0_0 a0_1 a0_2 a0_3 a0_4 a0_5 = some r) :
  Calls Try.prog 8 #[.agg #[.int .i64 a0_0, .int .i64 a0_1, .int .i64 a0_2, .int .i64 a0_3, .int .i64 a0_4, .int .i64 a0_5]] w fun e w' => e = .returned (.bool r) ∧ Below w.heap.size w w' := by
 have hu25 := Try.underlying25
 have HB := Aside0.mk (Below.refl w.heap.size w)
 have H : ((qd.f a0_0 a0_1 a0_2 a0_3 a0_4 a0_5).bind fun bt535 => ((qTA.f k bt535.1 bt535.2.1 bt535.2.2.1 bt535.2.2.2.1 bt535.2.2.2.2.1 bt535.2.2.2.2.2).bind fun bt541 => ((qd.f a0_0 a0_1 a0_2 a0_3 a0_4 a0_5).bind fun bt545 => ((qo.f k bt545.1 bt545.2.1 bt545.2.2.1 bt545.2.2.2.1 bt545.2.2.2.2.1 bt545.2.2.2.2.2).bind fun bt551 => ((qX.f k bt551.1 bt541.1).bind fun t555 => (if t555 = true then (qJ.j0 k bt541.1 bt541.2 bt551.1 (bt551.2 != bt541.2) a0_0 a0_1 a0_2 a0_3 a0_4 a0_5) else (qJ.j0 k bt541.1 bt541.2 bt551.1 true a0_0 a0_1 a0_2 a0_3 a0_4 a0_5))))))) = some r := h
 clear h
 replace H := Option.bind_eq_some_iff.mp H
 obtain ⟨⟨t535, t536, t537, t538, t539, t540⟩, A20, H⟩ := H
 replace H : ((qTA.f k t535 t536 t537 t538 t539 t540).bind fun bt541 => ((qd.f a0_0 a0_1 a0_2 a0_3 a0_4 a0_5).bind fun bt545 => ((qo.f k bt545.1 bt545.2.1 bt545.2.2.1 bt545.2.2.2.1 bt545.2.2.2.2.1 bt545.2.2.2.2.2).bind fun bt551 => ((qX.f k bt551.1 bt541.1).bind fun t555 => (if t555 = true then (qJ.j0 k bt541.1 bt541.2 bt551.1 (bt551.2 != bt541.2) a0_0 a0_1 a0_2 a0_3 a0_4 a0_5) else (qJ.j0 k bt541.1 bt541.2 bt551.1 true a0_0 a0_1 a0_2 a0_3 a0_4 a0_5)))))) = some r := H
 have A2 := Aside0.mk A20
 clear A20
 replace H := Option.bind_eq_some_iff.mp H
 obtain ⟨⟨t541, t544⟩, A30, H⟩ := H
 replace H : ((qd.f a0_0 a0_1 a0_2 a0_3 a0_4 a0_5).bind fun bt545 => ((qo.f k bt545.1 bt545.2.1 bt545.2.2.1 bt545.2.2.2.1 bt545.2.2.2.2.1 bt545.2.2.2.2.2).bind fun bt551 => ((qX.f k bt551.1 t541).bind fun t555 => (if t555 = true then (qJ.j0 k t541 t544 bt551.1 (bt551.2 != t544) a0_0 a0_1 a0_2 a0_3 a0_4 a0_5) else (qJ.j0 k t541 t544 bt551.1 true a0_0 a0_1 a0_2 a0_3 a0_4 a0_5))))) = some r := H
 have A3 := Aside0.mk A30
 clear A30
 replace H := Option.bind_eq_some_iff.mp H
 obtain ⟨⟨t545, t546, t547, t548, t549, t550⟩, A40, H⟩ := H
 replace H : ((qo.f k t545 t546 t547 t548 t549 t550).bind fun bt551 => ((qX.f k bt551.1 t541).bind fun t555 => (if t555 = true then (qJ.j0 k t541 t544 bt551.1 (bt551.2 != t544) a0_0 a0_1 a0_2 a0_3 a0_4 a0_5) else (qJ.j0 k t541 t544 bt551.1 true a0_0 a0_1 a0_2 a0_3 a0_4 a0_5)))) = some r := H
 have A4 := Aside0.mk A40
 clear A40
 replace H := Option.bind_eq_some_iff.mp H
 obtain ⟨⟨t551, t554⟩, A50, H⟩ := H
 replace H : ((qX.f k t551 t541).bind fun t555 => (if t555 = true then (qJ.j0 k t541 t544 t551 (t554 != t544) a0_0 a0_1 a0_2 a0_3 a0_4 a0_5) else (qJ.j0 k t541 t544 t551 true a0_0 a0_1 a0_2 a0_3 a0_4 a0_5))) = some r := H
 have A5 := Aside0.mk A50
 clear A50
 have HC6 := Aside0.mk H
 clear H
 go_enter Try.func8, Try.ntmps8
 go_upto_region 3 with (first | ((with_reducible refine qU (N := 1) rfl ?_); refine qS ?hg (N := 1) ?hd (cs := #[.int .i64 a0_0, .int .i64 a0_1, .int .i64 a0_2, .int .i64 a0_3, .int .i64 a0_4, .int .i64 a0_5]) (t := 25) ?hr ?_; (case hd => rfl); (case hg => rfl); (case hr => first | (go_simp; done) | (go_simp; rfl)); intro gb534 hg w7 hbox hb; have n0_ := Aside0.mk (qF bl hb); have n1_ := Aside0.mk (hbox); have n2_ := Aside0.mk ((gg hg)); have n3_ := Aside0.mk ((gg hg)); clear HB; have HB := n0_; have BK534 := n1_; have GW534 := n2_; have GE534 := n3_; clear n0_ n1_ n2_ n3_; clear hb hbox hg; have hcz8_0 := bc BK534 0; have hcz8_1 := bc BK534 1; have hcz8_2 := bc BK534 2; have hcz8_3 := bc BK534 3; have hcz8_4 := bc BK534 4; have hcz8_5 := bc BK534 5; have hfz8_0 := qA BK534.out 0; have hfz8_1 := qA BK534.out 1; have hfz8_2 := qA BK534.out 2; have hfz8_3 := qA BK534.out 3; have hfz8_4 := qA BK534.out 4; have hfz8_5 := qA BK534.out 5) | ((with_reducible refine qL (f := 12) rfl ?_); refine qc (some 13) rfl rfl Try.func12 (by kernel_rfl) rfl #[.agg #[.int .i64 a0_0, .int .i64 a0_1, .int .i64 a0_2, .int .i64 a0_3, .int .i64 a0_4, .int .i64 a0_5]] rfl (by (try simp only [List.map_toArray, List.map_cons, List.map_nil]); first | done | rfl | (simp only [List.length_drop, List.length_take]; rfl)) ?_; (with_reducible refine (qd.calls a0_0 a0_1 a0_2 a0_3 a0_4 a0_5 t535 t536 t537 t538 t539 t540 _ A2.out).mono ?_); rintro e w9 ⟨rfl, hb⟩; refine ⟨_, rfl, ?_⟩; have n0_ := Aside0.mk (bb BK534 hb); have n1_ := Aside0.mk (qF bl hb); clear BK534; clear HB; have BK534 := n0_; have HB := n1_; clear n0_ n1_; (try clear hb); (try clear hb2); (try clear hk); (try clear hi)) | ((with_reducible refine qL (f := 27) rfl ?_); refine qc (some 14) rfl rfl Try.func27 (by kernel_rfl) rfl #[.agg #[.int .i64 t535, .int .i64 t536, .int .i64 t537, .int .i64 t538, .int .i64 t539, .int .i64 t540]] rfl (by (try simp only [List.map_toArray, List.map_cons, List.map_nil]); first | done | rfl | (simp only [List.length_drop, List.length_take]; rfl)) ?_; (with_reducible refine (qTA.calls k t535 t536 t537 t538 t539 t540 t541 t544 _ A3.out).mono ?_); rintro e w10 ⟨v542, rfl, ho0, hb⟩; refine ⟨_, rfl, ?_⟩; have n0_ := Aside0.mk (Kd.qLA ho0 (qb bl)); have n1_ := Aside0.mk (bb BK534 hb); have n2_ := Aside0.mk (qF bl hb); clear BK534; clear HB; have HO543 := n0_; have BK534 := n1_; have HB := n2_; clear n0_ n1_ n2_; (try clear hb); (try clear hb2); (try clear hk); (try clear hi); (try clear ho0); have hcz11_0 := bc BK534 0; have hcz11_1 := bc BK534 1; have hcz11_2 := bc BK534 2; have hcz11_3 := bc BK534 3; have hcz11_4 := bc BK534 4; have hcz11_5 := bc BK534 5; have hfz11_0 := qA BK534.out 0; have hfz11_1 := qA BK534.out 1; have hfz11_2 := qA BK534.out 2; have hfz11_3 := qA BK534.out 3; have hfz11_4 := qA BK534.out 4; have hfz11_5 := qA BK534.out 5) | ((with_reducible refine qL (f := 12) rfl ?_); refine qc (some 19) rfl rfl Try.func12 (by kernel_rfl) rfl #[.agg #[.int .i64 a0_0, .int .i64 a0_1, .int .i64 a0_2, .int .i64 a0_3, .int .i64 a0_4, .int .i64 a0_5]] rfl (by (try simp only [List.map_toArray, List.map_cons, List.map_nil]); first | done | rfl | (simp only [List.length_drop, List.length_take]; rfl)) ?_; (with_reducible refine (qd.calls a0_0 a0_1 a0_2 a0_3 a0_4 a0_5 t545 t546 t547 t548 t549 t550 _ A4.out).mono ?_); rintro e w12 ⟨rfl, hb⟩; refine ⟨_, rfl, ?_⟩; have n0_ := Aside0.mk (Kd.qAA (by (with_reducible repeat (first | apply Kd.qH | apply Kd.qI | apply Kd.qK)); exact HO543.out) hb); have n1_ := Aside0.mk (bb BK534 hb); have n2_ := Aside0.mk (qF bl hb); clear HO543; clear BK534; clear HB; have HO543 := n0_; have BK534 := n1_; have HB := n2_; clear n0_ n1_ n2_; (try clear hb); (try clear hb2); (try clear hk); (try clear hi)) | ((with_reducible refine qL (f := 28) rfl ?_); refine qc (some 20) rfl rfl Try.func28 (by kernel_rfl) rfl #[.agg #[.int .i64 t545, .int .i64 t546, .int .i64 t547, .int .i64 t548, .int .i64 t549, .int .i64 t550]] rfl (by (try simp only [List.map_toArray, List.map_cons, List.map_nil]); first | done | rfl | (simp only [List.length_drop, List.length_take]; rfl)) ?_; (with_reducible refine (qo.calls k t545 t546 t547 t548 t549 t550 t551 t554 _ A5.out).mono ?_); rintro e w13 ⟨v552, rfl, ho0, hb⟩; refine ⟨_, rfl, ?_⟩; have n0_ := Aside0.mk (Kd.qz (by (with_reducible repeat (first | apply Kd.qH | apply Kd.qI | apply Kd.qK)); exact HO543.out) (Kd.qYA ho0) hb); have n1_ := Aside0.mk (Kd.qLA (Kd.qXA ho0 (Kd.R_lt (by (with_reducible repeat (first | apply Kd.qH | apply Kd.qI | apply Kd.qK)); exact HO543.out))) (qb bl)); have n2_ := Aside0.mk (bb BK534 hb); have n3_ := Aside0.mk (qF bl hb); clear HO543; clear BK534; clear HB; have HO543 := n0_; have HO553 := n1_; have BK534 := n2_; have HB := n3_; clear n0_ n1_ n2_ n3_; (try clear hb); (try clear hb2); (try clear hk); (try clear hi); (try clear ho0)))
 (try simp only [Act.put, List.setIfInBounds_toArray, List.set_cons_zero, List.set_cons_succ])
 go_cut [31] (fun v31 wc => ∃ (kq : Nat) (x31_5 : Bool), v31 = .bool x31_5 ∧ Aside0 (qJ.j0 kq t541 t544 t551 x31_5 a0_0 a0_1 a0_2 a0_3 a0_4 a0_5 = some r) ∧ Aside0 (kq ≤ k) ∧ Aside0 (Kd.R k29 29 wc w.heap.size (fun k_ => some k_ ≠ (v552 : Value).ownBlock) v542 t541) ∧ Aside0 (Kd.R k29 29 wc w.heap.size (fun k_ => some k_ ≠ (v542 : Value).ownBlock) v552 t551) ∧ Aside0 (wc.heap[gb534]? = some (.cells #[.int .i64 a0_0, .int .i64 a0_1, .int .i64 a0_2, .int .i64 a0_3, .int .i64 a0_4, .int .i64 a0_5] 25 (0, 0))) ∧ Aside0 (Below w.heap.size w wc))
 case first =>
  have H := HC6.out
  clear HC6
  replace H := Option.bind_eq_some_iff.mp H
  obtain ⟨t555, A140, H⟩ := H
  replace H : (if t555 = true then (qJ.j0 k t541 t544 t551 (t554 != t544) a0_0 a0_1 a0_2 a0_3 a0_4 a0_5) else (qJ.j0 k t541 t544 t551 true a0_0 a0_1 a0_2 a0_3 a0_4 a0_5)) = some r := H
  have A14 := Aside0.mk A140
  clear A140
  by_cases c15 : t555 = true
  ·subst c15
   have H1 : (qJ.j0 k t541 t544 t551 (t554 != t544) a0_0 a0_1 a0_2 a0_3 a0_4 a0_5) = some r := by rw [if_pos rfl] at H; exact H
   clear H
   have H := H1
   clear H1
   have H' := Aside0.mk H
   clear H
   obtain ⟨Ao16, co16, eo16⟩ := Kd.qHA HO553.out
   subst eo16
   obtain ⟨Ao17, co17, eo17⟩ := Kd.qHA HO543.out
   subst eo17
   go_wp2_with (first | ((with_reducible refine qL (f := 21) rfl ?_); refine qc (some 25) rfl rfl Try.func21 (by kernel_rfl) rfl #[.slice Ao16 t551.length co16, .slice Ao17 t541.length co17] rfl (by (try simp only [List.map_toArray, List.map_cons, List.map_nil]); first | done | rfl | (simp only [List.length_drop, List.length_take]; rfl)) ?_; (with_reducible refine (qX.calls k _ _ t551 _ _ t541 true _ ?side1 ?side2 ?side3 ?side4 A14.out).mono ?_); (case side1 => repeat (first | exact (Kd.qT HO553.out).2.2 | (with_reducible refine Kd.qq ?_ _) | (with_reducible refine Kd.qp ?_ _) | (with_reducible refine Kd.qEA ?_))); (case side2 => exact (Kd.qT HO553.out).2.1); (case side3 => repeat (first | exact (Kd.qT HO543.out).2.2 | (with_reducible refine Kd.qq ?_ _) | (with_reducible refine Kd.qp ?_ _) | (with_reducible refine Kd.qEA ?_))); (case side4 => exact (Kd.qT HO543.out).2.1); rintro e w18 ⟨rfl, hb⟩; refine ⟨_, rfl, ?_⟩; have n0_ := Aside0.mk (Kd.qAA (by (with_reducible repeat (first | apply Kd.qH | apply Kd.qI | apply Kd.qK)); exact HO543.out) hb); have n1_ := Aside0.mk (Kd.qAA (by (with_reducible repeat (first | apply Kd.qH | apply Kd.qI | apply Kd.qK)); exact HO553.out) hb); have n2_ := Aside0.mk (bb BK534 hb); have n3_ := Aside0.mk (qF bl hb); clear HO543; clear HO553; clear BK534; clear HB; have HO543 := n0_; have HO553 := n1_; have BK534 := n2_; have HB := n3_; clear n0_ n1_ n2_ n3_; (try clear hb); (try clear hb2); (try clear hk); (try clear hi)))
   go_meet
   case rel => exact ⟨_, ((t554 != t544)), (by first | rfl | (simp; done) | (simp [*]; done)), H', ⟨by first | omega | exact Nat.le_refl _⟩, ⟨by (with_reducible repeat (first | apply Kd.qH | apply Kd.qI | apply Kd.qK)); exact Kd.qa HO543.out (fun _ hk => hk.2)⟩, ⟨by (with_reducible repeat (first | apply Kd.qH | apply Kd.qI | apply Kd.qK)); exact Kd.qa HO553.out (fun _ hk => hk.2)⟩, ⟨by (with_reducible repeat (first | refine qC ?_ _ | refine qE ?_ | refine qD ?_ _)); exact BK534.out⟩, ⟨bl⟩⟩
  ·replace c15 := Bool.eq_false_iff.mpr c15
   subst c15
   have H1 : (qJ.j0 k t541 t544 t551 true a0_0 a0_1 a0_2 a0_3 a0_4 a0_5) = some r := by rw [if_neg (show ¬ (false = true) by decide)] at H; exact H
   clear H
   have H := H1
   clear H1
   have H' := Aside0.mk H
   clear H
   obtain ⟨Ao19, co19, eo19⟩ := Kd.qHA HO553.out
   subst eo19
   obtain ⟨Ao20, co20, eo20⟩ := Kd.qHA HO543.out
   subst eo20
   go_wp2_with (first | ((with_reducible refine qL (f := 21) rfl ?_); refine qc (some 25) rfl rfl Try.func21 (by kernel_rfl) rfl #[.slice Ao19 t551.length co19, .slice Ao20 t541.length co20] rfl (by (try simp only [List.map_toArray, List.map_cons, List.map_nil]); first | done | rfl | (simp only [List.length_drop, List.length_take]; rfl)) ?_; (with_reducible refine (qX.calls k _ _ t551 _ _ t541 false _ ?side1 ?side2 ?side3 ?side4 A14.out).mono ?_); (case side1 => repeat (first | exact (Kd.qT HO553.out).2.2 | (with_reducible refine Kd.qq ?_ _) | (with_reducible refine Kd.qp ?_ _) | (with_reducible refine Kd.qEA ?_))); (case side2 => exact (Kd.qT HO553.out).2.1); (case side3 => repeat (first | exact (Kd.qT HO543.out).2.2 | (with_reducible refine Kd.qq ?_ _) | (with_reducible refine Kd.qp ?_ _) | (with_reducible refine Kd.qEA ?_))); (case side4 => exact (Kd.qT HO543.out).2.1); rintro e w21 ⟨rfl, hb⟩; refine ⟨_, rfl, ?_⟩; have n0_ := Aside0.mk (Kd.qAA (by (with_reducible repeat (first | apply Kd.qH | apply Kd.qI | apply Kd.qK)); exact HO543.out) hb); have n1_ := Aside0.mk (Kd.qAA (by (with_reducible repeat (first | apply Kd.qH | apply Kd.qI | apply Kd.qK)); exact HO553.out) hb); have n2_ := Aside0.mk (bb BK534 hb); have n3_ := Aside0.mk (qF bl hb); clear HO543; clear HO553; clear BK534; clear HB; have HO543 := n0_; have HO553 := n1_; have BK534 := n2_; have HB := n3_; clear n0_ n1_ n2_ n3_; (try clear hb); (try clear hb2); (try clear hk); (try clear hi)))
   go_meet
   case rel => exact ⟨_, (true), (by first | rfl | (simp; done) | (simp [*]; done)), H', ⟨by first | omega | exact Nat.le_refl _⟩, ⟨by (with_reducible repeat (first | apply Kd.qH | apply Kd.qI | apply Kd.qK)); exact Kd.qa HO543.out (fun _ hk => hk.2)⟩, ⟨by (with_reducible repeat (first | apply Kd.qH | apply Kd.qI | apply Kd.qK)); exact Kd.qa HO553.out (fun _ hk => hk.2)⟩, ⟨by (with_reducible repeat (first | refine qC ?_ _ | refine qE ?_ | refine qD ?_ _)); exact BK534.out⟩, ⟨bl⟩⟩
 case rest =>
  clear HC6
  try clear c1
  try clear c2
  try clear p2
  try clear c8
  try clear c12
  try clear c15
  try clear c21
  try clear hcz11_0
  try clear hcz11_1
  try clear hcz11_2
  try clear hcz11_3
  try clear hcz11_4
  try clear hcz11_5
  try clear hcz8_0
  try clear hcz8_1
  try clear hcz8_2
  try clear hcz8_3
  try clear hcz8_4
  try clear hcz8_5
  try clear hfz11_0
  try clear hfz11_1
  try clear hfz11_2
  try clear hfz11_3
  try clear hfz11_4
  try clear hfz11_5
  try clear hfz8_0
  try clear hfz8_1
  try clear hfz8_2
  try clear hfz8_3
  try clear hfz8_4
  try clear hfz8_5
  obtain ⟨kq, x31_5, rfl, HA, HJ5, HO_3, HO_5, BK534, HB⟩ := hcut
  cases kq with
  | zero => exact absurd HA.out (by simp [qJ.j0])
  | succ kj5 =>
   have H := HA.out
   clear HA
   simp only [qJ.j0] at H
   by_cases c22 : x31_5 = true
   ·subst c22
    have H1 : (some false) = some r := by rw [if_pos rfl] at H; exact H
    clear H
    have H := H1
    clear H1
    obtain rfl := Option.some.inj H
    go_wp2
    go_ret
    exact ⟨by first | rfl | (simp [qP, qO] <;> rfl) | (simp [*, qP, qO] <;> rfl), bl⟩
   ·replace c22 := Bool.eq_false_iff.mpr c22
    subst c22
    have H1 : ((qe.f kj5 t551 1).bind fun bt556 => ((qf.f kj5 bt556.2 1).bind fun t558 => (if t558 < 0 then (some false) else (if t558 = bt556.1 then ((qd.f a0_0 a0_1 a0_2 a0_3 a0_4 a0_5).bind fun bt559 => ((qo.f kj5 bt559.1 bt559.2.1 bt559.2.2.1 bt559.2.2.2.1 bt559.2.2.2.2.1 bt559.2.2.2.2.2).bind fun bt565 => ((qX.f kj5 bt565.1 t541).bind fun t569 => (if t569 = true then (qJ.j1 kj5 bt556.2 bt556.1 (bt565.2 != t544)) else (qJ.j1 kj5 bt556.2 bt556.1 true))))) else (some false))))) = some r := by rw [if_neg (show ¬ (false = true) by decide)] at H; exact H
    clear H
    have H := H1
    clear H1
    replace H := Option.bind_eq_some_iff.mp H
    obtain ⟨⟨t556, t557⟩, A230, H⟩ := H
    replace H : ((qf.f kj5 t557 1).bind fun t558 => (if t558 < 0 then (some false) else (if t558 = t556 then ((qd.f a0_0 a0_1 a0_2 a0_3 a0_4 a0_5).bind fun bt559 => ((qo.f kj5 bt559.1 bt559.2.1 bt559.2.2.1 bt559.2.2.2.1 bt559.2.2.2.2.1 bt559.2.2.2.2.2).bind fun bt565 => ((qX.f kj5 bt565.1 t541).bind fun t569 => (if t569 = true then (qJ.j1 kj5 t557 t556 (bt565.2 != t544)) else (qJ.j1 kj5 t557 t556 true))))) else (some false)))) = some r := H
    have A23 := Aside0.mk A230
    clear A230
    replace H := Option.bind_eq_some_iff.mp H
    obtain ⟨t558, A240, H⟩ := H
    replace H : (if t558 < 0 then (some false) else (if t558 = t556 then ((qd.f a0_0 a0_1 a0_2 a0_3 a0_4 a0_5).bind fun bt559 => ((qo.f kj5 bt559.1 bt559.2.1 bt559.2.2.1 bt559.2.2.2.1 bt559.2.2.2.2.1 bt559.2.2.2.2.2).bind fun bt565 => ((qX.f kj5 bt565.1 t541).bind fun t569 => (if t569 = true then (qJ.j1 kj5 t557 t556 (bt565.2 != t544)) else (qJ.j1 kj5 t557 t556 true))))) else (some false))) = some r := H
    have A24 := Aside0.mk A240
    clear A240
    by_cases c25 : t558 < 0
    ·rw [if_pos c25] at H
     have c25b0 : decide (t558 < 0) = true := decide_eq_true c25
     clear c25
     obtain rfl := Option.some.inj H
     obtain ⟨Ao26, co26, eo26⟩ := Kd.qHA HO_5.out
     subst eo26
     go_wp2_with (first | ((with_reducible refine qL (f := 29) rfl ?_); refine qc (some 34) rfl rfl Try.func29 (by kernel_rfl) rfl #[.slice Ao26 t551.length co26, .int .i64 1] rfl (by (try simp only [List.map_toArray, List.map_cons, List.map_nil]); first | done | rfl | (simp only [List.length_drop, List.length_take]; rfl)) ?_; (with_reducible refine (qe.calls kj5 (fun k_ => some k_ = (.slice Ao26 t551.length co26 : Value).ownBlock) (.slice Ao26 t551.length co26) t551 1 t556 t557 w _ ?side1 ?side2 A23.out).mono ?_); (case side1 => repeat (first | (with_reducible first | exact HB.out | apply qu | apply qNA | apply qt | refine qfA ?_ GE534.out) | exact HB.out)); (case side2 => exact Kd.qGC rfl HO_5.out); rintro e w27 ⟨rfl, hy0, hb, hkp⟩; refine ⟨_, rfl, ?_⟩; have n0_ := Aside0.mk (Kd.qa (ok' := fun k_ => some k_ ≠ (.slice Ao26 t551.length co26 : Value).ownBlock) (Kd.qQC (HO_3.out) hkp (fun k_ hk_ hs_ => (hk_) hs_)) (fun k_ hk_ => hk_.1)); have n1_ := Aside0.mk (Kd.qUC rfl hy0 (fun k_ e_ => HO_5.out.1 k_ e_)); have n2_ := Aside0.mk (qFC (by (with_reducible repeat (first | refine qC ?_ _ | refine qE ?_ | refine qD ?_ _)); exact BK534.out) hkp (fun hs_ => (fun e_ => (Kd.R_ne HO_5.out BK534.out (by decide)) e_) hs_)); have n3_ := Aside0.mk (hb); clear HO_3; clear HO_5; clear BK534; clear HB; have HO_3 := n0_; have HO_5 := n1_; have BK534 := n2_; have HB := n3_; clear n0_ n1_ n2_ n3_; (try clear hb); (try clear hkp); (try clear hy0)) | ((with_reducible refine qL (f := 30) rfl ?_); refine qc (some 37) rfl rfl Try.func30 (by kernel_rfl) rfl #[.slice Ao26 t557.length co26, .int .i64 1] rfl (by (try simp only [List.map_toArray, List.map_cons, List.map_nil]); first | done | (rw [show t557.length = t551.length from (Kd.qT HO_5.out).1.symm] <;> rfl) | rfl | (simp only [List.length_drop, List.length_take]; rfl)) ?_; (with_reducible refine (qf.calls kj5 _ _ t557 1 t558 _ ?side1 ?side2 A24.out).mono ?_); (case side1 => repeat (first | exact (Kd.qT HO_5.out).2.2 | (with_reducible refine Kd.qq ?_ _) | (with_reducible refine Kd.qp ?_ _) | (with_reducible refine Kd.qEA ?_))); (case side2 => rw [show t557.length = t551.length from (Kd.qT HO_5.out).1.symm]; exact (Kd.qT HO_5.out).2.1); rintro e w' ⟨rfl, ⟨nd, rfl⟩⟩; refine ⟨_, rfl, ?_⟩))
     go_ret
     exact ⟨by first | rfl | (simp [qP, qO] <;> rfl) | (simp [*, qP, qO] <;> rfl), bl⟩
    ·rw [if_neg c25] at H
     have c25b0 : decide (t558 < 0) = false := decide_eq_false c25
     clear c25
     by_cases c28 : t558 = t556
     ·rw [if_pos c28] at H
      have c28b0 : (t558 == t556) = true := beq_iff_eq.mpr c28
      have c28b1 : (t558 != t556) = false := bne_eq_false_iff_eq.mpr c28
      clear c28
      replace H := Option.bind_eq_some_iff.mp H
      obtain ⟨⟨t559, t560, t561, t562, t563, t564⟩, A290, H⟩ := H
      replace H : ((qo.f kj5 t559 t560 t561 t562 t563 t564).bind fun bt565 => ((qX.f kj5 bt565.1 t541).bind fun t569 => (if t569 = true then (qJ.j1 kj5 t557 t556 (bt565.2 != t544)) else (qJ.j1 kj5 t557 t556 true)))) = some r := H
      have A29 := Aside0.mk A290
      clear A290
      replace H := Option.bind_eq_some_iff.mp H
      obtain ⟨⟨t565, t568⟩, A300, H⟩ := H
      replace H : ((qX.f kj5 t565 t541).bind fun t569 => (if t569 = true then (qJ.j1 kj5 t557 t556 (t568 != t544)) else (qJ.j1 kj5 t557 t556 true))) = some r := H
      have A30 := Aside0.mk A300
      clear A300
      have HC31 := Aside0.mk H
      clear H
      obtain ⟨Ao32, co32, eo32⟩ := Kd.qHA HO_5.out
      subst eo32
      go_upto_region 14 with (first | ((with_reducible refine qL (f := 29) rfl ?_); refine qc (some 34) rfl rfl Try.func29 (by kernel_rfl) rfl #[.slice Ao32 t551.length co32, .int .i64 1] rfl (by (try simp only [List.map_toArray, List.map_cons, List.map_nil]); first | done | rfl | (simp only [List.length_drop, List.length_take]; rfl)) ?_; (with_reducible refine (qe.calls kj5 (fun k_ => some k_ = (.slice Ao32 t551.length co32 : Value).ownBlock) (.slice Ao32 t551.length co32) t551 1 t556 t557 w _ ?side1 ?side2 A23.out).mono ?_); (case side1 => repeat (first | (with_reducible first | exact HB.out | apply qu | apply qNA | apply qt | refine qfA ?_ GE534.out) | exact HB.out)); (case side2 => exact Kd.qGC rfl HO_5.out); rintro e w33 ⟨rfl, hy0, hb, hkp⟩; refine ⟨_, rfl, ?_⟩; have n0_ := Aside0.mk (Kd.qa (ok' := fun k_ => some k_ ≠ (.slice Ao32 t551.length co32 : Value).ownBlock) (Kd.qQC (HO_3.out) hkp (fun k_ hk_ hs_ => (hk_) hs_)) (fun k_ hk_ => hk_.1)); have n1_ := Aside0.mk (Kd.qUC rfl hy0 (fun k_ e_ => HO_5.out.1 k_ e_)); have n2_ := Aside0.mk (qFC (by (with_reducible repeat (first | refine qC ?_ _ | refine qE ?_ | refine qD ?_ _)); exact BK534.out) hkp (fun hs_ => (fun e_ => (Kd.R_ne HO_5.out BK534.out (by decide)) e_) hs_)); have n3_ := Aside0.mk (hb); clear HO_3; clear HO_5; clear BK534; clear HB; have HO_3 := n0_; have HO_5 := n1_; have BK534 := n2_; have HB := n3_; clear n0_ n1_ n2_ n3_; (try clear hb); (try clear hkp); (try clear hy0)) | ((with_reducible refine qL (f := 30) rfl ?_); refine qc (some 37) rfl rfl Try.func30 (by kernel_rfl) rfl #[.slice Ao32 t557.length co32, .int .i64 1] rfl (by (try simp only [List.map_toArray, List.map_cons, List.map_nil]); first | done | (rw [show t557.length = t551.length from (Kd.qT HO_5.out).1.symm] <;> rfl) | rfl | (simp only [List.length_drop, List.length_take]; rfl)) ?_; (with_reducible refine (qf.calls kj5 _ _ t557 1 t558 _ ?side1 ?side2 A24.out).mono ?_); (case side1 => repeat (first | exact (Kd.qT HO_5.out).2.2 | (with_reducible refine Kd.qq ?_ _) | (with_reducible refine Kd.qp ?_ _) | (with_reducible refine Kd.qEA ?_))); (case side2 => rw [show t557.length = t551.length from (Kd.qT HO_5.out).1.symm]; exact (Kd.qT HO_5.out).2.1); rintro e w' ⟨rfl, ⟨nd, rfl⟩⟩; refine ⟨_, rfl, ?_⟩; have hcz34_0 := bc BK534 0; have hcz34_1 := bc BK534 1; have hcz34_2 := bc BK534 2; have hcz34_3 := bc BK534 3; have hcz34_4 := bc BK534 4; have hcz34_5 := bc BK534 5; have hfz34_0 := qA BK534.out 0; have hfz34_1 := qA BK534.out 1; have hfz34_2 := qA BK534.out 2; have hfz34_3 := qA BK534.out 3; have hfz34_4 := qA BK534.out 4; have hfz34_5 := qA BK534.out 5) | ((with_reducible refine qL (f := 12) rfl ?_); refine qc (some 45) rfl rfl Try.func12 (by kernel_rfl) rfl #[.agg #[.int .i64 a0_0, .int .i64 a0_1, .int .i64 a0_2, .int .i64 a0_3, .int .i64 a0_4, .int .i64 a0_5]] rfl (by (try simp only [List.map_toArray, List.map_cons, List.map_nil]); first | done | rfl | (simp only [List.length_drop, List.length_take]; rfl)) ?_; (with_reducible refine (qd.calls a0_0 a0_1 a0_2 a0_3 a0_4 a0_5 t559 t560 t561 t562 t563 t564 _ A29.out).mono ?_); rintro e w35 ⟨rfl, hb⟩; refine ⟨_, rfl, ?_⟩; have n0_ := Aside0.mk (Kd.qAA (by (with_reducible repeat (first | apply Kd.qH | apply Kd.qI | apply Kd.qK)); exact HO_3.out) hb); have n1_ := Aside0.mk (Kd.qAA (by (with_reducible repeat (first | apply Kd.qH | apply Kd.qI | apply Kd.qK)); exact HO_5.out) hb); have n2_ := Aside0.mk (bb BK534 hb); have n3_ := Aside0.mk (qF bl hb); clear HO_3; clear HO_5; clear BK534; clear HB; have HO_3 := n0_; have HO_5 := n1_; have BK534 := n2_; have HB := n3_; clear n0_ n1_ n2_ n3_; (try clear hb); (try clear hb2); (try clear hk); (try clear hi)) | ((with_reducible refine qL (f := 28) rfl ?_); refine qc (some 46) rfl rfl Try.func28 (by kernel_rfl) rfl #[.agg #[.int .i64 t559, .int .i64 t560, .int .i64 t561, .int .i64 t562, .int .i64 t563, .int .i64 t564]] rfl (by (try simp only [List.map_toArray, List.map_cons, List.map_nil]); first | done | rfl | (simp only [List.length_drop, List.length_take]; rfl)) ?_; (with_reducible refine (qo.calls kj5 t559 t560 t561 t562 t563 t564 t565 t568 _ A30.out).mono ?_); rintro e w36 ⟨v566, rfl, ho0, hb⟩; refine ⟨_, rfl, ?_⟩; have n0_ := Aside0.mk (Kd.qz (by (with_reducible repeat (first | apply Kd.qH | apply Kd.qI | apply Kd.qK)); exact HO_3.out) (Kd.qYA ho0) hb); have n1_ := Aside0.mk (Kd.qz (by (with_reducible repeat (first | apply Kd.qH | apply Kd.qI | apply Kd.qK)); exact HO_5.out) (Kd.qYA ho0) hb); have n2_ := Aside0.mk (Kd.qLA (Kd.qXA (Kd.qXA ho0 (Kd.R_lt (by (with_reducible repeat (first | apply Kd.qH | apply Kd.qI | apply Kd.qK)); exact HO_3.out))) (Kd.R_lt (by (with_reducible repeat (first | apply Kd.qH | apply Kd.qI | apply Kd.qK)); exact HO_5.out))) (qb bl)); have n3_ := Aside0.mk (bb BK534 hb); have n4_ := Aside0.mk (qF bl hb); clear HO_3; clear HO_5; clear BK534; clear HB; have HO_3 := n0_; have HO_5 := n1_; have HO567 := n2_; have BK534 := n3_; have HB := n4_; clear n0_ n1_ n2_ n3_ n4_; (try clear hb); (try clear hb2); (try clear hk); (try clear hi); (try clear ho0)))
      (try simp only [Act.put, List.setIfInBounds_toArray, List.set_cons_zero, List.set_cons_succ])
      go_cut [57] (fun v57 wc => ∃ (kq : Nat) (x57_30 : Bool), v57 = .bool x57_30 ∧ Aside0 (qJ.j1 kq t557 t556 x57_30 = some r) ∧ Aside0 (kq ≤ kj5) ∧ Aside0 (Kd.R k29 29 wc w.heap.size (fun _ => True) (.slice Ao32 t551.length co32) t557) ∧ Aside0 (wc.heap[gb534]? = some (.cells #[.int .i64 a0_0, .int .i64 a0_1, .int .i64 a0_2, .int .i64 a0_3, .int .i64 a0_4, .int .i64 a0_5] 25 (0, 0))) ∧ Aside0 (Below w.heap.size w wc))
      case first =>
       have H := HC31.out
       clear HC31
       replace H := Option.bind_eq_some_iff.mp H
       obtain ⟨t569, A370, H⟩ := H
       replace H : (if t569 = true then (qJ.j1 kj5 t557 t556 (t568 != t544)) else (qJ.j1 kj5 t557 t556 true)) = some r := H
       have A37 := Aside0.mk A370
       clear A370
       by_cases c38 : t569 = true
       ·subst c38
        have H1 : (qJ.j1 kj5 t557 t556 (t568 != t544)) = some r := by rw [if_pos rfl] at H; exact H
        clear H
        have H := H1
        clear H1
        have H' := Aside0.mk H
        clear H
        obtain ⟨Ao39, co39, eo39⟩ := Kd.qHA HO567.out
        subst eo39
        obtain ⟨Ao40, co40, eo40⟩ := Kd.qHA HO_3.out
        subst eo40
        go_wp2_with (first | ((with_reducible refine qL (f := 21) rfl ?_); refine qc (some 51) rfl rfl Try.func21 (by kernel_rfl) rfl #[.slice Ao39 t565.length co39, .slice Ao40 t541.length co40] rfl (by (try simp only [List.map_toArray, List.map_cons, List.map_nil]); first | done | rfl | (simp only [List.length_drop, List.length_take]; rfl)) ?_; (with_reducible refine (qX.calls kj5 _ _ t565 _ _ t541 true _ ?side1 ?side2 ?side3 ?side4 A37.out).mono ?_); (case side1 => repeat (first | exact (Kd.qT HO567.out).2.2 | (with_reducible refine Kd.qq ?_ _) | (with_reducible refine Kd.qp ?_ _) | (with_reducible refine Kd.qEA ?_))); (case side2 => exact (Kd.qT HO567.out).2.1); (case side3 => repeat (first | exact (Kd.qT HO_3.out).2.2 | (with_reducible refine Kd.qq ?_ _) | (with_reducible refine Kd.qp ?_ _) | (with_reducible refine Kd.qEA ?_))); (case side4 => exact (Kd.qT HO_3.out).2.1); rintro e w41 ⟨rfl, hb⟩; refine ⟨_, rfl, ?_⟩; have n0_ := Aside0.mk (Kd.qAA (by (with_reducible repeat (first | apply Kd.qH | apply Kd.qI | apply Kd.qK)); exact HO_3.out) hb); have n1_ := Aside0.mk (Kd.qAA (by (with_reducible repeat (first | apply Kd.qH | apply Kd.qI | apply Kd.qK)); exact HO_5.out) hb); have n2_ := Aside0.mk (Kd.qAA (by (with_reducible repeat (first | apply Kd.qH | apply Kd.qI | apply Kd.qK)); exact HO567.out) hb); have n3_ := Aside0.mk (bb BK534 hb); have n4_ := Aside0.mk (qF bl hb); clear HO_3; clear HO_5; clear HO567; clear BK534; clear HB; have HO_3 := n0_; have HO_5 := n1_; have HO567 := n2_; have BK534 := n3_; have HB := n4_; clear n0_ n1_ n2_ n3_ n4_; (try clear hb); (try clear hb2); (try clear hk); (try clear hi)))
        go_meet
        case rel => exact ⟨_, ((t568 != t544)), (by first | rfl | (simp; done) | (simp [*]; done)), H', ⟨by have := HJ5.out; first | omega | exact Nat.le_refl _⟩, ⟨by (with_reducible repeat (first | apply Kd.qH | apply Kd.qI | apply Kd.qK)); exact Kd.qa HO_5.out (fun _ hk => trivial)⟩, ⟨by (with_reducible repeat (first | refine qC ?_ _ | refine qE ?_ | refine qD ?_ _)); exact BK534.out⟩, ⟨bl⟩⟩
       ·replace c38 := Bool.eq_false_iff.mpr c38
        subst c38
        have H1 : (qJ.j1 kj5 t557 t556 true) = some r := by rw [if_neg (show ¬ (false = true) by decide)] at H; exact H
        clear H
        have H := H1
        clear H1
        have H' := Aside0.mk H
        clear H
        obtain ⟨Ao42, co42, eo42⟩ := Kd.qHA HO567.out
        subst eo42
        obtain ⟨Ao43, co43, eo43⟩ := Kd.qHA HO_3.out
        subst eo43
        go_wp2_with (first | ((with_reducible refine qL (f := 21) rfl ?_); refine qc (some 51) rfl rfl Try.func21 (by kernel_rfl) rfl #[.slice Ao42 t565.length co42, .slice Ao43 t541.length co43] rfl (by (try simp only [List.map_toArray, List.map_cons, List.map_nil]); first | done | rfl | (simp only [List.length_drop, List.length_take]; rfl)) ?_; (with_reducible refine (qX.calls kj5 _ _ t565 _ _ t541 false _ ?side1 ?side2 ?side3 ?side4 A37.out).mono ?_); (case side1 => repeat (first | exact (Kd.qT HO567.out).2.2 | (with_reducible refine Kd.qq ?_ _) | (with_reducible refine Kd.qp ?_ _) | (with_reducible refine Kd.qEA ?_))); (case side2 => exact (Kd.qT HO567.out).2.1); (case side3 => repeat (first | exact (Kd.qT HO_3.out).2.2 | (with_reducible refine Kd.qq ?_ _) | (with_reducible refine Kd.qp ?_ _) | (with_reducible refine Kd.qEA ?_))); (case side4 => exact (Kd.qT HO_3.out).2.1); rintro e w44 ⟨rfl, hb⟩; refine ⟨_, rfl, ?_⟩; have n0_ := Aside0.mk (Kd.qAA (by (with_reducible repeat (first | apply Kd.qH | apply Kd.qI | apply Kd.qK)); exact HO_3.out) hb); have n1_ := Aside0.mk (Kd.qAA (by (with_reducible repeat (first | apply Kd.qH | apply Kd.qI | apply Kd.qK)); exact HO_5.out) hb); have n2_ := Aside0.mk (Kd.qAA (by (with_reducible repeat (first | apply Kd.qH | apply Kd.qI | apply Kd.qK)); exact HO567.out) hb); have n3_ := Aside0.mk (bb BK534 hb); have n4_ := Aside0.mk (qF bl hb); clear HO_3; clear HO_5; clear HO567; clear BK534; clear HB; have HO_3 := n0_; have HO_5 := n1_; have HO567 := n2_; have BK534 := n3_; have HB := n4_; clear n0_ n1_ n2_ n3_ n4_; (try clear hb); (try clear hb2); (try clear hk); (try clear hi)))
        go_meet
        case rel => exact ⟨_, (true), (by first | rfl | (simp; done) | (simp [*]; done)), H', ⟨by have := HJ5.out; first | omega | exact Nat.le_refl _⟩, ⟨by (with_reducible repeat (first | apply Kd.qH | apply Kd.qI | apply Kd.qK)); exact Kd.qa HO_5.out (fun _ hk => trivial)⟩, ⟨by (with_reducible repeat (first | refine qC ?_ _ | refine qE ?_ | refine qD ?_ _)); exact BK534.out⟩, ⟨bl⟩⟩
      case rest =>
       clear HC31
       try clear c1
       try clear c2
       try clear p2
       try clear c3
       try clear c8
       try clear c12
       try clear c15
       try clear c21
       try clear c22
       try clear c25
       try clear c25b0
       try clear c27
       try clear c28
       try clear c28b0
       try clear c28b1
       try clear c29
       try clear c30
       try clear c38
       try clear hcz11_0
       try clear hcz11_1
       try clear hcz11_2
       try clear hcz11_3
       try clear hcz11_4
       try clear hcz11_5
       try clear hcz34_0
       try clear hcz34_1
       try clear hcz34_2
       try clear hcz34_3
       try clear hcz34_4
       try clear hcz34_5
       try clear hcz8_0
       try clear hcz8_1
       try clear hcz8_2
       try clear hcz8_3
       try clear hcz8_4
       try clear hcz8_5
       try clear hfz11_0
       try clear hfz11_1
       try clear hfz11_2
       try clear hfz11_3
       try clear hfz11_4
       try clear hfz11_5
       try clear hfz34_0
       try clear hfz34_1
       try clear hfz34_2
       try clear hfz34_3
       try clear hfz34_4
       try clear hfz34_5
       try clear hfz8_0
       try clear hfz8_1
       try clear hfz8_2
       try clear hfz8_3
       try clear hfz8_4
       try clear hfz8_5
       try clear p2
       obtain ⟨kq, x57_30, rfl, HA, HJ30, HO_5, BK534, HB⟩ := hcut
       have hl5_30 := (Kd.qT HO_5.out).1
       rw [hl5_30] at HO_5
       (try simp only [hl5_30])
       (try simp only [hl5_30] at BK534)
       cases kq with
       | zero => exact absurd HA.out (by simp [qJ.j1])
       | succ kj30 =>
        have H := HA.out
        clear HA
        simp only [qJ.j1] at H
        by_cases c45 : x57_30 = true
        ·subst c45
         have H1 : (some false) = some r := by rw [if_pos rfl] at H; exact H
         clear H
         have H := H1
         clear H1
         obtain rfl := Option.some.inj H
         go_wp2
         go_ret
         exact ⟨by first | rfl | (simp [qP, qO] <;> rfl) | (simp [*, qP, qO] <;> rfl), bl⟩
        ·replace c45 := Bool.eq_false_iff.mpr c45
         subst c45
         have H1 : ((qf.f kj30 t557 1).bind fun t570 => (if t570 < 0 then (some false) else (if t570 = t556 then (some true) else (some false)))) = some r := by rw [if_neg (show ¬ (false = true) by decide)] at H; exact H
         clear H
         have H := H1
         clear H1
         replace H := Option.bind_eq_some_iff.mp H
         obtain ⟨t570, A460, H⟩ := H
         replace H : (if t570 < 0 then (some false) else (if t570 = t556 then (some true) else (some false))) = some r := H
         have A46 := Aside0.mk A460
         clear A460
         by_cases c47 : t570 < 0
         ·rw [if_pos c47] at H
          have c47b0 : decide (t570 < 0) = true := decide_eq_true c47
          clear c47
          obtain rfl := Option.some.inj H
          go_wp2_with (first | ((with_reducible refine qL (f := 30) rfl ?_); refine qc (some 60) rfl rfl Try.func30 (by kernel_rfl) rfl #[.slice Ao32 t557.length co32, .int .i64 1] rfl (by (try simp only [List.map_toArray, List.map_cons, List.map_nil]); first | done | rfl | (simp only [List.length_drop, List.length_take]; rfl)) ?_; (with_reducible refine (qf.calls kj30 _ _ t557 1 t570 _ ?side1 ?side2 A46.out).mono ?_); (case side1 => repeat (first | exact (Kd.qT HO_5.out).2.2 | (with_reducible refine Kd.qq ?_ _) | (with_reducible refine Kd.qp ?_ _) | (with_reducible refine Kd.qEA ?_))); (case side2 => exact (Kd.qT HO_5.out).2.1); rintro e w' ⟨rfl, ⟨nd, rfl⟩⟩; refine ⟨_, rfl, ?_⟩))
          go_ret
          exact ⟨by first | rfl | (simp [qP, qO] <;> rfl) | (simp [*, qP, qO] <;> rfl), bl⟩
         ·rw [if_neg c47] at H
          have c47b0 : decide (t570 < 0) = false := decide_eq_false c47
          clear c47
          by_cases c48 : t570 = t556
          ·rw [if_pos c48] at H
           have c48b0 : (t570 == t556) = true := beq_iff_eq.mpr c48
           have c48b1 : (t570 != t556) = false := bne_eq_false_iff_eq.mpr c48
           clear c48
           obtain rfl := Option.some.inj H
           go_wp2_with (first | ((with_reducible refine qL (f := 30) rfl ?_); refine qc (some 60) rfl rfl Try.func30 (by kernel_rfl) rfl #[.slice Ao32 t557.length co32, .int .i64 1] rfl (by (try simp only [List.map_toArray, List.map_cons, List.map_nil]); first | done | rfl | (simp only [List.length_drop, List.length_take]; rfl)) ?_; (with_reducible refine (qf.calls kj30 _ _ t557 1 t570 _ ?side1 ?side2 A46.out).mono ?_); (case side1 => repeat (first | exact (Kd.qT HO_5.out).2.2 | (with_reducible refine Kd.qq ?_ _) | (with_reducible refine Kd.qp ?_ _) | (with_reducible refine Kd.qEA ?_))); (case side2 => exact (Kd.qT HO_5.out).2.1); rintro e w' ⟨rfl, ⟨nd, rfl⟩⟩; refine ⟨_, rfl, ?_⟩))
           go_ret
           exact ⟨by first | rfl | (simp [qP, qO] <;> rfl) | (simp [*, qP, qO] <;> rfl), bl⟩
          ·rw [if_neg c48] at H
           have c48b0 : (t570 == t556) = false := beq_eq_false_iff_ne.mpr c48
           have c48b1 : (t570 != t556) = true := bne_iff_ne.mpr c48
           obtain rfl := Option.some.inj H
           go_wp2_with (first | ((with_reducible refine qL (f := 30) rfl ?_); refine qc (some 60) rfl rfl Try.func30 (by kernel_rfl) rfl #[.slice Ao32 t557.length co32, .int .i64 1] rfl (by (try simp only [List.map_toArray, List.map_cons, List.map_nil]); first | done | rfl | (simp only [List.length_drop, List.length_take]; rfl)) ?_; (with_reducible refine (qf.calls kj30 _ _ t557 1 t570 _ ?side1 ?side2 A46.out).mono ?_); (case side1 => repeat (first | exact (Kd.qT HO_5.out).2.2 | (with_reducible refine Kd.qq ?_ _) | (with_reducible refine Kd.qp ?_ _) | (with_reducible refine Kd.qEA ?_))); (case side2 => exact (Kd.qT HO_5.out).2.1); rintro e w' ⟨rfl, ⟨nd, rfl⟩⟩; refine ⟨_, rfl, ?_⟩))
           go_ret
           exact ⟨by first | rfl | (simp [qP, qO] <;> rfl) | (simp [*, qP, qO] <;> rfl), bl⟩
     ·rw [if_neg c28] at H
      have c28b0 : (t558 == t556) = false := beq_eq_false_iff_ne.mpr c28
      have c28b1 : (t558 != t556) = true := bne_iff_ne.mpr c28
      obtain rfl := Option.some.inj H
      obtain ⟨Ao49, co49, eo49⟩ := Kd.qHA HO_5.out
      subst eo49
      go_wp2_with (first | ((with_reducible refine qL (f := 29) rfl ?_); refine qc (some 34) rfl rfl Try.func29 (by kernel_rfl) rfl #[.slice Ao49 t551.length co49, .int .i64 1] rfl (by (try simp only [List.map_toArray, List.map_cons, List.map_nil]); first | done | rfl | (simp only [List.length_drop, List.length_take]; rfl)) ?_; (with_reducible refine (qe.calls kj5 (fun k_ => some k_ = (.slice Ao49 t551.length co49 : Value).ownBlock) (.slice Ao49 t551.length co49) t551 1 t556 t557 w _ ?side1 ?side2 A23.out).mono ?_); (case side1 => repeat (first | (with_reducible first | exact HB.out | apply qu | apply qNA | apply qt | refine qfA ?_ GE534.out) | exact HB.out)); (case side2 => exact Kd.qGC rfl HO_5.out); rintro e w50 ⟨rfl, hy0, hb, hkp⟩; refine ⟨_, rfl, ?_⟩; have n0_ := Aside0.mk (Kd.qa (ok' := fun k_ => some k_ ≠ (.slice Ao49 t551.length co49 : Value).ownBlock) (Kd.qQC (HO_3.out) hkp (fun k_ hk_ hs_ => (hk_) hs_)) (fun k_ hk_ => hk_.1)); have n1_ := Aside0.mk (Kd.qUC rfl hy0 (fun k_ e_ => HO_5.out.1 k_ e_)); have n2_ := Aside0.mk (qFC (by (with_reducible repeat (first | refine qC ?_ _ | refine qE ?_ | refine qD ?_ _)); exact BK534.out) hkp (fun hs_ => (fun e_ => (Kd.R_ne HO_5.out BK534.out (by decide)) e_) hs_)); have n3_ := Aside0.mk (hb); clear HO_3; clear HO_5; clear BK534; clear HB; have HO_3 := n0_; have HO_5 := n1_; have BK534 := n2_; have HB := n3_; clear n0_ n1_ n2_ n3_; (try clear hb); (try clear hkp); (try clear hy0)) | ((with_reducible refine qL (f := 30) rfl ?_); refine qc (some 37) rfl rfl Try.func30 (by kernel_rfl) rfl #[.slice Ao49 t557.length co49, .int .i64 1] rfl (by (try simp only [List.map_toArray, List.map_cons, List.map_nil]); first | done | (rw [show t557.length = t551.length from (Kd.qT HO_5.out).1.symm] <;> rfl) | rfl | (simp only [List.length_drop, List.length_take]; rfl)) ?_; (with_reducible refine (qf.calls kj5 _ _ t557 1 t558 _ ?side1 ?side2 A24.out).mono ?_); (case side1 => repeat (first | exact (Kd.qT HO_5.out).2.2 | (with_reducible refine Kd.qq ?_ _) | (with_reducible refine Kd.qp ?_ _) | (with_reducible refine Kd.qEA ?_))); (case side2 => rw [show t557.length = t551.length from (Kd.qT HO_5.out).1.symm]; exact (Kd.qT HO_5.out).2.1); rintro e w' ⟨rfl, ⟨nd, rfl⟩⟩; refine ⟨_, rfl, ?_⟩))
      go_ret
      exact ⟨by first | rfl | (simp [qP, qO] <;> rfl) | (simp [*, qP, qO] <;> rfl), bl⟩
def qJ.Pure : Prop := ∀ (a0_0 : Int) (a0_1 : Int) (a0_2 : Int) (a0_3 : Int) (a0_4 : Int) (a0_5 : Int), (Lit.int .i64 a0_0).wf = true → (Lit.int .i64 a0_1).wf = true → (Lit.int .i64 a0_2).wf = true → (Lit.int .i64 a0_3).wf = true → (Lit.int .i64 a0_4).wf = true → (Lit.int .i64 a0_5).wf = true → ∃ k, qJ.f k a0_0 a0_1 a0_2 a0_3 a0_4 a0_5 = some true
end Go.Proofs.Ytbmiekopflgicaa.P
namespace Go.Proofs.Ytbmiekopflgicaa.Pure
open Go.RowKit Go.Proofs.Ytbmiekopflgicaa.P Go.Proofs.YtbmiekopflgicaaW.PrintWords Go.Proofs.YtbmiekopflgicaaW.PrintLast
set_option linter.unusedVariables false
set_option linter.unusedSimpArgs false
def wayT (a b c d e f : Int) : List DD × Bool := if dieB a b c d e f = true then (waysD ⟨a, b, c, d, e, f⟩, true) else ([], false)
theorem wayT_len (a b c d e f : Int) : (wayT a b c d e f).1.length ≤ 24 := by
 unfold wayT
 split
 ·exact (qnB ⟨a, b, c, d, e, f⟩).2
 ·exact Nat.zero_le _
theorem qpB (a b c d e f : Int) : Ev (fun k => qTA.f k a b c d e f) (wayT a b c d e f) := by
 unfold qTA.f wayT
 refine Ev.bind (qEB a b c d e f) ?_
 split
 ·exact Ev.bind (qwB ⟨a, b, c, d, e, f⟩) (Ev.now _)
 ·exact Ev.now _
theorem qhB (a b c d e f : Int) : Ev (fun k => qo.f k a b c d e f) (wayT a b c d e f) := by
 unfold qo.f wayT
 refine Ev.bind (qIB a b c d e f) ?_
 split
 ·exact Ev.bindc (a := waysD ⟨a, b, c, d, e, f⟩) rfl (Ev.now _)
 ·exact Ev.now _
theorem FnExactWaysToLie : qJ.Pure := by
 intro a b c d e f _ _ _ _ _ _
 refine Ev.rounds (r := true) ?_
 unfold qJ.f
 have h0 := wayT_len a b c d e f
 have h1 : (wayT a b c d e f).1.length ≤ 140737488355328 := by omega
 have h2 : (wayT a b c d e f).1.length ≤ 2000000 := by omega
 have ht : qd.f a b c d e f = some (a, b, c, d, e, f) := rfl
 refine Ev.bindc ht (Ev.bind (qpB a b c d e f) (Ev.bindc ht (Ev.bind (qhB a b c d e f) (Ev.bind (eqDieS_refl _ h1) (Ev.pos rfl ?_)))))
 refine Ev.step (f := fun k => _) (fun k => by rw [qJ.j0]) (Ev.neg (by simp) ?_)
 refine Ev.bind (markDieS_ev _ h2) (Ev.bind (heldDieS_ev _ h2) (Ev.neg (by omega) (Ev.pos rfl (Ev.bindc ht (Ev.bind (qhB a b c d e f) (Ev.bind (eqDieS_refl _ h1) (Ev.pos rfl ?_)))))))
 refine Ev.step (f := fun k => _) (fun k => by rw [qJ.j1]) (Ev.neg (by simp) ?_)
 exact Ev.bind (heldDieS_ev _ h2) (Ev.neg (by omega) (Ev.pos rfl (Ev.now _)))
end Go.Proofs.Ytbmiekopflgicaa.Pure
