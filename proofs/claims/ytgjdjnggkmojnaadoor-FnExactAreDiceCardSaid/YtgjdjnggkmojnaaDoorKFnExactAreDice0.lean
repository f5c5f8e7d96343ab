/- The program's AreDice returns what the reference's returns, for all texts and dice (the law lets longer texts and lists by). No further condition. -/
import Derived.Test.YtgjdjnggkmojnaaDoorKC1

namespace Go.Proofs.YtgjdjnggkmojnaaDoor.P
open Go.RowKit Go.Proofs.YtgjdjnggkmojnaaDoorW.PrintWords Go.Proofs.YtgjdjnggkmojnaaDoorW.PrintLast Go.Proofs.YtgjdjnggkmojnaaDoorW.PrintMore
attribute [local go_sem] qLA qJA qVA qUA qy qx qKA qIA
set_option linter.unusedVariables false
set_option linter.unusedSimpArgs false
def qUB.f (k : Nat) (a0 : ByteArray) (l1 : List (S57)) : Option (Bool × Bool) := (qv.f k a0).bind fun bt139 => (if bt139.2.2.2 = true then ((qPA.f k bt139.1 bt139.2.1 bt139.2.2.1 l1).bind fun t146 => (some (t146, true))) else (some (false, false)))
set_option maxHeartbeats 8000000 in
set_option maxRecDepth 100000 in
theorem qUB.calls (k : Nat) (a0 : ByteArray) (A1 : Option Addr) (c1 : Nat) (l1 : List (S57)) (r1 : Bool) (r2 : Bool) (w : World) (hr1 : Kd.C k57 w A1 l1.length l1) (hc1 : l1.length ≤ c1) (h : qUB.f k a0 l1 = some (r1, r2)) :
  Calls Tryd.prog 12 #[.string a0, .slice A1 l1.length c1] w fun e w' => e = .returned (.tuple #[.bool r1, .bool r2]) ∧ Below w.heap.size w w' := by
 have hu50 := Tryd.underlying50
 have HR1 := Aside0.mk hr1
 have HC1 := Aside0.mk hc1
 clear hr1 hc1
 have HB := Aside0.mk (Below.refl w.heap.size w)
 have H : ((qv.f k a0).bind fun bt139 => (if bt139.2.2.2 = true then ((qPA.f k bt139.1 bt139.2.1 bt139.2.2.1 l1).bind fun t146 => (some (t146, true))) else (some (false, false)))) = some (r1, r2) := h
 clear h
 replace H := Option.bind_eq_some_iff.mp H
 obtain ⟨⟨t139, t140, t141, t144⟩, A30, H⟩ := H
 replace H : (if t144 = true then ((qPA.f k t139 t140 t141 l1).bind fun t146 => (some (t146, true))) else (some (false, false))) = some (r1, r2) := H
 have A3 := Aside0.mk A30
 clear A30
 by_cases c4 : t144 = true
 ·subst c4
  have H1 : ((qPA.f k t139 t140 t141 l1).bind fun t146 => (some (t146, true))) = some (r1, r2) := by rw [if_pos rfl] at H; exact H
  clear H
  have H := H1
  clear H1
  replace H := Option.bind_eq_some_iff.mp H
  obtain ⟨t146, A50, H⟩ := H
  replace H : (some (t146, true)) = some (r1, r2) := H
  have A5 := Aside0.mk A50
  clear A50
  simp only [Option.some.injEq, Prod.mk.injEq] at H
  obtain ⟨rfl, rfl⟩ := H
  go_enter Tryd.func12, Tryd.ntmps12
  go_wp2_with (first | ((with_reducible refine qL (f := 38) rfl ?_); refine qh (some 10) rfl rfl Tryd.func38 (by kernel_rfl) rfl #[.string a0] rfl (by (try simp only [List.map_toArray, List.map_cons, List.map_nil]); first | done | rfl | (simp only [List.length_drop, List.length_take]; rfl)) ?_; (with_reducible refine (qv.calls k a0 t139 t140 t141 true _ A3.out).mono ?_); rintro e w6 ⟨v142, rfl, ho0, hb⟩; refine ⟨_, rfl, ?_⟩; have n0_ := Aside0.mk (Kd.qDA ho0 (qb bl)); have n1_ := Aside0.mk (qG bl hb); clear HB; have HO143 := n0_; have HB := n1_; clear n0_ n1_; (try clear hb); (try clear hb2); (try clear hk); (try clear hi); (try clear ho0)) | ((with_reducible refine qg (N := 6) rfl ?_); refine qd ?hg (N := 6) ?hd (cs := #[.int .i64 0, .int .i64 0, .slice none 0 0]) (t := 50) ?hr ?_; (case hd => rfl); (case hg => rfl); (case hr => first | (go_simp; done) | (go_simp; rfl)); intro gb145 hg w7 hbox hb; have n0_ := Aside0.mk (Kd.qc (by (with_reducible repeat (first | apply Kd.qK | apply Kd.qJ | apply Kd.qO)); exact HO143.out) hb); have n1_ := Aside0.mk (qG bl hb); have n2_ := Aside0.mk (hbox); have n3_ := Aside0.mk ((gg hg)); have n4_ := Aside0.mk ((gg hg)); clear HO143; clear HB; have HO143 := n0_; have HB := n1_; have BK145 := n2_; have GW145 := n3_; have GE145 := n4_; clear n0_ n1_ n2_ n3_ n4_; clear hb hbox hg; have hcz8_0 := bc BK145 0; have hcz8_1 := bc BK145 1; have hcz8_2 := bc BK145 2; have hfz8_0 := qA BK145.out 0; have hfz8_1 := qA BK145.out 1; have hfz8_2 := qA BK145.out 2; obtain ⟨Ao9, co9, eo9⟩ := Kd.qt HO143.out; subst eo9) | ((with_reducible refine qL (f := 39) rfl ?_); refine qh (some 17) rfl rfl Tryd.func39 (by kernel_rfl) rfl #[.agg #[.int .i64 t139, .int .i64 t140, .slice Ao9 t141.length co9], .slice A1 l1.length c1] rfl (by (try simp only [List.map_toArray, List.map_cons, List.map_nil]); first | done | rfl | (simp only [List.length_drop, List.length_take]; rfl)) ?_; (with_reducible refine (qPA.calls k t139 t140 _ _ t141 _ _ l1 t146 _ ?side1 ?side2 ?side3 ?side4 A5.out).mono ?_); (case side1 => refine (Kd.qM (e := 5) (base := w.heap.size) (ok := fun k_ => True) (n := t141.length) (c := co9) ?_).2.2; exact (by (with_reducible repeat (first | apply Kd.qK | apply Kd.qJ | apply Kd.qO)); exact (Kd.qGA (Kd.R_far (p := ⟨gb145, 2, none⟩) (Kd.R_far (p := ⟨gb145, 1, none⟩) (Kd.R_far (p := ⟨gb145, 0, none⟩) (Kd.qvA HO143.out BK145.out (by decide)) (fun _ hk => hk.2) (.int .i64 t139)) (fun _ hk => hk.2) (.int .i64 t140)) (fun _ hk => hk.2) (.slice Ao9 t141.length co9)) (fun _ h_ => h_.1)))); (case side2 => exact (Kd.qM HO143.out).2.1); (case side3 => exact Kd.qWA HR1.out bl); (case side4 => exact HC1.out); rintro e w10 ⟨rfl, hb⟩; refine ⟨_, rfl, ?_⟩; have n0_ := Aside0.mk (Kd.qc (by (with_reducible repeat (first | apply Kd.qK | apply Kd.qJ | apply Kd.qO)); exact (Kd.qGA (Kd.R_far (p := ⟨gb145, 2, none⟩) (Kd.R_far (p := ⟨gb145, 1, none⟩) (Kd.R_far (p := ⟨gb145, 0, none⟩) (Kd.qvA HO143.out BK145.out (by decide)) (fun _ hk => hk.2) (.int .i64 t139)) (fun _ hk => hk.2) (.int .i64 t140)) (fun _ hk => hk.2) (.slice Ao9 t141.length co9)) (fun _ h_ => h_.1))) hb); have n1_ := Aside0.mk (qCB (g := gb145) (o := .cells #[.int .i64 t139, .int .i64 t140, .slice Ao9 t141.length co9] 50 (0, 0)) (by (with_reducible repeat (first | refine qE ?_ _ | refine qF ?_ | refine qD ?_ _)); refine qN (cs := #[.int .i64 t139, .int .i64 t140, .slice none 0 0]) ?_ 2 _ rfl; (with_reducible repeat (first | refine qE ?_ _ | refine qF ?_ | refine qD ?_ _)); refine qN (cs := #[.int .i64 t139, .int .i64 0, .slice none 0 0]) ?_ 1 _ rfl; (with_reducible repeat (first | refine qE ?_ _ | refine qF ?_ | refine qD ?_ _)); refine qN (cs := #[.int .i64 0, .int .i64 0, .slice none 0 0]) ?_ 0 _ rfl; (with_reducible repeat (first | refine qE ?_ _ | refine qF ?_ | refine qD ?_ _)); exact BK145.out) hb); have n2_ := Aside0.mk (qG bl hb); clear HO143; clear BK145; clear HB; have HO143 := n0_; have BK145 := n1_; have HB := n2_; clear n0_ n1_ n2_; (try clear hb); (try clear hb2); (try clear hk); (try clear hi)))
  go_ret2
  exact ⟨by first | rfl | (simp [qI, qH] <;> rfl) | (simp [*, qI, qH] <;> rfl), bl⟩
 ·replace c4 := Bool.eq_false_iff.mpr c4
  subst c4
  have H1 : (some (false, false)) = some (r1, r2) := by rw [if_neg (show ¬ (false = true) by decide)] at H; exact H
  clear H
  have H := H1
  clear H1
  simp only [Option.some.injEq, Prod.mk.injEq] at H
  obtain ⟨rfl, rfl⟩ := H
  go_enter Tryd.func12, Tryd.ntmps12
  go_wp2_with (first | ((with_reducible refine qL (f := 38) rfl ?_); refine qh (some 10) rfl rfl Tryd.func38 (by kernel_rfl) rfl #[.string a0] rfl (by (try simp only [List.map_toArray, List.map_cons, List.map_nil]); first | done | rfl | (simp only [List.length_drop, List.length_take]; rfl)) ?_; (with_reducible refine (qv.calls k a0 t139 t140 t141 false _ A3.out).mono ?_); rintro e w11 ⟨v142, rfl, ho0, hb⟩; refine ⟨_, rfl, ?_⟩; have n0_ := Aside0.mk (Kd.qDA ho0 (qb bl)); have n1_ := Aside0.mk (qG bl hb); clear HB; have HO143 := n0_; have HB := n1_; clear n0_ n1_; (try clear hb); (try clear hb2); (try clear hk); (try clear hi); (try clear ho0)) | ((with_reducible refine qg (N := 6) rfl ?_); refine qd ?hg (N := 6) ?hd (cs := #[.int .i64 0, .int .i64 0, .slice none 0 0]) (t := 50) ?hr ?_; (case hd => rfl); (case hg => rfl); (case hr => first | (go_simp; done) | (go_simp; rfl)); intro gb145 hg w12 hbox hb; have n0_ := Aside0.mk (Kd.qc (by (with_reducible repeat (first | apply Kd.qK | apply Kd.qJ | apply Kd.qO)); exact HO143.out) hb); have n1_ := Aside0.mk (qG bl hb); have n2_ := Aside0.mk (hbox); have n3_ := Aside0.mk ((gg hg)); have n4_ := Aside0.mk ((gg hg)); clear HO143; clear HB; have HO143 := n0_; have HB := n1_; have BK145 := n2_; have GW145 := n3_; have GE145 := n4_; clear n0_ n1_ n2_ n3_ n4_; clear hb hbox hg; have hcz13_0 := bc BK145 0; have hcz13_1 := bc BK145 1; have hcz13_2 := bc BK145 2; have hfz13_0 := qA BK145.out 0; have hfz13_1 := qA BK145.out 1; have hfz13_2 := qA BK145.out 2; obtain ⟨Ao14, co14, eo14⟩ := Kd.qt HO143.out; subst eo14))
  go_ret2
  exact ⟨by first | rfl | (simp [qI, qH] <;> rfl) | (simp [*, qI, qH] <;> rfl), bl⟩
def qLB.f (k : Nat) (a0 : ByteArray) (l1 : List (S57)) : Option (Bool × Bool) := (qTB.f k a0).bind fun bt218 => (if bt218.2 = true then ((qHA.f k bt218.1 l1).bind fun t222 => (some (t222, true))) else (some (false, false)))
set_option maxHeartbeats 8000000 in
set_option maxRecDepth 100000 in
theorem qLB.calls (k : Nat) (a0 : ByteArray) (A1 : Option Addr) (c1 : Nat) (l1 : List (S57)) (r1 : Bool) (r2 : Bool) (w : World) (hr1 : Kd.C k57 w A1 l1.length l1) (hc1 : l1.length ≤ c1) (hL : Laid w) (h : qLB.f k a0 l1 = some (r1, r2)) :
  Calls Tryd.prog 14 #[.string a0, .slice A1 l1.length c1] w fun e w' => e = .returned (.tuple #[.bool r1, .bool r2]) ∧ Below w.heap.size w w' := by
 have HR1 := Aside0.mk hr1
 have HC1 := Aside0.mk hc1
 clear hr1 hc1
 have HLD := Aside0.mk hL
 clear hL
 have HB := Aside0.mk (Below.refl w.heap.size w)
 have H : ((qTB.f k a0).bind fun bt218 => (if bt218.2 = true then ((qHA.f k bt218.1 l1).bind fun t222 => (some (t222, true))) else (some (false, false)))) = some (r1, r2) := h
 clear h
 replace H := Option.bind_eq_some_iff.mp H
 obtain ⟨⟨t218, t219⟩, A30, H⟩ := H
 replace H : (if t219 = true then ((qHA.f k t218 l1).bind fun t222 => (some (t222, true))) else (some (false, false))) = some (r1, r2) := H
 have A3 := Aside0.mk A30
 clear A30
 by_cases c4 : t219 = true
 ·subst c4
  have H1 : ((qHA.f k t218 l1).bind fun t222 => (some (t222, true))) = some (r1, r2) := by rw [if_pos rfl] at H; exact H
  clear H
  have H := H1
  clear H1
  replace H := Option.bind_eq_some_iff.mp H
  obtain ⟨t222, A50, H⟩ := H
  replace H : (some (t222, true)) = some (r1, r2) := H
  have A5 := Aside0.mk A50
  clear A50
  simp only [Option.some.injEq, Prod.mk.injEq] at H
  obtain ⟨rfl, rfl⟩ := H
  go_enter Tryd.func14, Tryd.ntmps14
  go_wp2_with (first | ((with_reducible refine qL (f := 41) rfl ?_); refine qh (some 10) rfl rfl Tryd.func41 (by kernel_rfl) rfl #[.string a0] rfl (by (try simp only [List.map_toArray, List.map_cons, List.map_nil]); first | done | rfl | (simp only [List.length_drop, List.length_take]; rfl)) ?_; (with_reducible refine (qTB.calls k a0 t218 true _ ?side1 A3.out).mono ?_); (case side1 => first | exact HLD.out | exact Laid.below HLD.out (by repeat (first | (with_reducible first | exact HB.out | apply qAA | apply qo | apply qp | refine qMA ?_ (Aside0.out (by with_reducible assumption))) | exact HB.out))); rintro e w6 ⟨v220, rfl, ho0, hb⟩; refine ⟨_, rfl, ?_⟩; have n0_ := Aside0.mk (Kd.qDA ho0 (qb bl)); have n1_ := Aside0.mk (qG bl hb); clear HB; have HO221 := n0_; have HB := n1_; clear n0_ n1_; (try clear hb); (try clear hb2); (try clear hk); (try clear hi); (try clear ho0); obtain ⟨Ao7, co7, eo7⟩ := Kd.qt HO221.out; subst eo7) | ((with_reducible refine qL (f := 42) rfl ?_); refine qh (some 17) rfl rfl Tryd.func42 (by kernel_rfl) rfl #[.slice Ao7 t218.length co7, .slice A1 l1.length c1] rfl (by (try simp only [List.map_toArray, List.map_cons, List.map_nil]); first | done | rfl | (simp only [List.length_drop, List.length_take]; rfl)) ?_; (with_reducible refine (qHA.calls k _ _ t218 _ _ l1 t222 _ ?side1 ?side2 ?side3 ?side4 A5.out).mono ?_); (case side1 => repeat (first | exact (Kd.qM HO221.out).2.2 | (with_reducible refine Kd.qa ?_ _) | (with_reducible refine Kd.qZ ?_ _) | (with_reducible refine Kd.qe ?_))); (case side2 => exact (Kd.qM HO221.out).2.1); (case side3 => repeat (first | exact (Kd.qWA HR1.out HB.out) | (with_reducible refine Kd.qa ?_ _) | (with_reducible refine Kd.qZ ?_ _) | (with_reducible refine Kd.qe ?_))); (case side4 => exact HC1.out); rintro e w8 ⟨rfl, hb⟩; refine ⟨_, rfl, ?_⟩; have n0_ := Aside0.mk (Kd.qc (by (with_reducible repeat (first | apply Kd.qK | apply Kd.qJ | apply Kd.qO)); exact HO221.out) hb); have n1_ := Aside0.mk (qG bl hb); clear HO221; clear HB; have HO221 := n0_; have HB := n1_; clear n0_ n1_; (try clear hb); (try clear hb2); (try clear hk); (try clear hi)))
  go_ret2
  exact ⟨by first | rfl | (simp [qI, qH] <;> rfl) | (simp [*, qI, qH] <;> rfl), bl⟩
 ·replace c4 := Bool.eq_false_iff.mpr c4
  subst c4
  have H1 : (some (false, false)) = some (r1, r2) := by rw [if_neg (show ¬ (false = true) by decide)] at H; exact H
  clear H
  have H := H1
  clear H1
  simp only [Option.some.injEq, Prod.mk.injEq] at H
  obtain ⟨rfl, rfl⟩ := H
  go_enter Tryd.func14, Tryd.ntmps14
  go_wp2_with (first | ((with_reducible refine qL (f := 41) rfl ?_); refine qh (some 10) rfl rfl Tryd.func41 (by kernel_rfl) rfl #[.string a0] rfl (by (try simp only [List.map_toArray, List.map_cons, List.map_nil]); first | done | rfl | (simp only [List.length_drop, List.length_take]; rfl)) ?_; (with_reducible refine (qTB.calls k a0 t218 false _ ?side1 A3.out).mono ?_); (case side1 => first | exact HLD.out | exact Laid.below HLD.out (by repeat (first | (with_reducible first | exact HB.out | apply qAA | apply qo | apply qp | refine qMA ?_ (Aside0.out (by with_reducible assumption))) | exact HB.out))); rintro e w9 ⟨v220, rfl, ho0, hb⟩; refine ⟨_, rfl, ?_⟩; have n0_ := Aside0.mk (Kd.qDA ho0 (qb bl)); have n1_ := Aside0.mk (qG bl hb); clear HB; have HO221 := n0_; have HB := n1_; clear n0_ n1_; (try clear hb); (try clear hb2); (try clear hk); (try clear hi); (try clear ho0)))
  go_ret2
  exact ⟨by first | rfl | (simp [qI, qH] <;> rfl) | (simp [*, qI, qH] <;> rfl), bl⟩
def qEA.j0 : Nat → List (S61) → List (S57) → Bool → Option (Bool)
 | 0, _, _, _ => none
 | k + 1, x1, x8, x41 => if x41 = true then (some false) else ((qS.f k x1).bind fun t242 => ((qX.f k x8 t242).bind fun t245 => (if t245 = true then (some true) else (some false))))
def qEA.f (k : Nat) (a0 : ByteArray) (l1 : List (S61)) : Option (Bool) := if (a0.size : Int) > 1048576 then (some true) else ((qSA.f l1 1048576).bind fun t231 => (if t231 < 0 then (some true) else ((qS.f k l1).bind fun t232 => ((qUB.f k a0 t232).bind fun bt235 => ((qS.f k l1).bind fun t237 => ((qLB.f k a0 t237).bind fun bt240 => (if (bt240.1 != bt235.1) = true then (qEA.j0 k l1 t237 true) else (qEA.j0 k l1 t237 (bt240.2 != bt235.2)))))))))
set_option maxHeartbeats 8000000 in
set_option maxRecDepth 100000 in
theorem qEA.calls (k : Nat) (a0 : ByteArray) (A1 : Option Addr) (c1 : Nat) (l1 : List (S61)) (r : Bool) (w : World) (hr1 : Kd.C k61 w A1 l1.length l1) (hc1 : l1.length ≤ c1) (hL : Laid w) (h : qEA.f k a0 l1 = some r) :
  Calls Tryd.prog 3 #[.string a0, .slice A1 l1.length c1] w fun e w' => e = .returned (.bool r) ∧ Below w.heap.size w w' := by
 have HR1 := Aside0.mk hr1
 have HC1 := Aside0.mk hc1
 clear hr1 hc1
 have HLD := Aside0.mk hL
 clear hL
 have HB := Aside0.mk (Below.refl w.heap.size w)
 have H : (if (a0.size : Int) > 1048576 then (some true) else ((qSA.f l1 1048576).bind fun t231 => (if t231 < 0 then (some true) else ((qS.f k l1).bind fun t232 => ((qUB.f k a0 t232).bind fun bt235 => ((qS.f k l1).bind fun t237 => ((qLB.f k a0 t237).bind fun bt240 => (if (bt240.1 != bt235.1) = true then (qEA.j0 k l1 t237 true) else (qEA.j0 k l1 t237 (bt240.2 != bt235.2)))))))))) = some r := h
 clear h
 by_cases c3 : (a0.size : Int) > 1048576
 ·rw [if_pos c3] at H
  have c3b0 : decide (1048576 < (a0.size : Int)) = true := decide_eq_true c3
  have c3b1 : decide (1048576 < a0.size) = true := decide_eq_true (by omega)
  clear c3
  obtain rfl := Option.some.inj H
  go_enter Tryd.func3, Tryd.ntmps3
  go_wp2
  go_ret
  exact ⟨by first | rfl | (simp [qI, qH] <;> rfl) | (simp [*, qI, qH] <;> rfl), bl⟩
 ·rw [if_neg c3] at H
  have c3b0 : decide (1048576 < (a0.size : Int)) = false := decide_eq_false c3
  have c3b1 : decide (1048576 < a0.size) = false := decide_eq_false (by omega)
  clear c3
  replace H := Option.bind_eq_some_iff.mp H
  obtain ⟨t231, A40, H⟩ := H
  replace H : (if t231 < 0 then (some true) else ((qS.f k l1).bind fun t232 => ((qUB.f k a0 t232).bind fun bt235 => ((qS.f k l1).bind fun t237 => ((qLB.f k a0 t237).bind fun bt240 => (if (bt240.1 != bt235.1) = true then (qEA.j0 k l1 t237 true) else (qEA.j0 k l1 t237 (bt240.2 != bt235.2)))))))) = some r := H
  have A4 := Aside0.mk A40
  clear A40
  by_cases c5 : t231 < 0
  ·rw [if_pos c5] at H
   have c5b0 : decide (t231 < 0) = true := decide_eq_true c5
   clear c5
   obtain rfl := Option.some.inj H
   go_enter Tryd.func3, Tryd.ntmps3
   go_wp2_with (first | ((with_reducible refine qL (f := 11) rfl ?_); refine qh (some 16) rfl rfl Tryd.func11 (by kernel_rfl) rfl #[.slice A1 l1.length c1, .int .i64 1048576] rfl (by (try simp only [List.map_toArray, List.map_cons, List.map_nil]); first | done | rfl | (simp only [List.length_drop, List.length_take]; rfl)) ?_; (with_reducible refine (qSA.calls _ _ l1 1048576 t231 _ ?side1 ?side2 A4.out).mono ?_); (case side1 => repeat (first | exact HR1.out | (with_reducible refine Kd.qa ?_ _) | (with_reducible refine Kd.qZ ?_ _) | (with_reducible refine Kd.qe ?_))); (case side2 => exact HC1.out); rintro e w' ⟨rfl, ⟨nd, rfl⟩⟩; refine ⟨_, rfl, ?_⟩))
   go_ret
   exact ⟨by first | rfl | (simp [qI, qH] <;> rfl) | (simp [*, qI, qH] <;> rfl), bl⟩
  ·rw [if_neg c5] at H
   have c5b0 : decide (t231 < 0) = false := decide_eq_false c5
   clear c5
   replace H := Option.bind_eq_some_iff.mp H
   obtain ⟨t232, A60, H⟩ := H
   replace H : ((qUB.f k a0 t232).bind fun bt235 => ((qS.f k l1).bind fun t237 => ((qLB.f k a0 t237).bind fun bt240 => (if (bt240.1 != bt235.1) = true then (qEA.j0 k l1 t237 true) else (qEA.j0 k l1 t237 (bt240.2 != bt235.2)))))) = some r := H
   have A6 := Aside0.mk A60
   clear A60
   replace H := Option.bind_eq_some_iff.mp H
   obtain ⟨⟨t235, t236⟩, A70, H⟩ := H
   replace H : ((qS.f k l1).bind fun t237 => ((qLB.f k a0 t237).bind fun bt240 => (if (bt240.1 != t235) = true then (qEA.j0 k l1 t237 true) else (qEA.j0 k l1 t237 (bt240.2 != t236))))) = some r := H
   have A7 := Aside0.mk A70
   clear A70
   replace H := Option.bind_eq_some_iff.mp H
   obtain ⟨t237, A80, H⟩ := H
   replace H : ((qLB.f k a0 t237).bind fun bt240 => (if (bt240.1 != t235) = true then (qEA.j0 k l1 t237 true) else (qEA.j0 k l1 t237 (bt240.2 != t236)))) = some r := H
   have A8 := Aside0.mk A80
   clear A80
   replace H := Option.bind_eq_some_iff.mp H
   obtain ⟨⟨t240, t241⟩, A90, H⟩ := H
   replace H : (if (t240 != t235) = true then (qEA.j0 k l1 t237 true) else (qEA.j0 k l1 t237 (t241 != t236))) = some r := H
   have A9 := Aside0.mk A90
   clear A90
   have HC10 := Aside0.mk H
   clear H
   go_enter Tryd.func3, Tryd.ntmps3
   go_upto_region 10 with (first | ((with_reducible refine qL (f := 11) rfl ?_); refine qh (some 16) rfl rfl Tryd.func11 (by kernel_rfl) rfl #[.slice A1 l1.length c1, .int .i64 1048576] rfl (by (try simp only [List.map_toArray, List.map_cons, List.map_nil]); first | done | rfl | (simp only [List.length_drop, List.length_take]; rfl)) ?_; (with_reducible refine (qSA.calls _ _ l1 1048576 t231 _ ?side1 ?side2 A4.out).mono ?_); (case side1 => repeat (first | exact HR1.out | (with_reducible refine Kd.qa ?_ _) | (with_reducible refine Kd.qZ ?_ _) | (with_reducible refine Kd.qe ?_))); (case side2 => exact HC1.out); rintro e w' ⟨rfl, ⟨nd, rfl⟩⟩; refine ⟨_, rfl, ?_⟩) | ((with_reducible refine qL (f := 13) rfl ?_); refine qh (some 22) rfl rfl Tryd.func13 (by kernel_rfl) rfl #[.slice A1 l1.length c1] rfl (by (try simp only [List.map_toArray, List.map_cons, List.map_nil]); first | done | rfl | (simp only [List.length_drop, List.length_take]; rfl)) ?_; (with_reducible refine (qS.calls k _ _ l1 t232 _ ?side1 ?side2 A6.out).mono ?_); (case side1 => repeat (first | exact HR1.out | (with_reducible refine Kd.qa ?_ _) | (with_reducible refine Kd.qZ ?_ _) | (with_reducible refine Kd.qe ?_))); (case side2 => exact HC1.out); rintro e w11 ⟨v233, rfl, ho0, hb⟩; refine ⟨_, rfl, ?_⟩; have n0_ := Aside0.mk (Kd.qDA ho0 (qb bl)); have n1_ := Aside0.mk (qG bl hb); clear HB; have HO234 := n0_; have HB := n1_; clear n0_ n1_; (try clear hb); (try clear hb2); (try clear hk); (try clear hi); (try clear ho0); obtain ⟨Ao12, co12, eo12⟩ := Kd.qt HO234.out; subst eo12) | ((with_reducible refine qL (f := 12) rfl ?_); refine qh (some 23) rfl rfl Tryd.func12 (by kernel_rfl) rfl #[.string a0, .slice Ao12 t232.length co12] rfl (by (try simp only [List.map_toArray, List.map_cons, List.map_nil]); first | done | rfl | (simp only [List.length_drop, List.length_take]; rfl)) ?_; (with_reducible refine (qUB.calls k a0 _ _ t232 t235 t236 _ ?side1 ?side2 A7.out).mono ?_); (case side1 => repeat (first | exact (Kd.qM HO234.out).2.2 | (with_reducible refine Kd.qa ?_ _) | (with_reducible refine Kd.qZ ?_ _) | (with_reducible refine Kd.qe ?_))); (case side2 => exact (Kd.qM HO234.out).2.1); rintro e w13 ⟨rfl, hb⟩; refine ⟨_, rfl, ?_⟩; have n0_ := Aside0.mk (Kd.qc (by (with_reducible repeat (first | apply Kd.qK | apply Kd.qJ | apply Kd.qO)); exact HO234.out) hb); have n1_ := Aside0.mk (qG bl hb); clear HO234; clear HB; have HO234 := n0_; have HB := n1_; clear n0_ n1_; (try clear hb); (try clear hb2); (try clear hk); (try clear hi)) | ((with_reducible refine qL (f := 13) rfl ?_); refine qh (some 27) rfl rfl Tryd.func13 (by kernel_rfl) rfl #[.slice A1 l1.length c1] rfl (by (try simp only [List.map_toArray, List.map_cons, List.map_nil]); first | done | rfl | (simp only [List.length_drop, List.length_take]; rfl)) ?_; (with_reducible refine (qS.calls k _ _ l1 t237 _ ?side1 ?side2 A8.out).mono ?_); (case side1 => repeat (first | exact (Kd.qWA HR1.out HB.out) | (with_reducible refine Kd.qa ?_ _) | (with_reducible refine Kd.qZ ?_ _) | (with_reducible refine Kd.qe ?_))); (case side2 => exact HC1.out); rintro e w14 ⟨v238, rfl, ho0, hb⟩; refine ⟨_, rfl, ?_⟩; have n0_ := Aside0.mk (Kd.qYA (by (with_reducible repeat (first | apply Kd.qK | apply Kd.qJ | apply Kd.qO)); exact HO234.out) (Kd.qnA ho0) hb); have n1_ := Aside0.mk (Kd.qDA (Kd.qmA ho0 (Kd.R_lt (by (with_reducible repeat (first | apply Kd.qK | apply Kd.qJ | apply Kd.qO)); exact HO234.out))) (qb bl)); have n2_ := Aside0.mk (qG bl hb); clear HO234; clear HB; have HO234 := n0_; have HO239 := n1_; have HB := n2_; clear n0_ n1_ n2_; (try clear hb); (try clear hb2); (try clear hk); (try clear hi); (try clear ho0); obtain ⟨Ao15, co15, eo15⟩ := Kd.qt HO239.out; subst eo15) | ((with_reducible refine qL (f := 14) rfl ?_); refine qh (some 31) rfl rfl Tryd.func14 (by kernel_rfl) rfl #[.string a0, .slice Ao15 t237.length co15] rfl (by (try simp only [List.map_toArray, List.map_cons, List.map_nil]); first | done | rfl | (simp only [List.length_drop, List.length_take]; rfl)) ?_; (with_reducible refine (qLB.calls k a0 _ _ t237 t240 t241 _ ?side1 ?side2 ?side3 A9.out).mono ?_); (case side1 => repeat (first | exact (Kd.qM HO239.out).2.2 | (with_reducible refine Kd.qa ?_ _) | (with_reducible refine Kd.qZ ?_ _) | (with_reducible refine Kd.qe ?_))); (case side2 => exact (Kd.qM HO239.out).2.1); (case side3 => first | exact HLD.out | exact Laid.below HLD.out (by repeat (first | (with_reducible first | exact HB.out | apply qAA | apply qo | apply qp | refine qMA ?_ (Aside0.out (by with_reducible assumption))) | exact HB.out))); rintro e w16 ⟨rfl, hb⟩; refine ⟨_, rfl, ?_⟩; have n0_ := Aside0.mk (Kd.qc (by (with_reducible repeat (first | apply Kd.qK | apply Kd.qJ | apply Kd.qO)); exact HO234.out) hb); have n1_ := Aside0.mk (Kd.qc (by (with_reducible repeat (first | apply Kd.qK | apply Kd.qJ | apply Kd.qO)); exact HO239.out) hb); have n2_ := Aside0.mk (qG bl hb); clear HO234; clear HO239; clear HB; have HO234 := n0_; have HO239 := n1_; have HB := n2_; clear n0_ n1_ n2_; (try clear hb); (try clear hb2); (try clear hk); (try clear hi)))
   (try simp only [Act.put, List.setIfInBounds_toArray, List.set_cons_zero, List.set_cons_succ])
   go_cut [41] (fun v41 wc => ∃ (kq : Nat) (x41_9 : Bool), v41 = .bool x41_9 ∧ Aside0 (qEA.j0 kq l1 t237 x41_9 = some r) ∧ Aside0 (kq ≤ k) ∧ Aside0 (Kd.R k57 57 wc w.heap.size (fun _ => True) (.slice Ao15 t237.length co15) t237) ∧ Aside0 (Below w.heap.size w wc))
   case first =>
    have H := HC10.out
    clear HC10
    by_cases c17 : (t240 != t235) = true
    ·rw [if_pos c17] at H
     have c17b0 : (t240 != t235) = true := c17
     (try (have c17b1 : decide (t240 = t235) = false := by simpa using c17))
     (try (have c17b2 : (t240 == t235) = false := by simpa using c17))
     (try (have c17b3 : ¬ (t240 = t235) := by simpa using c17))
     clear c17
     (first | rw [c17b0] | (simp only [i64_w, i32_w]; rw [c17b0]) | skip)
     have H' := Aside0.mk H
     clear H
     go_wp2
     go_meet
     case rel => exact ⟨_, (true), (by first | rfl | (simp; done) | (simp [*]; done)), H', ⟨by first | omega | exact Nat.le_refl _⟩, ⟨by (with_reducible repeat (first | apply Kd.qK | apply Kd.qJ | apply Kd.qO)); exact Kd.qGA HO239.out (fun _ hk => trivial)⟩, ⟨bl⟩⟩
    ·rw [if_neg c17] at H
     have c17b0 : (t240 != t235) = false := by simpa using c17
     (try (have c17b1 : decide (t240 = t235) = true := by simpa using c17))
     (try (have c17b2 : (t240 == t235) = true := by simpa using c17))
     clear c17
     (first | rw [c17b0] | (simp only [i64_w, i32_w]; rw [c17b0]) | skip)
     have H' := Aside0.mk H
     clear H
     go_wp2
     go_meet
     case rel => exact ⟨_, ((t241 != t236)), (by first | rfl | (simp; done) | (simp [*]; done)), H', ⟨by first | omega | exact Nat.le_refl _⟩, ⟨by (with_reducible repeat (first | apply Kd.qK | apply Kd.qJ | apply Kd.qO)); exact Kd.qGA HO239.out (fun _ hk => trivial)⟩, ⟨bl⟩⟩
   case rest =>
    clear HC10
    try clear c1
    try clear p2
    try clear c3
    try clear c3b0
    try clear c3b1
    try clear c5
    try clear c5b0
    try clear c11
    try clear c12
    try clear c13
    try clear c14
    try clear c17
    try clear c17b0
    try clear c17b1
    try clear c17b2
    obtain ⟨kq, x41_9, rfl, HA, HJ9, HO_8, HB⟩ := hcut
    cases kq with
    | zero => exact absurd HA.out (by simp [qEA.j0])
    | succ kj9 =>
     have H := HA.out
     clear HA
     simp only [qEA.j0] at H
     by_cases c18 : x41_9 = true
     ·subst c18
      have H1 : (some false) = some r := by rw [if_pos rfl] at H; exact H
      clear H
      have H := H1
      clear H1
      obtain rfl := Option.some.inj H
      go_wp2
      go_ret
      exact ⟨by first | rfl | (simp [qI, qH] <;> rfl) | (simp [*, qI, qH] <;> rfl), bl⟩
     ·replace c18 := Bool.eq_false_iff.mpr c18
      subst c18
      have H1 : ((qS.f kj9 l1).bind fun t242 => ((qX.f kj9 t237 t242).bind fun t245 => (if t245 = true then (some true) else (some false)))) = some r := by rw [if_neg (show ¬ (false = true) by decide)] at H; exact H
      clear H
      have H := H1
      clear H1
      replace H := Option.bind_eq_some_iff.mp H
      obtain ⟨t242, A190, H⟩ := H
      replace H : ((qX.f kj9 t237 t242).bind fun t245 => (if t245 = true then (some true) else (some false))) = some r := H
      have A19 := Aside0.mk A190
      clear A190
      replace H := Option.bind_eq_some_iff.mp H
      obtain ⟨t245, A200, H⟩ := H
      replace H : (if t245 = true then (some true) else (some false)) = some r := H
      have A20 := Aside0.mk A200
      clear A200
      by_cases c21 : t245 = true
      ·subst c21
       have H1 : (some true) = some r := by rw [if_pos rfl] at H; exact H
       clear H
       have H := H1
       clear H1
       obtain rfl := Option.some.inj H
       go_wp2_with (first | ((with_reducible refine qL (f := 13) rfl ?_); refine qh (some 44) rfl rfl Tryd.func13 (by kernel_rfl) rfl #[.slice A1 l1.length c1] rfl (by (try simp only [List.map_toArray, List.map_cons, List.map_nil]); first | done | rfl | (simp only [List.length_drop, List.length_take]; rfl)) ?_; (with_reducible refine (qS.calls kj9 _ _ l1 t242 _ ?side1 ?side2 A19.out).mono ?_); (case side1 => repeat (first | exact (Kd.qWA HR1.out HB.out) | (with_reducible refine Kd.qa ?_ _) | (with_reducible refine Kd.qZ ?_ _) | (with_reducible refine Kd.qe ?_))); (case side2 => exact HC1.out); rintro e w22 ⟨v243, rfl, ho0, hb⟩; refine ⟨_, rfl, ?_⟩; have n0_ := Aside0.mk (Kd.qYA (by (with_reducible repeat (first | apply Kd.qK | apply Kd.qJ | apply Kd.qO)); exact HO_8.out) (Kd.qnA ho0) hb); have n1_ := Aside0.mk (Kd.qDA (Kd.qmA ho0 (Kd.R_lt (by (with_reducible repeat (first | apply Kd.qK | apply Kd.qJ | apply Kd.qO)); exact HO_8.out))) (qb bl)); have n2_ := Aside0.mk (qG bl hb); clear HO_8; clear HB; have HO_8 := n0_; have HO244 := n1_; have HB := n2_; clear n0_ n1_ n2_; (try clear hb); (try clear hb2); (try clear hk); (try clear hi); (try clear ho0); obtain ⟨Ao23, co23, eo23⟩ := Kd.qt HO244.out; subst eo23) | ((with_reducible refine qL (f := 15) rfl ?_); refine qh (some 45) rfl rfl Tryd.func15 (by kernel_rfl) rfl #[.slice Ao15 t237.length co15, .slice Ao23 t242.length co23] rfl (by (try simp only [List.map_toArray, List.map_cons, List.map_nil]); first | done | rfl | (simp only [List.length_drop, List.length_take]; rfl)) ?_; (with_reducible refine (qX.calls kj9 _ _ t237 _ _ t242 true _ ?side1 ?side2 ?side3 ?side4 A20.out).mono ?_); (case side1 => repeat (first | exact (Kd.qM HO_8.out).2.2 | (with_reducible refine Kd.qa ?_ _) | (with_reducible refine Kd.qZ ?_ _) | (with_reducible refine Kd.qe ?_))); (case side2 => exact (Kd.qM HO_8.out).2.1); (case side3 => repeat (first | exact (Kd.qM HO244.out).2.2 | (with_reducible refine Kd.qa ?_ _) | (with_reducible refine Kd.qZ ?_ _) | (with_reducible refine Kd.qe ?_))); (case side4 => exact (Kd.qM HO244.out).2.1); rintro e w24 ⟨rfl, hb⟩; refine ⟨_, rfl, ?_⟩; have n0_ := Aside0.mk (Kd.qc (by (with_reducible repeat (first | apply Kd.qK | apply Kd.qJ | apply Kd.qO)); exact HO_8.out) hb); have n1_ := Aside0.mk (Kd.qc (by (with_reducible repeat (first | apply Kd.qK | apply Kd.qJ | apply Kd.qO)); exact HO244.out) hb); have n2_ := Aside0.mk (qG bl hb); clear HO_8; clear HO244; clear HB; have HO_8 := n0_; have HO244 := n1_; have HB := n2_; clear n0_ n1_ n2_; (try clear hb); (try clear hb2); (try clear hk); (try clear hi)))
       go_ret
       exact ⟨by first | rfl | (simp [qI, qH] <;> rfl) | (simp [*, qI, qH] <;> rfl), bl⟩
      ·replace c21 := Bool.eq_false_iff.mpr c21
       subst c21
       have H1 : (some false) = some r := by rw [if_neg (show ¬ (false = true) by decide)] at H; exact H
       clear H
       have H := H1
       clear H1
       obtain rfl := Option.some.inj H
       go_wp2_with (first | ((with_reducible refine qL (f := 13) rfl ?_); refine qh (some 44) rfl rfl Tryd.func13 (by kernel_rfl) rfl #[.slice A1 l1.length c1] rfl (by (try simp only [List.map_toArray, List.map_cons, List.map_nil]); first | done | rfl | (simp only [List.length_drop, List.length_take]; rfl)) ?_; (with_reducible refine (qS.calls kj9 _ _ l1 t242 _ ?side1 ?side2 A19.out).mono ?_); (case side1 => repeat (first | exact (Kd.qWA HR1.out HB.out) | (with_reducible refine Kd.qa ?_ _) | (with_reducible refine Kd.qZ ?_ _) | (with_reducible refine Kd.qe ?_))); (case side2 => exact HC1.out); rintro e w25 ⟨v243, rfl, ho0, hb⟩; refine ⟨_, rfl, ?_⟩; have n0_ := Aside0.mk (Kd.qYA (by (with_reducible repeat (first | apply Kd.qK | apply Kd.qJ | apply Kd.qO)); exact HO_8.out) (Kd.qnA ho0) hb); have n1_ := Aside0.mk (Kd.qDA (Kd.qmA ho0 (Kd.R_lt (by (with_reducible repeat (first | apply Kd.qK | apply Kd.qJ | apply Kd.qO)); exact HO_8.out))) (qb bl)); have n2_ := Aside0.mk (qG bl hb); clear HO_8; clear HB; have HO_8 := n0_; have HO244 := n1_; have HB := n2_; clear n0_ n1_ n2_; (try clear hb); (try clear hb2); (try clear hk); (try clear hi); (try clear ho0); obtain ⟨Ao26, co26, eo26⟩ := Kd.qt HO244.out; subst eo26) | ((with_reducible refine qL (f := 15) rfl ?_); refine qh (some 45) rfl rfl Tryd.func15 (by kernel_rfl) rfl #[.slice Ao15 t237.length co15, .slice Ao26 t242.length co26] rfl (by (try simp only [List.map_toArray, List.map_cons, List.map_nil]); first | done | rfl | (simp only [List.length_drop, List.length_take]; rfl)) ?_; (with_reducible refine (qX.calls kj9 _ _ t237 _ _ t242 false _ ?side1 ?side2 ?side3 ?side4 A20.out).mono ?_); (case side1 => repeat (first | exact (Kd.qM HO_8.out).2.2 | (with_reducible refine Kd.qa ?_ _) | (with_reducible refine Kd.qZ ?_ _) | (with_reducible refine Kd.qe ?_))); (case side2 => exact (Kd.qM HO_8.out).2.1); (case side3 => repeat (first | exact (Kd.qM HO244.out).2.2 | (with_reducible refine Kd.qa ?_ _) | (with_reducible refine Kd.qZ ?_ _) | (with_reducible refine Kd.qe ?_))); (case side4 => exact (Kd.qM HO244.out).2.1); rintro e w27 ⟨rfl, hb⟩; refine ⟨_, rfl, ?_⟩; have n0_ := Aside0.mk (Kd.qc (by (with_reducible repeat (first | apply Kd.qK | apply Kd.qJ | apply Kd.qO)); exact HO_8.out) hb); have n1_ := Aside0.mk (Kd.qc (by (with_reducible repeat (first | apply Kd.qK | apply Kd.qJ | apply Kd.qO)); exact HO244.out) hb); have n2_ := Aside0.mk (qG bl hb); clear HO_8; clear HO244; clear HB; have HO_8 := n0_; have HO244 := n1_; have HB := n2_; clear n0_ n1_ n2_; (try clear hb); (try clear hb2); (try clear hk); (try clear hi)))
       go_ret
       exact ⟨by first | rfl | (simp [qI, qH] <;> rfl) | (simp [*, qI, qH] <;> rfl), bl⟩
def qEA.Pure : Prop := ∀ (a0 : ByteArray) (l1 : List (S61)), a0.size ≤ 140737488351232 → l1.length * 64 ≤ 140737488351232 → ∃ k, qEA.f k a0 l1 = some true
end Go.Proofs.YtgjdjnggkmojnaaDoor.P
namespace Go.Proofs.YtgjdjnggkmojnaaDoor.Pure
open Go.RowKit Go.Proofs.YtgjdjnggkmojnaaDoor.P Go.Proofs.YtgjdjnggkmojnaaDoorW.PrintWords Go.Proofs.YtgjdjnggkmojnaaDoorW.PrintLast
set_option linter.unusedVariables false
set_option linter.unusedSimpArgs false
theorem both (a : ByteArray) (l : List XS) (ha : a.size ≤ 1048576) (hl : l.length ≤ 2000000) : ∃ r : Bool × Bool, Ev (fun k => qUB.f k a l) r ∧ Ev (fun k => qLB.f k a l) r := by
 obtain ⟨rows, h1, hr⟩ := board_ev a ha
 have h2 := boRead_ev a
 unfold qUB.f qLB.f
 cases hg : boardB a with
 | false =>
  rw [hg] at h1
  rw [hg, if_neg (by decide)] at h2
  exact ⟨(false, false), Ev.bind h2 (Ev.neg (by simp [badG]) (Ev.now _)), Ev.bind h1 (Ev.neg (by simp) (Ev.now _))⟩
 | true =>
  have g := qMD hg
  have e := hr hg
  subst e
  rw [hg] at h1
  rw [hg, if_pos rfl] at h2
  exact ⟨(goodB a l, true), Ev.bind h2 (Ev.pos rfl (Ev.bind (myGood_ev g l hl) (Ev.now _))), Ev.bind h1 (Ev.pos rfl (Ev.bind (areDice_ev g l hl) (Ev.now _)))⟩
theorem FnExactAreDice : qEA.Pure := by
 intro a l _ hl
 refine Ev.rounds (r := true) ?_
 unfold qEA.f
 by_cases ha : a.size ≤ 1048576
 ·refine Ev.neg (by omega) (Ev.bindc (qxB l hl) ?_)
  by_cases hn : l.length ≤ 1048576
  ·rw [if_pos hn]
   have hc : l.length ≤ 2000000 := by omega
   have ht := qwB l hc
   have h3 : (l.map convS).length ≤ 140737488355328 := by simp; omega
   obtain ⟨r, hs, hi⟩ := both a (l.map convS) ha (by simp; omega)
   refine Ev.neg (by omega) (Ev.bind ht (Ev.bind hs (Ev.bind ht (Ev.bind hi (Ev.neg (by simp) ?_)))))
   refine Ev.step (f := fun k => _) (fun k => by rw [qEA.j0]) (Ev.neg (by simp) ?_)
   exact Ev.bind ht (Ev.bind (qAB _ h3) (Ev.pos rfl (Ev.now _)))
  ·rw [if_neg hn]
   exact Ev.pos (by decide) (Ev.now _)
 ·exact Ev.pos (by omega) (Ev.now _)
end Go.Proofs.YtgjdjnggkmojnaaDoor.Pure
