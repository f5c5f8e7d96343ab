/- The program's MoveDice returns what the reference's returns, for all texts and dice and plans (the law lets longer texts and lists by). No further condition. -/
import Derived.Test.YtgjdjnggkmojnaaDoorKFnExactMoveDice1
import Derived.Lib.Strings

namespace Go.Proofs.YtgjdjnggkmojnaaDoor.P
open Go.RowKit Go.Proofs.YtgjdjnggkmojnaaDoorW.PrintWords Go.Proofs.YtgjdjnggkmojnaaDoorW.PrintLast Go.Proofs.YtgjdjnggkmojnaaDoorW.PrintMore
attribute [local go_sem] qLA qJA qVA qUA qy qx qKA qIA
set_option linter.unusedVariables false
set_option linter.unusedSimpArgs false
def qbA.f (l0 : List ByteArray) (l1 : List (S57)) (a2 : Int) (a3 : Int) : Option ((List (S57)) × Bool) := (qwA.f a2 0 (wrap64 ((l1.length : Int) - 1))).bind fun t399 => (if t399 = true then (if 0 ≤ a2 then (if a2 < (l1.length : Int) then ((qEB.f l0 ((qC l1 a2).f0) ((qC l1 a2).f1) ((qC l1 a2).f2.f0) ((qC l1 a2).f2.f1) ((qC l1 a2).f2.f2) ((qC l1 a2).f2.f3) ((qC l1 a2).f2.f4) ((qC l1 a2).f2.f5) a3).bind fun bt401 => (if bt401.2.2.2.2.2.2.2.2 = true then ((qdC.f l1 bt401.1 bt401.2.1 bt401.2.2.1 bt401.2.2.2.1 bt401.2.2.2.2.1 bt401.2.2.2.2.2.1 bt401.2.2.2.2.2.2.1 bt401.2.2.2.2.2.2.2.1).bind fun t411 => (if t411 = true then (some (([] : List (S57)), false)) else ((qyA.f l1).bind fun t412 => (if a2 < (t412.length : Int) then (some ((t412.set (a2 : Int).toNat (⟨bt401.1, bt401.2.1, (⟨bt401.2.2.1, bt401.2.2.2.1, bt401.2.2.2.2.1, bt401.2.2.2.2.2.1, bt401.2.2.2.2.2.2.1, bt401.2.2.2.2.2.2.2.1⟩ : S55)⟩ : S57)), true)) else (none))))) else (some (([] : List (S57)), false)))) else (none)) else (none)) else (some (([] : List (S57)), false)))
set_option maxHeartbeats 8000000 in
set_option maxRecDepth 100000 in
theorem qbA.calls (A0 : Option Addr) (c0 : Nat) (l0 : List ByteArray) (A1 : Option Addr) (c1 : Nat) (l1 : List (S57)) (a2 : Int) (a3 : Int) (r1 : List (S57)) (r2 : Bool) (w : World) (hr0 : Kd.C Kd.string w A0 l0.length l0) (hc0 : l0.length ≤ c0) (hr1 : Kd.C k57 w A1 l1.length l1) (hc1 : l1.length ≤ c1) (h : qbA.f l0 l1 a2 a3 = some (r1, r2)) :
  Calls Tryd.prog 51 #[.slice A0 l0.length c0, .slice A1 l1.length c1, .int .i64 a2, .int .u8 a3] w fun e w' => ∃ v0_ : Value, e = .returned (.tuple #[v0_, .bool r2]) ∧ Kd.R k57 57 w' w.heap.size (fun _ => True) v0_ r1 ∧ Below w.heap.size w w' := by
 have hu57 := Tryd.underlying57
 have HR0 := Aside0.mk hr0
 have HC0 := Aside0.mk hc0
 clear hr0 hc0
 have HR1 := Aside0.mk hr1
 have HC1 := Aside0.mk hc1
 clear hr1 hc1
 have HB := Aside0.mk (Below.refl w.heap.size w)
 have H : ((qwA.f a2 0 (wrap64 ((l1.length : Int) - 1))).bind fun t399 => (if t399 = true then (if 0 ≤ a2 then (if a2 < (l1.length : Int) then ((qEB.f l0 ((qC l1 a2).f0) ((qC l1 a2).f1) ((qC l1 a2).f2.f0) ((qC l1 a2).f2.f1) ((qC l1 a2).f2.f2) ((qC l1 a2).f2.f3) ((qC l1 a2).f2.f4) ((qC l1 a2).f2.f5) a3).bind fun bt401 => (if bt401.2.2.2.2.2.2.2.2 = true then ((qdC.f l1 bt401.1 bt401.2.1 bt401.2.2.1 bt401.2.2.2.1 bt401.2.2.2.2.1 bt401.2.2.2.2.2.1 bt401.2.2.2.2.2.2.1 bt401.2.2.2.2.2.2.2.1).bind fun t411 => (if t411 = true then (some (([] : List (S57)), false)) else ((qyA.f l1).bind fun t412 => (if a2 < (t412.length : Int) then (some ((t412.set (a2 : Int).toNat (⟨bt401.1, bt401.2.1, (⟨bt401.2.2.1, bt401.2.2.2.1, bt401.2.2.2.2.1, bt401.2.2.2.2.2.1, bt401.2.2.2.2.2.2.1, bt401.2.2.2.2.2.2.2.1⟩ : S55)⟩ : S57)), true)) else (none))))) else (some (([] : List (S57)), false)))) else (none)) else (none)) else (some (([] : List (S57)), false)))) = some (r1, r2) := h
 clear h
 replace H := Option.bind_eq_some_iff.mp H
 obtain ⟨t399, A50, H⟩ := H
 replace H : (if t399 = true then (if 0 ≤ a2 then (if a2 < (l1.length : Int) then ((qEB.f l0 ((qC l1 a2).f0) ((qC l1 a2).f1) ((qC l1 a2).f2.f0) ((qC l1 a2).f2.f1) ((qC l1 a2).f2.f2) ((qC l1 a2).f2.f3) ((qC l1 a2).f2.f4) ((qC l1 a2).f2.f5) a3).bind fun bt401 => (if bt401.2.2.2.2.2.2.2.2 = true then ((qdC.f l1 bt401.1 bt401.2.1 bt401.2.2.1 bt401.2.2.2.1 bt401.2.2.2.2.1 bt401.2.2.2.2.2.1 bt401.2.2.2.2.2.2.1 bt401.2.2.2.2.2.2.2.1).bind fun t411 => (if t411 = true then (some (([] : List (S57)), false)) else ((qyA.f l1).bind fun t412 => (if a2 < (t412.length : Int) then (some ((t412.set (a2 : Int).toNat (⟨bt401.1, bt401.2.1, (⟨bt401.2.2.1, bt401.2.2.2.1, bt401.2.2.2.2.1, bt401.2.2.2.2.2.1, bt401.2.2.2.2.2.2.1, bt401.2.2.2.2.2.2.2.1⟩ : S55)⟩ : S57)), true)) else (none))))) else (some (([] : List (S57)), false)))) else (none)) else (none)) else (some (([] : List (S57)), false))) = some (r1, r2) := H
 have A5 := Aside0.mk A50
 clear A50
 by_cases c6 : t399 = true
 ·subst c6
  have H1 : (if 0 ≤ a2 then (if a2 < (l1.length : Int) then ((qEB.f l0 ((qC l1 a2).f0) ((qC l1 a2).f1) ((qC l1 a2).f2.f0) ((qC l1 a2).f2.f1) ((qC l1 a2).f2.f2) ((qC l1 a2).f2.f3) ((qC l1 a2).f2.f4) ((qC l1 a2).f2.f5) a3).bind fun bt401 => (if bt401.2.2.2.2.2.2.2.2 = true then ((qdC.f l1 bt401.1 bt401.2.1 bt401.2.2.1 bt401.2.2.2.1 bt401.2.2.2.2.1 bt401.2.2.2.2.2.1 bt401.2.2.2.2.2.2.1 bt401.2.2.2.2.2.2.2.1).bind fun t411 => (if t411 = true then (some (([] : List (S57)), false)) else ((qyA.f l1).bind fun t412 => (if a2 < (t412.length : Int) then (some ((t412.set (a2 : Int).toNat (⟨bt401.1, bt401.2.1, (⟨bt401.2.2.1, bt401.2.2.2.1, bt401.2.2.2.2.1, bt401.2.2.2.2.2.1, bt401.2.2.2.2.2.2.1, bt401.2.2.2.2.2.2.2.1⟩ : S55)⟩ : S57)), true)) else (none))))) else (some (([] : List (S57)), false)))) else (none)) else (none)) = some (r1, r2) := by rw [if_pos rfl] at H; exact H
  clear H
  have H := H1
  clear H1
  by_cases c7 : 0 ≤ a2
  ·rw [if_pos c7] at H
   have c7b0 : decide (0 ≤ a2) = true := decide_eq_true c7
   clear c7
   by_cases c8 : a2 < (l1.length : Int)
   ·rw [if_pos c8] at H
    have c8b0 : decide (a2 < (l1.length : Int)) = true := decide_eq_true c8
    clear c8
    replace H := Option.bind_eq_some_iff.mp H
    obtain ⟨⟨t401, t402, t403, t404, t405, t406, t407, t408, t409⟩, A90, H⟩ := H
    replace H : (if t409 = true then ((qdC.f l1 t401 t402 t403 t404 t405 t406 t407 t408).bind fun t411 => (if t411 = true then (some (([] : List (S57)), false)) else ((qyA.f l1).bind fun t412 => (if a2 < (t412.length : Int) then (some ((t412.set (a2 : Int).toNat (⟨t401, t402, (⟨t403, t404, t405, t406, t407, t408⟩ : S55)⟩ : S57)), true)) else (none))))) else (some (([] : List (S57)), false))) = some (r1, r2) := H
    have A9 := Aside0.mk A90
    clear A90
    by_cases c10 : t409 = true
    ·subst c10
     have H1 : ((qdC.f l1 t401 t402 t403 t404 t405 t406 t407 t408).bind fun t411 => (if t411 = true then (some (([] : List (S57)), false)) else ((qyA.f l1).bind fun t412 => (if a2 < (t412.length : Int) then (some ((t412.set (a2 : Int).toNat (⟨t401, t402, (⟨t403, t404, t405, t406, t407, t408⟩ : S55)⟩ : S57)), true)) else (none))))) = some (r1, r2) := by rw [if_pos rfl] at H; exact H
     clear H
     have H := H1
     clear H1
     replace H := Option.bind_eq_some_iff.mp H
     obtain ⟨t411, A110, H⟩ := H
     replace H : (if t411 = true then (some (([] : List (S57)), false)) else ((qyA.f l1).bind fun t412 => (if a2 < (t412.length : Int) then (some ((t412.set (a2 : Int).toNat (⟨t401, t402, (⟨t403, t404, t405, t406, t407, t408⟩ : S55)⟩ : S57)), true)) else (none)))) = some (r1, r2) := H
     have A11 := Aside0.mk A110
     clear A110
     by_cases c12 : t411 = true
     ·subst c12
      have H1 : (some (([] : List (S57)), false)) = some (r1, r2) := by rw [if_pos rfl] at H; exact H
      clear H
      have H := H1
      clear H1
      simp only [Option.some.injEq, Prod.mk.injEq] at H
      obtain ⟨rfl, rfl⟩ := H
      go_enter Tryd.func51, Tryd.ntmps51
      go_wp2_with (first | ((with_reducible refine qL (f := 70) rfl ?_); refine qh (some 17) rfl rfl Tryd.func70 (by kernel_rfl) rfl #[.int .i64 a2, .int .i64 0, .int .i64 (wrap64 ((l1.length : Int) - 1))] rfl (by (try simp only [List.map_toArray, List.map_cons, List.map_nil]); first | done | rfl | (simp only [List.length_drop, List.length_take]; rfl)) ?_; (with_reducible refine (qwA.calls a2 0 (wrap64 ((l1.length : Int) - 1)) true _ A5.out).mono ?_); rintro e w' ⟨rfl, ⟨nd, rfl⟩⟩; refine ⟨_, rfl, ?_⟩; have p400 : 0 ≤ (a2 : Int) := of_decide_eq_true (by first | (with_reducible assumption) | assumption); have q400 : a2 < (l1.length : Int) := of_decide_eq_true (by first | (with_reducible assumption) | assumption); obtain ⟨ad400, e400, hx400_0, hx400_1, hx400_2, hx400_3, hx400_4, hx400_5, hx400_6, hx400_7⟩ := qgA HR1.out a2 p400 q400; cases e400; replace p400 := eq_true p400; replace q400 := eq_true q400) | ((with_reducible refine qL (f := 75) rfl ?_); refine qh (some 26) rfl rfl Tryd.func75 (by kernel_rfl) rfl #[.slice A0 l0.length c0, .agg #[.int .i64 ((qC l1 a2).f0), .int .i64 ((qC l1 a2).f1), .int .i64 ((qC l1 a2).f2.f0), .int .i64 ((qC l1 a2).f2.f1), .int .i64 ((qC l1 a2).f2.f2), .int .i64 ((qC l1 a2).f2.f3), .int .i64 ((qC l1 a2).f2.f4), .int .i64 ((qC l1 a2).f2.f5)], .int .u8 a3] rfl (by (try simp only [List.map_toArray, List.map_cons, List.map_nil]); first | done | rfl | (simp only [List.length_drop, List.length_take]; rfl)) ?_; (with_reducible refine (qEB.calls _ _ l0 ((qC l1 a2).f0) ((qC l1 a2).f1) ((qC l1 a2).f2.f0) ((qC l1 a2).f2.f1) ((qC l1 a2).f2.f2) ((qC l1 a2).f2.f3) ((qC l1 a2).f2.f4) ((qC l1 a2).f2.f5) a3 t401 t402 t403 t404 t405 t406 t407 t408 true _ ?side1 ?side2 A9.out).mono ?_); (case side1 => repeat (first | exact HR0.out | (with_reducible refine Kd.qa ?_ _) | (with_reducible refine Kd.qZ ?_ _) | (with_reducible refine Kd.qe ?_))); (case side2 => exact HC0.out); rintro e w13 ⟨rfl, hb⟩; refine ⟨_, rfl, ?_⟩; have n0_ := Aside0.mk (qG bl hb); clear HB; have HB := n0_; clear n0_; (try clear hb); (try clear hb2); (try clear hk); (try clear hi)) | ((with_reducible refine qg (N := 10) rfl ?_); refine qd ?hg (N := 10) ?hd (cs := #[.int .i64 0, .int .i64 0, .int .i64 0, .int .i64 0, .int .i64 0, .int .i64 0, .int .i64 0, .int .i64 0]) (t := 57) ?hr ?_; (case hd => rfl); (case hg => rfl); (case hr => first | (go_simp; done) | (go_simp; rfl)); intro gb410 hg w14 hbox hb; have n0_ := Aside0.mk (qG bl hb); have n1_ := Aside0.mk (hbox); have n2_ := Aside0.mk ((gg hg)); have n3_ := Aside0.mk ((gg hg)); clear HB; have HB := n0_; have BK410 := n1_; have GW410 := n2_; have GE410 := n3_; clear n0_ n1_ n2_ n3_; clear hb hbox hg; have hcz15_0 := bc BK410 0; have hcz15_1 := bc BK410 1; have hcz15_2 := bc BK410 2; have hcz15_3 := bc BK410 3; have hcz15_4 := bc BK410 4; have hcz15_5 := bc BK410 5; have hcz15_6 := bc BK410 6; have hcz15_7 := bc BK410 7; have hfz15_0 := qA BK410.out 0; have hfz15_1 := qA BK410.out 1; have hfz15_2 := qA BK410.out 2; have hfz15_3 := qA BK410.out 3; have hfz15_4 := qA BK410.out 4; have hfz15_5 := qA BK410.out 5; have hfz15_6 := qA BK410.out 6; have hfz15_7 := qA BK410.out 7) | (go_at_call 67; (with_reducible refine (qdC.calls _ _ l1 gb410 t401 t402 t403 t404 t405 t406 t407 t408 true _ ?side1 ?side2 ?side3 ?side4 ?side5 ?side6 ?side7 ?side8 ?side9 ?side10 A11.out).mono ?_); (case side1 => exact Kd.qWA HR1.out bl); (case side2 => exact HC1.out); (case side3 => exact (cell_of_row _ gb410 0 _ 57 (0, 0) (by (with_reducible repeat (first | refine qE ?_ _ | refine qF ?_ | refine qD ?_ _)); refine qN (cs := #[.int .i64 t401, .int .i64 t402, .int .i64 t403, .int .i64 t404, .int .i64 t405, .int .i64 t406, .int .i64 t407, .int .i64 0]) ?_ 7 _ rfl; (with_reducible repeat (first | refine qE ?_ _ | refine qF ?_ | refine qD ?_ _)); refine qN (cs := #[.int .i64 t401, .int .i64 t402, .int .i64 t403, .int .i64 t404, .int .i64 t405, .int .i64 t406, .int .i64 0, .int .i64 0]) ?_ 6 _ rfl; (with_reducible repeat (first | refine qE ?_ _ | refine qF ?_ | refine qD ?_ _)); refine qN (cs := #[.int .i64 t401, .int .i64 t402, .int .i64 t403, .int .i64 t404, .int .i64 t405, .int .i64 0, .int .i64 0, .int .i64 0]) ?_ 5 _ rfl; (with_reducible repeat (first | refine qE ?_ _ | refine qF ?_ | refine qD ?_ _)); refine qN (cs := #[.int .i64 t401, .int .i64 t402, .int .i64 t403, .int .i64 t404, .int .i64 0, .int .i64 0, .int .i64 0, .int .i64 0]) ?_ 4 _ rfl; (with_reducible repeat (first | refine qE ?_ _ | refine qF ?_ | refine qD ?_ _)); refine qN (cs := #[.int .i64 t401, .int .i64 t402, .int .i64 t403, .int .i64 0, .int .i64 0, .int .i64 0, .int .i64 0, .int .i64 0]) ?_ 3 _ rfl; (with_reducible repeat (first | refine qE ?_ _ | refine qF ?_ | refine qD ?_ _)); refine qN (cs := #[.int .i64 t401, .int .i64 t402, .int .i64 0, .int .i64 0, .int .i64 0, .int .i64 0, .int .i64 0, .int .i64 0]) ?_ 2 _ rfl; (with_reducible repeat (first | refine qE ?_ _ | refine qF ?_ | refine qD ?_ _)); refine qN (cs := #[.int .i64 t401, .int .i64 0, .int .i64 0, .int .i64 0, .int .i64 0, .int .i64 0, .int .i64 0, .int .i64 0]) ?_ 1 _ rfl; (with_reducible repeat (first | refine qE ?_ _ | refine qF ?_ | refine qD ?_ _)); refine qN (cs := #[.int .i64 0, .int .i64 0, .int .i64 0, .int .i64 0, .int .i64 0, .int .i64 0, .int .i64 0, .int .i64 0]) ?_ 0 _ rfl; (with_reducible repeat (first | refine qE ?_ _ | refine qF ?_ | refine qD ?_ _)); exact BK410.out)).trans rfl); (case side4 => exact (cell_of_row _ gb410 1 _ 57 (0, 0) (by (with_reducible repeat (first | refine qE ?_ _ | refine qF ?_ | refine qD ?_ _)); refine qN (cs := #[.int .i64 t401, .int .i64 t402, .int .i64 t403, .int .i64 t404, .int .i64 t405, .int .i64 t406, .int .i64 t407, .int .i64 0]) ?_ 7 _ rfl; (with_reducible repeat (first | refine qE ?_ _ | refine qF ?_ | refine qD ?_ _)); refine qN (cs := #[.int .i64 t401, .int .i64 t402, .int .i64 t403, .int .i64 t404, .int .i64 t405, .int .i64 t406, .int .i64 0, .int .i64 0]) ?_ 6 _ rfl; (with_reducible repeat (first | refine qE ?_ _ | refine qF ?_ | refine qD ?_ _)); refine qN (cs := #[.int .i64 t401, .int .i64 t402, .int .i64 t403, .int .i64 t404, .int .i64 t405, .int .i64 0, .int .i64 0, .int .i64 0]) ?_ 5 _ rfl; (with_reducible repeat (first | refine qE ?_ _ | refine qF ?_ | refine qD ?_ _)); refine qN (cs := #[.int .i64 t401, .int .i64 t402, .int .i64 t403, .int .i64 t404, .int .i64 0, .int .i64 0, .int .i64 0, .int .i64 0]) ?_ 4 _ rfl; (with_reducible repeat (first | refine qE ?_ _ | refine qF ?_ | refine qD ?_ _)); refine qN (cs := #[.int .i64 t401, .int .i64 t402, .int .i64 t403, .int .i64 0, .int .i64 0, .int .i64 0, .int .i64 0, .int .i64 0]) ?_ 3 _ rfl; (with_reducible repeat (first | refine qE ?_ _ | refine qF ?_ | refine qD ?_ _)); refine qN (cs := #[.int .i64 t401, .int .i64 t402, .int .i64 0, .int .i64 0, .int .i64 0, .int .i64 0, .int .i64 0, .int .i64 0]) ?_ 2 _ rfl; (with_reducible repeat (first | refine qE ?_ _ | refine qF ?_ | refine qD ?_ _)); refine qN (cs := #[.int .i64 t401, .int .i64 0, .int .i64 0, .int .i64 0, .int .i64 0, .int .i64 0, .int .i64 0, .int .i64 0]) ?_ 1 _ rfl; (with_reducible repeat (first | refine qE ?_ _ | refine qF ?_ | refine qD ?_ _)); refine qN (cs := #[.int .i64 0, .int .i64 0, .int .i64 0, .int .i64 0, .int .i64 0, .int .i64 0, .int .i64 0, .int .i64 0]) ?_ 0 _ rfl; (with_reducible repeat (first | refine qE ?_ _ | refine qF ?_ | refine qD ?_ _)); exact BK410.out)).trans rfl); (case side5 => exact (cell_of_row _ gb410 2 _ 57 (0, 0) (by (with_reducible repeat (first | refine qE ?_ _ | refine qF ?_ | refine qD ?_ _)); refine qN (cs := #[.int .i64 t401, .int .i64 t402, .int .i64 t403, .int .i64 t404, .int .i64 t405, .int .i64 t406, .int .i64 t407, .int .i64 0]) ?_ 7 _ rfl; (with_reducible repeat (first | refine qE ?_ _ | refine qF ?_ | refine qD ?_ _)); refine qN (cs := #[.int .i64 t401, .int .i64 t402, .int .i64 t403, .int .i64 t404, .int .i64 t405, .int .i64 t406, .int .i64 0, .int .i64 0]) ?_ 6 _ rfl; (with_reducible repeat (first | refine qE ?_ _ | refine qF ?_ | refine qD ?_ _)); refine qN (cs := #[.int .i64 t401, .int .i64 t402, .int .i64 t403, .int .i64 t404, .int .i64 t405, .int .i64 0, .int .i64 0, .int .i64 0]) ?_ 5 _ rfl; (with_reducible repeat (first | refine qE ?_ _ | refine qF ?_ | refine qD ?_ _)); refine qN (cs := #[.int .i64 t401, .int .i64 t402, .int .i64 t403, .int .i64 t404, .int .i64 0, .int .i64 0, .int .i64 0, .int .i64 0]) ?_ 4 _ rfl; (with_reducible repeat (first | refine qE ?_ _ | refine qF ?_ | refine qD ?_ _)); refine qN (cs := #[.int .i64 t401, .int .i64 t402, .int .i64 t403, .int .i64 0, .int .i64 0, .int .i64 0, .int .i64 0, .int .i64 0]) ?_ 3 _ rfl; (with_reducible repeat (first | refine qE ?_ _ | refine qF ?_ | refine qD ?_ _)); refine qN (cs := #[.int .i64 t401, .int .i64 t402, .int .i64 0, .int .i64 0, .int .i64 0, .int .i64 0, .int .i64 0, .int .i64 0]) ?_ 2 _ rfl; (with_reducible repeat (first | refine qE ?_ _ | refine qF ?_ | refine qD ?_ _)); refine qN (cs := #[.int .i64 t401, .int .i64 0, .int .i64 0, .int .i64 0, .int .i64 0, .int .i64 0, .int .i64 0, .int .i64 0]) ?_ 1 _ rfl; (with_reducible repeat (first | refine qE ?_ _ | refine qF ?_ | refine qD ?_ _)); refine qN (cs := #[.int .i64 0, .int .i64 0, .int .i64 0, .int .i64 0, .int .i64 0, .int .i64 0, .int .i64 0, .int .i64 0]) ?_ 0 _ rfl; (with_reducible repeat (first | refine qE ?_ _ | refine qF ?_ | refine qD ?_ _)); exact BK410.out)).trans rfl); (case side6 => exact (cell_of_row _ gb410 3 _ 57 (0, 0) (by (with_reducible repeat (first | refine qE ?_ _ | refine qF ?_ | refine qD ?_ _)); refine qN (cs := #[.int .i64 t401, .int .i64 t402, .int .i64 t403, .int .i64 t404, .int .i64 t405, .int .i64 t406, .int .i64 t407, .int .i64 0]) ?_ 7 _ rfl; (with_reducible repeat (first | refine qE ?_ _ | refine qF ?_ | refine qD ?_ _)); refine qN (cs := #[.int .i64 t401, .int .i64 t402, .int .i64 t403, .int .i64 t404, .int .i64 t405, .int .i64 t406, .int .i64 0, .int .i64 0]) ?_ 6 _ rfl; (with_reducible repeat (first | refine qE ?_ _ | refine qF ?_ | refine qD ?_ _)); refine qN (cs := #[.int .i64 t401, .int .i64 t402, .int .i64 t403, .int .i64 t404, .int .i64 t405, .int .i64 0, .int .i64 0, .int .i64 0]) ?_ 5 _ rfl; (with_reducible repeat (first | refine qE ?_ _ | refine qF ?_ | refine qD ?_ _)); refine qN (cs := #[.int .i64 t401, .int .i64 t402, .int .i64 t403, .int .i64 t404, .int .i64 0, .int .i64 0, .int .i64 0, .int .i64 0]) ?_ 4 _ rfl; (with_reducible repeat (first | refine qE ?_ _ | refine qF ?_ | refine qD ?_ _)); refine qN (cs := #[.int .i64 t401, .int .i64 t402, .int .i64 t403, .int .i64 0, .int .i64 0, .int .i64 0, .int .i64 0, .int .i64 0]) ?_ 3 _ rfl; (with_reducible repeat (first | refine qE ?_ _ | refine qF ?_ | refine qD ?_ _)); refine qN (cs := #[.int .i64 t401, .int .i64 t402, .int .i64 0, .int .i64 0, .int .i64 0, .int .i64 0, .int .i64 0, .int .i64 0]) ?_ 2 _ rfl; (with_reducible repeat (first | refine qE ?_ _ | refine qF ?_ | refine qD ?_ _)); refine qN (cs := #[.int .i64 t401, .int .i64 0, .int .i64 0, .int .i64 0, .int .i64 0, .int .i64 0, .int .i64 0, .int .i64 0]) ?_ 1 _ rfl; (with_reducible repeat (first | refine qE ?_ _ | refine qF ?_ | refine qD ?_ _)); refine qN (cs := #[.int .i64 0, .int .i64 0, .int .i64 0, .int .i64 0, .int .i64 0, .int .i64 0, .int .i64 0, .int .i64 0]) ?_ 0 _ rfl; (with_reducible repeat (first | refine qE ?_ _ | refine qF ?_ | refine qD ?_ _)); exact BK410.out)).trans rfl); (case side7 => exact (cell_of_row _ gb410 4 _ 57 (0, 0) (by (with_reducible repeat (first | refine qE ?_ _ | refine qF ?_ | refine qD ?_ _)); refine qN (cs := #[.int .i64 t401, .int .i64 t402, .int .i64 t403, .int .i64 t404, .int .i64 t405, .int .i64 t406, .int .i64 t407, .int .i64 0]) ?_ 7 _ rfl; (with_reducible repeat (first | refine qE ?_ _ | refine qF ?_ | refine qD ?_ _)); refine qN (cs := #[.int .i64 t401, .int .i64 t402, .int .i64 t403, .int .i64 t404, .int .i64 t405, .int .i64 t406, .int .i64 0, .int .i64 0]) ?_ 6 _ rfl; (with_reducible repeat (first | refine qE ?_ _ | refine qF ?_ | refine qD ?_ _)); refine qN (cs := #[.int .i64 t401, .int .i64 t402, .int .i64 t403, .int .i64 t404, .int .i64 t405, .int .i64 0, .int .i64 0, .int .i64 0]) ?_ 5 _ rfl; (with_reducible repeat (first | refine qE ?_ _ | refine qF ?_ | refine qD ?_ _)); refine qN (cs := #[.int .i64 t401, .int .i64 t402, .int .i64 t403, .int .i64 t404, .int .i64 0, .int .i64 0, .int .i64 0, .int .i64 0]) ?_ 4 _ rfl; (with_reducible repeat (first | refine qE ?_ _ | refine qF ?_ | refine qD ?_ _)); refine qN (cs := #[.int .i64 t401, .int .i64 t402, .int .i64 t403, .int .i64 0, .int .i64 0, .int .i64 0, .int .i64 0, .int .i64 0]) ?_ 3 _ rfl; (with_reducible repeat (first | refine qE ?_ _ | refine qF ?_ | refine qD ?_ _)); refine qN (cs := #[.int .i64 t401, .int .i64 t402, .int .i64 0, .int .i64 0, .int .i64 0, .int .i64 0, .int .i64 0, .int .i64 0]) ?_ 2 _ rfl; (with_reducible repeat (first | refine qE ?_ _ | refine qF ?_ | refine qD ?_ _)); refine qN (cs := #[.int .i64 t401, .int .i64 0, .int .i64 0, .int .i64 0, .int .i64 0, .int .i64 0, .int .i64 0, .int .i64 0]) ?_ 1 _ rfl; (with_reducible repeat (first | refine qE ?_ _ | refine qF ?_ | refine qD ?_ _)); refine qN (cs := #[.int .i64 0, .int .i64 0, .int .i64 0, .int .i64 0, .int .i64 0, .int .i64 0, .int .i64 0, .int .i64 0]) ?_ 0 _ rfl; (with_reducible repeat (first | refine qE ?_ _ | refine qF ?_ | refine qD ?_ _)); exact BK410.out)).trans rfl); (case side8 => exact (cell_of_row _ gb410 5 _ 57 (0, 0) (by (with_reducible repeat (first | refine qE ?_ _ | refine qF ?_ | refine qD ?_ _)); refine qN (cs := #[.int .i64 t401, .int .i64 t402, .int .i64 t403, .int .i64 t404, .int .i64 t405, .int .i64 t406, .int .i64 t407, .int .i64 0]) ?_ 7 _ rfl; (with_reducible repeat (first | refine qE ?_ _ | refine qF ?_ | refine qD ?_ _)); refine qN (cs := #[.int .i64 t401, .int .i64 t402, .int .i64 t403, .int .i64 t404, .int .i64 t405, .int .i64 t406, .int .i64 0, .int .i64 0]) ?_ 6 _ rfl; (with_reducible repeat (first | refine qE ?_ _ | refine qF ?_ | refine qD ?_ _)); refine qN (cs := #[.int .i64 t401, .int .i64 t402, .int .i64 t403, .int .i64 t404, .int .i64 t405, .int .i64 0, .int .i64 0, .int .i64 0]) ?_ 5 _ rfl; (with_reducible repeat (first | refine qE ?_ _ | refine qF ?_ | refine qD ?_ _)); refine qN (cs := #[.int .i64 t401, .int .i64 t402, .int .i64 t403, .int .i64 t404, .int .i64 0, .int .i64 0, .int .i64 0, .int .i64 0]) ?_ 4 _ rfl; (with_reducible repeat (first | refine qE ?_ _ | refine qF ?_ | refine qD ?_ _)); refine qN (cs := #[.int .i64 t401, .int .i64 t402, .int .i64 t403, .int .i64 0, .int .i64 0, .int .i64 0, .int .i64 0, .int .i64 0]) ?_ 3 _ rfl; (with_reducible repeat (first | refine qE ?_ _ | refine qF ?_ | refine qD ?_ _)); refine qN (cs := #[.int .i64 t401, .int .i64 t402, .int .i64 0, .int .i64 0, .int .i64 0, .int .i64 0, .int .i64 0, .int .i64 0]) ?_ 2 _ rfl; (with_reducible repeat (first | refine qE ?_ _ | refine qF ?_ | refine qD ?_ _)); refine qN (cs := #[.int .i64 t401, .int .i64 0, .int .i64 0, .int .i64 0, .int .i64 0, .int .i64 0, .int .i64 0, .int .i64 0]) ?_ 1 _ rfl; (with_reducible repeat (first | refine qE ?_ _ | refine qF ?_ | refine qD ?_ _)); refine qN (cs := #[.int .i64 0, .int .i64 0, .int .i64 0, .int .i64 0, .int .i64 0, .int .i64 0, .int .i64 0, .int .i64 0]) ?_ 0 _ rfl; (with_reducible repeat (first | refine qE ?_ _ | refine qF ?_ | refine qD ?_ _)); exact BK410.out)).trans rfl); (case side9 => exact (cell_of_row _ gb410 6 _ 57 (0, 0) (by (with_reducible repeat (first | refine qE ?_ _ | refine qF ?_ | refine qD ?_ _)); refine qN (cs := #[.int .i64 t401, .int .i64 t402, .int .i64 t403, .int .i64 t404, .int .i64 t405, .int .i64 t406, .int .i64 t407, .int .i64 0]) ?_ 7 _ rfl; (with_reducible repeat (first | refine qE ?_ _ | refine qF ?_ | refine qD ?_ _)); refine qN (cs := #[.int .i64 t401, .int .i64 t402, .int .i64 t403, .int .i64 t404, .int .i64 t405, .int .i64 t406, .int .i64 0, .int .i64 0]) ?_ 6 _ rfl; (with_reducible repeat (first | refine qE ?_ _ | refine qF ?_ | refine qD ?_ _)); refine qN (cs := #[.int .i64 t401, .int .i64 t402, .int .i64 t403, .int .i64 t404, .int .i64 t405, .int .i64 0, .int .i64 0, .int .i64 0]) ?_ 5 _ rfl; (with_reducible repeat (first | refine qE ?_ _ | refine qF ?_ | refine qD ?_ _)); refine qN (cs := #[.int .i64 t401, .int .i64 t402, .int .i64 t403, .int .i64 t404, .int .i64 0, .int .i64 0, .int .i64 0, .int .i64 0]) ?_ 4 _ rfl; (with_reducible repeat (first | refine qE ?_ _ | refine qF ?_ | refine qD ?_ _)); refine qN (cs := #[.int .i64 t401, .int .i64 t402, .int .i64 t403, .int .i64 0, .int .i64 0, .int .i64 0, .int .i64 0, .int .i64 0]) ?_ 3 _ rfl; (with_reducible repeat (first | refine qE ?_ _ | refine qF ?_ | refine qD ?_ _)); refine qN (cs := #[.int .i64 t401, .int .i64 t402, .int .i64 0, .int .i64 0, .int .i64 0, .int .i64 0, .int .i64 0, .int .i64 0]) ?_ 2 _ rfl; (with_reducible repeat (first | refine qE ?_ _ | refine qF ?_ | refine qD ?_ _)); refine qN (cs := #[.int .i64 t401, .int .i64 0, .int .i64 0, .int .i64 0, .int .i64 0, .int .i64 0, .int .i64 0, .int .i64 0]) ?_ 1 _ rfl; (with_reducible repeat (first | refine qE ?_ _ | refine qF ?_ | refine qD ?_ _)); refine qN (cs := #[.int .i64 0, .int .i64 0, .int .i64 0, .int .i64 0, .int .i64 0, .int .i64 0, .int .i64 0, .int .i64 0]) ?_ 0 _ rfl; (with_reducible repeat (first | refine qE ?_ _ | refine qF ?_ | refine qD ?_ _)); exact BK410.out)).trans rfl); (case side10 => exact (cell_of_row _ gb410 7 _ 57 (0, 0) (by (with_reducible repeat (first | refine qE ?_ _ | refine qF ?_ | refine qD ?_ _)); refine qN (cs := #[.int .i64 t401, .int .i64 t402, .int .i64 t403, .int .i64 t404, .int .i64 t405, .int .i64 t406, .int .i64 t407, .int .i64 0]) ?_ 7 _ rfl; (with_reducible repeat (first | refine qE ?_ _ | refine qF ?_ | refine qD ?_ _)); refine qN (cs := #[.int .i64 t401, .int .i64 t402, .int .i64 t403, .int .i64 t404, .int .i64 t405, .int .i64 t406, .int .i64 0, .int .i64 0]) ?_ 6 _ rfl; (with_reducible repeat (first | refine qE ?_ _ | refine qF ?_ | refine qD ?_ _)); refine qN (cs := #[.int .i64 t401, .int .i64 t402, .int .i64 t403, .int .i64 t404, .int .i64 t405, .int .i64 0, .int .i64 0, .int .i64 0]) ?_ 5 _ rfl; (with_reducible repeat (first | refine qE ?_ _ | refine qF ?_ | refine qD ?_ _)); refine qN (cs := #[.int .i64 t401, .int .i64 t402, .int .i64 t403, .int .i64 t404, .int .i64 0, .int .i64 0, .int .i64 0, .int .i64 0]) ?_ 4 _ rfl; (with_reducible repeat (first | refine qE ?_ _ | refine qF ?_ | refine qD ?_ _)); refine qN (cs := #[.int .i64 t401, .int .i64 t402, .int .i64 t403, .int .i64 0, .int .i64 0, .int .i64 0, .int .i64 0, .int .i64 0]) ?_ 3 _ rfl; (with_reducible repeat (first | refine qE ?_ _ | refine qF ?_ | refine qD ?_ _)); refine qN (cs := #[.int .i64 t401, .int .i64 t402, .int .i64 0, .int .i64 0, .int .i64 0, .int .i64 0, .int .i64 0, .int .i64 0]) ?_ 2 _ rfl; (with_reducible repeat (first | refine qE ?_ _ | refine qF ?_ | refine qD ?_ _)); refine qN (cs := #[.int .i64 t401, .int .i64 0, .int .i64 0, .int .i64 0, .int .i64 0, .int .i64 0, .int .i64 0, .int .i64 0]) ?_ 1 _ rfl; (with_reducible repeat (first | refine qE ?_ _ | refine qF ?_ | refine qD ?_ _)); refine qN (cs := #[.int .i64 0, .int .i64 0, .int .i64 0, .int .i64 0, .int .i64 0, .int .i64 0, .int .i64 0, .int .i64 0]) ?_ 0 _ rfl; (with_reducible repeat (first | refine qE ?_ _ | refine qF ?_ | refine qD ?_ _)); exact BK410.out)).trans rfl); rintro e w16 ⟨rfl, hb⟩; have n0_ := Aside0.mk (qCB (g := gb410) (o := .cells #[.int .i64 t401, .int .i64 t402, .int .i64 t403, .int .i64 t404, .int .i64 t405, .int .i64 t406, .int .i64 t407, .int .i64 t408] 57 (0, 0)) (by (with_reducible repeat (first | refine qE ?_ _ | refine qF ?_ | refine qD ?_ _)); refine qN (cs := #[.int .i64 t401, .int .i64 t402, .int .i64 t403, .int .i64 t404, .int .i64 t405, .int .i64 t406, .int .i64 t407, .int .i64 0]) ?_ 7 _ rfl; (with_reducible repeat (first | refine qE ?_ _ | refine qF ?_ | refine qD ?_ _)); refine qN (cs := #[.int .i64 t401, .int .i64 t402, .int .i64 t403, .int .i64 t404, .int .i64 t405, .int .i64 t406, .int .i64 0, .int .i64 0]) ?_ 6 _ rfl; (with_reducible repeat (first | refine qE ?_ _ | refine qF ?_ | refine qD ?_ _)); refine qN (cs := #[.int .i64 t401, .int .i64 t402, .int .i64 t403, .int .i64 t404, .int .i64 t405, .int .i64 0, .int .i64 0, .int .i64 0]) ?_ 5 _ rfl; (with_reducible repeat (first | refine qE ?_ _ | refine qF ?_ | refine qD ?_ _)); refine qN (cs := #[.int .i64 t401, .int .i64 t402, .int .i64 t403, .int .i64 t404, .int .i64 0, .int .i64 0, .int .i64 0, .int .i64 0]) ?_ 4 _ rfl; (with_reducible repeat (first | refine qE ?_ _ | refine qF ?_ | refine qD ?_ _)); refine qN (cs := #[.int .i64 t401, .int .i64 t402, .int .i64 t403, .int .i64 0, .int .i64 0, .int .i64 0, .int .i64 0, .int .i64 0]) ?_ 3 _ rfl; (with_reducible repeat (first | refine qE ?_ _ | refine qF ?_ | refine qD ?_ _)); refine qN (cs := #[.int .i64 t401, .int .i64 t402, .int .i64 0, .int .i64 0, .int .i64 0, .int .i64 0, .int .i64 0, .int .i64 0]) ?_ 2 _ rfl; (with_reducible repeat (first | refine qE ?_ _ | refine qF ?_ | refine qD ?_ _)); refine qN (cs := #[.int .i64 t401, .int .i64 0, .int .i64 0, .int .i64 0, .int .i64 0, .int .i64 0, .int .i64 0, .int .i64 0]) ?_ 1 _ rfl; (with_reducible repeat (first | refine qE ?_ _ | refine qF ?_ | refine qD ?_ _)); refine qN (cs := #[.int .i64 0, .int .i64 0, .int .i64 0, .int .i64 0, .int .i64 0, .int .i64 0, .int .i64 0, .int .i64 0]) ?_ 0 _ rfl; (with_reducible repeat (first | refine qE ?_ _ | refine qF ?_ | refine qD ?_ _)); exact BK410.out) hb); have n1_ := Aside0.mk (qG bl hb); clear BK410; clear HB; have BK410 := n0_; have HB := n1_; clear n0_ n1_; (try clear hb); (try clear hb2); (try clear hk); (try clear hi)))
      go_ret2
      exact ⟨_, by first | rfl | (simp [qI, qH] <;> rfl) | (simp [*, qI, qH] <;> rfl), by first | exact Kd.R_nil _ _ _ _ _ | exact Kd.N_nil _ _ _ _ _ | exact Kd.V_nil _ _ _ _ _ | exact Kd.Q_nil _ _ _ _ _ | exact Kd.S_nil _ _ _ _ _, bl⟩
     ·replace c12 := Bool.eq_false_iff.mpr c12
      subst c12
      have H1 : ((qyA.f l1).bind fun t412 => (if a2 < (t412.length : Int) then (some ((t412.set (a2 : Int).toNat (⟨t401, t402, (⟨t403, t404, t405, t406, t407, t408⟩ : S55)⟩ : S57)), true)) else (none))) = some (r1, r2) := by rw [if_neg (show ¬ (false = true) by decide)] at H; exact H
      clear H
      have H := H1
      clear H1
      replace H := Option.bind_eq_some_iff.mp H
      obtain ⟨t412, A170, H⟩ := H
      replace H : (if a2 < (t412.length : Int) then (some ((t412.set (a2 : Int).toNat (⟨t401, t402, (⟨t403, t404, t405, t406, t407, t408⟩ : S55)⟩ : S57)), true)) else (none)) = some (r1, r2) := H
      have A17 := Aside0.mk A170
      clear A170
      by_cases c18 : a2 < (t412.length : Int)
      ·rw [if_pos c18] at H
       have c18b0 : decide (a2 < (t412.length : Int)) = true := decide_eq_true c18
       clear c18
       obtain ⟨y415, hy415⟩ : ∃ y_ : List (S57), y_ = (t412.set (a2 : Int).toNat (⟨t401, t402, (⟨t403, t404, t405, t406, t407, t408⟩ : S55)⟩ : S57)) := ⟨_, rfl⟩
       replace H : (some (y415, true)) = some (r1, r2) := by first | (rw [hy415]; with_reducible exact H) | (have H2_ := (Option.bind_some _ _).symm.trans H; rw [hy415]; with_reducible exact H2_) | (have H2_ := (Option.bind_some _ _).symm.trans H; with_reducible exact H2_) | with_reducible exact H | (rw [hy415]; exact H) | exact H
       have Ny415 := Aside0.mk hy415
       clear hy415
       simp only [Option.some.injEq, Prod.mk.injEq] at H
       obtain ⟨rfl, rfl⟩ := H
       go_enter Tryd.func51, Tryd.ntmps51
       go_wp2_with (first | ((with_reducible refine qL (f := 70) rfl ?_); refine qh (some 17) rfl rfl Tryd.func70 (by kernel_rfl) rfl #[.int .i64 a2, .int .i64 0, .int .i64 (wrap64 ((l1.length : Int) - 1))] rfl (by (try simp only [List.map_toArray, List.map_cons, List.map_nil]); first | done | rfl | (simp only [List.length_drop, List.length_take]; rfl)) ?_; (with_reducible refine (qwA.calls a2 0 (wrap64 ((l1.length : Int) - 1)) true _ A5.out).mono ?_); rintro e w' ⟨rfl, ⟨nd, rfl⟩⟩; refine ⟨_, rfl, ?_⟩; have p400 : 0 ≤ (a2 : Int) := of_decide_eq_true (by first | (with_reducible assumption) | assumption); have q400 : a2 < (l1.length : Int) := of_decide_eq_true (by first | (with_reducible assumption) | assumption); obtain ⟨ad400, e400, hx400_0, hx400_1, hx400_2, hx400_3, hx400_4, hx400_5, hx400_6, hx400_7⟩ := qgA HR1.out a2 p400 q400; cases e400; replace p400 := eq_true p400; replace q400 := eq_true q400) | ((with_reducible refine qL (f := 75) rfl ?_); refine qh (some 26) rfl rfl Tryd.func75 (by kernel_rfl) rfl #[.slice A0 l0.length c0, .agg #[.int .i64 ((qC l1 a2).f0), .int .i64 ((qC l1 a2).f1), .int .i64 ((qC l1 a2).f2.f0), .int .i64 ((qC l1 a2).f2.f1), .int .i64 ((qC l1 a2).f2.f2), .int .i64 ((qC l1 a2).f2.f3), .int .i64 ((qC l1 a2).f2.f4), .int .i64 ((qC l1 a2).f2.f5)], .int .u8 a3] rfl (by (try simp only [List.map_toArray, List.map_cons, List.map_nil]); first | done | rfl | (simp only [List.length_drop, List.length_take]; rfl)) ?_; (with_reducible refine (qEB.calls _ _ l0 ((qC l1 a2).f0) ((qC l1 a2).f1) ((qC l1 a2).f2.f0) ((qC l1 a2).f2.f1) ((qC l1 a2).f2.f2) ((qC l1 a2).f2.f3) ((qC l1 a2).f2.f4) ((qC l1 a2).f2.f5) a3 t401 t402 t403 t404 t405 t406 t407 t408 true _ ?side1 ?side2 A9.out).mono ?_); (case side1 => repeat (first | exact HR0.out | (with_reducible refine Kd.qa ?_ _) | (with_reducible refine Kd.qZ ?_ _) | (with_reducible refine Kd.qe ?_))); (case side2 => exact HC0.out); rintro e w20 ⟨rfl, hb⟩; refine ⟨_, rfl, ?_⟩; have n0_ := Aside0.mk (qG bl hb); clear HB; have HB := n0_; clear n0_; (try clear hb); (try clear hb2); (try clear hk); (try clear hi)) | ((with_reducible refine qg (N := 10) rfl ?_); refine qd ?hg (N := 10) ?hd (cs := #[.int .i64 0, .int .i64 0, .int .i64 0, .int .i64 0, .int .i64 0, .int .i64 0, .int .i64 0, .int .i64 0]) (t := 57) ?hr ?_; (case hd => rfl); (case hg => rfl); (case hr => first | (go_simp; done) | (go_simp; rfl)); intro gb410 hg w21 hbox hb; have n0_ := Aside0.mk (qG bl hb); have n1_ := Aside0.mk (hbox); have n2_ := Aside0.mk ((gg hg)); have n3_ := Aside0.mk ((gg hg)); clear HB; have HB := n0_; have BK410 := n1_; have GW410 := n2_; have GE410 := n3_; clear n0_ n1_ n2_ n3_; clear hb hbox hg; have hcz22_0 := bc BK410 0; have hcz22_1 := bc BK410 1; have hcz22_2 := bc BK410 2; have hcz22_3 := bc BK410 3; have hcz22_4 := bc BK410 4; have hcz22_5 := bc BK410 5; have hcz22_6 := bc BK410 6; have hcz22_7 := bc BK410 7; have hfz22_0 := qA BK410.out 0; have hfz22_1 := qA BK410.out 1; have hfz22_2 := qA BK410.out 2; have hfz22_3 := qA BK410.out 3; have hfz22_4 := qA BK410.out 4; have hfz22_5 := qA BK410.out 5; have hfz22_6 := qA BK410.out 6; have hfz22_7 := qA BK410.out 7) | (go_at_call 67; (with_reducible refine (qdC.calls _ _ l1 gb410 t401 t402 t403 t404 t405 t406 t407 t408 false _ ?side1 ?side2 ?side3 ?side4 ?side5 ?side6 ?side7 ?side8 ?side9 ?side10 A11.out).mono ?_); (case side1 => exact Kd.qWA HR1.out bl); (case side2 => exact HC1.out); (case side3 => exact (cell_of_row _ gb410 0 _ 57 (0, 0) (by (with_reducible repeat (first | refine qE ?_ _ | refine qF ?_ | refine qD ?_ _)); refine qN (cs := #[.int .i64 t401, .int .i64 t402, .int .i64 t403, .int .i64 t404, .int .i64 t405, .int .i64 t406, .int .i64 t407, .int .i64 0]) ?_ 7 _ rfl; (with_reducible repeat (first | refine qE ?_ _ | refine qF ?_ | refine qD ?_ _)); refine qN (cs := #[.int .i64 t401, .int .i64 t402, .int .i64 t403, .int .i64 t404, .int .i64 t405, .int .i64 t406, .int .i64 0, .int .i64 0]) ?_ 6 _ rfl; (with_reducible repeat (first | refine qE ?_ _ | refine qF ?_ | refine qD ?_ _)); refine qN (cs := #[.int .i64 t401, .int .i64 t402, .int .i64 t403, .int .i64 t404, .int .i64 t405, .int .i64 0, .int .i64 0, .int .i64 0]) ?_ 5 _ rfl; (with_reducible repeat (first | refine qE ?_ _ | refine qF ?_ | refine qD ?_ _)); refine qN (cs := #[.int .i64 t401, .int .i64 t402, .int .i64 t403, .int .i64 t404, .int .i64 0, .int .i64 0, .int .i64 0, .int .i64 0]) ?_ 4 _ rfl; (with_reducible repeat (first | refine qE ?_ _ | refine qF ?_ | refine qD ?_ _)); refine qN (cs := #[.int .i64 t401, .int .i64 t402, .int .i64 t403, .int .i64 0, .int .i64 0, .int .i64 0, .int .i64 0, .int .i64 0]) ?_ 3 _ rfl; (with_reducible repeat (first | refine qE ?_ _ | refine qF ?_ | refine qD ?_ _)); refine qN (cs := #[.int .i64 t401, .int .i64 t402, .int .i64 0, .int .i64 0, .int .i64 0, .int .i64 0, .int .i64 0, .int .i64 0]) ?_ 2 _ rfl; (with_reducible repeat (first | refine qE ?_ _ | refine qF ?_ | refine qD ?_ _)); refine qN (cs := #[.int .i64 t401, .int .i64 0, .int .i64 0, .int .i64 0, .int .i64 0, .int .i64 0, .int .i64 0, .int .i64 0]) ?_ 1 _ rfl; (with_reducible repeat (first | refine qE ?_ _ | refine qF ?_ | refine qD ?_ _)); refine qN (cs := #[.int .i64 0, .int .i64 0, .int .i64 0, .int .i64 0, .int .i64 0, .int .i64 0, .int .i64 0, .int .i64 0]) ?_ 0 _ rfl; (with_reducible repeat (first | refine qE ?_ _ | refine qF ?_ | refine qD ?_ _)); exact BK410.out)).trans rfl); (case side4 => exact (cell_of_row _ gb410 1 _ 57 (0, 0) (by (with_reducible repeat (first | refine qE ?_ _ | refine qF ?_ | refine qD ?_ _)); refine qN (cs := #[.int .i64 t401, .int .i64 t402, .int .i64 t403, .int .i64 t404, .int .i64 t405, .int .i64 t406, .int .i64 t407, .int .i64 0]) ?_ 7 _ rfl; (with_reducible repeat (first | refine qE ?_ _ | refine qF ?_ | refine qD ?_ _)); refine qN (cs := #[.int .i64 t401, .int .i64 t402, .int .i64 t403, .int .i64 t404, .int .i64 t405, .int .i64 t406, .int .i64 0, .int .i64 0]) ?_ 6 _ rfl; (with_reducible repeat (first | refine qE ?_ _ | refine qF ?_ | refine qD ?_ _)); refine qN (cs := #[.int .i64 t401, .int .i64 t402, .int .i64 t403, .int .i64 t404, .int .i64 t405, .int .i64 0, .int .i64 0, .int .i64 0]) ?_ 5 _ rfl; (with_reducible repeat (first | refine qE ?_ _ | refine qF ?_ | refine qD ?_ _)); refine qN (cs := #[.int .i64 t401, .int .i64 t402, .int .i64 t403, .int .i64 t404, .int .i64 0, .int .i64 0, .int .i64 0, .int .i64 0]) ?_ 4 _ rfl; (with_reducible repeat (first | refine qE ?_ _ | refine qF ?_ | refine qD ?_ _)); refine qN (cs := #[.int .i64 t401, .int .i64 t402, .int .i64 t403, .int .i64 0, .int .i64 0, .int .i64 0, .int .i64 0, .int .i64 0]) ?_ 3 _ rfl; (with_reducible repeat (first | refine qE ?_ _ | refine qF ?_ | refine qD ?_ _)); refine qN (cs := #[.int .i64 t401, .int .i64 t402, .int .i64 0, .int .i64 0, .int .i64 0, .int .i64 0, .int .i64 0, .int .i64 0]) ?_ 2 _ rfl; (with_reducible repeat (first | refine qE ?_ _ | refine qF ?_ | refine qD ?_ _)); refine qN (cs := #[.int .i64 t401, .int .i64 0, .int .i64 0, .int .i64 0, .int .i64 0, .int .i64 0, .int .i64 0, .int .i64 0]) ?_ 1 _ rfl; (with_reducible repeat (first | refine qE ?_ _ | refine qF ?_ | refine qD ?_ _)); refine qN (cs := #[.int .i64 0, .int .i64 0, .int .i64 0, .int .i64 0, .int .i64 0, .int .i64 0, .int .i64 0, .int .i64 0]) ?_ 0 _ rfl; (with_reducible repeat (first | refine qE ?_ _ | refine qF ?_ | refine qD ?_ _)); exact BK410.out)).trans rfl); (case side5 => exact (cell_of_row _ gb410 2 _ 57 (0, 0) (by (with_reducible repeat (first | refine qE ?_ _ | refine qF ?_ | refine qD ?_ _)); refine qN (cs := #[.int .i64 t401, .int .i64 t402, .int .i64 t403, .int .i64 t404, .int .i64 t405, .int .i64 t406, .int .i64 t407, .int .i64 0]) ?_ 7 _ rfl; (with_reducible repeat (first | refine qE ?_ _ | refine qF ?_ | refine qD ?_ _)); refine qN (cs := #[.int .i64 t401, .int .i64 t402, .int .i64 t403, .int .i64 t404, .int .i64 t405, .int .i64 t406, .int .i64 0, .int .i64 0]) ?_ 6 _ rfl; (with_reducible repeat (first | refine qE ?_ _ | refine qF ?_ | refine qD ?_ _)); refine qN (cs := #[.int .i64 t401, .int .i64 t402, .int .i64 t403, .int .i64 t404, .int .i64 t405, .int .i64 0, .int .i64 0, .int .i64 0]) ?_ 5 _ rfl; (with_reducible repeat (first | refine qE ?_ _ | refine qF ?_ | refine qD ?_ _)); refine qN (cs := #[.int .i64 t401, .int .i64 t402, .int .i64 t403, .int .i64 t404, .int .i64 0, .int .i64 0, .int .i64 0, .int .i64 0]) ?_ 4 _ rfl; (with_reducible repeat (first | refine qE ?_ _ | refine qF ?_ | refine qD ?_ _)); refine qN (cs := #[.int .i64 t401, .int .i64 t402, .int .i64 t403, .int .i64 0, .int .i64 0, .int .i64 0, .int .i64 0, .int .i64 0]) ?_ 3 _ rfl; (with_reducible repeat (first | refine qE ?_ _ | refine qF ?_ | refine qD ?_ _)); refine qN (cs := #[.int .i64 t401, .int .i64 t402, .int .i64 0, .int .i64 0, .int .i64 0, .int .i64 0, .int .i64 0, .int .i64 0]) ?_ 2 _ rfl; (with_reducible repeat (first | refine qE ?_ _ | refine qF ?_ | refine qD ?_ _)); refine qN (cs := #[.int .i64 t401, .int .i64 0, .int .i64 0, .int .i64 0, .int .i64 0, .int .i64 0, .int .i64 0, .int .i64 0]) ?_ 1 _ rfl; (with_reducible repeat (first | refine qE ?_ _ | refine qF ?_ | refine qD ?_ _)); refine qN (cs := #[.int .i64 0, .int .i64 0, .int .i64 0, .int .i64 0, .int .i64 0, .int .i64 0, .int .i64 0, .int .i64 0]) ?_ 0 _ rfl; (with_reducible repeat (first | refine qE ?_ _ | refine qF ?_ | refine qD ?_ _)); exact BK410.out)).trans rfl); (case side6 => exact (cell_of_row _ gb410 3 _ 57 (0, 0) (by (with_reducible repeat (first | refine qE ?_ _ | refine qF ?_ | refine qD ?_ _)); refine qN (cs := #[.int .i64 t401, .int .i64 t402, .int .i64 t403, .int .i64 t404, .int .i64 t405, .int .i64 t406, .int .i64 t407, .int .i64 0]) ?_ 7 _ rfl; (with_reducible repeat (first | refine qE ?_ _ | refine qF ?_ | refine qD ?_ _)); refine qN (cs := #[.int .i64 t401, .int .i64 t402, .int .i64 t403, .int .i64 t404, .int .i64 t405, .int .i64 t406, .int .i64 0, .int .i64 0]) ?_ 6 _ rfl; (with_reducible repeat (first | refine qE ?_ _ | refine qF ?_ | refine qD ?_ _)); refine qN (cs := #[.int .i64 t401, .int .i64 t402, .int .i64 t403, .int .i64 t404, .int .i64 t405, .int .i64 0, .int .i64 0, .int .i64 0]) ?_ 5 _ rfl; (with_reducible repeat (first | refine qE ?_ _ | refine qF ?_ | refine qD ?_ _)); refine qN (cs := #[.int .i64 t401, .int .i64 t402, .int .i64 t403, .int .i64 t404, .int .i64 0, .int .i64 0, .int .i64 0, .int .i64 0]) ?_ 4 _ rfl; (with_reducible repeat (first | refine qE ?_ _ | refine qF ?_ | refine qD ?_ _)); refine qN (cs := #[.int .i64 t401, .int .i64 t402, .int .i64 t403, .int .i64 0, .int .i64 0, .int .i64 0, .int .i64 0, .int .i64 0]) ?_ 3 _ rfl; (with_reducible repeat (first | refine qE ?_ _ | refine qF ?_ | refine qD ?_ _)); refine qN (cs := #[.int .i64 t401, .int .i64 t402, .int .i64 0, .int .i64 0, .int .i64 0, .int .i64 0, .int .i64 0, .int .i64 0]) ?_ 2 _ rfl; (with_reducible repeat (first | refine qE ?_ _ | refine qF ?_ | refine qD ?_ _)); refine qN (cs := #[.int .i64 t401, .int .i64 0, .int .i64 0, .int .i64 0, .int .i64 0, .int .i64 0, .int .i64 0, .int .i64 0]) ?_ 1 _ rfl; (with_reducible repeat (first | refine qE ?_ _ | refine qF ?_ | refine qD ?_ _)); refine qN (cs := #[.int .i64 0, .int .i64 0, .int .i64 0, .int .i64 0, .int .i64 0, .int .i64 0, .int .i64 0, .int .i64 0]) ?_ 0 _ rfl; (with_reducible repeat (first | refine qE ?_ _ | refine qF ?_ | refine qD ?_ _)); exact BK410.out)).trans rfl); (case side7 => exact (cell_of_row _ gb410 4 _ 57 (0, 0) (by (with_reducible repeat (first | refine qE ?_ _ | refine qF ?_ | refine qD ?_ _)); refine qN (cs := #[.int .i64 t401, .int .i64 t402, .int .i64 t403, .int .i64 t404, .int .i64 t405, .int .i64 t406, .int .i64 t407, .int .i64 0]) ?_ 7 _ rfl; (with_reducible repeat (first | refine qE ?_ _ | refine qF ?_ | refine qD ?_ _)); refine qN (cs := #[.int .i64 t401, .int .i64 t402, .int .i64 t403, .int .i64 t404, .int .i64 t405, .int .i64 t406, .int .i64 0, .int .i64 0]) ?_ 6 _ rfl; (with_reducible repeat (first | refine qE ?_ _ | refine qF ?_ | refine qD ?_ _)); refine qN (cs := #[.int .i64 t401, .int .i64 t402, .int .i64 t403, .int .i64 t404, .int .i64 t405, .int .i64 0, .int .i64 0, .int .i64 0]) ?_ 5 _ rfl; (with_reducible repeat (first | refine qE ?_ _ | refine qF ?_ | refine qD ?_ _)); refine qN (cs := #[.int .i64 t401, .int .i64 t402, .int .i64 t403, .int .i64 t404, .int .i64 0, .int .i64 0, .int .i64 0, .int .i64 0]) ?_ 4 _ rfl; (with_reducible repeat (first | refine qE ?_ _ | refine qF ?_ | refine qD ?_ _)); refine qN (cs := #[.int .i64 t401, .int .i64 t402, .int .i64 t403, .int .i64 0, .int .i64 0, .int .i64 0, .int .i64 0, .int .i64 0]) ?_ 3 _ rfl; (with_reducible repeat (first | refine qE ?_ _ | refine qF ?_ | refine qD ?_ _)); refine qN (cs := #[.int .i64 t401, .int .i64 t402, .int .i64 0, .int .i64 0, .int .i64 0, .int .i64 0, .int .i64 0, .int .i64 0]) ?_ 2 _ rfl; (with_reducible repeat (first | refine qE ?_ _ | refine qF ?_ | refine qD ?_ _)); refine qN (cs := #[.int .i64 t401, .int .i64 0, .int .i64 0, .int .i64 0, .int .i64 0, .int .i64 0, .int .i64 0, .int .i64 0]) ?_ 1 _ rfl; (with_reducible repeat (first | refine qE ?_ _ | refine qF ?_ | refine qD ?_ _)); refine qN (cs := #[.int .i64 0, .int .i64 0, .int .i64 0, .int .i64 0, .int .i64 0, .int .i64 0, .int .i64 0, .int .i64 0]) ?_ 0 _ rfl; (with_reducible repeat (first | refine qE ?_ _ | refine qF ?_ | refine qD ?_ _)); exact BK410.out)).trans rfl); (case side8 => exact (cell_of_row _ gb410 5 _ 57 (0, 0) (by (with_reducible repeat (first | refine qE ?_ _ | refine qF ?_ | refine qD ?_ _)); refine qN (cs := #[.int .i64 t401, .int .i64 t402, .int .i64 t403, .int .i64 t404, .int .i64 t405, .int .i64 t406, .int .i64 t407, .int .i64 0]) ?_ 7 _ rfl; (with_reducible repeat (first | refine qE ?_ _ | refine qF ?_ | refine qD ?_ _)); refine qN (cs := #[.int .i64 t401, .int .i64 t402, .int .i64 t403, .int .i64 t404, .int .i64 t405, .int .i64 t406, .int .i64 0, .int .i64 0]) ?_ 6 _ rfl; (with_reducible repeat (first | refine qE ?_ _ | refine qF ?_ | refine qD ?_ _)); refine qN (cs := #[.int .i64 t401, .int .i64 t402, .int .i64 t403, .int .i64 t404, .int .i64 t405, .int .i64 0, .int .i64 0, .int .i64 0]) ?_ 5 _ rfl; (with_reducible repeat (first | refine qE ?_ _ | refine qF ?_ | refine qD ?_ _)); refine qN (cs := #[.int .i64 t401, .int .i64 t402, .int .i64 t403, .int .i64 t404, .int .i64 0, .int .i64 0, .int .i64 0, .int .i64 0]) ?_ 4 _ rfl; (with_reducible repeat (first | refine qE ?_ _ | refine qF ?_ | refine qD ?_ _)); refine qN (cs := #[.int .i64 t401, .int .i64 t402, .int .i64 t403, .int .i64 0, .int .i64 0, .int .i64 0, .int .i64 0, .int .i64 0]) ?_ 3 _ rfl; (with_reducible repeat (first | refine qE ?_ _ | refine qF ?_ | refine qD ?_ _)); refine qN (cs := #[.int .i64 t401, .int .i64 t402, .int .i64 0, .int .i64 0, .int .i64 0, .int .i64 0, .int .i64 0, .int .i64 0]) ?_ 2 _ rfl; (with_reducible repeat (first | refine qE ?_ _ | refine qF ?_ | refine qD ?_ _)); refine qN (cs := #[.int .i64 t401, .int .i64 0, .int .i64 0, .int .i64 0, .int .i64 0, .int .i64 0, .int .i64 0, .int .i64 0]) ?_ 1 _ rfl; (with_reducible repeat (first | refine qE ?_ _ | refine qF ?_ | refine qD ?_ _)); refine qN (cs := #[.int .i64 0, .int .i64 0, .int .i64 0, .int .i64 0, .int .i64 0, .int .i64 0, .int .i64 0, .int .i64 0]) ?_ 0 _ rfl; (with_reducible repeat (first | refine qE ?_ _ | refine qF ?_ | refine qD ?_ _)); exact BK410.out)).trans rfl); (case side9 => exact (cell_of_row _ gb410 6 _ 57 (0, 0) (by (with_reducible repeat (first | refine qE ?_ _ | refine qF ?_ | refine qD ?_ _)); refine qN (cs := #[.int .i64 t401, .int .i64 t402, .int .i64 t403, .int .i64 t404, .int .i64 t405, .int .i64 t406, .int .i64 t407, .int .i64 0]) ?_ 7 _ rfl; (with_reducible repeat (first | refine qE ?_ _ | refine qF ?_ | refine qD ?_ _)); refine qN (cs := #[.int .i64 t401, .int .i64 t402, .int .i64 t403, .int .i64 t404, .int .i64 t405, .int .i64 t406, .int .i64 0, .int .i64 0]) ?_ 6 _ rfl; (with_reducible repeat (first | refine qE ?_ _ | refine qF ?_ | refine qD ?_ _)); refine qN (cs := #[.int .i64 t401, .int .i64 t402, .int .i64 t403, .int .i64 t404, .int .i64 t405, .int .i64 0, .int .i64 0, .int .i64 0]) ?_ 5 _ rfl; (with_reducible repeat (first | refine qE ?_ _ | refine qF ?_ | refine qD ?_ _)); refine qN (cs := #[.int .i64 t401, .int .i64 t402, .int .i64 t403, .int .i64 t404, .int .i64 0, .int .i64 0, .int .i64 0, .int .i64 0]) ?_ 4 _ rfl; (with_reducible repeat (first | refine qE ?_ _ | refine qF ?_ | refine qD ?_ _)); refine qN (cs := #[.int .i64 t401, .int .i64 t402, .int .i64 t403, .int .i64 0, .int .i64 0, .int .i64 0, .int .i64 0, .int .i64 0]) ?_ 3 _ rfl; (with_reducible repeat (first | refine qE ?_ _ | refine qF ?_ | refine qD ?_ _)); refine qN (cs := #[.int .i64 t401, .int .i64 t402, .int .i64 0, .int .i64 0, .int .i64 0, .int .i64 0, .int .i64 0, .int .i64 0]) ?_ 2 _ rfl; (with_reducible repeat (first | refine qE ?_ _ | refine qF ?_ | refine qD ?_ _)); refine qN (cs := #[.int .i64 t401, .int .i64 0, .int .i64 0, .int .i64 0, .int .i64 0, .int .i64 0, .int .i64 0, .int .i64 0]) ?_ 1 _ rfl; (with_reducible repeat (first | refine qE ?_ _ | refine qF ?_ | refine qD ?_ _)); refine qN (cs := #[.int .i64 0, .int .i64 0, .int .i64 0, .int .i64 0, .int .i64 0, .int .i64 0, .int .i64 0, .int .i64 0]) ?_ 0 _ rfl; (with_reducible repeat (first | refine qE ?_ _ | refine qF ?_ | refine qD ?_ _)); exact BK410.out)).trans rfl); (case side10 => exact (cell_of_row _ gb410 7 _ 57 (0, 0) (by (with_reducible repeat (first | refine qE ?_ _ | refine qF ?_ | refine qD ?_ _)); refine qN (cs := #[.int .i64 t401, .int .i64 t402, .int .i64 t403, .int .i64 t404, .int .i64 t405, .int .i64 t406, .int .i64 t407, .int .i64 0]) ?_ 7 _ rfl; (with_reducible repeat (first | refine qE ?_ _ | refine qF ?_ | refine qD ?_ _)); refine qN (cs := #[.int .i64 t401, .int .i64 t402, .int .i64 t403, .int .i64 t404, .int .i64 t405, .int .i64 t406, .int .i64 0, .int .i64 0]) ?_ 6 _ rfl; (with_reducible repeat (first | refine qE ?_ _ | refine qF ?_ | refine qD ?_ _)); refine qN (cs := #[.int .i64 t401, .int .i64 t402, .int .i64 t403, .int .i64 t404, .int .i64 t405, .int .i64 0, .int .i64 0, .int .i64 0]) ?_ 5 _ rfl; (with_reducible repeat (first | refine qE ?_ _ | refine qF ?_ | refine qD ?_ _)); refine qN (cs := #[.int .i64 t401, .int .i64 t402, .int .i64 t403, .int .i64 t404, .int .i64 0, .int .i64 0, .int .i64 0, .int .i64 0]) ?_ 4 _ rfl; (with_reducible repeat (first | refine qE ?_ _ | refine qF ?_ | refine qD ?_ _)); refine qN (cs := #[.int .i64 t401, .int .i64 t402, .int .i64 t403, .int .i64 0, .int .i64 0, .int .i64 0, .int .i64 0, .int .i64 0]) ?_ 3 _ rfl; (with_reducible repeat (first | refine qE ?_ _ | refine qF ?_ | refine qD ?_ _)); refine qN (cs := #[.int .i64 t401, .int .i64 t402, .int .i64 0, .int .i64 0, .int .i64 0, .int .i64 0, .int .i64 0, .int .i64 0]) ?_ 2 _ rfl; (with_reducible repeat (first | refine qE ?_ _ | refine qF ?_ | refine qD ?_ _)); refine qN (cs := #[.int .i64 t401, .int .i64 0, .int .i64 0, .int .i64 0, .int .i64 0, .int .i64 0, .int .i64 0, .int .i64 0]) ?_ 1 _ rfl; (with_reducible repeat (first | refine qE ?_ _ | refine qF ?_ | refine qD ?_ _)); refine qN (cs := #[.int .i64 0, .int .i64 0, .int .i64 0, .int .i64 0, .int .i64 0, .int .i64 0, .int .i64 0, .int .i64 0]) ?_ 0 _ rfl; (with_reducible repeat (first | refine qE ?_ _ | refine qF ?_ | refine qD ?_ _)); exact BK410.out)).trans rfl); rintro e w23 ⟨rfl, hb⟩; have n0_ := Aside0.mk (qCB (g := gb410) (o := .cells #[.int .i64 t401, .int .i64 t402, .int .i64 t403, .int .i64 t404, .int .i64 t405, .int .i64 t406, .int .i64 t407, .int .i64 t408] 57 (0, 0)) (by (with_reducible repeat (first | refine qE ?_ _ | refine qF ?_ | refine qD ?_ _)); refine qN (cs := #[.int .i64 t401, .int .i64 t402, .int .i64 t403, .int .i64 t404, .int .i64 t405, .int .i64 t406, .int .i64 t407, .int .i64 0]) ?_ 7 _ rfl; (with_reducible repeat (first | refine qE ?_ _ | refine qF ?_ | refine qD ?_ _)); refine qN (cs := #[.int .i64 t401, .int .i64 t402, .int .i64 t403, .int .i64 t404, .int .i64 t405, .int .i64 t406, .int .i64 0, .int .i64 0]) ?_ 6 _ rfl; (with_reducible repeat (first | refine qE ?_ _ | refine qF ?_ | refine qD ?_ _)); refine qN (cs := #[.int .i64 t401, .int .i64 t402, .int .i64 t403, .int .i64 t404, .int .i64 t405, .int .i64 0, .int .i64 0, .int .i64 0]) ?_ 5 _ rfl; (with_reducible repeat (first | refine qE ?_ _ | refine qF ?_ | refine qD ?_ _)); refine qN (cs := #[.int .i64 t401, .int .i64 t402, .int .i64 t403, .int .i64 t404, .int .i64 0, .int .i64 0, .int .i64 0, .int .i64 0]) ?_ 4 _ rfl; (with_reducible repeat (first | refine qE ?_ _ | refine qF ?_ | refine qD ?_ _)); refine qN (cs := #[.int .i64 t401, .int .i64 t402, .int .i64 t403, .int .i64 0, .int .i64 0, .int .i64 0, .int .i64 0, .int .i64 0]) ?_ 3 _ rfl; (with_reducible repeat (first | refine qE ?_ _ | refine qF ?_ | refine qD ?_ _)); refine qN (cs := #[.int .i64 t401, .int .i64 t402, .int .i64 0, .int .i64 0, .int .i64 0, .int .i64 0, .int .i64 0, .int .i64 0]) ?_ 2 _ rfl; (with_reducible repeat (first | refine qE ?_ _ | refine qF ?_ | refine qD ?_ _)); refine qN (cs := #[.int .i64 t401, .int .i64 0, .int .i64 0, .int .i64 0, .int .i64 0, .int .i64 0, .int .i64 0, .int .i64 0]) ?_ 1 _ rfl; (with_reducible repeat (first | refine qE ?_ _ | refine qF ?_ | refine qD ?_ _)); refine qN (cs := #[.int .i64 0, .int .i64 0, .int .i64 0, .int .i64 0, .int .i64 0, .int .i64 0, .int .i64 0, .int .i64 0]) ?_ 0 _ rfl; (with_reducible repeat (first | refine qE ?_ _ | refine qF ?_ | refine qD ?_ _)); exact BK410.out) hb); have n1_ := Aside0.mk (qG bl hb); clear BK410; clear HB; have BK410 := n0_; have HB := n1_; clear n0_ n1_; (try clear hb); (try clear hb2); (try clear hk); (try clear hi)) | ((with_reducible refine qL (f := 59) rfl ?_); refine qh (some 37) rfl rfl Tryd.func59 (by kernel_rfl) rfl #[.slice (some ad400) l1.length c1] rfl (by (try simp only [List.map_toArray, List.map_cons, List.map_nil]); first | done | rfl | (simp only [List.length_drop, List.length_take]; rfl)) ?_; (with_reducible refine (qyA.calls _ _ l1 t412 _ ?side1 ?side2 A17.out).mono ?_); (case side1 => repeat (first | exact (Kd.qWA HR1.out HB.out) | (with_reducible refine Kd.qa ?_ _) | (with_reducible refine Kd.qZ ?_ _) | (with_reducible refine Kd.qe ?_))); (case side2 => exact HC1.out); rintro e w24 ⟨v413, rfl, ho0, hb⟩; refine ⟨_, rfl, ?_⟩; have n0_ := Aside0.mk (Kd.qDA (Kd.R_newB ho0 (g := gb410) (o := .cells #[.int .i64 t401, .int .i64 t402, .int .i64 t403, .int .i64 t404, .int .i64 t405, .int .i64 t406, .int .i64 t407, .int .i64 t408] 57 (0, 0)) (by (with_reducible repeat (first | refine qE ?_ _ | refine qF ?_ | refine qD ?_ _)); exact BK410.out)) (qb bl)); have n1_ := Aside0.mk (bb BK410 hb); have n2_ := Aside0.mk (qG bl hb); clear BK410; clear HB; have HO414 := n0_; have BK410 := n1_; have HB := n2_; clear n0_ n1_ n2_; (try clear hb); (try clear hb2); (try clear hk); (try clear hi); (try clear ho0); have hcz25_0 := bc BK410 0; have hcz25_1 := bc BK410 1; have hcz25_2 := bc BK410 2; have hcz25_3 := bc BK410 3; have hcz25_4 := bc BK410 4; have hcz25_5 := bc BK410 5; have hcz25_6 := bc BK410 6; have hcz25_7 := bc BK410 7; have hfz25_0 := qA BK410.out 0; have hfz25_1 := qA BK410.out 1; have hfz25_2 := qA BK410.out 2; have hfz25_3 := qA BK410.out 3; have hfz25_4 := qA BK410.out 4; have hfz25_5 := qA BK410.out 5; have hfz25_6 := qA BK410.out 6; have hfz25_7 := qA BK410.out 7; have p19 : 0 ≤ (a2 : Int) := of_decide_eq_true (by first | (with_reducible assumption) | assumption); have q19 : (a2 : Int) < ((t412.length : Int) : Int) := of_decide_eq_true (by first | (with_reducible assumption) | assumption); obtain ⟨go19, co19, eo19, gb19, gl19, cl19, HG19⟩ := Kd.qYD HO414.out (by omega); (first | cases eo19 | (injection eo19 with ea_ en_ ec_; (first | subst ea_ | (injection ea_ with ea_; subst ea_)); subst ec_; clear en_)); have GB19 := Aside0.mk gb19; have GG19 := Aside0.mk HG19; clear gb19 gl19 HG19; obtain ⟨ce19, hcl19, hM19, hcc19, hfr19⟩ := Kd.quB HO414.out z57 (a2 : Int) p19 q19; obtain rfl := qBB hM19; have hx19_0 : w24.cell? ⟨go19, (a2 : Int).toNat * 8, none⟩ = some (.int .i64 ((qC t412 a2).f0)) := hcc19 0 _ rfl; have hx19_1 : w24.cell? ⟨go19, (a2 : Int).toNat * 8 + 1, none⟩ = some (.int .i64 ((qC t412 a2).f1)) := hcc19 1 _ rfl; have hx19_2 : w24.cell? ⟨go19, (a2 : Int).toNat * 8 + 2, none⟩ = some (.int .i64 ((qC t412 a2).f2.f0)) := hcc19 2 _ rfl; have hx19_3 : w24.cell? ⟨go19, (a2 : Int).toNat * 8 + 3, none⟩ = some (.int .i64 ((qC t412 a2).f2.f1)) := hcc19 3 _ rfl; have hx19_4 : w24.cell? ⟨go19, (a2 : Int).toNat * 8 + 4, none⟩ = some (.int .i64 ((qC t412 a2).f2.f2)) := hcc19 4 _ rfl; have hx19_5 : w24.cell? ⟨go19, (a2 : Int).toNat * 8 + 5, none⟩ = some (.int .i64 ((qC t412 a2).f2.f3)) := hcc19 5 _ rfl; have hx19_6 : w24.cell? ⟨go19, (a2 : Int).toNat * 8 + 6, none⟩ = some (.int .i64 ((qC t412 a2).f2.f4)) := hcc19 6 _ rfl; have hx19_7 : w24.cell? ⟨go19, (a2 : Int).toNat * 8 + 7, none⟩ = some (.int .i64 ((qC t412 a2).f2.f5)) := hcc19 7 _ rfl; have hf19_0 : w24.frozen? ⟨go19, (a2 : Int).toNat * 8, none⟩ = false := hfr19 0; have hf19_1 : w24.frozen? ⟨go19, (a2 : Int).toNat * 8 + 1, none⟩ = false := hfr19 1; have hf19_2 : w24.frozen? ⟨go19, (a2 : Int).toNat * 8 + 2, none⟩ = false := hfr19 2; have hf19_3 : w24.frozen? ⟨go19, (a2 : Int).toNat * 8 + 3, none⟩ = false := hfr19 3; have hf19_4 : w24.frozen? ⟨go19, (a2 : Int).toNat * 8 + 4, none⟩ = false := hfr19 4; have hf19_5 : w24.frozen? ⟨go19, (a2 : Int).toNat * 8 + 5, none⟩ = false := hfr19 5; have hf19_6 : w24.frozen? ⟨go19, (a2 : Int).toNat * 8 + 6, none⟩ = false := hfr19 6; have hf19_7 : w24.frozen? ⟨go19, (a2 : Int).toNat * 8 + 7, none⟩ = false := hfr19 7; clear hcl19 hcc19 hfr19 hM19; replace p19 := eq_true p19; replace q19 := eq_true q19; have n_ := Aside0.mk (Kd.qGA (ok' := (fun k_ => k_ ≠ gb410)) HO414.out (fun k_ hk => hk.2)); clear HO414; have HO414 := n_; clear n_; have HX26 := Aside0.mk (show Kd.R k57 57 w24 w.heap.size (fun k_ => k_ ≠ gb410) (.slice (some ⟨go19, 0, none⟩) t412.length co19) t412 from (by (with_reducible repeat (first | apply Kd.qK | apply Kd.qJ | apply Kd.qO)); exact HO414.out)); obtain ⟨ce26, hcl26, hM26, hcc26, hfr26⟩ := Kd.quB HX26.out z57 (a2 : Int) (of_decide_eq_true (by first | (with_reducible assumption) | assumption)) (by have h_ : (a2 : Int) < ((t412.length : Int) : Int) := of_decide_eq_true (by first | (with_reducible assumption) | assumption); first | exact h_ | (have e_ := (Kd.qM HO414.out).1; omega) | simpa using h_); obtain rfl := qBB hM26; have HP26 := Kd.R_seg HX26.out (a2 : Int) (of_decide_eq_true (by first | (with_reducible assumption) | assumption)) (by have h_ : (a2 : Int) < ((t412.length : Int) : Int) := of_decide_eq_true (by first | (with_reducible assumption) | assumption); first | exact h_ | (have e_ := (Kd.qM HO414.out).1; omega) | simpa using h_) (seg := [.int .i64 t401, .int .i64 t402, .int .i64 t403, .int .i64 t404, .int .i64 t405, .int .i64 t406, .int .i64 t407, .int .i64 t408]) (j := 0) hcl26 hcc26 (show 8 ≤ 8 from by decide) (x' := (⟨t401, t402, (⟨t403, t404, t405, t406, t407, t408⟩ : S55)⟩ : S57)) (qNC _ _ _ (⟨t401, t402, (⟨t403, t404, t405, t406, t407, t408⟩ : S55)⟩ : S57) ) (fun _ hk => hk); have hx26_0 := hcc26 0 _ rfl; (try simp only [show (k57).sz = 8 from rfl, Nat.mul_one, Nat.add_zero] at hx26_0); have hf26_0 := hfr26 0; (try simp only [show (k57).sz = 8 from rfl, Nat.mul_one, Nat.add_zero] at hf26_0); have hx26_1 := hcc26 1 _ rfl; (try simp only [show (k57).sz = 8 from rfl, Nat.mul_one, Nat.add_zero] at hx26_1); have hf26_1 := hfr26 1; (try simp only [show (k57).sz = 8 from rfl, Nat.mul_one, Nat.add_zero] at hf26_1); have hx26_2 := hcc26 2 _ rfl; (try simp only [show (k57).sz = 8 from rfl, Nat.mul_one, Nat.add_zero] at hx26_2); have hf26_2 := hfr26 2; (try simp only [show (k57).sz = 8 from rfl, Nat.mul_one, Nat.add_zero] at hf26_2); have hx26_3 := hcc26 3 _ rfl; (try simp only [show (k57).sz = 8 from rfl, Nat.mul_one, Nat.add_zero] at hx26_3); have hf26_3 := hfr26 3; (try simp only [show (k57).sz = 8 from rfl, Nat.mul_one, Nat.add_zero] at hf26_3); have hx26_4 := hcc26 4 _ rfl; (try simp only [show (k57).sz = 8 from rfl, Nat.mul_one, Nat.add_zero] at hx26_4); have hf26_4 := hfr26 4; (try simp only [show (k57).sz = 8 from rfl, Nat.mul_one, Nat.add_zero] at hf26_4); have hx26_5 := hcc26 5 _ rfl; (try simp only [show (k57).sz = 8 from rfl, Nat.mul_one, Nat.add_zero] at hx26_5); have hf26_5 := hfr26 5; (try simp only [show (k57).sz = 8 from rfl, Nat.mul_one, Nat.add_zero] at hf26_5); have hx26_6 := hcc26 6 _ rfl; (try simp only [show (k57).sz = 8 from rfl, Nat.mul_one, Nat.add_zero] at hx26_6); have hf26_6 := hfr26 6; (try simp only [show (k57).sz = 8 from rfl, Nat.mul_one, Nat.add_zero] at hf26_6); have hx26_7 := hcc26 7 _ rfl; (try simp only [show (k57).sz = 8 from rfl, Nat.mul_one, Nat.add_zero] at hx26_7); have hf26_7 := hfr26 7; (try simp only [show (k57).sz = 8 from rfl, Nat.mul_one, Nat.add_zero] at hf26_7); clear hcl26 hcc26 hfr26 hM26) | ((with_reducible refine qOB (t := 57) (p := 41) rfl ?_); refine qIB (t := 57) (p := 41) (v := ?vo_w27) (w1 := ((((((((w24.setCell ⟨go19, (a2 : Int).toNat * 8, none⟩ (.int .i64 t401)).setCell ⟨go19, (a2 : Int).toNat * 8 + 1, none⟩ (.int .i64 t402)).setCell ⟨go19, (a2 : Int).toNat * 8 + 2, none⟩ (.int .i64 t403)).setCell ⟨go19, (a2 : Int).toNat * 8 + 3, none⟩ (.int .i64 t404)).setCell ⟨go19, (a2 : Int).toNat * 8 + 4, none⟩ (.int .i64 t405)).setCell ⟨go19, (a2 : Int).toNat * 8 + 5, none⟩ (.int .i64 t406)).setCell ⟨go19, (a2 : Int).toNat * 8 + 6, none⟩ (.int .i64 t407)).setCell ⟨go19, (a2 : Int).toNat * 8 + 7, none⟩ (.int .i64 t408))) ?hg ?ho ?hn ?hr ?_; (case ho => rfl); (case hg => rfl); (case hn => rfl); (case hr => first | (go_simp; done) | (go_simp; rfl)); intro w27 hw; have hg : w24.grownBy w27 (some go19) := (by rw [hw]; exact HP26.2); have hp_ : Kd.R k57 57 w27 w.heap.size (fun k_ => k_ ≠ gb410) (.slice (some ⟨go19, 0, none⟩) t412.length co19) y415 := (by rw [hw, Ny415.out]; exact HP26.1); clear HP26; have n0_ := Aside0.mk (qqB (g := gb410) (o := .cells #[.int .i64 t401, .int .i64 t402, .int .i64 t403, .int .i64 t404, .int .i64 t405, .int .i64 t406, .int .i64 t407, .int .i64 t408] 57 (0, 0)) (by (with_reducible repeat (first | refine qE ?_ _ | refine qF ?_ | refine qD ?_ _)); exact BK410.out) hg (Kd.qwD HO414.out (fun _ hk => hk))); have n1_ := Aside0.mk (hp_); have n2_ := Aside0.mk ((by rw [hw]; exact qMA (qMA (qMA (qMA (qMA (qMA (qMA (qMA (HB.out) GB19.out) GB19.out) GB19.out) GB19.out) GB19.out) GB19.out) GB19.out) GB19.out : Below w.heap.size w w27)); clear BK410; clear HO414; clear HB; have BK410 := n0_; have HO414 := n1_; have HB := n2_; clear n0_ n1_ n2_; clear hg hw hp_))
       go_ret2
       exact ⟨_, by first | rfl | (simp [qI, qH] <;> rfl) | (simp [*, qI, qH] <;> rfl), by (with_reducible repeat (first | apply Kd.qK | apply Kd.qJ | apply Kd.qO)); exact Kd.qGA HO414.out (fun _ hk => trivial), bl⟩
      ·rw [if_neg c18] at H
       exact absurd H (by simp)
    ·replace c10 := Bool.eq_false_iff.mpr c10
     subst c10
     have H1 : (some (([] : List (S57)), false)) = some (r1, r2) := by rw [if_neg (show ¬ (false = true) by decide)] at H; exact H
     clear H
     have H := H1
     clear H1
     simp only [Option.some.injEq, Prod.mk.injEq] at H
     obtain ⟨rfl, rfl⟩ := H
     go_enter Tryd.func51, Tryd.ntmps51
     go_wp2_with (first | ((with_reducible refine qL (f := 70) rfl ?_); refine qh (some 17) rfl rfl Tryd.func70 (by kernel_rfl) rfl #[.int .i64 a2, .int .i64 0, .int .i64 (wrap64 ((l1.length : Int) - 1))] rfl (by (try simp only [List.map_toArray, List.map_cons, List.map_nil]); first | done | rfl | (simp only [List.length_drop, List.length_take]; rfl)) ?_; (with_reducible refine (qwA.calls a2 0 (wrap64 ((l1.length : Int) - 1)) true _ A5.out).mono ?_); rintro e w' ⟨rfl, ⟨nd, rfl⟩⟩; refine ⟨_, rfl, ?_⟩; have p400 : 0 ≤ (a2 : Int) := of_decide_eq_true (by first | (with_reducible assumption) | assumption); have q400 : a2 < (l1.length : Int) := of_decide_eq_true (by first | (with_reducible assumption) | assumption); obtain ⟨ad400, e400, hx400_0, hx400_1, hx400_2, hx400_3, hx400_4, hx400_5, hx400_6, hx400_7⟩ := qgA HR1.out a2 p400 q400; cases e400; replace p400 := eq_true p400; replace q400 := eq_true q400) | ((with_reducible refine qL (f := 75) rfl ?_); refine qh (some 26) rfl rfl Tryd.func75 (by kernel_rfl) rfl #[.slice A0 l0.length c0, .agg #[.int .i64 ((qC l1 a2).f0), .int .i64 ((qC l1 a2).f1), .int .i64 ((qC l1 a2).f2.f0), .int .i64 ((qC l1 a2).f2.f1), .int .i64 ((qC l1 a2).f2.f2), .int .i64 ((qC l1 a2).f2.f3), .int .i64 ((qC l1 a2).f2.f4), .int .i64 ((qC l1 a2).f2.f5)], .int .u8 a3] rfl (by (try simp only [List.map_toArray, List.map_cons, List.map_nil]); first | done | rfl | (simp only [List.length_drop, List.length_take]; rfl)) ?_; (with_reducible refine (qEB.calls _ _ l0 ((qC l1 a2).f0) ((qC l1 a2).f1) ((qC l1 a2).f2.f0) ((qC l1 a2).f2.f1) ((qC l1 a2).f2.f2) ((qC l1 a2).f2.f3) ((qC l1 a2).f2.f4) ((qC l1 a2).f2.f5) a3 t401 t402 t403 t404 t405 t406 t407 t408 false _ ?side1 ?side2 A9.out).mono ?_); (case side1 => repeat (first | exact HR0.out | (with_reducible refine Kd.qa ?_ _) | (with_reducible refine Kd.qZ ?_ _) | (with_reducible refine Kd.qe ?_))); (case side2 => exact HC0.out); rintro e w28 ⟨rfl, hb⟩; refine ⟨_, rfl, ?_⟩; have n0_ := Aside0.mk (qG bl hb); clear HB; have HB := n0_; clear n0_; (try clear hb); (try clear hb2); (try clear hk); (try clear hi)) | ((with_reducible refine qg (N := 10) rfl ?_); refine qd ?hg (N := 10) ?hd (cs := #[.int .i64 0, .int .i64 0, .int .i64 0, .int .i64 0, .int .i64 0, .int .i64 0, .int .i64 0, .int .i64 0]) (t := 57) ?hr ?_; (case hd => rfl); (case hg => rfl); (case hr => first | (go_simp; done) | (go_simp; rfl)); intro gb410 hg w29 hbox hb; have n0_ := Aside0.mk (qG bl hb); have n1_ := Aside0.mk (hbox); have n2_ := Aside0.mk ((gg hg)); have n3_ := Aside0.mk ((gg hg)); clear HB; have HB := n0_; have BK410 := n1_; have GW410 := n2_; have GE410 := n3_; clear n0_ n1_ n2_ n3_; clear hb hbox hg; have hcz30_0 := bc BK410 0; have hcz30_1 := bc BK410 1; have hcz30_2 := bc BK410 2; have hcz30_3 := bc BK410 3; have hcz30_4 := bc BK410 4; have hcz30_5 := bc BK410 5; have hcz30_6 := bc BK410 6; have hcz30_7 := bc BK410 7; have hfz30_0 := qA BK410.out 0; have hfz30_1 := qA BK410.out 1; have hfz30_2 := qA BK410.out 2; have hfz30_3 := qA BK410.out 3; have hfz30_4 := qA BK410.out 4; have hfz30_5 := qA BK410.out 5; have hfz30_6 := qA BK410.out 6; have hfz30_7 := qA BK410.out 7))
     go_ret2
     exact ⟨_, by first | rfl | (simp [qI, qH] <;> rfl) | (simp [*, qI, qH] <;> rfl), by first | exact Kd.R_nil _ _ _ _ _ | exact Kd.N_nil _ _ _ _ _ | exact Kd.V_nil _ _ _ _ _ | exact Kd.Q_nil _ _ _ _ _ | exact Kd.S_nil _ _ _ _ _, bl⟩
   ·rw [if_neg c8] at H
    exact absurd H (by simp)
  ·rw [if_neg c7] at H
   exact absurd H (by simp)
 ·replace c6 := Bool.eq_false_iff.mpr c6
  subst c6
  have H1 : (some (([] : List (S57)), false)) = some (r1, r2) := by rw [if_neg (show ¬ (false = true) by decide)] at H; exact H
  clear H
  have H := H1
  clear H1
  simp only [Option.some.injEq, Prod.mk.injEq] at H
  obtain ⟨rfl, rfl⟩ := H
  go_enter Tryd.func51, Tryd.ntmps51
  go_wp2_with (first | ((with_reducible refine qL (f := 70) rfl ?_); refine qh (some 17) rfl rfl Tryd.func70 (by kernel_rfl) rfl #[.int .i64 a2, .int .i64 0, .int .i64 (wrap64 ((l1.length : Int) - 1))] rfl (by (try simp only [List.map_toArray, List.map_cons, List.map_nil]); first | done | rfl | (simp only [List.length_drop, List.length_take]; rfl)) ?_; (with_reducible refine (qwA.calls a2 0 (wrap64 ((l1.length : Int) - 1)) false _ A5.out).mono ?_); rintro e w' ⟨rfl, ⟨nd, rfl⟩⟩; refine ⟨_, rfl, ?_⟩))
  go_ret2
  exact ⟨_, by first | rfl | (simp [qI, qH] <;> rfl) | (simp [*, qI, qH] <;> rfl), by first | exact Kd.R_nil _ _ _ _ _ | exact Kd.N_nil _ _ _ _ _ | exact Kd.V_nil _ _ _ _ _ | exact Kd.Q_nil _ _ _ _ _ | exact Kd.S_nil _ _ _ _ _, bl⟩
def qaB.f  : Option (ByteArray) := some (⟨#[110, 101, 115, 119]⟩ : ByteArray)
set_option maxHeartbeats 8000000 in
set_option maxRecDepth 100000 in
theorem qaB.calls  (r : ByteArray) (w : World) (h : qaB.f  = some r) :
  Calls Tryd.prog 72 #[] w fun e w' => e = .returned (.string r) ∧ Drawn0 w w' := by
 have H : (some (⟨#[110, 101, 115, 119]⟩ : ByteArray)) = some r := h
 clear h
 obtain rfl := Option.some.inj H
 go_enter Tryd.func72, Tryd.ntmps72
 go_wp2
 go_ret
 exact ⟨by first | rfl | (simp; done) | (simp [*]; done), by repeat (first | exact Drawn0.refl _ | apply Drawn0.step)⟩
def qjA.l0 : Nat → ByteArray → Int → Option (Int)
 | 0, _, _ => none
 | k + 1, x0, x3 => if x3 < 4 then ((qaB.f).bind fun t336 => (if 0 ≤ x3 then (if x3 ≤ (wrap64 (x3 + 1)) then (if (wrap64 (x3 + 1)) ≤ (t336.size : Int) then (if x0.toList = (t336.extract (x3 : Int).toNat ((wrap64 (x3 + 1)) : Int).toNat).toList then (some x3) else (qjA.l0 k x0 (wrap64 (x3 + 1)))) else (none)) else (none)) else (none))) else (some (-1))
def qjA.f (k : Nat) (a0 : ByteArray) : Option (Int) := qjA.l0 k a0 0
set_option maxHeartbeats 8000000 in
set_option maxRecDepth 100000 in
theorem qjA.calls (k : Nat) (a0 : ByteArray) (r : Int) (w : World) (h : qjA.f k a0 = some r) :
  Calls Tryd.prog 48 #[.string a0] w fun e w' => e = .returned (.int .i64 r) ∧ Drawn0 w w' := by
 have H : (qjA.l0 k a0 0) = some r := h
 clear h
 have H' := Aside0.mk H
 clear H
 go_enter Tryd.func48, Tryd.ntmps48
 go_wp2
 go_loopg [3] k (fun kq v3 w' => ∃ (x3_1 : Int), v3 = .int .i64 x3_1 ∧ Aside0 (qjA.l0 kq a0 x3_1 = some r) ∧ Aside0 (kq ≤ k) ∧ Drawn0 w w')
 case atStart => exact ⟨(0), (by first | rfl | (simp; done) | (simp [*]; done)), H', ⟨Nat.le_refl _⟩, by repeat (first | exact Drawn0.refl _ | apply Drawn0.step)⟩
 case round =>
  clear H'
  obtain ⟨x3_1, rfl, HA, HK1, ⟨m1, rfl⟩⟩ := hrel
  cases gk with
  | zero => exact absurd HA.out (by simp [qjA.l0])
  | succ k1 =>
   have H := HA.out
   clear HA
   simp only [qjA.l0] at H
   by_cases c2 : x3_1 < 4
   ·rw [if_pos c2] at H
    have c2b0 : decide (x3_1 < 4) = true := decide_eq_true c2
    clear c2
    replace H := Option.bind_eq_some_iff.mp H
    obtain ⟨t336, A30, H⟩ := H
    replace H : (if 0 ≤ x3_1 then (if x3_1 ≤ (wrap64 (x3_1 + 1)) then (if (wrap64 (x3_1 + 1)) ≤ (t336.size : Int) then (if a0.toList = (t336.extract (x3_1 : Int).toNat ((wrap64 (x3_1 + 1)) : Int).toNat).toList then (some x3_1) else (qjA.l0 k1 a0 (wrap64 (x3_1 + 1)))) else (none)) else (none)) else (none)) = some r := H
    have A3 := Aside0.mk A30
    clear A30
    by_cases c4 : 0 ≤ x3_1
    ·rw [if_pos c4] at H
     have c4b0 := eq_true c4
     have c4b1 : decide (0 ≤ x3_1) = true := decide_eq_true c4
     clear c4
     by_cases c5 : x3_1 ≤ (wrap64 (x3_1 + 1))
     ·rw [if_pos c5] at H
      have c5b0 := eq_true c5
      have c5b1 : decide (x3_1 ≤ (wrap64 (x3_1 + 1))) = true := decide_eq_true c5
      by_cases c6 : (wrap64 (x3_1 + 1)) ≤ (t336.size : Int)
      ·rw [if_pos c6] at H
       have c6b0 := eq_true c6
       have c6b1 : decide ((wrap64 (x3_1 + 1)) ≤ (t336.size : Int)) = true := decide_eq_true c6
       by_cases c7 : a0.toList = (t336.extract (x3_1 : Int).toNat ((wrap64 (x3_1 + 1)) : Int).toNat).toList
       ·rw [if_pos c7] at H
        have c7b0 : (a0.toList == (t336.extract (x3_1 : Int).toNat ((wrap64 (x3_1 + 1)) : Int).toNat).toList) = true := beq_iff_eq.mpr c7
        have c7b1 : (a0.toList != (t336.extract (x3_1 : Int).toNat ((wrap64 (x3_1 + 1)) : Int).toNat).toList) = false := bne_eq_false_iff_eq.mpr c7
        clear c7
        obtain rfl := Option.some.inj H
        go_wp2_with (first | ((with_reducible refine qL (f := 72) rfl ?_); refine qh (some 9) rfl rfl Tryd.func72 (by kernel_rfl) rfl #[] rfl (by (try simp only [List.map_toArray, List.map_cons, List.map_nil]); first | done | rfl | (simp only [List.length_drop, List.length_take]; rfl)) ?_; (with_reducible refine (qaB.calls  t336 _ A3.out).mono ?_); rintro e w' ⟨rfl, ⟨nd, rfl⟩⟩; refine ⟨_, rfl, ?_⟩))
        go_ret
        exact ⟨by first | rfl | (simp; done) | (simp [*]; done), by repeat (first | exact Drawn0.refl _ | apply Drawn0.step)⟩
       ·rw [if_neg c7] at H
        have c7b0 : (a0.toList == (t336.extract (x3_1 : Int).toNat ((wrap64 (x3_1 + 1)) : Int).toNat).toList) = false := beq_eq_false_iff_ne.mpr c7
        have c7b1 : (a0.toList != (t336.extract (x3_1 : Int).toNat ((wrap64 (x3_1 + 1)) : Int).toNat).toList) = true := bne_iff_ne.mpr c7
        have H' := Aside0.mk H
        clear H
        go_wp2_with (first | ((with_reducible refine qL (f := 72) rfl ?_); refine qh (some 9) rfl rfl Tryd.func72 (by kernel_rfl) rfl #[] rfl (by (try simp only [List.map_toArray, List.map_cons, List.map_nil]); first | done | rfl | (simp only [List.length_drop, List.length_take]; rfl)) ?_; (with_reducible refine (qaB.calls  t336 _ A3.out).mono ?_); rintro e w' ⟨rfl, ⟨nd, rfl⟩⟩; refine ⟨_, rfl, ?_⟩))
        go_roundg k1
        case measure => have := HK1.out; omega
        case rel => exact ⟨(wrap64 (x3_1 + 1)), (by first | rfl | (simp; done) | (simp [*]; done)), H', ⟨by have := HK1.out; omega⟩, by repeat (first | exact Drawn0.refl _ | apply Drawn0.step)⟩
      ·rw [if_neg c6] at H
       exact absurd H (by simp)
     ·rw [if_neg c5] at H
      exact absurd H (by simp)
    ·rw [if_neg c4] at H
     exact absurd H (by simp)
   ·rw [if_neg c2] at H
    have c2b0 : decide (x3_1 < 4) = false := decide_eq_false c2
    clear c2
    obtain rfl := Option.some.inj H
    go_wp2
    go_ret
    exact ⟨by first | rfl | (simp; done) | (simp [*]; done), by repeat (first | exact Drawn0.refl _ | apply Drawn0.step)⟩
end Go.Proofs.YtgjdjnggkmojnaaDoor.P
namespace Go.Proofs.YtgjdjnggkmojnaaDoor
open Go.RowKit Go.Proofs.YtgjdjnggkmojnaaDoor.P Go.Proofs.YtgjdjnggkmojnaaDoorW.PrintWords Go.Proofs.YtgjdjnggkmojnaaDoorW.PrintLast
set_option linter.unusedVariables false
set_option linter.unusedSimpArgs false
def dirI (l : List UInt8) : Int := if l = [110] then 0 else if l = [101] then 1 else if l = [115] then 2 else if l = [119] then 3 else -1
theorem qkC (a : ByteArray) : Ev (fun k => qjA.f k a) (dirI a.data.toList) := by
 refine Ev.at_ 5 fun k => ?_
 have e0 : ((⟨#[110, 101, 115, 119]⟩ : ByteArray).extract 0 1).toList = [110] := by decide +kernel
 have e1 : ((⟨#[110, 101, 115, 119]⟩ : ByteArray).extract 1 2).toList = [101] := by decide +kernel
 have e2 : ((⟨#[110, 101, 115, 119]⟩ : ByteArray).extract 2 3).toList = [115] := by decide +kernel
 have e3 : ((⟨#[110, 101, 115, 119]⟩ : ByteArray).extract 3 4).toList = [119] := by decide +kernel
 have hz : ((⟨#[110, 101, 115, 119]⟩ : ByteArray).size : Int) = 4 := rfl
 simp [qjA.f, qjA.l0, qaB.f, dirI, wrap64, Go.Lib.toList_data a, e0, e1, e2, e3, hz]
 repeat (split; rfl)
 rfl
theorem dlen (s : ByteArray) : s.data.toList.length = s.size := by rw [Array.length_toList]; rfl
theorem qXD (s : ByteArray) (i : Nat) (h : i < s.data.toList.length) : bt s (i : Int) = ((s.data.toList[i]).toNat : Int) := by
 have h' : i < s.size := by rw [← dlen]; exact h
 unfold bt
 rw [dif_pos (by simpa using h')]
 simp only [Int.toNat_natCast, Array.getElem_toList]
 rfl
theorem ext1 (s : ByteArray) (i : Nat) (h : i < s.data.toList.length) : (s.extract i (i + 1)).data.toList = [s.data.toList[i]] := by
 rw [Go.Lib.extract_data, show i + 1 - i = 1 by omega, List.drop_eq_getElem_cons h]
 rfl
theorem spec_diDir_at (s : ByteArray) (i : Nat) (h : i < s.data.toList.length) : Ev (fun k => qjA.f k (s.extract i (i + 1))) (dirI [s.data.toList[i]]) := by
 have := qkC (s.extract i (i + 1))
 rwa [ext1 s i h] at this
theorem qeD (c : UInt8) : (dirI [c] < 0) = (¬ (c = 110 ∨ c = 101 ∨ c = 115 ∨ c = 119)) := by
 unfold dirI
 by_cases h1 : c = 110
 ·simp [h1]
 by_cases h2 : c = 101
 ·simp [h2]
 by_cases h3 : c = 115
 ·simp [h3]
 by_cases h4 : c = 119
 ·simp [h4]
 simp [h1, h2, h3, h4]
end Go.Proofs.YtgjdjnggkmojnaaDoor
namespace Go.Proofs.YtgjdjnggkmojnaaDoor.P
open Go.RowKit Go.Proofs.YtgjdjnggkmojnaaDoorW.PrintWords Go.Proofs.YtgjdjnggkmojnaaDoorW.PrintLast Go.Proofs.YtgjdjnggkmojnaaDoorW.PrintMore
attribute [local go_sem] qLA qJA qVA qUA qy qx qKA qIA
set_option linter.unusedVariables false
set_option linter.unusedSimpArgs false
def qiB.f (a0 : ByteArray) : Option (Bool) := if (a0.size : Int) = 1 then ((qPB.f (⟨#[110, 101, 115, 119]⟩ : ByteArray) a0).bind fun t385 => (some t385)) else (some false)
end Go.Proofs.YtgjdjnggkmojnaaDoor.P
namespace Go.Proofs.YtgjdjnggkmojnaaDoor
open Go.RowKit Go.Proofs.YtgjdjnggkmojnaaDoor.P Go.Proofs.YtgjdjnggkmojnaaDoorW.PrintWords Go.Proofs.YtgjdjnggkmojnaaDoorW.PrintLast
set_option linter.unusedVariables false
set_option linter.unusedSimpArgs false
def isDirU (c : UInt8) : Bool := c == 110 || c == 101 || c == 115 || c == 119
def dirU (c : UInt8) : Nat := if c = 110 then 0 else if c = 101 then 1 else if c = 115 then 2 else 3
theorem qwC (c : UInt8) : isDirU c = true ↔ c = 110 ∨ c = 101 ∨ c = 115 ∨ c = 119 := by
 unfold isDirU
 simp only [Bool.or_eq_true, beq_iff_eq, or_assoc]
theorem qxD {c : UInt8} (h : isDirU c = true) : dirI [c] = (dirU c : Int) := by
 rcases (qwC c).1 h with rfl | rfl | rfl | rfl <;> decide
theorem dirI_not {c : UInt8} (h : isDirU c = false) : dirI [c] < 0 := by
 rw [qeD, ← qwC, h]
 decide
theorem oneU (l : List UInt8) (h : l.length = 1) : ∃ c, l = [c] := by
 match l, h with
 | [c], _ => exact ⟨c, rfl⟩
theorem indexByte_dirs (c : UInt8) : decide (0 ≤ Lib.indexByte [110, 101, 115, 119] c) = isDirU c := by
 unfold isDirU
 by_cases h1 : c = 110
 ·subst h1; decide
 by_cases h2 : c = 101
 ·subst h2; decide
 by_cases h3 : c = 115
 ·subst h3; decide
 by_cases h4 : c = 119
 ·subst h4; decide
 have b1 : (c == 110) = false := by simpa using h1
 have b2 : (c == 101) = false := by simpa using h2
 have b3 : (c == 115) = false := by simpa using h3
 have b4 : (c == 119) = false := by simpa using h4
 rw [b1, b2, b3, b4]
 have a1 : ((110 : UInt8) == c) = false := by simpa using Ne.symm h1
 have a2 : ((101 : UInt8) == c) = false := by simpa using Ne.symm h2
 have a3 : ((115 : UInt8) == c) = false := by simpa using Ne.symm h3
 have a4 : ((119 : UInt8) == c) = false := by simpa using Ne.symm h4
 simp [Lib.indexByte, a1, a2, a3, a4, h1, h2, h3, h4, Ne.symm h1, Ne.symm h2, Ne.symm h3, Ne.symm h4]
def dirB (a : ByteArray) : Bool := match a.data.toList with | [c] => isDirU c | _ => false
theorem qbD (a : ByteArray) : qiB.f a = some (dirB a) := by
 unfold qiB.f dirB
 by_cases h : a.size = 1
 ·rw [if_pos (by omega)]
  obtain ⟨c, hc⟩ := oneU a.data.toList (by rw [dlen]; exact h)
  unfold qPB.f
  rw [hc]
  simp only [Option.bind_some]
  rw [indexByte_dirs]
 ·rw [if_neg (by omega)]
  have hl : a.data.toList.length ≠ 1 := by rw [dlen]; exact h
  match a.data.toList, hl with
  | [], _ => rfl
  | [c], hl => exact absurd rfl hl
  | _ :: _ :: _, _ => rfl
theorem dirI_B (a : ByteArray) : decide (dirI a.data.toList < 0) = !dirB a := by
 unfold dirB
 match h : a.data.toList with
 | [] => rfl
 | [c] =>
  cases hc : isDirU c with
  | true =>
   rw [qxD hc, decide_eq_false (by omega)]
   show false = !isDirU c
   rw [hc]; rfl
  | false =>
   rw [decide_eq_true (dirI_not hc)]
   show true = !isDirU c
   rw [hc]; rfl
 | c :: d :: l => simp [dirI]
theorem dirB_one {a : ByteArray} (h : dirB a = true) : ∃ c, a.data.toList = [c] ∧ isDirU c = true := by
 unfold dirB at h
 split at h
 ·rename_i c hc
  exact ⟨c, hc, h⟩
 ·cases h
def dOf (c : Int) : Int := if c = 110 then 0 else if c = 101 then 1 else if c = 115 then 2 else 3
def nextC (x y d : Int) : Int × Int := if d = 0 then (x, wrap64 (y - 1)) else if d = 1 then (wrap64 (x + 1), y) else if d = 2 then (x, wrap64 (y + 1)) else (wrap64 (x - 1), y)
abbrev XD := S55
def rollD (x : XD) (d : Int) : XD := if d = 0 then ⟨x.f3, x.f0, x.f2, x.f5, x.f4, x.f1⟩ else if d = 1 then ⟨x.f4, x.f1, x.f0, x.f3, x.f5, x.f2⟩ else if d = 2 then ⟨x.f1, x.f5, x.f2, x.f0, x.f4, x.f3⟩ else ⟨x.f2, x.f1, x.f5, x.f3, x.f0, x.f4⟩
def tupD (x : XD) : Int × Int × Int × Int × Int × Int := (x.f0, x.f1, x.f2, x.f3, x.f4, x.f5)
def rollS (s : XS) (d : Int) : XS := ⟨(nextC s.f0 s.f1 d).1, (nextC s.f0 s.f1 d).2, rollD s.f2 d⟩
theorem implNext_eq (x y c : Int) : qVC.f x y c = some (nextC x y (dOf c)) := by
 unfold qVC.f nextC dOf
 by_cases h1 : c = 110
 ·simp [h1]
 by_cases h2 : c = 101
 ·simp [h1, h2]
 by_cases h3 : c = 115
 ·simp [h1, h2, h3]
 simp [h1, h2, h3]
theorem specNext_eq (x y d : Int) : qkB.f x y d = some (nextC x y d) := by
 unfold qkB.f nextC
 by_cases h1 : d = 0
 ·simp [h1]
 by_cases h2 : d = 1
 ·simp [h1, h2]
 by_cases h3 : d = 2
 ·simp [h1, h2, h3]
 simp [h1, h2, h3]
theorem implDie_eq (x : XD) (c : Int) : qXB.f x.f0 x.f1 x.f2 x.f3 x.f4 x.f5 c = some (tupD (rollD x (dOf c))) := by
 unfold qXB.f rollD dOf
 by_cases h1 : c = 110
 ·simp [tupD, h1]
 by_cases h2 : c = 101
 ·simp [tupD, h1, h2]
 by_cases h3 : c = 115
 ·simp [tupD, h1, h2, h3]
 simp [tupD, h1, h2, h3]
theorem specDie_eq (x : XD) (d : Int) : qZB.f x.f0 x.f1 x.f2 x.f3 x.f4 x.f5 d = some (tupD (rollD x d)) := by
 unfold qZB.f rollD
 by_cases h1 : d = 0
 ·simp [tupD, h1]
 by_cases h2 : d = 1
 ·simp [tupD, h1, h2]
 by_cases h3 : d = 2
 ·simp [tupD, h1, h2, h3]
 simp [tupD, h1, h2, h3]
theorem implRoll_eq {a : ByteArray} (g : Gnd a) (s : XS) (c : Int) : qEB.f (rowsT a) s.f0 s.f1 s.f2.f0 s.f2.f1 s.f2.f2 s.f2.f3 s.f2.f4 s.f2.f5 c = some ((rollS s (dOf c)).f0, (rollS s (dOf c)).f1, (rollS s (dOf c)).f2.f0, (rollS s (dOf c)).f2.f1, (rollS s (dOf c)).f2.f2, (rollS s (dOf c)).f2.f3, (rollS s (dOf c)).f2.f4, (rollS s (dOf c)).f2.f5, floorB a (rollS s (dOf c)).f0 (rollS s (dOf c)).f1) := by
 unfold qEB.f
 obtain ⟨q, h1, h2⟩ := at_floor g (rollS s (dOf c)).f0 (rollS s (dOf c)).f1
 rw [implNext_eq, Option.bind_some, implDie_eq, Option.bind_some]
 rw [show qrA.f (rowsT a) (nextC s.f0 s.f1 (dOf c)).1 (nextC s.f0 s.f1 (dOf c)).2 = some q from h1, Option.bind_some, ← h2]
 rfl
theorem specRoll_eq {a : ByteArray} (g : Gnd a) (s : XS) (d : Int) : qQB.f (wideT a : Int) (highT a : Int) (csOf a) s.f0 s.f1 s.f2.f0 s.f2.f1 s.f2.f2 s.f2.f3 s.f2.f4 s.f2.f5 d = some (if floorB a (rollS s d).f0 (rollS s d).f1 = true then ((rollS s d).f0, (rollS s d).f1, (rollS s d).f2.f0, (rollS s d).f2.f1, (rollS s d).f2.f2, (rollS s d).f2.f3, (rollS s d).f2.f4, (rollS s d).f2.f5, true) else (0, 0, 0, 0, 0, 0, 0, 0, false)) := by
 unfold qQB.f
 rw [specNext_eq, Option.bind_some, show qDB.f (wideT a : Int) (highT a : Int) (csOf a) (nextC s.f0 s.f1 d).1 (nextC s.f0 s.f1 d).2 = some (floorB a (rollS s d).f0 (rollS s d).f1) from boFloor_eq g _ _, Option.bind_some]
 cases h : floorB a (rollS s d).f0 (rollS s d).f1 with
 | true =>
  rw [if_pos rfl, specDie_eq, Option.bind_some, if_pos rfl]; rfl
 | false => rw [if_neg (by decide), if_neg (by decide)]
def moveB (a : ByteArray) (l : List XS) (k : Nat) (d : Int) : List XS × Bool :=
 if h : k < l.length then (if floorB a (rollS l[k] d).f0 (rollS l[k] d).f1 = true ∧ l.any (atCell (rollS l[k] d).f0 (rollS l[k] d).f1) = false then (l.set k (rollS l[k] d), true) else ([], false)) else ([], false)
theorem qJD {a : ByteArray} {l : List XS} {k : Nat} {d : Int} (h : (moveB a l k d).2 = true) : (moveB a l k d).1.length = l.length := by
 unfold moveB at h ⊢
 split
 ·rename_i hk
  rw [dif_pos hk] at h
  split
  ·simp
  ·rename_i hc
   rw [if_neg hc] at h; cases h
 ·rename_i hk
  rw [dif_neg hk] at h; cases h
theorem moveB_pair {a : ByteArray} {l : List XS} {k : Nat} {d : Int} (h : (moveB a l k d).2 = false) : moveB a l k d = ([], false) := by
 unfold moveB at h ⊢
 split
 ·rename_i hk
  rw [dif_pos hk] at h
  split
  ·rename_i hc
   rw [if_pos hc] at h; cases h
  ·rfl
 ·rfl
theorem qAD {a : ByteArray} (g : Gnd a) (l : List XS) (hl : l.length ≤ 2000000) (k : Nat) (c : Int) : qbA.f (rowsT a) l (k : Int) c = some (moveB a l k (dOf c)) := by
 unfold qbA.f moveB
 have w : wrap64 ((l.length : Int) - 1) = (l.length : Int) - 1 := by unfold wrap64; omega
 rw [qoC, w, Option.bind_some]
 by_cases hk : k < l.length
 ·rw [dif_pos hk, if_pos (by simp only [Bool.and_eq_true, decide_eq_true_eq]; omega), if_pos (by omega), if_pos (by omega), rdXS l k hk, implRoll_eq g, Option.bind_some]
  show (if floorB a (rollS l[k] (dOf c)).f0 (rollS l[k] (dOf c)).f1 = true then _ else _) = _
  cases hf : floorB a (rollS l[k] (dOf c)).f0 (rollS l[k] (dOf c)).f1 with
  | false => rw [if_neg (by decide), if_neg (by simp)]
  | true =>
   rw [if_pos rfl]
   show (if l.any (atCell (rollS l[k] (dOf c)).f0 (rollS l[k] (dOf c)).f1) = true then _ else _) = _
   cases ha : l.any (atCell (rollS l[k] (dOf c)).f0 (rollS l[k] (dOf c)).f1) with
   | true => rw [if_pos rfl, if_neg (by simp)]
   | false =>
    rw [if_neg (by decide), if_pos ⟨rfl, rfl⟩]
    unfold qyA.f
    rw [if_pos (by omega), Option.bind_some, if_pos (by omega), Int.toNat_natCast]
 ·rw [dif_neg hk, if_neg (by simp only [Bool.and_eq_true, decide_eq_true_eq]; omega)]
theorem qlC {a : ByteArray} (g : Gnd a) (l : List XS) (hl : l.length ≤ 2000000) (k : Nat) (hk : k < l.length) (d : Int) : Ev (fun n => qcA.f n (wideT a : Int) (highT a : Int) (csOf a) l (k : Int) d) (moveB a l k d) := by
 unfold qcA.f moveB
 rw [dif_pos hk]
 obtain ⟨r, h1, h2⟩ := myAt_ev l (by omega) (rollS l[k] d).f0 (rollS l[k] d).f1
 refine Ev.pos (by omega) (Ev.pos (by omega) ?_)
 rw [rdXS l k hk]
 refine Ev.bindc (specRoll_eq g l[k] d) ?_
 cases hf : floorB a (rollS l[k] d).f0 (rollS l[k] d).f1 with
 | false => exact Ev.neg (by simp) (Ev.some_ (by simp))
 | true =>
  refine Ev.pos rfl (Ev.bind h1 ?_)
  rw [← h2]
  by_cases hq : r ≥ 0
  ·rw [decide_eq_true hq]
   exact Ev.pos hq (Ev.some_ (by simp))
  ·rw [decide_eq_false hq]
   refine Ev.neg hq (Ev.bindc rfl (Ev.pos (by simp; omega) (Ev.bindc rfl (Ev.pos (by simp; omega) (Ev.some_ ?_)))))
   rw [List.nil_append, Int.toNat_natCast]
   exact (if_pos ⟨rfl, rfl⟩).symm
theorem dOf_U {c : UInt8} (h : isDirU c = true) : dOf (c.toNat : Int) = (dirU c : Int) := by
 rcases (qwC c).1 h with rfl | rfl | rfl | rfl <;> decide
end Go.Proofs.YtgjdjnggkmojnaaDoor
namespace Go.Proofs.YtgjdjnggkmojnaaDoor.P
open Go.RowKit Go.Proofs.YtgjdjnggkmojnaaDoorW.PrintWords Go.Proofs.YtgjdjnggkmojnaaDoorW.PrintLast Go.Proofs.YtgjdjnggkmojnaaDoorW.PrintMore
attribute [local go_sem] qLA qJA qVA qUA qy qx qKA qIA
set_option linter.unusedVariables false
set_option linter.unusedSimpArgs false
def qBA.l0 : Nat → List (S57) → Int → Int → Option (Int)
 | 0, _, _, _ => none
 | k + 1, x0, x1, x5 => if x5 < (x0.length : Int) then (if 0 ≤ x5 then (if ((qC x0 x5).f0) = x1 then (if ((qC x0 x5).f1) = (wrap64 (x1 + 1)) then (if ((qC x0 x5).f2.f0) = (wrap64 ((wrap64 (x1 + 1)) + 1)) then (if ((qC x0 x5).f2.f1) = (wrap64 ((wrap64 ((wrap64 (x1 + 1)) + 1)) + 1)) then (if ((qC x0 x5).f2.f2) = (wrap64 ((wrap64 ((wrap64 ((wrap64 (x1 + 1)) + 1)) + 1)) + 1)) then (if ((qC x0 x5).f2.f3) = (wrap64 ((wrap64 ((wrap64 ((wrap64 ((wrap64 (x1 + 1)) + 1)) + 1)) + 1)) + 1)) then (if ((qC x0 x5).f2.f4) = (wrap64 ((wrap64 ((wrap64 ((wrap64 ((wrap64 ((wrap64 (x1 + 1)) + 1)) + 1)) + 1)) + 1)) + 1)) then (if ((qC x0 x5).f2.f5) = (wrap64 ((wrap64 ((wrap64 ((wrap64 ((wrap64 ((wrap64 ((wrap64 (x1 + 1)) + 1)) + 1)) + 1)) + 1)) + 1)) + 1)) then (qBA.l0 k x0 (wrap64 ((wrap64 ((wrap64 ((wrap64 ((wrap64 ((wrap64 ((wrap64 ((wrap64 (x1 + 1)) + 1)) + 1)) + 1)) + 1)) + 1)) + 1)) + 1)) (wrap64 (x5 + 1))) else (some (-1))) else (some (-1))) else (some (-1))) else (some (-1))) else (some (-1))) else (some (-1))) else (some (-1))) else (some (-1))) else (none)) else (some x1)
def qBA.f (k : Nat) (l0 : List (S57)) (a1 : Int) : Option (Int) := qBA.l0 k l0 a1 0
set_option maxHeartbeats 8000000 in
set_option maxRecDepth 100000 in
theorem qBA.calls (k : Nat) (A0 : Option Addr) (c0 : Nat) (l0 : List (S57)) (a1 : Int) (r : Int) (w : World) (hr0 : Kd.C k57 w A0 l0.length l0) (hc0 : l0.length ≤ c0) (h : qBA.f k l0 a1 = some r) :
  Calls Tryd.prog 23 #[.slice A0 l0.length c0, .int .i64 a1] w fun e w' => e = .returned (.int .i64 r) ∧ Drawn0 w w' := by
 have HR0 := Aside0.mk hr0
 have HC0 := Aside0.mk hc0
 clear hr0 hc0
 have H : (qBA.l0 k l0 a1 0) = some r := h
 clear h
 have H' := Aside0.mk H
 clear H
 go_enter Tryd.func23, Tryd.ntmps23
 go_wp2
 go_loopg [1, 5] k (fun kq v1 v5 w' => ∃ (x1_1 : Int) (x5_1 : Int), v1 = .int .i64 x1_1 ∧ v5 = .int .i64 x5_1 ∧ Aside0 (qBA.l0 kq l0 x1_1 x5_1 = some r) ∧ Aside0 (kq ≤ k) ∧ Drawn0 w w')
 case atStart => exact ⟨(a1), (0), (by first | rfl | (simp; done) | (simp [*]; done)), (by first | rfl | (simp; done) | (simp [*]; done)), H', ⟨Nat.le_refl _⟩, by repeat (first | exact Drawn0.refl _ | apply Drawn0.step)⟩
 case round =>
  clear H'
  try clear c2
  try clear p2
  obtain ⟨x1_1, x5_1, rfl, rfl, HA, HK1, ⟨m1, rfl⟩⟩ := hrel
  cases gk with
  | zero => exact absurd HA.out (by simp [qBA.l0])
  | succ k1 =>
   have H := HA.out
   clear HA
   simp only [qBA.l0] at H
   by_cases c3 : x5_1 < (l0.length : Int)
   ·rw [if_pos c3] at H
    have c3b0 : decide (x5_1 < (l0.length : Int)) = true := decide_eq_true c3
    clear c3
    by_cases c4 : 0 ≤ x5_1
    ·rw [if_pos c4] at H
     have c4b0 : decide (0 ≤ x5_1) = true := decide_eq_true c4
     clear c4
     by_cases c5 : ((qC l0 x5_1).f0) = x1_1
     ·rw [if_pos c5] at H
      have c5b0 : (((qC l0 x5_1).f0) == x1_1) = true := beq_iff_eq.mpr c5
      have c5b1 : (((qC l0 x5_1).f0) != x1_1) = false := bne_eq_false_iff_eq.mpr c5
      clear c5
      by_cases c6 : ((qC l0 x5_1).f1) = (wrap64 (x1_1 + 1))
      ·rw [if_pos c6] at H
       have c6b0 : (((qC l0 x5_1).f1) == (wrap64 (x1_1 + 1))) = true := beq_iff_eq.mpr c6
       have c6b1 : (((qC l0 x5_1).f1) != (wrap64 (x1_1 + 1))) = false := bne_eq_false_iff_eq.mpr c6
       clear c6
       by_cases c7 : ((qC l0 x5_1).f2.f0) = (wrap64 ((wrap64 (x1_1 + 1)) + 1))
       ·rw [if_pos c7] at H
        have c7b0 : (((qC l0 x5_1).f2.f0) == (wrap64 ((wrap64 (x1_1 + 1)) + 1))) = true := beq_iff_eq.mpr c7
        have c7b1 : (((qC l0 x5_1).f2.f0) != (wrap64 ((wrap64 (x1_1 + 1)) + 1))) = false := bne_eq_false_iff_eq.mpr c7
        clear c7
        by_cases c8 : ((qC l0 x5_1).f2.f1) = (wrap64 ((wrap64 ((wrap64 (x1_1 + 1)) + 1)) + 1))
        ·rw [if_pos c8] at H
         have c8b0 : (((qC l0 x5_1).f2.f1) == (wrap64 ((wrap64 ((wrap64 (x1_1 + 1)) + 1)) + 1))) = true := beq_iff_eq.mpr c8
         have c8b1 : (((qC l0 x5_1).f2.f1) != (wrap64 ((wrap64 ((wrap64 (x1_1 + 1)) + 1)) + 1))) = false := bne_eq_false_iff_eq.mpr c8
         clear c8
         by_cases c9 : ((qC l0 x5_1).f2.f2) = (wrap64 ((wrap64 ((wrap64 ((wrap64 (x1_1 + 1)) + 1)) + 1)) + 1))
         ·rw [if_pos c9] at H
          have c9b0 : (((qC l0 x5_1).f2.f2) == (wrap64 ((wrap64 ((wrap64 ((wrap64 (x1_1 + 1)) + 1)) + 1)) + 1))) = true := beq_iff_eq.mpr c9
          have c9b1 : (((qC l0 x5_1).f2.f2) != (wrap64 ((wrap64 ((wrap64 ((wrap64 (x1_1 + 1)) + 1)) + 1)) + 1))) = false := bne_eq_false_iff_eq.mpr c9
          clear c9
          by_cases c10 : ((qC l0 x5_1).f2.f3) = (wrap64 ((wrap64 ((wrap64 ((wrap64 ((wrap64 (x1_1 + 1)) + 1)) + 1)) + 1)) + 1))
          ·rw [if_pos c10] at H
           have c10b0 : (((qC l0 x5_1).f2.f3) == (wrap64 ((wrap64 ((wrap64 ((wrap64 ((wrap64 (x1_1 + 1)) + 1)) + 1)) + 1)) + 1))) = true := beq_iff_eq.mpr c10
           have c10b1 : (((qC l0 x5_1).f2.f3) != (wrap64 ((wrap64 ((wrap64 ((wrap64 ((wrap64 (x1_1 + 1)) + 1)) + 1)) + 1)) + 1))) = false := bne_eq_false_iff_eq.mpr c10
           clear c10
           by_cases c11 : ((qC l0 x5_1).f2.f4) = (wrap64 ((wrap64 ((wrap64 ((wrap64 ((wrap64 ((wrap64 (x1_1 + 1)) + 1)) + 1)) + 1)) + 1)) + 1))
           ·rw [if_pos c11] at H
            have c11b0 : (((qC l0 x5_1).f2.f4) == (wrap64 ((wrap64 ((wrap64 ((wrap64 ((wrap64 ((wrap64 (x1_1 + 1)) + 1)) + 1)) + 1)) + 1)) + 1))) = true := beq_iff_eq.mpr c11
            have c11b1 : (((qC l0 x5_1).f2.f4) != (wrap64 ((wrap64 ((wrap64 ((wrap64 ((wrap64 ((wrap64 (x1_1 + 1)) + 1)) + 1)) + 1)) + 1)) + 1))) = false := bne_eq_false_iff_eq.mpr c11
            clear c11
            by_cases c12 : ((qC l0 x5_1).f2.f5) = (wrap64 ((wrap64 ((wrap64 ((wrap64 ((wrap64 ((wrap64 ((wrap64 (x1_1 + 1)) + 1)) + 1)) + 1)) + 1)) + 1)) + 1))
            ·rw [if_pos c12] at H
             have c12b0 : (((qC l0 x5_1).f2.f5) == (wrap64 ((wrap64 ((wrap64 ((wrap64 ((wrap64 ((wrap64 ((wrap64 (x1_1 + 1)) + 1)) + 1)) + 1)) + 1)) + 1)) + 1))) = true := beq_iff_eq.mpr c12
             have c12b1 : (((qC l0 x5_1).f2.f5) != (wrap64 ((wrap64 ((wrap64 ((wrap64 ((wrap64 ((wrap64 ((wrap64 (x1_1 + 1)) + 1)) + 1)) + 1)) + 1)) + 1)) + 1))) = false := bne_eq_false_iff_eq.mpr c12
             clear c12
             have H' := Aside0.mk H
             clear H
             have p433 : 0 ≤ (x5_1 : Int) := of_decide_eq_true (by first | (with_reducible assumption) | assumption)
             have q433 : x5_1 < (l0.length : Int) := of_decide_eq_true (by first | (with_reducible assumption) | assumption)
             obtain ⟨ad433, e433, hx433_0, hx433_1, hx433_2, hx433_3, hx433_4, hx433_5, hx433_6, hx433_7⟩ := qgA HR0.out x5_1 p433 q433
             cases e433
             replace p433 := eq_true p433
             replace q433 := eq_true q433
             have p434 : 0 ≤ (x5_1 : Int) := of_decide_eq_true (by first | (with_reducible assumption) | assumption)
             have q434 : x5_1 < (l0.length : Int) := of_decide_eq_true (by first | (with_reducible assumption) | assumption)
             obtain ⟨ad434, e434, hx434_0, hx434_1, hx434_2, hx434_3, hx434_4, hx434_5, hx434_6, hx434_7⟩ := qgA HR0.out x5_1 p434 q434
             obtain rfl : ad433 = ad434 := (by injection e434)
             replace p434 := eq_true p434
             replace q434 := eq_true q434
             have p435 : 0 ≤ (x5_1 : Int) := of_decide_eq_true (by first | (with_reducible assumption) | assumption)
             have q435 : x5_1 < (l0.length : Int) := of_decide_eq_true (by first | (with_reducible assumption) | assumption)
             obtain ⟨ad435, e435, hx435_0, hx435_1, hx435_2, hx435_3, hx435_4, hx435_5, hx435_6, hx435_7⟩ := qgA HR0.out x5_1 p435 q435
             obtain rfl : ad433 = ad435 := (by injection e435)
             replace p435 := eq_true p435
             replace q435 := eq_true q435
             have p436 : 0 ≤ (x5_1 : Int) := of_decide_eq_true (by first | (with_reducible assumption) | assumption)
             have q436 : x5_1 < (l0.length : Int) := of_decide_eq_true (by first | (with_reducible assumption) | assumption)
             obtain ⟨ad436, e436, hx436_0, hx436_1, hx436_2, hx436_3, hx436_4, hx436_5, hx436_6, hx436_7⟩ := qgA HR0.out x5_1 p436 q436
             obtain rfl : ad433 = ad436 := (by injection e436)
             replace p436 := eq_true p436
             replace q436 := eq_true q436
             have p437 : 0 ≤ (x5_1 : Int) := of_decide_eq_true (by first | (with_reducible assumption) | assumption)
             have q437 : x5_1 < (l0.length : Int) := of_decide_eq_true (by first | (with_reducible assumption) | assumption)
             obtain ⟨ad437, e437, hx437_0, hx437_1, hx437_2, hx437_3, hx437_4, hx437_5, hx437_6, hx437_7⟩ := qgA HR0.out x5_1 p437 q437
             obtain rfl : ad433 = ad437 := (by injection e437)
             replace p437 := eq_true p437
             replace q437 := eq_true q437
             have p438 : 0 ≤ (x5_1 : Int) := of_decide_eq_true (by first | (with_reducible assumption) | assumption)
             have q438 : x5_1 < (l0.length : Int) := of_decide_eq_true (by first | (with_reducible assumption) | assumption)
             obtain ⟨ad438, e438, hx438_0, hx438_1, hx438_2, hx438_3, hx438_4, hx438_5, hx438_6, hx438_7⟩ := qgA HR0.out x5_1 p438 q438
             obtain rfl : ad433 = ad438 := (by injection e438)
             replace p438 := eq_true p438
             replace q438 := eq_true q438
             have p439 : 0 ≤ (x5_1 : Int) := of_decide_eq_true (by first | (with_reducible assumption) | assumption)
             have q439 : x5_1 < (l0.length : Int) := of_decide_eq_true (by first | (with_reducible assumption) | assumption)
             obtain ⟨ad439, e439, hx439_0, hx439_1, hx439_2, hx439_3, hx439_4, hx439_5, hx439_6, hx439_7⟩ := qgA HR0.out x5_1 p439 q439
             obtain rfl : ad433 = ad439 := (by injection e439)
             replace p439 := eq_true p439
             replace q439 := eq_true q439
             have p440 : 0 ≤ (x5_1 : Int) := of_decide_eq_true (by first | (with_reducible assumption) | assumption)
             have q440 : x5_1 < (l0.length : Int) := of_decide_eq_true (by first | (with_reducible assumption) | assumption)
             obtain ⟨ad440, e440, hx440_0, hx440_1, hx440_2, hx440_3, hx440_4, hx440_5, hx440_6, hx440_7⟩ := qgA HR0.out x5_1 p440 q440
             obtain rfl : ad433 = ad440 := (by injection e440)
             replace p440 := eq_true p440
             replace q440 := eq_true q440
             go_wp2
             go_roundg k1
             case measure => have := HK1.out; omega
             case rel => exact ⟨(wrap64 ((wrap64 ((wrap64 ((wrap64 ((wrap64 ((wrap64 ((wrap64 ((wrap64 (x1_1 + 1)) + 1)) + 1)) + 1)) + 1)) + 1)) + 1)) + 1)), (wrap64 (x5_1 + 1)), (by first | rfl | (simp; done) | (simp [*]; done)), (by first | rfl | (simp; done) | (simp [*]; done)), H', ⟨by have := HK1.out; omega⟩, by repeat (first | exact Drawn0.refl _ | apply Drawn0.step)⟩
            ·rw [if_neg c12] at H
             have c12b0 : (((qC l0 x5_1).f2.f5) == (wrap64 ((wrap64 ((wrap64 ((wrap64 ((wrap64 ((wrap64 ((wrap64 (x1_1 + 1)) + 1)) + 1)) + 1)) + 1)) + 1)) + 1))) = false := beq_eq_false_iff_ne.mpr c12
             have c12b1 : (((qC l0 x5_1).f2.f5) != (wrap64 ((wrap64 ((wrap64 ((wrap64 ((wrap64 ((wrap64 ((wrap64 (x1_1 + 1)) + 1)) + 1)) + 1)) + 1)) + 1)) + 1))) = true := bne_iff_ne.mpr c12
             obtain rfl := Option.some.inj H
             have p433 : 0 ≤ (x5_1 : Int) := of_decide_eq_true (by first | (with_reducible assumption) | assumption)
             have q433 : x5_1 < (l0.length : Int) := of_decide_eq_true (by first | (with_reducible assumption) | assumption)
             obtain ⟨ad433, e433, hx433_0, hx433_1, hx433_2, hx433_3, hx433_4, hx433_5, hx433_6, hx433_7⟩ := qgA HR0.out x5_1 p433 q433
             cases e433
             replace p433 := eq_true p433
             replace q433 := eq_true q433
             have p434 : 0 ≤ (x5_1 : Int) := of_decide_eq_true (by first | (with_reducible assumption) | assumption)
             have q434 : x5_1 < (l0.length : Int) := of_decide_eq_true (by first | (with_reducible assumption) | assumption)
             obtain ⟨ad434, e434, hx434_0, hx434_1, hx434_2, hx434_3, hx434_4, hx434_5, hx434_6, hx434_7⟩ := qgA HR0.out x5_1 p434 q434
             obtain rfl : ad433 = ad434 := (by injection e434)
             replace p434 := eq_true p434
             replace q434 := eq_true q434
             have p435 : 0 ≤ (x5_1 : Int) := of_decide_eq_true (by first | (with_reducible assumption) | assumption)
             have q435 : x5_1 < (l0.length : Int) := of_decide_eq_true (by first | (with_reducible assumption) | assumption)
             obtain ⟨ad435, e435, hx435_0, hx435_1, hx435_2, hx435_3, hx435_4, hx435_5, hx435_6, hx435_7⟩ := qgA HR0.out x5_1 p435 q435
             obtain rfl : ad433 = ad435 := (by injection e435)
             replace p435 := eq_true p435
             replace q435 := eq_true q435
             have p436 : 0 ≤ (x5_1 : Int) := of_decide_eq_true (by first | (with_reducible assumption) | assumption)
             have q436 : x5_1 < (l0.length : Int) := of_decide_eq_true (by first | (with_reducible assumption) | assumption)
             obtain ⟨ad436, e436, hx436_0, hx436_1, hx436_2, hx436_3, hx436_4, hx436_5, hx436_6, hx436_7⟩ := qgA HR0.out x5_1 p436 q436
             obtain rfl : ad433 = ad436 := (by injection e436)
             replace p436 := eq_true p436
             replace q436 := eq_true q436
             have p437 : 0 ≤ (x5_1 : Int) := of_decide_eq_true (by first | (with_reducible assumption) | assumption)
             have q437 : x5_1 < (l0.length : Int) := of_decide_eq_true (by first | (with_reducible assumption) | assumption)
             obtain ⟨ad437, e437, hx437_0, hx437_1, hx437_2, hx437_3, hx437_4, hx437_5, hx437_6, hx437_7⟩ := qgA HR0.out x5_1 p437 q437
             obtain rfl : ad433 = ad437 := (by injection e437)
             replace p437 := eq_true p437
             replace q437 := eq_true q437
             have p438 : 0 ≤ (x5_1 : Int) := of_decide_eq_true (by first | (with_reducible assumption) | assumption)
             have q438 : x5_1 < (l0.length : Int) := of_decide_eq_true (by first | (with_reducible assumption) | assumption)
             obtain ⟨ad438, e438, hx438_0, hx438_1, hx438_2, hx438_3, hx438_4, hx438_5, hx438_6, hx438_7⟩ := qgA HR0.out x5_1 p438 q438
             obtain rfl : ad433 = ad438 := (by injection e438)
             replace p438 := eq_true p438
             replace q438 := eq_true q438
             have p439 : 0 ≤ (x5_1 : Int) := of_decide_eq_true (by first | (with_reducible assumption) | assumption)
             have q439 : x5_1 < (l0.length : Int) := of_decide_eq_true (by first | (with_reducible assumption) | assumption)
             obtain ⟨ad439, e439, hx439_0, hx439_1, hx439_2, hx439_3, hx439_4, hx439_5, hx439_6, hx439_7⟩ := qgA HR0.out x5_1 p439 q439
             obtain rfl : ad433 = ad439 := (by injection e439)
             replace p439 := eq_true p439
             replace q439 := eq_true q439
             have p440 : 0 ≤ (x5_1 : Int) := of_decide_eq_true (by first | (with_reducible assumption) | assumption)
             have q440 : x5_1 < (l0.length : Int) := of_decide_eq_true (by first | (with_reducible assumption) | assumption)
             obtain ⟨ad440, e440, hx440_0, hx440_1, hx440_2, hx440_3, hx440_4, hx440_5, hx440_6, hx440_7⟩ := qgA HR0.out x5_1 p440 q440
             obtain rfl : ad433 = ad440 := (by injection e440)
             replace p440 := eq_true p440
             replace q440 := eq_true q440
             go_wp2
             go_ret
             exact ⟨by first | rfl | (simp; done) | (simp [*]; done), by repeat (first | exact Drawn0.refl _ | apply Drawn0.step)⟩
           ·rw [if_neg c11] at H
            have c11b0 : (((qC l0 x5_1).f2.f4) == (wrap64 ((wrap64 ((wrap64 ((wrap64 ((wrap64 ((wrap64 (x1_1 + 1)) + 1)) + 1)) + 1)) + 1)) + 1))) = false := beq_eq_false_iff_ne.mpr c11
            have c11b1 : (((qC l0 x5_1).f2.f4) != (wrap64 ((wrap64 ((wrap64 ((wrap64 ((wrap64 ((wrap64 (x1_1 + 1)) + 1)) + 1)) + 1)) + 1)) + 1))) = true := bne_iff_ne.mpr c11
            obtain rfl := Option.some.inj H
            have p433 : 0 ≤ (x5_1 : Int) := of_decide_eq_true (by first | (with_reducible assumption) | assumption)
            have q433 : x5_1 < (l0.length : Int) := of_decide_eq_true (by first | (with_reducible assumption) | assumption)
            obtain ⟨ad433, e433, hx433_0, hx433_1, hx433_2, hx433_3, hx433_4, hx433_5, hx433_6, hx433_7⟩ := qgA HR0.out x5_1 p433 q433
            cases e433
            replace p433 := eq_true p433
            replace q433 := eq_true q433
            have p434 : 0 ≤ (x5_1 : Int) := of_decide_eq_true (by first | (with_reducible assumption) | assumption)
            have q434 : x5_1 < (l0.length : Int) := of_decide_eq_true (by first | (with_reducible assumption) | assumption)
            obtain ⟨ad434, e434, hx434_0, hx434_1, hx434_2, hx434_3, hx434_4, hx434_5, hx434_6, hx434_7⟩ := qgA HR0.out x5_1 p434 q434
            obtain rfl : ad433 = ad434 := (by injection e434)
            replace p434 := eq_true p434
            replace q434 := eq_true q434
            have p435 : 0 ≤ (x5_1 : Int) := of_decide_eq_true (by first | (with_reducible assumption) | assumption)
            have q435 : x5_1 < (l0.length : Int) := of_decide_eq_true (by first | (with_reducible assumption) | assumption)
            obtain ⟨ad435, e435, hx435_0, hx435_1, hx435_2, hx435_3, hx435_4, hx435_5, hx435_6, hx435_7⟩ := qgA HR0.out x5_1 p435 q435
            obtain rfl : ad433 = ad435 := (by injection e435)
            replace p435 := eq_true p435
            replace q435 := eq_true q435
            have p436 : 0 ≤ (x5_1 : Int) := of_decide_eq_true (by first | (with_reducible assumption) | assumption)
            have q436 : x5_1 < (l0.length : Int) := of_decide_eq_true (by first | (with_reducible assumption) | assumption)
            obtain ⟨ad436, e436, hx436_0, hx436_1, hx436_2, hx436_3, hx436_4, hx436_5, hx436_6, hx436_7⟩ := qgA HR0.out x5_1 p436 q436
            obtain rfl : ad433 = ad436 := (by injection e436)
            replace p436 := eq_true p436
            replace q436 := eq_true q436
            have p437 : 0 ≤ (x5_1 : Int) := of_decide_eq_true (by first | (with_reducible assumption) | assumption)
            have q437 : x5_1 < (l0.length : Int) := of_decide_eq_true (by first | (with_reducible assumption) | assumption)
            obtain ⟨ad437, e437, hx437_0, hx437_1, hx437_2, hx437_3, hx437_4, hx437_5, hx437_6, hx437_7⟩ := qgA HR0.out x5_1 p437 q437
            obtain rfl : ad433 = ad437 := (by injection e437)
            replace p437 := eq_true p437
            replace q437 := eq_true q437
            have p438 : 0 ≤ (x5_1 : Int) := of_decide_eq_true (by first | (with_reducible assumption) | assumption)
            have q438 : x5_1 < (l0.length : Int) := of_decide_eq_true (by first | (with_reducible assumption) | assumption)
            obtain ⟨ad438, e438, hx438_0, hx438_1, hx438_2, hx438_3, hx438_4, hx438_5, hx438_6, hx438_7⟩ := qgA HR0.out x5_1 p438 q438
            obtain rfl : ad433 = ad438 := (by injection e438)
            replace p438 := eq_true p438
            replace q438 := eq_true q438
            have p439 : 0 ≤ (x5_1 : Int) := of_decide_eq_true (by first | (with_reducible assumption) | assumption)
            have q439 : x5_1 < (l0.length : Int) := of_decide_eq_true (by first | (with_reducible assumption) | assumption)
            obtain ⟨ad439, e439, hx439_0, hx439_1, hx439_2, hx439_3, hx439_4, hx439_5, hx439_6, hx439_7⟩ := qgA HR0.out x5_1 p439 q439
            obtain rfl : ad433 = ad439 := (by injection e439)
            replace p439 := eq_true p439
            replace q439 := eq_true q439
            go_wp2
            go_ret
            exact ⟨by first | rfl | (simp; done) | (simp [*]; done), by repeat (first | exact Drawn0.refl _ | apply Drawn0.step)⟩
          ·rw [if_neg c10] at H
           have c10b0 : (((qC l0 x5_1).f2.f3) == (wrap64 ((wrap64 ((wrap64 ((wrap64 ((wrap64 (x1_1 + 1)) + 1)) + 1)) + 1)) + 1))) = false := beq_eq_false_iff_ne.mpr c10
           have c10b1 : (((qC l0 x5_1).f2.f3) != (wrap64 ((wrap64 ((wrap64 ((wrap64 ((wrap64 (x1_1 + 1)) + 1)) + 1)) + 1)) + 1))) = true := bne_iff_ne.mpr c10
           obtain rfl := Option.some.inj H
           have p433 : 0 ≤ (x5_1 : Int) := of_decide_eq_true (by first | (with_reducible assumption) | assumption)
           have q433 : x5_1 < (l0.length : Int) := of_decide_eq_true (by first | (with_reducible assumption) | assumption)
           obtain ⟨ad433, e433, hx433_0, hx433_1, hx433_2, hx433_3, hx433_4, hx433_5, hx433_6, hx433_7⟩ := qgA HR0.out x5_1 p433 q433
           cases e433
           replace p433 := eq_true p433
           replace q433 := eq_true q433
           have p434 : 0 ≤ (x5_1 : Int) := of_decide_eq_true (by first | (with_reducible assumption) | assumption)
           have q434 : x5_1 < (l0.length : Int) := of_decide_eq_true (by first | (with_reducible assumption) | assumption)
           obtain ⟨ad434, e434, hx434_0, hx434_1, hx434_2, hx434_3, hx434_4, hx434_5, hx434_6, hx434_7⟩ := qgA HR0.out x5_1 p434 q434
           obtain rfl : ad433 = ad434 := (by injection e434)
           replace p434 := eq_true p434
           replace q434 := eq_true q434
           have p435 : 0 ≤ (x5_1 : Int) := of_decide_eq_true (by first | (with_reducible assumption) | assumption)
           have q435 : x5_1 < (l0.length : Int) := of_decide_eq_true (by first | (with_reducible assumption) | assumption)
           obtain ⟨ad435, e435, hx435_0, hx435_1, hx435_2, hx435_3, hx435_4, hx435_5, hx435_6, hx435_7⟩ := qgA HR0.out x5_1 p435 q435
           obtain rfl : ad433 = ad435 := (by injection e435)
           replace p435 := eq_true p435
           replace q435 := eq_true q435
           have p436 : 0 ≤ (x5_1 : Int) := of_decide_eq_true (by first | (with_reducible assumption) | assumption)
           have q436 : x5_1 < (l0.length : Int) := of_decide_eq_true (by first | (with_reducible assumption) | assumption)
           obtain ⟨ad436, e436, hx436_0, hx436_1, hx436_2, hx436_3, hx436_4, hx436_5, hx436_6, hx436_7⟩ := qgA HR0.out x5_1 p436 q436
           obtain rfl : ad433 = ad436 := (by injection e436)
           replace p436 := eq_true p436
           replace q436 := eq_true q436
           have p437 : 0 ≤ (x5_1 : Int) := of_decide_eq_true (by first | (with_reducible assumption) | assumption)
           have q437 : x5_1 < (l0.length : Int) := of_decide_eq_true (by first | (with_reducible assumption) | assumption)
           obtain ⟨ad437, e437, hx437_0, hx437_1, hx437_2, hx437_3, hx437_4, hx437_5, hx437_6, hx437_7⟩ := qgA HR0.out x5_1 p437 q437
           obtain rfl : ad433 = ad437 := (by injection e437)
           replace p437 := eq_true p437
           replace q437 := eq_true q437
           have p438 : 0 ≤ (x5_1 : Int) := of_decide_eq_true (by first | (with_reducible assumption) | assumption)
           have q438 : x5_1 < (l0.length : Int) := of_decide_eq_true (by first | (with_reducible assumption) | assumption)
           obtain ⟨ad438, e438, hx438_0, hx438_1, hx438_2, hx438_3, hx438_4, hx438_5, hx438_6, hx438_7⟩ := qgA HR0.out x5_1 p438 q438
           obtain rfl : ad433 = ad438 := (by injection e438)
           replace p438 := eq_true p438
           replace q438 := eq_true q438
           go_wp2
           go_ret
           exact ⟨by first | rfl | (simp; done) | (simp [*]; done), by repeat (first | exact Drawn0.refl _ | apply Drawn0.step)⟩
         ·rw [if_neg c9] at H
          have c9b0 : (((qC l0 x5_1).f2.f2) == (wrap64 ((wrap64 ((wrap64 ((wrap64 (x1_1 + 1)) + 1)) + 1)) + 1))) = false := beq_eq_false_iff_ne.mpr c9
          have c9b1 : (((qC l0 x5_1).f2.f2) != (wrap64 ((wrap64 ((wrap64 ((wrap64 (x1_1 + 1)) + 1)) + 1)) + 1))) = true := bne_iff_ne.mpr c9
          obtain rfl := Option.some.inj H
          have p433 : 0 ≤ (x5_1 : Int) := of_decide_eq_true (by first | (with_reducible assumption) | assumption)
          have q433 : x5_1 < (l0.length : Int) := of_decide_eq_true (by first | (with_reducible assumption) | assumption)
          obtain ⟨ad433, e433, hx433_0, hx433_1, hx433_2, hx433_3, hx433_4, hx433_5, hx433_6, hx433_7⟩ := qgA HR0.out x5_1 p433 q433
          cases e433
          replace p433 := eq_true p433
          replace q433 := eq_true q433
          have p434 : 0 ≤ (x5_1 : Int) := of_decide_eq_true (by first | (with_reducible assumption) | assumption)
          have q434 : x5_1 < (l0.length : Int) := of_decide_eq_true (by first | (with_reducible assumption) | assumption)
          obtain ⟨ad434, e434, hx434_0, hx434_1, hx434_2, hx434_3, hx434_4, hx434_5, hx434_6, hx434_7⟩ := qgA HR0.out x5_1 p434 q434
          obtain rfl : ad433 = ad434 := (by injection e434)
          replace p434 := eq_true p434
          replace q434 := eq_true q434
          have p435 : 0 ≤ (x5_1 : Int) := of_decide_eq_true (by first | (with_reducible assumption) | assumption)
          have q435 : x5_1 < (l0.length : Int) := of_decide_eq_true (by first | (with_reducible assumption) | assumption)
          obtain ⟨ad435, e435, hx435_0, hx435_1, hx435_2, hx435_3, hx435_4, hx435_5, hx435_6, hx435_7⟩ := qgA HR0.out x5_1 p435 q435
          obtain rfl : ad433 = ad435 := (by injection e435)
          replace p435 := eq_true p435
          replace q435 := eq_true q435
          have p436 : 0 ≤ (x5_1 : Int) := of_decide_eq_true (by first | (with_reducible assumption) | assumption)
          have q436 : x5_1 < (l0.length : Int) := of_decide_eq_true (by first | (with_reducible assumption) | assumption)
          obtain ⟨ad436, e436, hx436_0, hx436_1, hx436_2, hx436_3, hx436_4, hx436_5, hx436_6, hx436_7⟩ := qgA HR0.out x5_1 p436 q436
          obtain rfl : ad433 = ad436 := (by injection e436)
          replace p436 := eq_true p436
          replace q436 := eq_true q436
          have p437 : 0 ≤ (x5_1 : Int) := of_decide_eq_true (by first | (with_reducible assumption) | assumption)
          have q437 : x5_1 < (l0.length : Int) := of_decide_eq_true (by first | (with_reducible assumption) | assumption)
          obtain ⟨ad437, e437, hx437_0, hx437_1, hx437_2, hx437_3, hx437_4, hx437_5, hx437_6, hx437_7⟩ := qgA HR0.out x5_1 p437 q437
          obtain rfl : ad433 = ad437 := (by injection e437)
          replace p437 := eq_true p437
          replace q437 := eq_true q437
          go_wp2
          go_ret
          exact ⟨by first | rfl | (simp; done) | (simp [*]; done), by repeat (first | exact Drawn0.refl _ | apply Drawn0.step)⟩
        ·rw [if_neg c8] at H
         have c8b0 : (((qC l0 x5_1).f2.f1) == (wrap64 ((wrap64 ((wrap64 (x1_1 + 1)) + 1)) + 1))) = false := beq_eq_false_iff_ne.mpr c8
         have c8b1 : (((qC l0 x5_1).f2.f1) != (wrap64 ((wrap64 ((wrap64 (x1_1 + 1)) + 1)) + 1))) = true := bne_iff_ne.mpr c8
         obtain rfl := Option.some.inj H
         have p433 : 0 ≤ (x5_1 : Int) := of_decide_eq_true (by first | (with_reducible assumption) | assumption)
         have q433 : x5_1 < (l0.length : Int) := of_decide_eq_true (by first | (with_reducible assumption) | assumption)
         obtain ⟨ad433, e433, hx433_0, hx433_1, hx433_2, hx433_3, hx433_4, hx433_5, hx433_6, hx433_7⟩ := qgA HR0.out x5_1 p433 q433
         cases e433
         replace p433 := eq_true p433
         replace q433 := eq_true q433
         have p434 : 0 ≤ (x5_1 : Int) := of_decide_eq_true (by first | (with_reducible assumption) | assumption)
         have q434 : x5_1 < (l0.length : Int) := of_decide_eq_true (by first | (with_reducible assumption) | assumption)
         obtain ⟨ad434, e434, hx434_0, hx434_1, hx434_2, hx434_3, hx434_4, hx434_5, hx434_6, hx434_7⟩ := qgA HR0.out x5_1 p434 q434
         obtain rfl : ad433 = ad434 := (by injection e434)
         replace p434 := eq_true p434
         replace q434 := eq_true q434
         have p435 : 0 ≤ (x5_1 : Int) := of_decide_eq_true (by first | (with_reducible assumption) | assumption)
         have q435 : x5_1 < (l0.length : Int) := of_decide_eq_true (by first | (with_reducible assumption) | assumption)
         obtain ⟨ad435, e435, hx435_0, hx435_1, hx435_2, hx435_3, hx435_4, hx435_5, hx435_6, hx435_7⟩ := qgA HR0.out x5_1 p435 q435
         obtain rfl : ad433 = ad435 := (by injection e435)
         replace p435 := eq_true p435
         replace q435 := eq_true q435
         have p436 : 0 ≤ (x5_1 : Int) := of_decide_eq_true (by first | (with_reducible assumption) | assumption)
         have q436 : x5_1 < (l0.length : Int) := of_decide_eq_true (by first | (with_reducible assumption) | assumption)
         obtain ⟨ad436, e436, hx436_0, hx436_1, hx436_2, hx436_3, hx436_4, hx436_5, hx436_6, hx436_7⟩ := qgA HR0.out x5_1 p436 q436
         obtain rfl : ad433 = ad436 := (by injection e436)
         replace p436 := eq_true p436
         replace q436 := eq_true q436
         go_wp2
         go_ret
         exact ⟨by first | rfl | (simp; done) | (simp [*]; done), by repeat (first | exact Drawn0.refl _ | apply Drawn0.step)⟩
       ·rw [if_neg c7] at H
        have c7b0 : (((qC l0 x5_1).f2.f0) == (wrap64 ((wrap64 (x1_1 + 1)) + 1))) = false := beq_eq_false_iff_ne.mpr c7
        have c7b1 : (((qC l0 x5_1).f2.f0) != (wrap64 ((wrap64 (x1_1 + 1)) + 1))) = true := bne_iff_ne.mpr c7
        obtain rfl := Option.some.inj H
        have p433 : 0 ≤ (x5_1 : Int) := of_decide_eq_true (by first | (with_reducible assumption) | assumption)
        have q433 : x5_1 < (l0.length : Int) := of_decide_eq_true (by first | (with_reducible assumption) | assumption)
        obtain ⟨ad433, e433, hx433_0, hx433_1, hx433_2, hx433_3, hx433_4, hx433_5, hx433_6, hx433_7⟩ := qgA HR0.out x5_1 p433 q433
        cases e433
        replace p433 := eq_true p433
        replace q433 := eq_true q433
        have p434 : 0 ≤ (x5_1 : Int) := of_decide_eq_true (by first | (with_reducible assumption) | assumption)
        have q434 : x5_1 < (l0.length : Int) := of_decide_eq_true (by first | (with_reducible assumption) | assumption)
        obtain ⟨ad434, e434, hx434_0, hx434_1, hx434_2, hx434_3, hx434_4, hx434_5, hx434_6, hx434_7⟩ := qgA HR0.out x5_1 p434 q434
        obtain rfl : ad433 = ad434 := (by injection e434)
        replace p434 := eq_true p434
        replace q434 := eq_true q434
        have p435 : 0 ≤ (x5_1 : Int) := of_decide_eq_true (by first | (with_reducible assumption) | assumption)
        have q435 : x5_1 < (l0.length : Int) := of_decide_eq_true (by first | (with_reducible assumption) | assumption)
        obtain ⟨ad435, e435, hx435_0, hx435_1, hx435_2, hx435_3, hx435_4, hx435_5, hx435_6, hx435_7⟩ := qgA HR0.out x5_1 p435 q435
        obtain rfl : ad433 = ad435 := (by injection e435)
        replace p435 := eq_true p435
        replace q435 := eq_true q435
        go_wp2
        go_ret
        exact ⟨by first | rfl | (simp; done) | (simp [*]; done), by repeat (first | exact Drawn0.refl _ | apply Drawn0.step)⟩
      ·rw [if_neg c6] at H
       have c6b0 : (((qC l0 x5_1).f1) == (wrap64 (x1_1 + 1))) = false := beq_eq_false_iff_ne.mpr c6
       have c6b1 : (((qC l0 x5_1).f1) != (wrap64 (x1_1 + 1))) = true := bne_iff_ne.mpr c6
       obtain rfl := Option.some.inj H
       have p433 : 0 ≤ (x5_1 : Int) := of_decide_eq_true (by first | (with_reducible assumption) | assumption)
       have q433 : x5_1 < (l0.length : Int) := of_decide_eq_true (by first | (with_reducible assumption) | assumption)
       obtain ⟨ad433, e433, hx433_0, hx433_1, hx433_2, hx433_3, hx433_4, hx433_5, hx433_6, hx433_7⟩ := qgA HR0.out x5_1 p433 q433
       cases e433
       replace p433 := eq_true p433
       replace q433 := eq_true q433
       have p434 : 0 ≤ (x5_1 : Int) := of_decide_eq_true (by first | (with_reducible assumption) | assumption)
       have q434 : x5_1 < (l0.length : Int) := of_decide_eq_true (by first | (with_reducible assumption) | assumption)
       obtain ⟨ad434, e434, hx434_0, hx434_1, hx434_2, hx434_3, hx434_4, hx434_5, hx434_6, hx434_7⟩ := qgA HR0.out x5_1 p434 q434
       obtain rfl : ad433 = ad434 := (by injection e434)
       replace p434 := eq_true p434
       replace q434 := eq_true q434
       go_wp2
       go_ret
       exact ⟨by first | rfl | (simp; done) | (simp [*]; done), by repeat (first | exact Drawn0.refl _ | apply Drawn0.step)⟩
     ·rw [if_neg c5] at H
      have c5b0 : (((qC l0 x5_1).f0) == x1_1) = false := beq_eq_false_iff_ne.mpr c5
      have c5b1 : (((qC l0 x5_1).f0) != x1_1) = true := bne_iff_ne.mpr c5
      obtain rfl := Option.some.inj H
      have p433 : 0 ≤ (x5_1 : Int) := of_decide_eq_true (by first | (with_reducible assumption) | assumption)
      have q433 : x5_1 < (l0.length : Int) := of_decide_eq_true (by first | (with_reducible assumption) | assumption)
      obtain ⟨ad433, e433, hx433_0, hx433_1, hx433_2, hx433_3, hx433_4, hx433_5, hx433_6, hx433_7⟩ := qgA HR0.out x5_1 p433 q433
      cases e433
      replace p433 := eq_true p433
      replace q433 := eq_true q433
      go_wp2
      go_ret
      exact ⟨by first | rfl | (simp; done) | (simp [*]; done), by repeat (first | exact Drawn0.refl _ | apply Drawn0.step)⟩
    ·rw [if_neg c4] at H
     exact absurd H (by simp)
   ·rw [if_neg c3] at H
    have c3b0 : decide (x5_1 < (l0.length : Int)) = false := decide_eq_false c3
    clear c3
    obtain rfl := Option.some.inj H
    go_wp2
    go_ret
    exact ⟨by first | rfl | (simp; done) | (simp [*]; done), by repeat (first | exact Drawn0.refl _ | apply Drawn0.step)⟩
end Go.Proofs.YtgjdjnggkmojnaaDoor.P
namespace Go.Proofs.YtgjdjnggkmojnaaDoor
open Go.RowKit Go.Proofs.YtgjdjnggkmojnaaDoor.P Go.Proofs.YtgjdjnggkmojnaaDoorW.PrintWords Go.Proofs.YtgjdjnggkmojnaaDoorW.PrintLast
set_option linter.unusedVariables false
set_option linter.unusedSimpArgs false
def markXS (j : Nat) : XS := ⟨1 + 8 * (j : Int), 2 + 8 * (j : Int), ⟨3 + 8 * (j : Int), 4 + 8 * (j : Int), 5 + 8 * (j : Int), 6 + 8 * (j : Int), 7 + 8 * (j : Int), 8 + 8 * (j : Int)⟩⟩
def marksXS (n : Nat) : List XS := (List.range n).map markXS
theorem qSB (n : Nat) : (marksXS n).length = n := by simp [marksXS]
theorem marksXS_succ (n : Nat) : marksXS (n + 1) = marksXS n ++ [markXS n] := by simp [marksXS, List.range_succ]
theorem markStateS_loop (l : List XS) (ha : l.length ≤ 2000000) (d : Nat) : ∀ i : Nat, i ≤ l.length → l.length - i = d →
  Ev (fun k => qj.l0 k (marksXS i ++ l.drop i) (1 + 8 * (i : Int)) (i : Int)) (1 + 8 * (l.length : Int), marksXS l.length) := by
 induction d with
 | zero =>
  intro i hi hd
  obtain rfl : i = l.length := by omega
  refine Ev.step (f := fun k => _) (fun k => by rw [qj.l0]) (Ev.neg ?_ (Ev.some_ ?_))
  ·simp [qSB]
  ·simp
 | succ d ih =>
  intro i hi hd
  refine Ev.step (f := fun k => _) (fun k => by rw [qj.l0]) (Ev.pos ?_ (Ev.pos (by omega) ?_))
  ·simp [qSB]; omega
  ·have hl : i < (marksXS i ++ l.drop i).length := by simp [qSB]; omega
   have w0 : wrap64 ((i : Int) + 1) = ((i + 1 : Nat) : Int) := by unfold wrap64; omega
   have w1 : wrap64 (1 + 8 * (i : Int) + 1) = 2 + 8 * (i : Int) := by unfold wrap64; omega
   have w2 : wrap64 (2 + 8 * (i : Int) + 1) = 3 + 8 * (i : Int) := by unfold wrap64; omega
   have w3 : wrap64 (3 + 8 * (i : Int) + 1) = 4 + 8 * (i : Int) := by unfold wrap64; omega
   have w4 : wrap64 (4 + 8 * (i : Int) + 1) = 5 + 8 * (i : Int) := by unfold wrap64; omega
   have w5 : wrap64 (5 + 8 * (i : Int) + 1) = 6 + 8 * (i : Int) := by unfold wrap64; omega
   have w6 : wrap64 (6 + 8 * (i : Int) + 1) = 7 + 8 * (i : Int) := by unfold wrap64; omega
   have w7 : wrap64 (7 + 8 * (i : Int) + 1) = 8 + 8 * (i : Int) := by unfold wrap64; omega
   have w8 : wrap64 (8 + 8 * (i : Int) + 1) = 1 + 8 * ((i + 1 : Nat) : Int) := by unfold wrap64; omega
   have e : (marksXS i ++ l.drop i).set i (markXS i) = marksXS (i + 1) ++ l.drop (i + 1) := by
    rw [List.set_append_right _ _ (by rw [qSB]; omega), qSB, Nat.sub_self, List.drop_eq_getElem_cons (show i < l.length by omega), List.set_cons_zero, marksXS_succ, List.append_assoc]
    rfl
   simp only [Option.bind_some, Int.toNat_natCast, w0, w1, w2, w3, w4, w5, w6, w7, w8]
   simp only [rdXS_set _ _ _ hl, List.set_set]
   have := ih (i + 1) (by omega) (by omega)
   rw [← e] at this
   exact this
theorem qtB (l : List XS) (ha : l.length ≤ 2000000) : Ev (fun k => qj.f k l 1) (1 + 8 * (l.length : Int), marksXS l.length) := by
 have := markStateS_loop l ha l.length 0 (by omega) (by omega)
 simpa [marksXS, qj.f] using this
theorem heldStateS_loop (n : Nat) (hn : n ≤ 2000000) (d : Nat) : ∀ i : Nat, i ≤ n → n - i = d → Ev (fun k => qBA.l0 k (marksXS n) (1 + 8 * (i : Int)) (i : Int)) (1 + 8 * (n : Int)) := by
 induction d with
 | zero =>
  intro i hi hd
  obtain rfl : i = n := by omega
  exact Ev.step (f := fun k => _) (fun k => by rw [qBA.l0]) (Ev.neg (by rw [qSB]; omega) (Ev.now _))
 | succ d ih =>
  intro i hi hd
  have w0 : wrap64 ((i : Int) + 1) = ((i + 1 : Nat) : Int) := by unfold wrap64; omega
  have w1 : wrap64 (1 + 8 * (i : Int) + 1) = 2 + 8 * (i : Int) := by unfold wrap64; omega
  have w2 : wrap64 (2 + 8 * (i : Int) + 1) = 3 + 8 * (i : Int) := by unfold wrap64; omega
  have w3 : wrap64 (3 + 8 * (i : Int) + 1) = 4 + 8 * (i : Int) := by unfold wrap64; omega
  have w4 : wrap64 (4 + 8 * (i : Int) + 1) = 5 + 8 * (i : Int) := by unfold wrap64; omega
  have w5 : wrap64 (5 + 8 * (i : Int) + 1) = 6 + 8 * (i : Int) := by unfold wrap64; omega
  have w6 : wrap64 (6 + 8 * (i : Int) + 1) = 7 + 8 * (i : Int) := by unfold wrap64; omega
  have w7 : wrap64 (7 + 8 * (i : Int) + 1) = 8 + 8 * (i : Int) := by unfold wrap64; omega
  have w8 : wrap64 (8 + 8 * (i : Int) + 1) = 1 + 8 * ((i + 1 : Nat) : Int) := by unfold wrap64; omega
  have hr : qC (marksXS n) (i : Int) = markXS i := by
   rw [rdXS _ i (by rw [qSB]; omega)]
   unfold marksXS
   rw [List.getElem_map, List.getElem_range]
  refine Ev.step (f := fun k => _) (fun k => by rw [qBA.l0]) (Ev.pos (by rw [qSB]; omega) (Ev.pos (by omega) ?_))
  simp only [w0, w1, w2, w3, w4, w5, w6, w7, w8, hr]
  exact Ev.pos rfl (Ev.pos rfl (Ev.pos rfl (Ev.pos rfl (Ev.pos rfl (Ev.pos rfl (Ev.pos rfl (Ev.pos rfl (ih (i + 1) (by omega) (by omega)))))))))
theorem qPC (n : Nat) (hn : n ≤ 2000000) : Ev (fun k => qBA.f k (marksXS n) 1) (1 + 8 * (n : Int)) := by
 have := heldStateS_loop n hn n 0 (by omega) (by omega)
 simpa [qBA.f] using this
end Go.Proofs.YtgjdjnggkmojnaaDoor
namespace Go.Proofs.YtgjdjnggkmojnaaDoor.P
open Go.RowKit Go.Proofs.YtgjdjnggkmojnaaDoorW.PrintWords Go.Proofs.YtgjdjnggkmojnaaDoorW.PrintLast Go.Proofs.YtgjdjnggkmojnaaDoorW.PrintMore
attribute [local go_sem] qLA qJA qVA qUA qy qx qKA qIA
set_option linter.unusedVariables false
set_option linter.unusedSimpArgs false
mutual
def qfA.j0 : Nat → ByteArray → Bool → Option (Bool)
 | 0, _, _ => none
 | k + 1, x0, x12 => if x12 = true then (some false) else (qfA.l0 k x0 0)
def qfA.l0 : Nat → ByteArray → Int → Option (Bool)
 | 0, _, _ => none
 | k + 1, x0, x3 => if x3 < (x0.size : Int) then (if 0 ≤ x3 then (if (bt x0 x3) < 48 then (some false) else (if (bt x0 x3) ≥ 51 then (some false) else (if 0 ≤ (wrap64 (x3 + 1)) then (if (wrap64 (x3 + 1)) ≤ (wrap64 (x3 + 2)) then (if (wrap64 (x3 + 2)) ≤ (x0.size : Int) then ((qjA.f k (x0.extract ((wrap64 (x3 + 1)) : Int).toNat ((wrap64 (x3 + 2)) : Int).toNat)).bind fun t632 => (if t632 < 0 then (some false) else (qfA.l0 k x0 (wrap64 (x3 + 2))))) else (none)) else (none)) else (none)))) else (none)) else (some true)
end
def qfA.f (k : Nat) (a0 : ByteArray) : Option (Bool) := if ((a0.size : Int) % 2) = 0 then (qfA.j0 k a0 (decide ((a0.size : Int) > 120))) else (qfA.j0 k a0 true)
set_option maxHeartbeats 8000000 in
set_option maxRecDepth 100000 in
theorem qfA.calls (k : Nat) (a0 : ByteArray) (r : Bool) (w : World) (h : qfA.f k a0 = some r) :
  Calls Tryd.prog 57 #[.string a0] w fun e w' => e = .returned (.bool r) ∧ Drawn0 w w' := by
 have H : (if ((a0.size : Int) % 2) = 0 then (qfA.j0 k a0 (decide ((a0.size : Int) > 120))) else (qfA.j0 k a0 true)) = some r := h
 clear h
 have HC2 := Aside0.mk H
 clear H
 go_enter Tryd.func57, Tryd.ntmps57
 go_upto_region 1 with (fail)
 go_cut [12] (fun v12 wc => ∃ (kq : Nat) (x12_1 : Bool), v12 = .bool x12_1 ∧ Aside0 (qfA.j0 kq a0 x12_1 = some r) ∧ Aside0 (kq ≤ k) ∧ Drawn0 w wc)
 case first =>
  have H := HC2.out
  clear HC2
  by_cases c3 : ((a0.size : Int) % 2) = 0
  ·rw [if_pos c3] at H
   have c3b0 : (((a0.size : Int) % 2) == 0) = true := beq_iff_eq.mpr c3
   have c3b1 : (((a0.size : Int) % 2) != 0) = false := bne_eq_false_iff_eq.mpr c3
   clear c3
   (first | rw [c3b0] | (simp only [i64_w, i32_w]; rw [c3b0]) | skip)
   have H' := Aside0.mk H
   clear H
   go_wp2
   go_meet
   case rel => exact ⟨_, (decide ((a0.size : Int) > 120)), (by first | rfl | (simp; done) | (simp [*]; done)), H', ⟨by first | omega | exact Nat.le_refl _⟩, by repeat (first | exact Drawn0.refl _ | apply Drawn0.step)⟩
  ·rw [if_neg c3] at H
   have c3b0 : (((a0.size : Int) % 2) == 0) = false := beq_eq_false_iff_ne.mpr c3
   have c3b1 : (((a0.size : Int) % 2) != 0) = true := bne_iff_ne.mpr c3
   (first | rw [c3b0] | (simp only [i64_w, i32_w]; rw [c3b0]) | skip)
   have H' := Aside0.mk H
   clear H
   go_wp2
   go_meet
   case rel => exact ⟨_, (true), (by first | rfl | (simp; done) | (simp [*]; done)), H', ⟨by first | omega | exact Nat.le_refl _⟩, by repeat (first | exact Drawn0.refl _ | apply Drawn0.step)⟩
 case rest =>
  clear HC2
  try clear p2
  try clear c3
  try clear c3b0
  try clear c3b1
  obtain ⟨kq, x12_1, rfl, HA, HJ1, ⟨mc1, rfl⟩⟩ := hcut
  cases kq with
  | zero => exact absurd HA.out (by simp [qfA.j0])
  | succ kj1 =>
   have H := HA.out
   clear HA
   simp only [qfA.j0] at H
   by_cases c4 : x12_1 = true
   ·subst c4
    have H1 : (some false) = some r := by rw [if_pos rfl] at H; exact H
    clear H
    have H := H1
    clear H1
    obtain rfl := Option.some.inj H
    go_wp2
    go_ret
    exact ⟨by first | rfl | (simp; done) | (simp [*]; done), by repeat (first | exact Drawn0.refl _ | apply Drawn0.step)⟩
   ·replace c4 := Bool.eq_false_iff.mpr c4
    subst c4
    have H1 : (qfA.l0 kj1 a0 0) = some r := by rw [if_neg (show ¬ (false = true) by decide)] at H; exact H
    clear H
    have H := H1
    clear H1
    have H' := Aside0.mk H
    clear H
    go_wp2
    go_loopg [3] kj1 (fun kq v3 w' => ∃ (x3_2 : Int), v3 = .int .i64 x3_2 ∧ Aside0 (qfA.l0 kq a0 x3_2 = some r) ∧ Aside0 (kq ≤ kj1) ∧ Drawn0 w w')
    case atStart => exact ⟨(0), (by first | rfl | (simp; done) | (simp [*]; done)), H', ⟨Nat.le_refl _⟩, by repeat (first | exact Drawn0.refl _ | apply Drawn0.step)⟩
    case round =>
     clear H'
     try clear c1
     try clear p2
     try clear c3
     try clear c3b0
     try clear c3b1
     try clear c4
     try clear p2
     obtain ⟨x3_2, rfl, HA, HK2, ⟨m2, rfl⟩⟩ := hrel
     cases gk with
     | zero => exact absurd HA.out (by simp [qfA.l0])
     | succ k2 =>
      have H := HA.out
      clear HA
      simp only [qfA.l0] at H
      by_cases c5 : x3_2 < (a0.size : Int)
      ·rw [if_pos c5] at H
       have c5b0 : decide (x3_2 < (a0.size : Int)) = true := decide_eq_true c5
       clear c5
       by_cases c6 : 0 ≤ x3_2
       ·rw [if_pos c6] at H
        have c6b0 : decide (0 ≤ x3_2) = true := decide_eq_true c6
        clear c6
        by_cases c8 : (bt a0 x3_2) < 48
        ·rw [if_pos c8] at H
         have c8b0 : decide ((bt a0 x3_2) < 48) = true := decide_eq_true c8
         clear c8
         obtain rfl := Option.some.inj H
         have p7 : 0 ≤ (x3_2 : Int) := of_decide_eq_true (by first | (with_reducible assumption) | assumption)
         have q7 : x3_2 < (a0.size : Int) := of_decide_eq_true (by first | (with_reducible assumption) | assumption)
         have hx7 := bt_at a0 x3_2
         replace p7 := eq_true p7
         replace q7 := eq_true q7
         go_wp2
         go_ret
         exact ⟨by first | rfl | (simp; done) | (simp [*]; done), by repeat (first | exact Drawn0.refl _ | apply Drawn0.step)⟩
        ·rw [if_neg c8] at H
         have c8b0 : decide ((bt a0 x3_2) < 48) = false := decide_eq_false c8
         clear c8
         by_cases c10 : (bt a0 x3_2) ≥ 51
         ·rw [if_pos c10] at H
          have c10b0 : decide (51 ≤ (bt a0 x3_2)) = true := decide_eq_true c10
          clear c10
          obtain rfl := Option.some.inj H
          have p7 : 0 ≤ (x3_2 : Int) := of_decide_eq_true (by first | (with_reducible assumption) | assumption)
          have q7 : x3_2 < (a0.size : Int) := of_decide_eq_true (by first | (with_reducible assumption) | assumption)
          have hx7 := bt_at a0 x3_2
          replace p7 := eq_true p7
          replace q7 := eq_true q7
          have p9 : 0 ≤ (x3_2 : Int) := of_decide_eq_true (by first | (with_reducible assumption) | assumption)
          have q9 : x3_2 < (a0.size : Int) := of_decide_eq_true (by first | (with_reducible assumption) | assumption)
          have hx9 := bt_at a0 x3_2
          replace p9 := eq_true p9
          replace q9 := eq_true q9
          go_wp2
          go_ret
          exact ⟨by first | rfl | (simp; done) | (simp [*]; done), by repeat (first | exact Drawn0.refl _ | apply Drawn0.step)⟩
         ·rw [if_neg c10] at H
          have c10b0 : decide (51 ≤ (bt a0 x3_2)) = false := decide_eq_false c10
          clear c10
          obtain ⟨ji11, hji11⟩ : ∃ j_ : Int, (wrap64 (x3_2 + 1)) = j_ := ⟨_, rfl⟩
          replace H : (if 0 ≤ (ji11) then (if (ji11) ≤ (wrap64 (x3_2 + 2)) then (if (wrap64 (x3_2 + 2)) ≤ (a0.size : Int) then ((qjA.f k2 (a0.extract ((ji11) : Int).toNat ((wrap64 (x3_2 + 2)) : Int).toNat)).bind fun t632 => (if t632 < 0 then (some false) else (qfA.l0 k2 a0 (wrap64 (x3_2 + 2))))) else (none)) else (none)) else (none)) = some r := by first | (rw [hji11] at H; exact H) | (simp only [hji11] at H ⊢; exact H)
          have hji11w : (IntKind.i64.wrap (x3_2 + 1)) = ji11 := (i64_w _).trans hji11
          by_cases c12 : 0 ≤ (ji11)
          ·rw [if_pos c12] at H
           have c12b0 := eq_true c12
           have c12b1 : decide (0 ≤ (ji11)) = true := decide_eq_true c12
           clear c12
           by_cases c13 : (ji11) ≤ (wrap64 (x3_2 + 2))
           ·rw [if_pos c13] at H
            have c13b0 := eq_true c13
            have c13b1 : decide ((ji11) ≤ (wrap64 (x3_2 + 2))) = true := decide_eq_true c13
            by_cases c14 : (wrap64 (x3_2 + 2)) ≤ (a0.size : Int)
            ·rw [if_pos c14] at H
             have c14b0 := eq_true c14
             have c14b1 : decide ((wrap64 (x3_2 + 2)) ≤ (a0.size : Int)) = true := decide_eq_true c14
             replace H := Option.bind_eq_some_iff.mp H
             obtain ⟨t632, A150, H⟩ := H
             replace H : (if t632 < 0 then (some false) else (qfA.l0 k2 a0 (wrap64 (x3_2 + 2)))) = some r := H
             have A15 := Aside0.mk A150
             clear A150
             by_cases c16 : t632 < 0
             ·rw [if_pos c16] at H
              have c16b0 : decide (t632 < 0) = true := decide_eq_true c16
              clear c16
              obtain rfl := Option.some.inj H
              have p7 : 0 ≤ (x3_2 : Int) := of_decide_eq_true (by first | (with_reducible assumption) | assumption)
              have q7 : x3_2 < (a0.size : Int) := of_decide_eq_true (by first | (with_reducible assumption) | assumption)
              have hx7 := bt_at a0 x3_2
              replace p7 := eq_true p7
              replace q7 := eq_true q7
              have p9 : 0 ≤ (x3_2 : Int) := of_decide_eq_true (by first | (with_reducible assumption) | assumption)
              have q9 : x3_2 < (a0.size : Int) := of_decide_eq_true (by first | (with_reducible assumption) | assumption)
              have hx9 := bt_at a0 x3_2
              replace p9 := eq_true p9
              replace q9 := eq_true q9
              go_wp2_with (first | (go_at_call 48; (with_reducible refine (qjA.calls k2 (a0.extract ((ji11) : Int).toNat ((wrap64 (x3_2 + 2)) : Int).toNat) t632 _ A15.out).mono ?_); rintro e w' ⟨rfl, ⟨nd, rfl⟩⟩))
              go_ret
              exact ⟨by first | rfl | (simp; done) | (simp only [← hji11] <;> (first | rfl | simp)) | (simp [*]; done), by repeat (first | exact Drawn0.refl _ | apply Drawn0.step)⟩
             ·rw [if_neg c16] at H
              have c16b0 : decide (t632 < 0) = false := decide_eq_false c16
              clear c16
              have H' := Aside0.mk H
              clear H
              have p7 : 0 ≤ (x3_2 : Int) := of_decide_eq_true (by first | (with_reducible assumption) | assumption)
              have q7 : x3_2 < (a0.size : Int) := of_decide_eq_true (by first | (with_reducible assumption) | assumption)
              have hx7 := bt_at a0 x3_2
              replace p7 := eq_true p7
              replace q7 := eq_true q7
              have p9 : 0 ≤ (x3_2 : Int) := of_decide_eq_true (by first | (with_reducible assumption) | assumption)
              have q9 : x3_2 < (a0.size : Int) := of_decide_eq_true (by first | (with_reducible assumption) | assumption)
              have hx9 := bt_at a0 x3_2
              replace p9 := eq_true p9
              replace q9 := eq_true q9
              go_wp2_with (first | (go_at_call 48; (with_reducible refine (qjA.calls k2 (a0.extract ((ji11) : Int).toNat ((wrap64 (x3_2 + 2)) : Int).toNat) t632 _ A15.out).mono ?_); rintro e w' ⟨rfl, ⟨nd, rfl⟩⟩))
              go_roundg k2
              case measure => have := HJ1.out; have := HK2.out; omega
              case rel => exact ⟨(wrap64 (x3_2 + 2)), (by first | rfl | (simp; done) | (simp [*]; done)), H', ⟨by have := HJ1.out; have := HK2.out; omega⟩, by repeat (first | exact Drawn0.refl _ | apply Drawn0.step)⟩
            ·rw [if_neg c14] at H
             exact absurd H (by simp)
           ·rw [if_neg c13] at H
            exact absurd H (by simp)
          ·rw [if_neg c12] at H
           exact absurd H (by simp)
       ·rw [if_neg c6] at H
        exact absurd H (by simp)
      ·rw [if_neg c5] at H
       have c5b0 : decide (x3_2 < (a0.size : Int)) = false := decide_eq_false c5
       clear c5
       obtain rfl := Option.some.inj H
       go_wp2
       go_ret
       exact ⟨by first | rfl | (simp; done) | (simp [*]; done), by repeat (first | exact Drawn0.refl _ | apply Drawn0.step)⟩
mutual
def qr.j0 : Nat → List (S57) → ByteArray → Bool → Int → Int → List Int → Option ((List (S57)) × Bool)
 | 0, _, _, _, _, _, _ => none
 | k + 1, x1, x2, x27, x640000, x640001, x640002 => if x27 = true then (some (([] : List (S57)), false)) else ((some (([] : List (S57)) : List (S57))).bind fun y641 => (if y641.length + x1.length < 2199023255552 then (qr.l0 k x1 x2 (y641 ++ x1) 0 x640000 x640001 x640002) else (none)))
def qr.l0 : Nat → List (S57) → ByteArray → List (S57) → Int → Int → Int → List Int → Option ((List (S57)) × Bool)
 | 0, _, _, _, _, _, _, _ => none
 | k + 1, x1, x2, x10, x11, x640000, x640001, x640002 => if x11 < (x2.size : Int) then (if 0 ≤ x11 then (if (((bt x2 x11) - 48) % 256) ≥ (x1.length : Int) then (some (([] : List (S57)), false)) else (if 0 ≤ (wrap64 (x11 + 1)) then (if (wrap64 (x11 + 1)) ≤ (wrap64 (x11 + 2)) then (if (wrap64 (x11 + 2)) ≤ (x2.size : Int) then ((qjA.f k (x2.extract ((wrap64 (x11 + 1)) : Int).toNat ((wrap64 (x11 + 2)) : Int).toNat)).bind fun t647 => ((qcA.f k x640000 x640001 x640002 x10 (((bt x2 x11) - 48) % 256) t647).bind fun bt648 => (if bt648.2 = true then (qr.l0 k x1 x2 bt648.1 (wrap64 (x11 + 2)) x640000 x640001 x640002) else (some (([] : List (S57)), false))))) else (none)) else (none)) else (none))) else (none)) else (some (x10, true))
end
def qr.f (k : Nat) (a0 : ByteArray) (l1 : List (S57)) (a2 : ByteArray) : Option ((List (S57)) × Bool) := (qRA.f k a0 l1).bind fun bt633 => (if bt633.2.2.2 = true then ((qfA.f k a2).bind fun t640 => (qr.j0 k l1 a2 (!t640) bt633.1 bt633.2.1 bt633.2.2.1)) else (qr.j0 k l1 a2 true bt633.1 bt633.2.1 bt633.2.2.1))
def qr.T11 : Bool × List (List Nat × List Nat) := (true, [([], []), ([], []), ([], []), ([], []), ([], []), ([4], [4]), ([], []), ([6], [6]), ([3, 5, 7], [3, 5, 7]), ([8], [8]), ([0, 1, 2, 9, 9], [0, 1, 2, 9]), ([10], [10]), ([11], [11]), ([11], [11]), ([12, 10, 0, 1, 2, 3, 4, 5, 6, 7, 8, 9, 10, 11, 12], [12]), ([13, 14, 0, 1, 2, 3, 4, 5, 6, 7, 8, 9, 10, 11, 12, 13, 14], [13])])
def qr.B11 : List Nat := [0, 0, 0, 0, 0, 16, 0, 64, 248, 504, 1023, 2047, 4095, 4095, 8191, 32767]
theorem qr.tab11 : rtab .any (opsOf Tryd.f34 11) = qr.T11 := by kernel_rfl
theorem qr.bits11 : waitsOk qr.T11.2 qr.B11 = true := by kernel_rfl
set_option maxHeartbeats 8000000 in
set_option maxRecDepth 100000 in
theorem qr.calls (k : Nat) (a0 : ByteArray) (A1 : Option Addr) (c1 : Nat) (l1 : List (S57)) (a2 : ByteArray) (r1 : List (S57)) (r2 : Bool) (w : World) (hr1 : Kd.C k57 w A1 l1.length l1) (hc1 : l1.length ≤ c1) (h : qr.f k a0 l1 a2 = some (r1, r2)) :
  Calls Tryd.prog 34 #[.string a0, .slice A1 l1.length c1, .string a2] w fun e w' => ∃ v0_ : Value, e = .returned (.tuple #[v0_, .bool r2]) ∧ Kd.R k57 57 w' w.heap.size (fun _ => True) v0_ r1 ∧ Below w.heap.size w w' := by
 have hu50 := Tryd.underlying50
 have HR1 := Aside0.mk hr1
 have HC1 := Aside0.mk hc1
 clear hr1 hc1
 have HB := Aside0.mk (Below.refl w.heap.size w)
 have H : ((qRA.f k a0 l1).bind fun bt633 => (if bt633.2.2.2 = true then ((qfA.f k a2).bind fun t640 => (qr.j0 k l1 a2 (!t640) bt633.1 bt633.2.1 bt633.2.2.1)) else (qr.j0 k l1 a2 true bt633.1 bt633.2.1 bt633.2.2.1))) = some (r1, r2) := h
 clear h
 replace H := Option.bind_eq_some_iff.mp H
 obtain ⟨⟨t633, t634, t635, t638⟩, A40, H⟩ := H
 replace H : (if t638 = true then ((qfA.f k a2).bind fun t640 => (qr.j0 k l1 a2 (!t640) t633 t634 t635)) else (qr.j0 k l1 a2 true t633 t634 t635)) = some (r1, r2) := H
 have A4 := Aside0.mk A40
 clear A40
 have HC5 := Aside0.mk H
 clear H
 go_enter Tryd.func34, Tryd.ntmps34
 go_upto_region 2 with (first | ((with_reducible refine qL (f := 44) rfl ?_); refine qh (some 18) rfl rfl Tryd.func44 (by kernel_rfl) rfl #[.string a0, .slice A1 l1.length c1] rfl (by (try simp only [List.map_toArray, List.map_cons, List.map_nil]); first | done | rfl | (simp only [List.length_drop, List.length_take]; rfl)) ?_; (with_reducible refine (qRA.calls k a0 _ _ l1 t633 t634 t635 t638 _ ?side1 ?side2 A4.out).mono ?_); (case side1 => repeat (first | exact HR1.out | (with_reducible refine Kd.qa ?_ _) | (with_reducible refine Kd.qZ ?_ _) | (with_reducible refine Kd.qe ?_))); (case side2 => exact HC1.out); rintro e w6 ⟨v636, rfl, ho0, hb⟩; refine ⟨_, rfl, ?_⟩; have n0_ := Aside0.mk (Kd.qDA ho0 (qb bl)); have n1_ := Aside0.mk (qG bl hb); clear HB; have HO637 := n0_; have HB := n1_; clear n0_ n1_; (try clear hb); (try clear hb2); (try clear hk); (try clear hi); (try clear ho0)) | ((with_reducible refine qg (N := 8) rfl ?_); refine qd ?hg (N := 8) ?hd (cs := #[.int .i64 0, .int .i64 0, .slice none 0 0]) (t := 50) ?hr ?_; (case hd => rfl); (case hg => rfl); (case hr => first | (go_simp; done) | (go_simp; rfl)); intro gb639 hg w7 hbox hb; have n0_ := Aside0.mk (Kd.qc (by (with_reducible repeat (first | apply Kd.qK | apply Kd.qJ | apply Kd.qO)); exact HO637.out) hb); have n1_ := Aside0.mk (qG bl hb); have n2_ := Aside0.mk (hbox); have n3_ := Aside0.mk ((gg hg)); have n4_ := Aside0.mk ((gg hg)); clear HO637; clear HB; have HO637 := n0_; have HB := n1_; have BK639 := n2_; have GW639 := n3_; have GE639 := n4_; clear n0_ n1_ n2_ n3_ n4_; clear hb hbox hg; have hcz8_0 := bc BK639 0; have hcz8_1 := bc BK639 1; have hcz8_2 := bc BK639 2; have hfz8_0 := qA BK639.out 0; have hfz8_1 := qA BK639.out 1; have hfz8_2 := qA BK639.out 2; obtain ⟨Ao9, co9, eo9⟩ := Kd.qt HO637.out; subst eo9))
 (try simp only [Act.put, List.setIfInBounds_toArray, List.set_cons_zero, List.set_cons_succ])
 go_cut [27] (fun v27 wc => ∃ (kq : Nat) (x27_4 : Bool), v27 = .bool x27_4 ∧ Aside0 (qr.j0 kq l1 a2 x27_4 t633 t634 t635 = some (r1, r2)) ∧ Aside0 (kq ≤ k) ∧ Aside0 (Kd.R (Kd.int .u8) 5 wc w.heap.size (fun _ => True) (.slice Ao9 t635.length co9) t635) ∧ Aside0 (wc.heap[gb639]? = some (.cells #[.int .i64 t633, .int .i64 t634, (.slice Ao9 t635.length co9)] 50 (0, 0))) ∧ Aside0 (Below w.heap.size w wc))
 case first =>
  have H := HC5.out
  clear HC5
  by_cases c10 : t638 = true
  ·subst c10
   have H1 : ((qfA.f k a2).bind fun t640 => (qr.j0 k l1 a2 (!t640) t633 t634 t635)) = some (r1, r2) := by rw [if_pos rfl] at H; exact H
   clear H
   have H := H1
   clear H1
   replace H := Option.bind_eq_some_iff.mp H
   obtain ⟨t640, A110, H⟩ := H
   replace H : (qr.j0 k l1 a2 (!t640) t633 t634 t635) = some (r1, r2) := H
   have A11 := Aside0.mk A110
   clear A110
   have H' := Aside0.mk H
   clear H
   go_wp2_with (first | (go_at_call 57; (with_reducible refine (qfA.calls k a2 t640 _ A11.out).mono ?_); rintro e w' ⟨rfl, ⟨nd, rfl⟩⟩))
   go_meet
   case rel => exact ⟨_, (!t640), (by first | rfl | (simp; done) | (simp [*]; done)), H', ⟨by first | omega | exact Nat.le_refl _⟩, ⟨by (with_reducible repeat (first | apply Kd.qK | apply Kd.qJ | apply Kd.qO)); exact Kd.qGA (Kd.R_far (p := ⟨gb639, 2, none⟩) (Kd.R_far (p := ⟨gb639, 1, none⟩) (Kd.R_far (p := ⟨gb639, 0, none⟩) (Kd.qvA HO637.out BK639.out (by decide)) (fun _ hk => hk.2) (.int .i64 t633)) (fun _ hk => hk.2) (.int .i64 t634)) (fun _ hk => hk.2) (.slice Ao9 t635.length co9)) (fun _ hk => trivial)⟩, ⟨by (with_reducible repeat (first | refine qE ?_ _ | refine qF ?_ | refine qD ?_ _)); refine qN (cs := #[.int .i64 t633, .int .i64 t634, .slice none 0 0]) ?_ 2 _ rfl; (with_reducible repeat (first | refine qE ?_ _ | refine qF ?_ | refine qD ?_ _)); refine qN (cs := #[.int .i64 t633, .int .i64 0, .slice none 0 0]) ?_ 1 _ rfl; (with_reducible repeat (first | refine qE ?_ _ | refine qF ?_ | refine qD ?_ _)); refine qN (cs := #[.int .i64 0, .int .i64 0, .slice none 0 0]) ?_ 0 _ rfl; (with_reducible repeat (first | refine qE ?_ _ | refine qF ?_ | refine qD ?_ _)); exact BK639.out⟩, ⟨bl⟩⟩
  ·replace c10 := Bool.eq_false_iff.mpr c10
   subst c10
   have H1 : (qr.j0 k l1 a2 true t633 t634 t635) = some (r1, r2) := by rw [if_neg (show ¬ (false = true) by decide)] at H; exact H
   clear H
   have H := H1
   clear H1
   have H' := Aside0.mk H
   clear H
   go_wp2
   go_meet
   case rel => exact ⟨_, (true), (by first | rfl | (simp; done) | (simp [*]; done)), H', ⟨by first | omega | exact Nat.le_refl _⟩, ⟨by (with_reducible repeat (first | apply Kd.qK | apply Kd.qJ | apply Kd.qO)); exact Kd.qGA (Kd.R_far (p := ⟨gb639, 2, none⟩) (Kd.R_far (p := ⟨gb639, 1, none⟩) (Kd.R_far (p := ⟨gb639, 0, none⟩) (Kd.qvA HO637.out BK639.out (by decide)) (fun _ hk => hk.2) (.int .i64 t633)) (fun _ hk => hk.2) (.int .i64 t634)) (fun _ hk => hk.2) (.slice Ao9 t635.length co9)) (fun _ hk => trivial)⟩, ⟨by (with_reducible repeat (first | refine qE ?_ _ | refine qF ?_ | refine qD ?_ _)); refine qN (cs := #[.int .i64 t633, .int .i64 t634, .slice none 0 0]) ?_ 2 _ rfl; (with_reducible repeat (first | refine qE ?_ _ | refine qF ?_ | refine qD ?_ _)); refine qN (cs := #[.int .i64 t633, .int .i64 0, .slice none 0 0]) ?_ 1 _ rfl; (with_reducible repeat (first | refine qE ?_ _ | refine qF ?_ | refine qD ?_ _)); refine qN (cs := #[.int .i64 0, .int .i64 0, .slice none 0 0]) ?_ 0 _ rfl; (with_reducible repeat (first | refine qE ?_ _ | refine qF ?_ | refine qD ?_ _)); exact BK639.out⟩, ⟨bl⟩⟩
 case rest =>
  clear HC5
  try clear c1
  try clear p2
  try clear c3
  try clear c4
  try clear c10
  try clear hcz8_0
  try clear hcz8_1
  try clear hcz8_2
  try clear hfz8_0
  try clear hfz8_1
  try clear hfz8_2
  obtain ⟨kq, x27_4, rfl, HA, HJ4, HO_640002, BK639, HB⟩ := hcut
  cases kq with
  | zero => exact absurd HA.out (by simp [qr.j0])
  | succ kj4 =>
   have H := HA.out
   clear HA
   simp only [qr.j0] at H
   by_cases c12 : x27_4 = true
   ·subst c12
    have H1 : (some (([] : List (S57)), false)) = some (r1, r2) := by rw [if_pos rfl] at H; exact H
    clear H
    have H := H1
    clear H1
    simp only [Option.some.injEq, Prod.mk.injEq] at H
    obtain ⟨rfl, rfl⟩ := H
    go_wp2
    go_ret2
    exact ⟨_, by first | rfl | (simp [qI, qH] <;> rfl) | (simp [*, qI, qH] <;> rfl), by first | exact Kd.R_nil _ _ _ _ _ | exact Kd.N_nil _ _ _ _ _ | exact Kd.V_nil _ _ _ _ _ | exact Kd.Q_nil _ _ _ _ _ | exact Kd.S_nil _ _ _ _ _, bl⟩
   ·replace c12 := Bool.eq_false_iff.mpr c12
    subst c12
    have H1 : ((some (([] : List (S57)) : List (S57))).bind fun y641 => (if y641.length + l1.length < 2199023255552 then (qr.l0 kj4 l1 a2 (y641 ++ l1) 0 t633 t634 t635) else (none))) = some (r1, r2) := by rw [if_neg (show ¬ (false = true) by decide)] at H; exact H
    clear H
    have H := H1
    clear H1
    obtain ⟨y641, hy641⟩ : ∃ y_ : List (S57), y_ = (([] : List (S57))) := ⟨_, rfl⟩
    replace H : (if y641.length + l1.length < 2199023255552 then (qr.l0 kj4 l1 a2 (y641 ++ l1) 0 t633 t634 t635) else (none)) = some (r1, r2) := by first | (rw [hy641]; with_reducible exact H) | (have H2_ := (Option.bind_some _ _).symm.trans H; rw [hy641]; with_reducible exact H2_) | (have H2_ := (Option.bind_some _ _).symm.trans H; with_reducible exact H2_) | with_reducible exact H | (rw [hy641]; exact H) | exact H
    have Ny641 := Aside0.mk hy641
    clear hy641
    by_cases c13 : y641.length + l1.length < 2199023255552
    ·rw [if_pos c13] at H
     have LMc13 := Aside0.mk c13
     clear c13
     obtain ⟨y644, hy644⟩ : ∃ y_ : List (S57), y_ = (y641 ++ l1) := ⟨_, rfl⟩
     replace H : (qr.l0 kj4 l1 a2 y644 0 t633 t634 t635) = some (r1, r2) := by first | (rw [hy644]; with_reducible exact H) | (have H2_ := (Option.bind_some _ _).symm.trans H; rw [hy644]; with_reducible exact H2_) | (have H2_ := (Option.bind_some _ _).symm.trans H; with_reducible exact H2_) | with_reducible exact H | (rw [hy644]; exact H) | exact H
     have Ny644 := Aside0.mk hy644
     clear hy644
     have H' := Aside0.mk H
     clear H
     go_wp2_with (first | ((with_reducible refine qg (N := 28) rfl ?_); refine Kd.R_lit k57 _ 57 ?hg (N := 28) ?hd (xs := ([] : List (S57))) (inner := []) (ok := fun _ => True) (okp := fun _ => True) ?hr ?hp (fun _ hk => hk) trivial (Below.refl _ _) (Nat.le_refl _) (by simp) ?_; (case hd => rfl); (case hg => rfl); (case hr => first | (go_simp; done) | (go_simp; rfl)); (case hp => exact (Reps.none _ _)); intro v642 w14 ho15 hb hg_ hnew_; clear hg_ hnew_; (first | rw [← Ny641.out] at ho15 | (simp only [Int.reduceToNat] at ho15; rw [← Ny641.out] at ho15)); have n0_ := Aside0.mk (Kd.qc (by (with_reducible repeat (first | apply Kd.qK | apply Kd.qJ | apply Kd.qO)); exact HO_640002.out) hb); have n1_ := Aside0.mk (Kd.qDA ho15 (qb bl)); have n2_ := Aside0.mk (bb BK639 hb); have n3_ := Aside0.mk (qG bl hb); clear HO_640002; clear BK639; clear HB; have HO_640002 := n0_; have HO643 := n1_; have BK639 := n2_; have HB := n3_; clear n0_ n1_ n2_ n3_; clear hb ho15) | ((with_reducible refine qoB (b := .append) (xs := #[.tmp 28, .tmp 29]) rfl ?_); at_builtin; refine Kd.qrC k57 (w0 := w) w.heap.size rfl (.tmp 28) (.tmp 29) 26 57 (.agg #[(.int .i64 0), (.int .i64 0), (.int .i64 0), (.int .i64 0), (.int .i64 0), (.int .i64 0), (.int .i64 0), (.int .i64 0)]) 64 rfl Tryd.underlying26 info57 rfl (by decide) (by omega) v642 y641 l1 _ _ _ (fun _ => True) (fun _ => False) rfl rfl ?aO ?aR (fun _ _ h => h) (fun _ h => h.elim) ?aF ?aB ?aS ?aL ?_; (case aR => repeat (first | exact (Kd.qWA HR1.out HB.out) | (with_reducible refine Kd.qa ?_ _) | (with_reducible refine Kd.qZ ?_ _) | (with_reducible refine Kd.qe ?_))); (case aB => exact bl); (case aF => exact (fun _ _ => trivial)); (case aO => exact (by (with_reducible repeat (first | apply Kd.qK | apply Kd.qJ | apply Kd.qO)); exact HO643.out)); (case aS => exact (qb bl)); (case aL => have := LMc13.out; omega); intro v645 w16 ho hb hg hat; rw [← Ny644.out] at ho; have n0_ := Aside0.mk (Kd.qDD (by (with_reducible repeat (first | apply Kd.qK | apply Kd.qJ | apply Kd.qO)); exact HO_640002.out) (Kd.qXC (by (with_reducible repeat (first | apply Kd.qK | apply Kd.qJ | apply Kd.qO)); exact HO643.out)) (by decide) hg); have n1_ := Aside0.mk (qqB (g := gb639) (o := .cells #[.int .i64 t633, .int .i64 t634, .slice Ao9 t635.length co9] 50 (0, 0)) (by (with_reducible repeat (first | refine qE ?_ _ | refine qF ?_ | refine qD ?_ _)); exact BK639.out) hg (Kd.R_ne HO643.out BK639.out (by decide))); have n2_ := Aside0.mk (hb); have n3_ := Aside0.mk (ho); clear HO_640002; clear BK639; clear HB; clear HO643; have HO_640002 := n0_; have BK639 := n1_; have HB := n2_; have HO646 := n3_; clear n0_ n1_ n2_ n3_; clear ho hb hg hat))
     go_loopg [10, 11] kj4 (fun kq v10 v11 w' => ∃ (x10_2 : List (S57)) (x11_2 : Int), v11 = .int .i64 x11_2 ∧ Aside0 (qr.l0 kq l1 a2 x10_2 x11_2 t633 t634 t635 = some (r1, r2)) ∧ Aside0 (kq ≤ kj4) ∧ Aside0 (Kd.R k57 57 w' w.heap.size (fun _ => True) v10 x10_2) ∧ Aside0 (Kd.R (Kd.int .u8) 5 w' w.heap.size (fun _ => True) (.slice Ao9 t635.length co9) t635) ∧ Aside0 (w'.heap[gb639]? = some (.cells #[.int .i64 t633, .int .i64 t634, (.slice Ao9 t635.length co9)] 50 (0, 0))) ∧ Aside0 (Below w.heap.size w w'))
     case atStart => exact ⟨(y644), (0), (by first | rfl | (simp; done) | (simp [*]; done)), H', ⟨Nat.le_refl _⟩, ⟨by (with_reducible repeat (first | apply Kd.qK | apply Kd.qJ | apply Kd.qO)); exact HO646.out⟩, ⟨by (with_reducible repeat (first | apply Kd.qK | apply Kd.qJ | apply Kd.qO)); exact HO_640002.out⟩, ⟨by (with_reducible repeat (first | refine qE ?_ _ | refine qF ?_ | refine qD ?_ _)); exact BK639.out⟩, ⟨bl⟩⟩
     case round =>
      clear H'
      try clear c1
      try clear p2
      try clear c3
      try clear c4
      try clear c10
      try clear c12
      try clear c13
      try clear hcz8_0
      try clear hcz8_1
      try clear hcz8_2
      try clear hfz8_0
      try clear hfz8_1
      try clear hfz8_2
      try clear p2
      obtain ⟨x10_2, x11_2, rfl, HA, HK2, HO_10, HO_640002, BK639, HB⟩ := hrel
      cases gk with
      | zero => exact absurd HA.out (by simp [qr.l0])
      | succ k2 =>
       have H := HA.out
       clear HA
       simp only [qr.l0] at H
       by_cases c17 : x11_2 < (a2.size : Int)
       ·rw [if_pos c17] at H
        have c17b0 : decide (x11_2 < (a2.size : Int)) = true := decide_eq_true c17
        clear c17
        by_cases c18 : 0 ≤ x11_2
        ·rw [if_pos c18] at H
         have c18b0 : decide (0 ≤ x11_2) = true := decide_eq_true c18
         clear c18
         by_cases c20 : (((bt a2 x11_2) - 48) % 256) ≥ (l1.length : Int)
         ·rw [if_pos c20] at H
          have c20b0 : decide ((l1.length : Int) ≤ (((bt a2 x11_2) - 48) % 256)) = true := decide_eq_true c20
          clear c20
          simp only [Option.some.injEq, Prod.mk.injEq] at H
          obtain ⟨rfl, rfl⟩ := H
          have p19 : 0 ≤ (x11_2 : Int) := of_decide_eq_true (by first | (with_reducible assumption) | assumption)
          have q19 : x11_2 < (a2.size : Int) := of_decide_eq_true (by first | (with_reducible assumption) | assumption)
          have hx19 := bt_at a2 x11_2
          replace p19 := eq_true p19
          replace q19 := eq_true q19
          go_wp2
          go_ret2
          exact ⟨_, by first | rfl | (simp [qI, qH] <;> rfl) | (simp [*, qI, qH] <;> rfl), by first | exact Kd.R_nil _ _ _ _ _ | exact Kd.N_nil _ _ _ _ _ | exact Kd.V_nil _ _ _ _ _ | exact Kd.Q_nil _ _ _ _ _ | exact Kd.S_nil _ _ _ _ _, bl⟩
         ·rw [if_neg c20] at H
          have c20b0 : decide ((l1.length : Int) ≤ (((bt a2 x11_2) - 48) % 256)) = false := decide_eq_false c20
          clear c20
          obtain ⟨ji21, hji21⟩ : ∃ j_ : Int, (wrap64 (x11_2 + 1)) = j_ := ⟨_, rfl⟩
          replace H : (if 0 ≤ (ji21) then (if (ji21) ≤ (wrap64 (x11_2 + 2)) then (if (wrap64 (x11_2 + 2)) ≤ (a2.size : Int) then ((qjA.f k2 (a2.extract ((ji21) : Int).toNat ((wrap64 (x11_2 + 2)) : Int).toNat)).bind fun t647 => ((qcA.f k2 t633 t634 t635 x10_2 (((bt a2 x11_2) - 48) % 256) t647).bind fun bt648 => (if bt648.2 = true then (qr.l0 k2 l1 a2 bt648.1 (wrap64 (x11_2 + 2)) t633 t634 t635) else (some (([] : List (S57)), false))))) else (none)) else (none)) else (none)) = some (r1, r2) := by first | (rw [hji21] at H; exact H) | (simp only [hji21] at H ⊢; exact H)
          have hji21w : (IntKind.i64.wrap (x11_2 + 1)) = ji21 := (i64_w _).trans hji21
          by_cases c22 : 0 ≤ (ji21)
          ·rw [if_pos c22] at H
           have c22b0 := eq_true c22
           have c22b1 : decide (0 ≤ (ji21)) = true := decide_eq_true c22
           clear c22
           by_cases c23 : (ji21) ≤ (wrap64 (x11_2 + 2))
           ·rw [if_pos c23] at H
            have c23b0 := eq_true c23
            have c23b1 : decide ((ji21) ≤ (wrap64 (x11_2 + 2))) = true := decide_eq_true c23
            by_cases c24 : (wrap64 (x11_2 + 2)) ≤ (a2.size : Int)
            ·rw [if_pos c24] at H
             have c24b0 := eq_true c24
             have c24b1 : decide ((wrap64 (x11_2 + 2)) ≤ (a2.size : Int)) = true := decide_eq_true c24
             replace H := Option.bind_eq_some_iff.mp H
             obtain ⟨t647, A250, H⟩ := H
             replace H : ((qcA.f k2 t633 t634 t635 x10_2 (((bt a2 x11_2) - 48) % 256) t647).bind fun bt648 => (if bt648.2 = true then (qr.l0 k2 l1 a2 bt648.1 (wrap64 (x11_2 + 2)) t633 t634 t635) else (some (([] : List (S57)), false)))) = some (r1, r2) := H
             have A25 := Aside0.mk A250
             clear A250
             replace H := Option.bind_eq_some_iff.mp H
             obtain ⟨⟨t648, t651⟩, A260, H⟩ := H
             replace H : (if t651 = true then (qr.l0 k2 l1 a2 t648 (wrap64 (x11_2 + 2)) t633 t634 t635) else (some (([] : List (S57)), false))) = some (r1, r2) := H
             have A26 := Aside0.mk A260
             clear A260
             by_cases c27 : t651 = true
             ·subst c27
              have H1 : (qr.l0 k2 l1 a2 t648 (wrap64 (x11_2 + 2)) t633 t634 t635) = some (r1, r2) := by rw [if_pos rfl] at H; exact H
              clear H
              have H := H1
              clear H1
              have H' := Aside0.mk H
              clear H
              have p19 : 0 ≤ (x11_2 : Int) := of_decide_eq_true (by first | (with_reducible assumption) | assumption)
              have q19 : x11_2 < (a2.size : Int) := of_decide_eq_true (by first | (with_reducible assumption) | assumption)
              have hx19 := bt_at a2 x11_2
              replace p19 := eq_true p19
              replace q19 := eq_true q19
              try go_wp2
              have n0_ := Aside0.mk (Kd.qO HO_10.out)
              have n1_ := Aside0.mk (Kd.qO HO_640002.out)
              have n2_ := Aside0.mk (qF BK639.out)
              have n3_ := Aside0.mk (qp HB.out)
              clear HO_10
              clear HO_640002
              clear BK639
              clear HB
              have HO_10 := n0_
              have HO_640002 := n1_
              have BK639 := n2_
              have HB := n3_
              clear n0_ n1_ n2_ n3_
              refine qDC (n := 16) (S := fun w' => w'.cell? ⟨gb639, 0, none⟩ = some (.int .i64 t633) ∧ w'.cell? ⟨gb639, 1, none⟩ = some (.int .i64 t634) ∧ w'.cell? ⟨gb639, 2, none⟩ = some (.slice Ao9 t635.length co9)) (ds := []) #[false, false, false, false, false, false, false, false, false, false, false, false, false, false, false, false] (by kernel_rfl) rfl rfl ⟨(qY BK639.out 0).trans rfl, (qY BK639.out 1).trans rfl, (qY BK639.out 2).trans rfl⟩ (fun hHeld => ?_); refine qJB qr.tab11 qr.bits11 (fun HT_ HW_ => ?_)
              generalize wr.drew = w28 at HO_10 HO_640002 BK639 HB hHeld ⊢
              refine pS (i := 1) (N := some 48) #[false, true, false, false, false, false, false, false, false, false, false, false, false, false, false, false] HT_ ?_
              refine pS (i := 2) (N := some 49) #[false, true, true, false, false, false, false, false, false, false, false, false, false, false, false, false] HT_ ?_
              refine pS (i := 3) (N := some 50) #[false, true, true, true, false, false, false, false, false, false, false, false, false, false, false, false] HT_ ?_
              refine pS (i := 4) (N := some 51) #[false, true, true, true, true, false, false, false, false, false, false, false, false, false, false, false] HT_ ?_
              refine pS (i := 5) (N := some 52) #[false, true, true, true, true, true, false, false, false, false, false, false, false, false, false, false] HT_ ?_
              refine pS (i := 6) (N := some 53) #[false, true, true, true, true, true, true, false, false, false, false, false, false, false, false, false] HT_ ?_
              refine pS (i := 7) (N := some 54) #[false, true, true, true, true, true, true, true, false, false, false, false, false, false, false, false] HT_ ?_
              refine pS (i := 8) (N := some 55) #[false, true, true, true, true, true, true, true, true, false, false, false, false, false, false, false] HT_ ?_
              refine tS (i := 0) (N := some 47) #[true, true, true, true, true, true, true, true, true, false, false, false, false, false, false, false] HT_ HW_ hHeld ?_
              refine one_ (i := 9) (N := some 56) #[true, true, true, true, true, true, true, true, true, true, false, false, false, false, false, false] rfl rfl (qNB HT_.out (by kernel_rfl)) (by decide) (fun K hK => ?_)
              refine goes_ Tryd.func48 (by kernel_rfl) rfl #[.string (a2.extract ((ji21) : Int).toNat ((wrap64 (x11_2 + 2)) : Int).toNat)] (by rfl) rfl rfl (by (try simp only [List.map_toArray, List.map_cons, List.map_nil]); first | done | (simp only [hji21]; rfl) | rfl | (simp only [List.length_drop, List.length_take]; rfl)) ?_
              with_reducible refine (qjA.calls k2 (a2.extract ((ji21) : Int).toNat ((wrap64 (x11_2 + 2)) : Int).toNat) t647 _ A25.out).mono ?_
              rintro e w' ⟨rfl, ⟨nd, rfl⟩⟩
              refine ⟨_, rfl, ?_⟩
              obtain ⟨Ao29, co29, eo29⟩ := Kd.qt HO_10.out
              (first | subst eo29 | (injection eo29 with f1_ f2_ f3_; have f4_ := f1_.symm; have f5_ := f3_.symm; clear f1_ f2_ f3_; subst f4_; subst f5_))
              refine hK.out _ _ ⟨(qY BK639.out 0).trans rfl, (qY BK639.out 1).trans rfl, (qY BK639.out 2).trans rfl⟩ (fun hHeld => ?_)
              clear hK K
              refine norm_ (a' := ?_) ?_ ?_
              rotate_left
              ·show Act.put _ (some 56) _ = _
               simp only [Act.put, List.setIfInBounds_toArray, List.set_cons_zero, List.set_cons_succ, i64_w, i32_w]
               rfl
              refine one_ (i := 10) (N := some 57) #[true, true, true, true, true, true, true, true, true, true, true, false, false, false, false, false] rfl rfl (qNB HT_.out (by kernel_rfl)) (by decide) (fun K hK => ?_)
              refine goes_ Tryd.func49 (by kernel_rfl) rfl #[.agg #[.int .i64 t633, .int .i64 t634, .slice Ao9 t635.length co9], .slice Ao29 x10_2.length co29, .int .i64 (((bt a2 x11_2) - 48) % 256), .int .i64 t647] (by rfl) rfl rfl (by (try simp only [List.map_toArray, List.map_cons, List.map_nil]); first | done | rfl | (simp only [List.length_drop, List.length_take]; rfl)) ?_
              with_reducible refine (qcA.calls k2 t633 t634 _ _ t635 _ _ x10_2 (((bt a2 x11_2) - 48) % 256) t647 t648 true _ ?side1 ?side2 ?side3 ?side4 A26.out).mono ?_
              (case side1 => repeat (first | exact (Kd.qM HO_640002.out).2.2 | (with_reducible refine Kd.qa ?_ _) | (with_reducible refine Kd.qZ ?_ _) | (with_reducible refine Kd.qe ?_)))
              (case side2 => exact (Kd.qM HO_640002.out).2.1)
              (case side3 => repeat (first | exact (Kd.qM HO_10.out).2.2 | (with_reducible refine Kd.qa ?_ _) | (with_reducible refine Kd.qZ ?_ _) | (with_reducible refine Kd.qe ?_)))
              (case side4 => exact (Kd.qM HO_10.out).2.1)
              rintro e w30 ⟨v649, rfl, ho0, hb⟩
              refine ⟨_, rfl, ?_⟩
              have n0_ := Aside0.mk (Kd.qYA (by (with_reducible repeat (first | apply Kd.qK | apply Kd.qJ | apply Kd.qO)); exact HO_10.out) (Kd.qnA ho0) hb)
              have n1_ := Aside0.mk (Kd.qc (by (with_reducible repeat (first | apply Kd.qK | apply Kd.qJ | apply Kd.qO)); exact HO_640002.out) hb)
              have n2_ := Aside0.mk (Kd.qDA (Kd.qmA ho0 (Kd.R_lt (by (with_reducible repeat (first | apply Kd.qK | apply Kd.qJ | apply Kd.qO)); exact HO_10.out))) (qb bl))
              have n3_ := Aside0.mk (bb BK639 hb)
              have n4_ := Aside0.mk (qG bl hb)
              clear HO_10
              clear HO_640002
              clear BK639
              clear HB
              have HO_10 := n0_
              have HO_640002 := n1_
              have HO650 := n2_
              have BK639 := n3_
              have HB := n4_
              clear n0_ n1_ n2_ n3_ n4_
              (try clear hb)
              (try clear hb2)
              (try clear hk)
              (try clear hi)
              (try clear ho0)
              refine hK.out _ _ ⟨(qY BK639.out 0).trans rfl, (qY BK639.out 1).trans rfl, (qY BK639.out 2).trans rfl⟩ (fun hHeld => ?_)
              clear hK K
              refine norm_ (a' := ?_) ?_ ?_
              rotate_left
              ·show Act.put _ (some 57) _ = _
               simp only [Act.put, List.setIfInBounds_toArray, List.set_cons_zero, List.set_cons_succ, i64_w, i32_w]
               rfl
              refine pS (i := 11) (N := some 46) #[true, true, true, true, true, true, true, true, true, true, true, true, false, false, false, false] HT_ ?_
              refine pS (i := 12) (N := some 58) #[true, true, true, true, true, true, true, true, true, true, true, true, true, false, false, false] HT_ ?_
              refine pS (i := 13) (N := some 59) #[true, true, true, true, true, true, true, true, true, true, true, true, true, true, false, false] HT_ ?_
              refine pS (i := 14) (N := some 13) #[true, true, true, true, true, true, true, true, true, true, true, true, true, true, true, false] HT_ ?_
              refine pS (i := 15) (N := some 14) #[true, true, true, true, true, true, true, true, true, true, true, true, true, true, true, true] HT_ ?_
              refine done_ (qpB HT_.out (by kernel_rfl)) ?_
              try go_wp2
              go_roundg k2
              case measure => have := HJ4.out; have := HK2.out; omega
              case rel => exact ⟨(t648), (wrap64 (x11_2 + 2)), (by first | rfl | (simp; done) | (simp [*]; done)), H', ⟨by have := HJ4.out; have := HK2.out; omega⟩, ⟨by (with_reducible repeat (first | apply Kd.qK | apply Kd.qJ | apply Kd.qO)); exact Kd.qGA HO650.out (fun _ hk => trivial)⟩, ⟨by (with_reducible repeat (first | apply Kd.qK | apply Kd.qJ | apply Kd.qO)); exact HO_640002.out⟩, ⟨by (with_reducible repeat (first | refine qE ?_ _ | refine qF ?_ | refine qD ?_ _)); exact BK639.out⟩, ⟨bl⟩⟩
             ·replace c27 := Bool.eq_false_iff.mpr c27
              subst c27
              have H1 : (some (([] : List (S57)), false)) = some (r1, r2) := by rw [if_neg (show ¬ (false = true) by decide)] at H; exact H
              clear H
              have H := H1
              clear H1
              simp only [Option.some.injEq, Prod.mk.injEq] at H
              obtain ⟨rfl, rfl⟩ := H
              have p19 : 0 ≤ (x11_2 : Int) := of_decide_eq_true (by first | (with_reducible assumption) | assumption)
              have q19 : x11_2 < (a2.size : Int) := of_decide_eq_true (by first | (with_reducible assumption) | assumption)
              have hx19 := bt_at a2 x11_2
              replace p19 := eq_true p19
              replace q19 := eq_true q19
              try go_wp2
              have n0_ := Aside0.mk (Kd.qO HO_10.out)
              have n1_ := Aside0.mk (Kd.qO HO_640002.out)
              have n2_ := Aside0.mk (qF BK639.out)
              have n3_ := Aside0.mk (qp HB.out)
              clear HO_10
              clear HO_640002
              clear BK639
              clear HB
              have HO_10 := n0_
              have HO_640002 := n1_
              have BK639 := n2_
              have HB := n3_
              clear n0_ n1_ n2_ n3_
              refine qDC (n := 16) (S := fun w' => w'.cell? ⟨gb639, 0, none⟩ = some (.int .i64 t633) ∧ w'.cell? ⟨gb639, 1, none⟩ = some (.int .i64 t634) ∧ w'.cell? ⟨gb639, 2, none⟩ = some (.slice Ao9 t635.length co9)) (ds := []) #[false, false, false, false, false, false, false, false, false, false, false, false, false, false, false, false] (by kernel_rfl) rfl rfl ⟨(qY BK639.out 0).trans rfl, (qY BK639.out 1).trans rfl, (qY BK639.out 2).trans rfl⟩ (fun hHeld => ?_); refine qJB qr.tab11 qr.bits11 (fun HT_ HW_ => ?_)
              generalize wr.drew = w31 at HO_10 HO_640002 BK639 HB hHeld ⊢
              refine pS (i := 1) (N := some 48) #[false, true, false, false, false, false, false, false, false, false, false, false, false, false, false, false] HT_ ?_
              refine pS (i := 2) (N := some 49) #[false, true, true, false, false, false, false, false, false, false, false, false, false, false, false, false] HT_ ?_
              refine pS (i := 3) (N := some 50) #[false, true, true, true, false, false, false, false, false, false, false, false, false, false, false, false] HT_ ?_
              refine pS (i := 4) (N := some 51) #[false, true, true, true, true, false, false, false, false, false, false, false, false, false, false, false] HT_ ?_
              refine pS (i := 5) (N := some 52) #[false, true, true, true, true, true, false, false, false, false, false, false, false, false, false, false] HT_ ?_
              refine pS (i := 6) (N := some 53) #[false, true, true, true, true, true, true, false, false, false, false, false, false, false, false, false] HT_ ?_
              refine pS (i := 7) (N := some 54) #[false, true, true, true, true, true, true, true, false, false, false, false, false, false, false, false] HT_ ?_
              refine pS (i := 8) (N := some 55) #[false, true, true, true, true, true, true, true, true, false, false, false, false, false, false, false] HT_ ?_
              refine tS (i := 0) (N := some 47) #[true, true, true, true, true, true, true, true, true, false, false, false, false, false, false, false] HT_ HW_ hHeld ?_
              refine one_ (i := 9) (N := some 56) #[true, true, true, true, true, true, true, true, true, true, false, false, false, false, false, false] rfl rfl (qNB HT_.out (by kernel_rfl)) (by decide) (fun K hK => ?_)
              refine goes_ Tryd.func48 (by kernel_rfl) rfl #[.string (a2.extract ((ji21) : Int).toNat ((wrap64 (x11_2 + 2)) : Int).toNat)] (by rfl) rfl rfl (by (try simp only [List.map_toArray, List.map_cons, List.map_nil]); first | done | (simp only [hji21]; rfl) | rfl | (simp only [List.length_drop, List.length_take]; rfl)) ?_
              with_reducible refine (qjA.calls k2 (a2.extract ((ji21) : Int).toNat ((wrap64 (x11_2 + 2)) : Int).toNat) t647 _ A25.out).mono ?_
              rintro e w' ⟨rfl, ⟨nd, rfl⟩⟩
              refine ⟨_, rfl, ?_⟩
              obtain ⟨Ao32, co32, eo32⟩ := Kd.qt HO_10.out
              (first | subst eo32 | (injection eo32 with f1_ f2_ f3_; have f4_ := f1_.symm; have f5_ := f3_.symm; clear f1_ f2_ f3_; subst f4_; subst f5_))
              refine hK.out _ _ ⟨(qY BK639.out 0).trans rfl, (qY BK639.out 1).trans rfl, (qY BK639.out 2).trans rfl⟩ (fun hHeld => ?_)
              clear hK K
              refine norm_ (a' := ?_) ?_ ?_
              rotate_left
              ·show Act.put _ (some 56) _ = _
               simp only [Act.put, List.setIfInBounds_toArray, List.set_cons_zero, List.set_cons_succ, i64_w, i32_w]
               rfl
              refine one_ (i := 10) (N := some 57) #[true, true, true, true, true, true, true, true, true, true, true, false, false, false, false, false] rfl rfl (qNB HT_.out (by kernel_rfl)) (by decide) (fun K hK => ?_)
              refine goes_ Tryd.func49 (by kernel_rfl) rfl #[.agg #[.int .i64 t633, .int .i64 t634, .slice Ao9 t635.length co9], .slice Ao32 x10_2.length co32, .int .i64 (((bt a2 x11_2) - 48) % 256), .int .i64 t647] (by rfl) rfl rfl (by (try simp only [List.map_toArray, List.map_cons, List.map_nil]); first | done | rfl | (simp only [List.length_drop, List.length_take]; rfl)) ?_
              with_reducible refine (qcA.calls k2 t633 t634 _ _ t635 _ _ x10_2 (((bt a2 x11_2) - 48) % 256) t647 t648 false _ ?side1 ?side2 ?side3 ?side4 A26.out).mono ?_
              (case side1 => repeat (first | exact (Kd.qM HO_640002.out).2.2 | (with_reducible refine Kd.qa ?_ _) | (with_reducible refine Kd.qZ ?_ _) | (with_reducible refine Kd.qe ?_)))
              (case side2 => exact (Kd.qM HO_640002.out).2.1)
              (case side3 => repeat (first | exact (Kd.qM HO_10.out).2.2 | (with_reducible refine Kd.qa ?_ _) | (with_reducible refine Kd.qZ ?_ _) | (with_reducible refine Kd.qe ?_)))
              (case side4 => exact (Kd.qM HO_10.out).2.1)
              rintro e w33 ⟨v649, rfl, ho0, hb⟩
              refine ⟨_, rfl, ?_⟩
              have n0_ := Aside0.mk (Kd.qYA (by (with_reducible repeat (first | apply Kd.qK | apply Kd.qJ | apply Kd.qO)); exact HO_10.out) (Kd.qnA ho0) hb)
              have n1_ := Aside0.mk (Kd.qc (by (with_reducible repeat (first | apply Kd.qK | apply Kd.qJ | apply Kd.qO)); exact HO_640002.out) hb)
              have n2_ := Aside0.mk (Kd.qDA (Kd.qmA ho0 (Kd.R_lt (by (with_reducible repeat (first | apply Kd.qK | apply Kd.qJ | apply Kd.qO)); exact HO_10.out))) (qb bl))
              have n3_ := Aside0.mk (bb BK639 hb)
              have n4_ := Aside0.mk (qG bl hb)
              clear HO_10
              clear HO_640002
              clear BK639
              clear HB
              have HO_10 := n0_
              have HO_640002 := n1_
              have HO650 := n2_
              have BK639 := n3_
              have HB := n4_
              clear n0_ n1_ n2_ n3_ n4_
              (try clear hb)
              (try clear hb2)
              (try clear hk)
              (try clear hi)
              (try clear ho0)
              refine hK.out _ _ ⟨(qY BK639.out 0).trans rfl, (qY BK639.out 1).trans rfl, (qY BK639.out 2).trans rfl⟩ (fun hHeld => ?_)
              clear hK K
              refine norm_ (a' := ?_) ?_ ?_
              rotate_left
              ·show Act.put _ (some 57) _ = _
               simp only [Act.put, List.setIfInBounds_toArray, List.set_cons_zero, List.set_cons_succ, i64_w, i32_w]
               rfl
              refine pS (i := 11) (N := some 46) #[true, true, true, true, true, true, true, true, true, true, true, true, false, false, false, false] HT_ ?_
              refine pS (i := 12) (N := some 58) #[true, true, true, true, true, true, true, true, true, true, true, true, true, false, false, false] HT_ ?_
              refine pS (i := 13) (N := some 59) #[true, true, true, true, true, true, true, true, true, true, true, true, true, true, false, false] HT_ ?_
              refine pS (i := 14) (N := some 13) #[true, true, true, true, true, true, true, true, true, true, true, true, true, true, true, false] HT_ ?_
              refine pS (i := 15) (N := some 14) #[true, true, true, true, true, true, true, true, true, true, true, true, true, true, true, true] HT_ ?_
              refine done_ (qpB HT_.out (by kernel_rfl)) ?_
              try go_wp2
              go_ret2
              exact ⟨_, by first | rfl | (simp [qI, qH] <;> rfl) | (simp only [← hji21]; first | rfl | (simp [qI, qH] <;> rfl)) | (simp [*, qI, qH] <;> rfl), by first | exact Kd.R_nil _ _ _ _ _ | exact Kd.N_nil _ _ _ _ _ | exact Kd.V_nil _ _ _ _ _ | exact Kd.Q_nil _ _ _ _ _ | exact Kd.S_nil _ _ _ _ _, bl⟩
            ·rw [if_neg c24] at H
             exact absurd H (by simp)
           ·rw [if_neg c23] at H
            exact absurd H (by simp)
          ·rw [if_neg c22] at H
           exact absurd H (by simp)
        ·rw [if_neg c18] at H
         exact absurd H (by simp)
       ·rw [if_neg c17] at H
        have c17b0 : decide (x11_2 < (a2.size : Int)) = false := decide_eq_false c17
        clear c17
        simp only [Option.some.injEq, Prod.mk.injEq] at H
        obtain ⟨rfl, rfl⟩ := H
        go_wp2
        go_ret2
        exact ⟨_, by first | rfl | (simp [qI, qH] <;> rfl) | (simp [*, qI, qH] <;> rfl), by (with_reducible repeat (first | apply Kd.qK | apply Kd.qJ | apply Kd.qO)); exact HO_10.out, bl⟩
    ·rw [if_neg c13] at H
     exact absurd H (by simp)
def qsA.l0 : Nat → ByteArray → Int → Option (Bool)
 | 0, _, _ => none
 | k + 1, x0, x3 => if (wrap64 (x3 + 1)) < (x0.size : Int) then (if 0 ≤ x3 then (if x3 < (x0.size : Int) then (if (bt x0 x3) < 48 then (some false) else (if (bt x0 x3) > 50 then (some false) else (if 0 ≤ (wrap64 (x3 + 1)) then ((strings_IndexByte.f (⟨#[110, 101, 115, 119]⟩ : ByteArray) (bt x0 (wrap64 (x3 + 1)))).bind fun t652 => (if t652 < 0 then (some false) else (qsA.l0 k x0 (wrap64 (x3 + 2))))) else (none)))) else (none)) else (none)) else (if ((x0.size : Int) % 2) = 0 then (some (decide ((x0.size : Int) ≤ 120))) else (some false))
def qsA.f (k : Nat) (a0 : ByteArray) : Option (Bool) := qsA.l0 k a0 0
set_option maxHeartbeats 8000000 in
set_option maxRecDepth 100000 in
theorem qsA.calls (k : Nat) (a0 : ByteArray) (r : Bool) (w : World) (h : qsA.f k a0 = some r) :
  Calls Tryd.prog 58 #[.string a0] w fun e w' => e = .returned (.bool r) ∧ Drawn0 w w' := by
 have H : (qsA.l0 k a0 0) = some r := h
 clear h
 have H' := Aside0.mk H
 clear H
 go_enter Tryd.func58, Tryd.ntmps58
 go_wp2
 go_loopg [3] k (fun kq v3 w' => ∃ (x3_1 : Int), v3 = .int .i64 x3_1 ∧ Aside0 (qsA.l0 kq a0 x3_1 = some r) ∧ Aside0 (kq ≤ k) ∧ Drawn0 w w')
 case atStart => exact ⟨(0), (by first | rfl | (simp; done) | (simp [*]; done)), H', ⟨Nat.le_refl _⟩, by repeat (first | exact Drawn0.refl _ | apply Drawn0.step)⟩
 case round =>
  clear H'
  obtain ⟨x3_1, rfl, HA, HK1, ⟨m1, rfl⟩⟩ := hrel
  cases gk with
  | zero => exact absurd HA.out (by simp [qsA.l0])
  | succ k1 =>
   have H := HA.out
   clear HA
   simp only [qsA.l0] at H
   by_cases c2 : (wrap64 (x3_1 + 1)) < (a0.size : Int)
   ·rw [if_pos c2] at H
    have c2b0 : decide ((wrap64 (x3_1 + 1)) < (a0.size : Int)) = true := decide_eq_true c2
    clear c2
    by_cases c3 : 0 ≤ x3_1
    ·rw [if_pos c3] at H
     have c3b0 : decide (0 ≤ x3_1) = true := decide_eq_true c3
     clear c3
     by_cases c4 : x3_1 < (a0.size : Int)
     ·rw [if_pos c4] at H
      have c4b0 : decide (x3_1 < (a0.size : Int)) = true := decide_eq_true c4
      clear c4
      by_cases c6 : (bt a0 x3_1) < 48
      ·rw [if_pos c6] at H
       have c6b0 : decide ((bt a0 x3_1) < 48) = true := decide_eq_true c6
       clear c6
       obtain rfl := Option.some.inj H
       have p5 : 0 ≤ (x3_1 : Int) := of_decide_eq_true (by first | (with_reducible assumption) | assumption)
       have q5 : x3_1 < (a0.size : Int) := of_decide_eq_true (by first | (with_reducible assumption) | assumption)
       have hx5 := bt_at a0 x3_1
       replace p5 := eq_true p5
       replace q5 := eq_true q5
       go_wp2
       go_ret
       exact ⟨by first | rfl | (simp; done) | (simp [*]; done), by repeat (first | exact Drawn0.refl _ | apply Drawn0.step)⟩
      ·rw [if_neg c6] at H
       have c6b0 : decide ((bt a0 x3_1) < 48) = false := decide_eq_false c6
       clear c6
       by_cases c8 : (bt a0 x3_1) > 50
       ·rw [if_pos c8] at H
        have c8b0 : decide (50 < (bt a0 x3_1)) = true := decide_eq_true c8
        clear c8
        obtain rfl := Option.some.inj H
        have p5 : 0 ≤ (x3_1 : Int) := of_decide_eq_true (by first | (with_reducible assumption) | assumption)
        have q5 : x3_1 < (a0.size : Int) := of_decide_eq_true (by first | (with_reducible assumption) | assumption)
        have hx5 := bt_at a0 x3_1
        replace p5 := eq_true p5
        replace q5 := eq_true q5
        have p7 : 0 ≤ (x3_1 : Int) := of_decide_eq_true (by first | (with_reducible assumption) | assumption)
        have q7 : x3_1 < (a0.size : Int) := of_decide_eq_true (by first | (with_reducible assumption) | assumption)
        have hx7 := bt_at a0 x3_1
        replace p7 := eq_true p7
        replace q7 := eq_true q7
        go_wp2
        go_ret
        exact ⟨by first | rfl | (simp; done) | (simp [*]; done), by repeat (first | exact Drawn0.refl _ | apply Drawn0.step)⟩
       ·rw [if_neg c8] at H
        have c8b0 : decide (50 < (bt a0 x3_1)) = false := decide_eq_false c8
        clear c8
        obtain ⟨ji9, hji9⟩ : ∃ j_ : Int, (wrap64 (x3_1 + 1)) = j_ := ⟨_, rfl⟩
        replace H : (if 0 ≤ (ji9) then ((strings_IndexByte.f (⟨#[110, 101, 115, 119]⟩ : ByteArray) (bt a0 (ji9))).bind fun t652 => (if t652 < 0 then (some false) else (qsA.l0 k1 a0 (wrap64 (x3_1 + 2))))) else (none)) = some r := by first | (rw [hji9] at H; exact H) | (simp only [hji9] at H ⊢; exact H)
        (try rw [hji9] at c2b0)
        have hji9w : (IntKind.i64.wrap (x3_1 + 1)) = ji9 := (i64_w _).trans hji9
        by_cases c10 : 0 ≤ (ji9)
        ·rw [if_pos c10] at H
         have c10b0 : decide (0 ≤ (ji9)) = true := decide_eq_true c10
         clear c10
         replace H := Option.bind_eq_some_iff.mp H
         obtain ⟨t652, A120, H⟩ := H
         replace H : (if t652 < 0 then (some false) else (qsA.l0 k1 a0 (wrap64 (x3_1 + 2)))) = some r := H
         have A12 := Aside0.mk A120
         clear A120
         by_cases c13 : t652 < 0
         ·rw [if_pos c13] at H
          have c13b0 : decide (t652 < 0) = true := decide_eq_true c13
          clear c13
          obtain rfl := Option.some.inj H
          have p5 : 0 ≤ (x3_1 : Int) := of_decide_eq_true (by first | (with_reducible assumption) | assumption)
          have q5 : x3_1 < (a0.size : Int) := of_decide_eq_true (by first | (with_reducible assumption) | assumption)
          have hx5 := bt_at a0 x3_1
          replace p5 := eq_true p5
          replace q5 := eq_true q5
          have p7 : 0 ≤ (x3_1 : Int) := of_decide_eq_true (by first | (with_reducible assumption) | assumption)
          have q7 : x3_1 < (a0.size : Int) := of_decide_eq_true (by first | (with_reducible assumption) | assumption)
          have hx7 := bt_at a0 x3_1
          replace p7 := eq_true p7
          replace q7 := eq_true q7
          have p11 : 0 ≤ ((ji9) : Int) := of_decide_eq_true (by first | (with_reducible assumption) | assumption)
          have q11 : (ji9) < (a0.size : Int) := of_decide_eq_true (by first | (with_reducible assumption) | assumption)
          have hx11 := bt_at a0 (ji9)
          replace p11 := eq_true p11
          replace q11 := eq_true q11
          go_wp2_with (first | (go_at_call 79; (with_reducible refine (strings_IndexByte.calls (⟨#[110, 101, 115, 119]⟩ : ByteArray) (bt a0 (ji9)) t652 _ A12.out).mono ?_); rintro e w' ⟨rfl, ⟨nd, rfl⟩⟩))
          go_ret
          exact ⟨by first | rfl | (simp; done) | (simp only [← hji9] <;> (first | rfl | simp)) | (simp [*]; done), by repeat (first | exact Drawn0.refl _ | apply Drawn0.step)⟩
         ·rw [if_neg c13] at H
          have c13b0 : decide (t652 < 0) = false := decide_eq_false c13
          clear c13
          have H' := Aside0.mk H
          clear H
          have p5 : 0 ≤ (x3_1 : Int) := of_decide_eq_true (by first | (with_reducible assumption) | assumption)
          have q5 : x3_1 < (a0.size : Int) := of_decide_eq_true (by first | (with_reducible assumption) | assumption)
          have hx5 := bt_at a0 x3_1
          replace p5 := eq_true p5
          replace q5 := eq_true q5
          have p7 : 0 ≤ (x3_1 : Int) := of_decide_eq_true (by first | (with_reducible assumption) | assumption)
          have q7 : x3_1 < (a0.size : Int) := of_decide_eq_true (by first | (with_reducible assumption) | assumption)
          have hx7 := bt_at a0 x3_1
          replace p7 := eq_true p7
          replace q7 := eq_true q7
          have p11 : 0 ≤ ((ji9) : Int) := of_decide_eq_true (by first | (with_reducible assumption) | assumption)
          have q11 : (ji9) < (a0.size : Int) := of_decide_eq_true (by first | (with_reducible assumption) | assumption)
          have hx11 := bt_at a0 (ji9)
          replace p11 := eq_true p11
          replace q11 := eq_true q11
          go_wp2_with (first | (go_at_call 79; (with_reducible refine (strings_IndexByte.calls (⟨#[110, 101, 115, 119]⟩ : ByteArray) (bt a0 (ji9)) t652 _ A12.out).mono ?_); rintro e w' ⟨rfl, ⟨nd, rfl⟩⟩))
          go_roundg k1
          case measure => have := HK1.out; omega
          case rel => exact ⟨(wrap64 (x3_1 + 2)), (by first | rfl | (simp; done) | (simp [*]; done)), H', ⟨by have := HK1.out; omega⟩, by repeat (first | exact Drawn0.refl _ | apply Drawn0.step)⟩
        ·rw [if_neg c10] at H
         exact absurd H (by simp)
     ·rw [if_neg c4] at H
      exact absurd H (by simp)
    ·rw [if_neg c3] at H
     exact absurd H (by simp)
   ·rw [if_neg c2] at H
    have c2b0 : decide ((wrap64 (x3_1 + 1)) < (a0.size : Int)) = false := decide_eq_false c2
    clear c2
    by_cases c14 : ((a0.size : Int) % 2) = 0
    ·rw [if_pos c14] at H
     have c14b0 : (((a0.size : Int) % 2) == 0) = true := beq_iff_eq.mpr c14
     have c14b1 : (((a0.size : Int) % 2) != 0) = false := bne_eq_false_iff_eq.mpr c14
     clear c14
     obtain rfl := Option.some.inj H
     go_wp2
     go_ret
     exact ⟨by first | rfl | (simp; done) | (simp [*]; done), by repeat (first | exact Drawn0.refl _ | apply Drawn0.step)⟩
    ·rw [if_neg c14] at H
     have c14b0 : (((a0.size : Int) % 2) == 0) = false := beq_eq_false_iff_ne.mpr c14
     have c14b1 : (((a0.size : Int) % 2) != 0) = true := bne_iff_ne.mpr c14
     obtain rfl := Option.some.inj H
     go_wp2
     go_ret
     exact ⟨by first | rfl | (simp; done) | (simp [*]; done), by repeat (first | exact Drawn0.refl _ | apply Drawn0.step)⟩
end Go.Proofs.YtgjdjnggkmojnaaDoor.P
namespace Go.Proofs.YtgjdjnggkmojnaaDoor.P
open Go.RowKit Go.Proofs.YtgjdjnggkmojnaaDoorW.PrintWords Go.Proofs.YtgjdjnggkmojnaaDoorW.PrintLast Go.Proofs.YtgjdjnggkmojnaaDoorW.PrintMore
attribute [local go_sem] qLA qJA qVA qUA qy qx qKA qIA
theorem ql (x : Int) : wrap64 (IntKind.u8.wrap x) = x % 256 := by
 have h : IntKind.u8.wrap x = x % 256 := rfl
 rw [h]; unfold wrap64; omega
set_option linter.unusedVariables false
set_option linter.unusedSimpArgs false
mutual
def qn.j0 : Nat → List (S57) → ByteArray → List ByteArray → Bool → Option ((List (S57)) × Bool)
 | 0, _, _, _, _ => none
 | k + 1, x1, x2, x8, x26 => if x26 = true then (some (([] : List (S57)), false)) else ((qyA.f x1).bind fun t658 => (qn.l0 k x2 x8 t658 0))
def qn.l0 : Nat → ByteArray → List ByteArray → List (S57) → Int → Option ((List (S57)) × Bool)
 | 0, _, _, _, _ => none
 | k + 1, x2, x8, x10, x11 => if x11 < (x2.size : Int) then (if 0 ≤ x11 then (if 0 ≤ (wrap64 (x11 + 1)) then (if (wrap64 (x11 + 1)) < (x2.size : Int) then ((qbA.f x8 x10 (((bt x2 x11) - 48) % 256) (bt x2 (wrap64 (x11 + 1)))).bind fun bt661 => (if bt661.2 = true then (qn.l0 k x2 x8 bt661.1 (wrap64 (x11 + 2))) else (some (([] : List (S57)), false)))) else (none)) else (none)) else (none)) else (some (x10, true))
end
def qn.f (k : Nat) (a0 : ByteArray) (l1 : List (S57)) (a2 : ByteArray) : Option ((List (S57)) × Bool) := (qZA.f k a0 l1).bind fun bt653 => (if bt653.2 = true then ((qsA.f k a2).bind fun t657 => (qn.j0 k l1 a2 bt653.1 (!t657))) else (qn.j0 k l1 a2 bt653.1 true))
def qn.T8 : Bool × List (List Nat × List Nat) := (true, [([], []), ([], []), ([], []), ([], []), ([2, 3], [2, 3]), ([4], [4]), ([5], [5]), ([], []), ([], []), ([8], [8]), ([7, 9], [7, 9]), ([0, 1, 6, 10], [0, 1, 6, 10]), ([11], [11]), ([12], [12]), ([12], [12]), ([13, 11, 0, 1, 2, 3, 4, 5, 6, 7, 8, 9, 10, 11, 12, 13], [13]), ([14, 15, 0, 1, 2, 3, 4, 5, 6, 7, 8, 9, 10, 11, 12, 13, 14, 15], [14])])
def qn.B8 : List Nat := [0, 0, 0, 0, 12, 28, 60, 0, 0, 256, 896, 2047, 4095, 8191, 8191, 16383, 65535]
theorem qn.tab8 : rtab .any (opsOf Tryd.f35 8) = qn.T8 := by kernel_rfl
theorem qn.bits8 : waitsOk qn.T8.2 qn.B8 = true := by kernel_rfl
set_option maxHeartbeats 8000000 in
set_option maxRecDepth 100000 in
theorem qn.calls (k : Nat) (a0 : ByteArray) (A1 : Option Addr) (c1 : Nat) (l1 : List (S57)) (a2 : ByteArray) (r1 : List (S57)) (r2 : Bool) (w : World) (hr1 : Kd.C k57 w A1 l1.length l1) (hc1 : l1.length ≤ c1) (hL : Laid w) (h : qn.f k a0 l1 a2 = some (r1, r2)) :
  Calls Tryd.prog 35 #[.string a0, .slice A1 l1.length c1, .string a2] w fun e w' => ∃ v0_ : Value, e = .returned (.tuple #[v0_, .bool r2]) ∧ Kd.R k57 57 w' w.heap.size (fun _ => True) v0_ r1 ∧ Below w.heap.size w w' := by
 have HR1 := Aside0.mk hr1
 have HC1 := Aside0.mk hc1
 clear hr1 hc1
 have HLD := Aside0.mk hL
 clear hL
 have HB := Aside0.mk (Below.refl w.heap.size w)
 have H : ((qZA.f k a0 l1).bind fun bt653 => (if bt653.2 = true then ((qsA.f k a2).bind fun t657 => (qn.j0 k l1 a2 bt653.1 (!t657))) else (qn.j0 k l1 a2 bt653.1 true))) = some (r1, r2) := h
 clear h
 replace H := Option.bind_eq_some_iff.mp H
 obtain ⟨⟨t653, t654⟩, A40, H⟩ := H
 replace H : (if t654 = true then ((qsA.f k a2).bind fun t657 => (qn.j0 k l1 a2 t653 (!t657))) else (qn.j0 k l1 a2 t653 true)) = some (r1, r2) := H
 have A4 := Aside0.mk A40
 clear A40
 have HC5 := Aside0.mk H
 clear H
 go_enter Tryd.func35, Tryd.ntmps35
 go_upto_region 2 with (first | ((with_reducible refine qL (f := 45) rfl ?_); refine qh (some 17) rfl rfl Tryd.func45 (by kernel_rfl) rfl #[.string a0, .slice A1 l1.length c1] rfl (by (try simp only [List.map_toArray, List.map_cons, List.map_nil]); first | done | rfl | (simp only [List.length_drop, List.length_take]; rfl)) ?_; (with_reducible refine (qZA.calls k a0 _ _ l1 t653 t654 _ ?side1 ?side2 ?side3 A4.out).mono ?_); (case side1 => repeat (first | exact HR1.out | (with_reducible refine Kd.qa ?_ _) | (with_reducible refine Kd.qZ ?_ _) | (with_reducible refine Kd.qe ?_))); (case side2 => exact HC1.out); (case side3 => first | exact HLD.out | exact Laid.below HLD.out (by repeat (first | (with_reducible first | exact HB.out | apply qAA | apply qo | apply qp | refine qMA ?_ (Aside0.out (by with_reducible assumption))) | exact HB.out))); rintro e w6 ⟨v655, rfl, ho0, hb⟩; refine ⟨_, rfl, ?_⟩; have n0_ := Aside0.mk (Kd.qDA ho0 (qb bl)); have n1_ := Aside0.mk (qG bl hb); clear HB; have HO656 := n0_; have HB := n1_; clear n0_ n1_; (try clear hb); (try clear hb2); (try clear hk); (try clear hi); (try clear ho0)))
 (try simp only [Act.put, List.setIfInBounds_toArray, List.set_cons_zero, List.set_cons_succ])
 go_cut [26] (fun v26 wc => ∃ (kq : Nat) (x26_4 : Bool), v26 = .bool x26_4 ∧ Aside0 (qn.j0 kq l1 a2 t653 x26_4 = some (r1, r2)) ∧ Aside0 (kq ≤ k) ∧ Aside0 (Kd.R Kd.string 9 wc w.heap.size (fun _ => True) v655 t653) ∧ Aside0 (Below w.heap.size w wc))
 case first =>
  have H := HC5.out
  clear HC5
  by_cases c7 : t654 = true
  ·subst c7
   have H1 : ((qsA.f k a2).bind fun t657 => (qn.j0 k l1 a2 t653 (!t657))) = some (r1, r2) := by rw [if_pos rfl] at H; exact H
   clear H
   have H := H1
   clear H1
   replace H := Option.bind_eq_some_iff.mp H
   obtain ⟨t657, A80, H⟩ := H
   replace H : (qn.j0 k l1 a2 t653 (!t657)) = some (r1, r2) := H
   have A8 := Aside0.mk A80
   clear A80
   have H' := Aside0.mk H
   clear H
   go_wp2_with (first | (go_at_call 58; (with_reducible refine (qsA.calls k a2 t657 _ A8.out).mono ?_); rintro e w' ⟨rfl, ⟨nd, rfl⟩⟩))
   go_meet
   case rel => exact ⟨_, (!t657), (by first | rfl | (simp; done) | (simp [*]; done)), H', ⟨by first | omega | exact Nat.le_refl _⟩, ⟨by (with_reducible repeat (first | apply Kd.qK | apply Kd.qJ | apply Kd.qO)); exact HO656.out⟩, ⟨bl⟩⟩
  ·replace c7 := Bool.eq_false_iff.mpr c7
   subst c7
   have H1 : (qn.j0 k l1 a2 t653 true) = some (r1, r2) := by rw [if_neg (show ¬ (false = true) by decide)] at H; exact H
   clear H
   have H := H1
   clear H1
   have H' := Aside0.mk H
   clear H
   go_wp2
   go_meet
   case rel => exact ⟨_, (true), (by first | rfl | (simp; done) | (simp [*]; done)), H', ⟨by first | omega | exact Nat.le_refl _⟩, ⟨by (with_reducible repeat (first | apply Kd.qK | apply Kd.qJ | apply Kd.qO)); exact HO656.out⟩, ⟨bl⟩⟩
 case rest =>
  clear HC5
  try clear c1
  try clear p2
  try clear c3
  try clear c4
  try clear c7
  obtain ⟨kq, x26_4, rfl, HA, HJ4, HO_8, HB⟩ := hcut
  cases kq with
  | zero => exact absurd HA.out (by simp [qn.j0])
  | succ kj4 =>
   have H := HA.out
   clear HA
   simp only [qn.j0] at H
   by_cases c9 : x26_4 = true
   ·subst c9
    have H1 : (some (([] : List (S57)), false)) = some (r1, r2) := by rw [if_pos rfl] at H; exact H
    clear H
    have H := H1
    clear H1
    simp only [Option.some.injEq, Prod.mk.injEq] at H
    obtain ⟨rfl, rfl⟩ := H
    go_wp2
    go_ret2
    exact ⟨_, by first | rfl | (simp [qI, qH] <;> rfl) | (simp [*, qI, qH] <;> rfl), by first | exact Kd.R_nil _ _ _ _ _ | exact Kd.N_nil _ _ _ _ _ | exact Kd.V_nil _ _ _ _ _ | exact Kd.Q_nil _ _ _ _ _ | exact Kd.S_nil _ _ _ _ _, bl⟩
   ·replace c9 := Bool.eq_false_iff.mpr c9
    subst c9
    have H1 : ((qyA.f l1).bind fun t658 => (qn.l0 kj4 a2 t653 t658 0)) = some (r1, r2) := by rw [if_neg (show ¬ (false = true) by decide)] at H; exact H
    clear H
    have H := H1
    clear H1
    replace H := Option.bind_eq_some_iff.mp H
    obtain ⟨t658, A100, H⟩ := H
    replace H : (qn.l0 kj4 a2 t653 t658 0) = some (r1, r2) := H
    have A10 := Aside0.mk A100
    clear A100
    have H' := Aside0.mk H
    clear H
    go_wp2_with (first | ((with_reducible refine qL (f := 59) rfl ?_); refine qh (some 28) rfl rfl Tryd.func59 (by kernel_rfl) rfl #[.slice A1 l1.length c1] rfl (by (try simp only [List.map_toArray, List.map_cons, List.map_nil]); first | done | rfl | (simp only [List.length_drop, List.length_take]; rfl)) ?_; (with_reducible refine (qyA.calls _ _ l1 t658 _ ?side1 ?side2 A10.out).mono ?_); (case side1 => repeat (first | exact (Kd.qWA HR1.out HB.out) | (with_reducible refine Kd.qa ?_ _) | (with_reducible refine Kd.qZ ?_ _) | (with_reducible refine Kd.qe ?_))); (case side2 => exact HC1.out); rintro e w11 ⟨v659, rfl, ho0, hb⟩; refine ⟨_, rfl, ?_⟩; have n0_ := Aside0.mk (Kd.qc (by (with_reducible repeat (first | apply Kd.qK | apply Kd.qJ | apply Kd.qO)); exact HO_8.out) hb); have n1_ := Aside0.mk (Kd.qDA ho0 (qb bl)); have n2_ := Aside0.mk (qG bl hb); clear HO_8; clear HB; have HO_8 := n0_; have HO660 := n1_; have HB := n2_; clear n0_ n1_ n2_; (try clear hb); (try clear hb2); (try clear hk); (try clear hi); (try clear ho0)))
    go_loopg [10, 11] kj4 (fun kq v10 v11 w' => ∃ (x10_2 : List (S57)) (x11_2 : Int), v11 = .int .i64 x11_2 ∧ Aside0 (qn.l0 kq a2 t653 x10_2 x11_2 = some (r1, r2)) ∧ Aside0 (kq ≤ kj4) ∧ Aside0 (Kd.R Kd.string 9 w' w.heap.size (fun _ => True) v655 t653) ∧ Aside0 (Kd.R k57 57 w' w.heap.size (fun _ => True) v10 x10_2) ∧ Aside0 (Below w.heap.size w w'))
    case atStart => exact ⟨(t658), (0), (by first | rfl | (simp; done) | (simp [*]; done)), H', ⟨Nat.le_refl _⟩, ⟨by (with_reducible repeat (first | apply Kd.qK | apply Kd.qJ | apply Kd.qO)); exact HO_8.out⟩, ⟨by (with_reducible repeat (first | apply Kd.qK | apply Kd.qJ | apply Kd.qO)); exact HO660.out⟩, ⟨bl⟩⟩
    case round =>
     clear H'
     try clear c1
     try clear p2
     try clear c3
     try clear c4
     try clear c5
     try clear c7
     try clear c9
     try clear p2
     obtain ⟨x10_2, x11_2, rfl, HA, HK2, HO_8, HO_10, HB⟩ := hrel
     cases gk with
     | zero => exact absurd HA.out (by simp [qn.l0])
     | succ k2 =>
      have H := HA.out
      clear HA
      simp only [qn.l0] at H
      by_cases c12 : x11_2 < (a2.size : Int)
      ·rw [if_pos c12] at H
       have c12b0 : decide (x11_2 < (a2.size : Int)) = true := decide_eq_true c12
       clear c12
       by_cases c13 : 0 ≤ x11_2
       ·rw [if_pos c13] at H
        have c13b0 : decide (0 ≤ x11_2) = true := decide_eq_true c13
        clear c13
        obtain ⟨ji15, hji15⟩ : ∃ j_ : Int, (wrap64 (x11_2 + 1)) = j_ := ⟨_, rfl⟩
        replace H : (if 0 ≤ (ji15) then (if (ji15) < (a2.size : Int) then ((qbA.f t653 x10_2 (((bt a2 x11_2) - 48) % 256) (bt a2 (ji15))).bind fun bt661 => (if bt661.2 = true then (qn.l0 k2 a2 t653 bt661.1 (wrap64 (x11_2 + 2))) else (some (([] : List (S57)), false)))) else (none)) else (none)) = some (r1, r2) := by first | (rw [hji15] at H; exact H) | (simp only [hji15] at H ⊢; exact H)
        have hji15w : (IntKind.i64.wrap (x11_2 + 1)) = ji15 := (i64_w _).trans hji15
        by_cases c16 : 0 ≤ (ji15)
        ·rw [if_pos c16] at H
         have c16b0 : decide (0 ≤ (ji15)) = true := decide_eq_true c16
         clear c16
         by_cases c17 : (ji15) < (a2.size : Int)
         ·rw [if_pos c17] at H
          have c17b0 : decide ((ji15) < (a2.size : Int)) = true := decide_eq_true c17
          clear c17
          replace H := Option.bind_eq_some_iff.mp H
          obtain ⟨⟨t661, t662⟩, A190, H⟩ := H
          replace H : (if t662 = true then (qn.l0 k2 a2 t653 t661 (wrap64 (x11_2 + 2))) else (some (([] : List (S57)), false))) = some (r1, r2) := H
          have A19 := Aside0.mk A190
          clear A190
          by_cases c20 : t662 = true
          ·subst c20
           have H1 : (qn.l0 k2 a2 t653 t661 (wrap64 (x11_2 + 2))) = some (r1, r2) := by rw [if_pos rfl] at H; exact H
           clear H
           have H := H1
           clear H1
           have H' := Aside0.mk H
           clear H
           try go_wp2
           have n0_ := Aside0.mk (Kd.qO HO_8.out)
           have n1_ := Aside0.mk (Kd.qO HO_10.out)
           have n2_ := Aside0.mk (qp HB.out)
           clear HO_8
           clear HO_10
           clear HB
           have HO_8 := n0_
           have HO_10 := n1_
           have HB := n2_
           clear n0_ n1_ n2_
           have p14 : 0 ≤ (x11_2 : Int) := of_decide_eq_true (by first | (with_reducible assumption) | assumption)
           have q14 : x11_2 < (a2.size : Int) := of_decide_eq_true (by first | (with_reducible assumption) | assumption)
           have hx14 := bt_at a2 x11_2
           replace p14 := eq_true p14
           replace q14 := eq_true q14
           have p18 : 0 ≤ ((ji15) : Int) := of_decide_eq_true (by first | (with_reducible assumption) | assumption)
           have q18 : (ji15) < (a2.size : Int) := of_decide_eq_true (by first | (with_reducible assumption) | assumption)
           have hx18 := bt_at a2 (ji15)
           replace p18 := eq_true p18
           replace q18 := eq_true q18
           obtain ⟨Ao22, co22, eo22⟩ := Kd.qt HO_8.out
           (first | subst eo22 | (injection eo22 with f1_ f2_ f3_; have f4_ := f1_.symm; have f5_ := f3_.symm; clear f1_ f2_ f3_; subst f4_; subst f5_))
           obtain ⟨Ao23, co23, eo23⟩ := Kd.qt HO_10.out
           (first | subst eo23 | (injection eo23 with f1_ f2_ f3_; have f4_ := f1_.symm; have f5_ := f3_.symm; clear f1_ f2_ f3_; subst f4_; subst f5_))
           refine qDC (n := 17) (S := fun w' => True) (ds := []) #[false, false, false, false, false, false, false, false, false, false, false, false, false, false, false, false, false] (by kernel_rfl) rfl rfl trivial (fun hHeld => ?_); refine qJB qn.tab8 qn.bits8 (fun HT_ HW_ => ?_)
           generalize wr.drew = w21 at HO_8 HO_10 HB hHeld ⊢
           refine pure_ (i := 0) (N := some 36) (v := ?_) (a' := ?_) #[true, false, false, false, false, false, false, false, false, false, false, false, false, false, false, false, false] rfl rfl (qHB HT_.out (by kernel_rfl)) (fun _ _ _ h => h) (Or.inl ⟨by rfl, ?_⟩) ?_ ?_
           rotate_left
           ·intro w'
            go_simp
            first | (with_reducible rfl) | (rw [if_neg (by simp only [ByteArray.size_extract, ByteArray.size_append] at * <;> omega)]; try with_reducible rfl)
           rotate_left
           ·simp only [Act.put, List.setIfInBounds_toArray, List.set_cons_zero, List.set_cons_succ, i64_w, i32_w, ql]
            rfl
           refine pure_ (i := 1) (N := some 37) (v := ?_) (a' := ?_) #[true, true, false, false, false, false, false, false, false, false, false, false, false, false, false, false, false] rfl rfl (qHB HT_.out (by kernel_rfl)) (fun _ _ _ h => h) (Or.inl ⟨by rfl, ?_⟩) ?_ ?_
           rotate_left
           ·intro w'
            go_simp
            first | (with_reducible rfl) | (rw [if_neg (by simp only [ByteArray.size_extract, ByteArray.size_append] at * <;> omega)]; try with_reducible rfl)
           rotate_left
           ·simp only [Act.put, List.setIfInBounds_toArray, List.set_cons_zero, List.set_cons_succ, i64_w, i32_w, ql]
            rfl
           refine pure_ (i := 2) (N := some 38) (v := ?_) (a' := ?_) #[true, true, true, false, false, false, false, false, false, false, false, false, false, false, false, false, false] rfl rfl (qHB HT_.out (by kernel_rfl)) (fun _ _ _ h => h) (Or.inl ⟨by rfl, ?_⟩) ?_ ?_
           rotate_left
           ·intro w'
            go_simp
            first | (with_reducible rfl) | (rw [if_neg (by simp only [ByteArray.size_extract, ByteArray.size_append] at * <;> omega)]; try with_reducible rfl)
           rotate_left
           ·simp only [Act.put, List.setIfInBounds_toArray, List.set_cons_zero, List.set_cons_succ, i64_w, i32_w, ql]
            rfl
           refine pure_ (i := 3) (N := some 39) (v := ?_) (a' := ?_) #[true, true, true, true, false, false, false, false, false, false, false, false, false, false, false, false, false] rfl rfl (qHB HT_.out (by kernel_rfl)) (fun _ _ _ h => h) (Or.inl ⟨by rfl, ?_⟩) ?_ ?_
           rotate_left
           ·intro w'
            go_simp
            first | (with_reducible rfl) | (rw [if_neg (by simp only [ByteArray.size_extract, ByteArray.size_append] at * <;> omega)]; try with_reducible rfl)
           rotate_left
           ·simp only [Act.put, List.setIfInBounds_toArray, List.set_cons_zero, List.set_cons_succ, i64_w, i32_w, ql]
            rfl
           refine pure_ (i := 7) (N := some 43) (v := ?_) (a' := ?_) #[true, true, true, true, false, false, false, true, false, false, false, false, false, false, false, false, false] rfl rfl (qHB HT_.out (by kernel_rfl)) (fun _ _ _ h => h) (Or.inl ⟨by rfl, ?_⟩) ?_ ?_
           rotate_left
           ·intro w'
            go_simp
            first | (with_reducible rfl) | (rw [if_neg (by simp only [ByteArray.size_extract, ByteArray.size_append] at * <;> omega)]; try with_reducible rfl)
           rotate_left
           ·simp only [Act.put, List.setIfInBounds_toArray, List.set_cons_zero, List.set_cons_succ, i64_w, i32_w, ql]
            rfl
           refine pure_ (i := 8) (N := some 44) (v := ?_) (a' := ?_) #[true, true, true, true, false, false, false, true, true, false, false, false, false, false, false, false, false] rfl rfl (qHB HT_.out (by kernel_rfl)) (fun _ _ _ h => h) (Or.inl ⟨by rfl, ?_⟩) ?_ ?_
           rotate_left
           ·intro w'
            go_simp
            first | (with_reducible rfl) | (rw [if_neg (by simp only [ByteArray.size_extract, ByteArray.size_append] at * <;> omega)]; try with_reducible rfl)
           rotate_left
           ·simp only [Act.put, List.setIfInBounds_toArray, List.set_cons_zero, List.set_cons_succ, i64_w, i32_w, ql]
            rfl
           refine pure_ (i := 9) (N := some 45) (v := ?_) (a' := ?_) #[true, true, true, true, false, false, false, true, true, true, false, false, false, false, false, false, false] rfl rfl (qHB HT_.out (by kernel_rfl)) (fun _ _ _ h => h) (Or.inl ⟨by rfl, ?_⟩) ?_ ?_
           rotate_left
           ·intro w'
            go_simp
            first | (with_reducible rfl) | (rw [if_neg (by simp only [ByteArray.size_extract, ByteArray.size_append] at * <;> omega)]; try with_reducible rfl)
           rotate_left
           ·simp only [Act.put, List.setIfInBounds_toArray, List.set_cons_zero, List.set_cons_succ, i64_w, i32_w, ql]
            rfl
           refine take_ (i := 4) (N := some 40) (v := ?_) (a' := ?_) #[true, true, true, true, true, false, false, true, true, true, false, false, false, false, false, false, false] rfl rfl (qED HT_.out HW_.out (by kernel_rfl)) (fun _ _ _ h => h) (Or.inl ⟨by rfl, ?_⟩) hHeld ?_ ?_
           rotate_left
           ·intro w' _
            go_simp
            first | (with_reducible rfl) | (rw [if_neg (by simp only [ByteArray.size_extract, ByteArray.size_append] at * <;> omega)]; try with_reducible rfl)
           rotate_left
           ·simp only [Act.put, List.setIfInBounds_toArray, List.set_cons_zero, List.set_cons_succ, i64_w, i32_w, ql]
            rfl
           refine pure_ (i := 5) (N := some 41) (v := ?_) (a' := ?_) #[true, true, true, true, true, true, false, true, true, true, false, false, false, false, false, false, false] rfl rfl (qHB HT_.out (by kernel_rfl)) (fun _ _ _ h => h) (Or.inl ⟨by rfl, ?_⟩) ?_ ?_
           rotate_left
           ·intro w'
            go_simp
            first | (with_reducible rfl) | (rw [if_neg (by simp only [ByteArray.size_extract, ByteArray.size_append] at * <;> omega)]; try with_reducible rfl)
           rotate_left
           ·simp only [Act.put, List.setIfInBounds_toArray, List.set_cons_zero, List.set_cons_succ, i64_w, i32_w, ql]
            rfl
           refine pure_ (i := 6) (N := some 42) (v := ?_) (a' := ?_) #[true, true, true, true, true, true, true, true, true, true, false, false, false, false, false, false, false] rfl rfl (qHB HT_.out (by kernel_rfl)) (fun _ _ _ h => h) (Or.inl ⟨by rfl, ?_⟩) ?_ ?_
           rotate_left
           ·intro w'
            go_simp
            first | (with_reducible rfl) | (rw [if_neg (by simp only [ByteArray.size_extract, ByteArray.size_append] at * <;> omega)]; try with_reducible rfl)
           rotate_left
           ·simp only [Act.put, List.setIfInBounds_toArray, List.set_cons_zero, List.set_cons_succ, i64_w, i32_w, ql]
            rfl
           refine take_ (i := 10) (N := some 46) (v := ?_) (a' := ?_) #[true, true, true, true, true, true, true, true, true, true, true, false, false, false, false, false, false] rfl rfl (qED HT_.out HW_.out (by kernel_rfl)) (fun _ _ _ h => h) (Or.inl ⟨by rfl, ?_⟩) hHeld ?_ ?_
           rotate_left
           ·intro w' _
            go_simp
            first | (with_reducible rfl) | (rw [if_neg (by simp only [ByteArray.size_extract, ByteArray.size_append] at * <;> omega)]; try with_reducible rfl)
           rotate_left
           ·simp only [Act.put, List.setIfInBounds_toArray, List.set_cons_zero, List.set_cons_succ, i64_w, i32_w, ql]
            rfl
           refine one_ (i := 11) (N := some 47) #[true, true, true, true, true, true, true, true, true, true, true, true, false, false, false, false, false] rfl rfl (qNB HT_.out (by kernel_rfl)) (by decide) (fun K hK => ?_)
           refine goes_ Tryd.func51 (by kernel_rfl) rfl #[.slice Ao22 t653.length co22, .slice Ao23 x10_2.length co23, .int .i64 (((bt a2 x11_2) - 48) % 256), .int .u8 (bt a2 (ji15))] (by rfl) rfl rfl (by (try simp only [List.map_toArray, List.map_cons, List.map_nil]); first | done | (simp only [hji15]; rfl) | rfl | (simp only [List.length_drop, List.length_take]; rfl)) ?_
           with_reducible refine (qbA.calls _ _ t653 _ _ x10_2 (((bt a2 x11_2) - 48) % 256) (bt a2 (ji15)) t661 true _ ?side1 ?side2 ?side3 ?side4 A19.out).mono ?_
           (case side1 => repeat (first | exact (Kd.qM HO_8.out).2.2 | (with_reducible refine Kd.qa ?_ _) | (with_reducible refine Kd.qZ ?_ _) | (with_reducible refine Kd.qe ?_)))
           (case side2 => exact (Kd.qM HO_8.out).2.1)
           (case side3 => repeat (first | exact (Kd.qM HO_10.out).2.2 | (with_reducible refine Kd.qa ?_ _) | (with_reducible refine Kd.qZ ?_ _) | (with_reducible refine Kd.qe ?_)))
           (case side4 => exact (Kd.qM HO_10.out).2.1)
           rintro e w24 ⟨v663, rfl, ho0, hb⟩
           refine ⟨_, rfl, ?_⟩
           have n0_ := Aside0.mk (Kd.qc (by (with_reducible repeat (first | apply Kd.qK | apply Kd.qJ | apply Kd.qO)); exact HO_8.out) hb)
           have n1_ := Aside0.mk (Kd.qYA (by (with_reducible repeat (first | apply Kd.qK | apply Kd.qJ | apply Kd.qO)); exact HO_10.out) (Kd.qnA ho0) hb)
           have n2_ := Aside0.mk (Kd.qDA (Kd.qmA ho0 (Kd.R_lt (by (with_reducible repeat (first | apply Kd.qK | apply Kd.qJ | apply Kd.qO)); exact HO_10.out))) (qb bl))
           have n3_ := Aside0.mk (qG bl hb)
           clear HO_8
           clear HO_10
           clear HB
           have HO_8 := n0_
           have HO_10 := n1_
           have HO664 := n2_
           have HB := n3_
           clear n0_ n1_ n2_ n3_
           (try clear hb)
           (try clear hb2)
           (try clear hk)
           (try clear hi)
           (try clear ho0)
           refine hK.out _ _ trivial (fun hHeld => ?_)
           clear hK K
           refine norm_ (a' := ?_) ?_ ?_
           rotate_left
           ·show Act.put _ (some 47) _ = _
            simp only [Act.put, List.setIfInBounds_toArray, List.set_cons_zero, List.set_cons_succ, i64_w, i32_w, ql]
            rfl
           refine pure_ (i := 12) (N := some 35) (v := ?_) (a' := ?_) #[true, true, true, true, true, true, true, true, true, true, true, true, true, false, false, false, false] rfl rfl (qHB HT_.out (by kernel_rfl)) (fun _ _ _ h => h) (Or.inl ⟨by rfl, ?_⟩) ?_ ?_
           rotate_left
           ·intro w'
            go_simp
            first | (with_reducible rfl) | (rw [if_neg (by simp only [ByteArray.size_extract, ByteArray.size_append] at * <;> omega)]; try with_reducible rfl)
           rotate_left
           ·simp only [Act.put, List.setIfInBounds_toArray, List.set_cons_zero, List.set_cons_succ, i64_w, i32_w, ql]
            rfl
           refine pure_ (i := 13) (N := some 48) (v := ?_) (a' := ?_) #[true, true, true, true, true, true, true, true, true, true, true, true, true, true, false, false, false] rfl rfl (qHB HT_.out (by kernel_rfl)) (fun _ _ _ h => h) (Or.inl ⟨by rfl, ?_⟩) ?_ ?_
           rotate_left
           ·intro w'
            go_simp
            first | (with_reducible rfl) | (rw [if_neg (by simp only [ByteArray.size_extract, ByteArray.size_append] at * <;> omega)]; try with_reducible rfl)
           rotate_left
           ·simp only [Act.put, List.setIfInBounds_toArray, List.set_cons_zero, List.set_cons_succ, i64_w, i32_w, ql]
            rfl
           refine pure_ (i := 14) (N := some 49) (v := ?_) (a' := ?_) #[true, true, true, true, true, true, true, true, true, true, true, true, true, true, true, false, false] rfl rfl (qHB HT_.out (by kernel_rfl)) (fun _ _ _ h => h) (Or.inl ⟨by rfl, ?_⟩) ?_ ?_
           rotate_left
           ·intro w'
            go_simp
            first | (with_reducible rfl) | (rw [if_neg (by simp only [ByteArray.size_extract, ByteArray.size_append] at * <;> omega)]; try with_reducible rfl)
           rotate_left
           ·simp only [Act.put, List.setIfInBounds_toArray, List.set_cons_zero, List.set_cons_succ, i64_w, i32_w, ql]
            rfl
           refine pure_ (i := 15) (N := some 12) (v := ?_) (a' := ?_) #[true, true, true, true, true, true, true, true, true, true, true, true, true, true, true, true, false] rfl rfl (qHB HT_.out (by kernel_rfl)) (fun _ _ _ h => h) (Or.inl ⟨by rfl, ?_⟩) ?_ ?_
           rotate_left
           ·intro w'
            go_simp
            first | (with_reducible rfl) | (rw [if_neg (by simp only [ByteArray.size_extract, ByteArray.size_append] at * <;> omega)]; try with_reducible rfl)
           rotate_left
           ·simp only [Act.put, List.setIfInBounds_toArray, List.set_cons_zero, List.set_cons_succ, i64_w, i32_w, ql]
            rfl
           refine pure_ (i := 16) (N := some 13) (v := ?_) (a' := ?_) #[true, true, true, true, true, true, true, true, true, true, true, true, true, true, true, true, true] rfl rfl (qHB HT_.out (by kernel_rfl)) (fun _ _ _ h => h) (Or.inl ⟨by rfl, ?_⟩) ?_ ?_
           rotate_left
           ·intro w'
            go_simp
            first | (with_reducible rfl) | (rw [if_neg (by simp only [ByteArray.size_extract, ByteArray.size_append] at * <;> omega)]; try with_reducible rfl)
           rotate_left
           ·simp only [Act.put, List.setIfInBounds_toArray, List.set_cons_zero, List.set_cons_succ, i64_w, i32_w, ql]
            rfl
           refine done_ (qpB HT_.out (by kernel_rfl)) ?_
           try go_wp2
           go_roundg k2
           case measure => have := HJ4.out; have := HK2.out; omega
           case rel => exact ⟨(t661), (wrap64 (x11_2 + 2)), (by first | rfl | (simp; done) | (simp [*]; done)), H', ⟨by have := HJ4.out; have := HK2.out; omega⟩, ⟨by (with_reducible repeat (first | apply Kd.qK | apply Kd.qJ | apply Kd.qO)); exact HO_8.out⟩, ⟨by (with_reducible repeat (first | apply Kd.qK | apply Kd.qJ | apply Kd.qO)); exact Kd.qGA HO664.out (fun _ hk => trivial)⟩, ⟨bl⟩⟩
          ·replace c20 := Bool.eq_false_iff.mpr c20
           subst c20
           have H1 : (some (([] : List (S57)), false)) = some (r1, r2) := by rw [if_neg (show ¬ (false = true) by decide)] at H; exact H
           clear H
           have H := H1
           clear H1
           simp only [Option.some.injEq, Prod.mk.injEq] at H
           obtain ⟨rfl, rfl⟩ := H
           try go_wp2
           have n0_ := Aside0.mk (Kd.qO HO_8.out)
           have n1_ := Aside0.mk (Kd.qO HO_10.out)
           have n2_ := Aside0.mk (qp HB.out)
           clear HO_8
           clear HO_10
           clear HB
           have HO_8 := n0_
           have HO_10 := n1_
           have HB := n2_
           clear n0_ n1_ n2_
           have p14 : 0 ≤ (x11_2 : Int) := of_decide_eq_true (by first | (with_reducible assumption) | assumption)
           have q14 : x11_2 < (a2.size : Int) := of_decide_eq_true (by first | (with_reducible assumption) | assumption)
           have hx14 := bt_at a2 x11_2
           replace p14 := eq_true p14
           replace q14 := eq_true q14
           have p18 : 0 ≤ ((ji15) : Int) := of_decide_eq_true (by first | (with_reducible assumption) | assumption)
           have q18 : (ji15) < (a2.size : Int) := of_decide_eq_true (by first | (with_reducible assumption) | assumption)
           have hx18 := bt_at a2 (ji15)
           replace p18 := eq_true p18
           replace q18 := eq_true q18
           obtain ⟨Ao26, co26, eo26⟩ := Kd.qt HO_8.out
           (first | subst eo26 | (injection eo26 with f1_ f2_ f3_; have f4_ := f1_.symm; have f5_ := f3_.symm; clear f1_ f2_ f3_; subst f4_; subst f5_))
           obtain ⟨Ao27, co27, eo27⟩ := Kd.qt HO_10.out
           (first | subst eo27 | (injection eo27 with f1_ f2_ f3_; have f4_ := f1_.symm; have f5_ := f3_.symm; clear f1_ f2_ f3_; subst f4_; subst f5_))
           refine qDC (n := 17) (S := fun w' => True) (ds := []) #[false, false, false, false, false, false, false, false, false, false, false, false, false, false, false, false, false] (by kernel_rfl) rfl rfl trivial (fun hHeld => ?_); refine qJB qn.tab8 qn.bits8 (fun HT_ HW_ => ?_)
           generalize wr.drew = w25 at HO_8 HO_10 HB hHeld ⊢
           refine pure_ (i := 0) (N := some 36) (v := ?_) (a' := ?_) #[true, false, false, false, false, false, false, false, false, false, false, false, false, false, false, false, false] rfl rfl (qHB HT_.out (by kernel_rfl)) (fun _ _ _ h => h) (Or.inl ⟨by rfl, ?_⟩) ?_ ?_
           rotate_left
           ·intro w'
            go_simp
            first | (with_reducible rfl) | (rw [if_neg (by simp only [ByteArray.size_extract, ByteArray.size_append] at * <;> omega)]; try with_reducible rfl)
           rotate_left
           ·simp only [Act.put, List.setIfInBounds_toArray, List.set_cons_zero, List.set_cons_succ, i64_w, i32_w, ql]
            rfl
           refine pure_ (i := 1) (N := some 37) (v := ?_) (a' := ?_) #[true, true, false, false, false, false, false, false, false, false, false, false, false, false, false, false, false] rfl rfl (qHB HT_.out (by kernel_rfl)) (fun _ _ _ h => h) (Or.inl ⟨by rfl, ?_⟩) ?_ ?_
           rotate_left
           ·intro w'
            go_simp
            first | (with_reducible rfl) | (rw [if_neg (by simp only [ByteArray.size_extract, ByteArray.size_append] at * <;> omega)]; try with_reducible rfl)
           rotate_left
           ·simp only [Act.put, List.setIfInBounds_toArray, List.set_cons_zero, List.set_cons_succ, i64_w, i32_w, ql]
            rfl
           refine pure_ (i := 2) (N := some 38) (v := ?_) (a' := ?_) #[true, true, true, false, false, false, false, false, false, false, false, false, false, false, false, false, false] rfl rfl (qHB HT_.out (by kernel_rfl)) (fun _ _ _ h => h) (Or.inl ⟨by rfl, ?_⟩) ?_ ?_
           rotate_left
           ·intro w'
            go_simp
            first | (with_reducible rfl) | (rw [if_neg (by simp only [ByteArray.size_extract, ByteArray.size_append] at * <;> omega)]; try with_reducible rfl)
           rotate_left
           ·simp only [Act.put, List.setIfInBounds_toArray, List.set_cons_zero, List.set_cons_succ, i64_w, i32_w, ql]
            rfl
           refine pure_ (i := 3) (N := some 39) (v := ?_) (a' := ?_) #[true, true, true, true, false, false, false, false, false, false, false, false, false, false, false, false, false] rfl rfl (qHB HT_.out (by kernel_rfl)) (fun _ _ _ h => h) (Or.inl ⟨by rfl, ?_⟩) ?_ ?_
           rotate_left
           ·intro w'
            go_simp
            first | (with_reducible rfl) | (rw [if_neg (by simp only [ByteArray.size_extract, ByteArray.size_append] at * <;> omega)]; try with_reducible rfl)
           rotate_left
           ·simp only [Act.put, List.setIfInBounds_toArray, List.set_cons_zero, List.set_cons_succ, i64_w, i32_w, ql]
            rfl
           refine pure_ (i := 7) (N := some 43) (v := ?_) (a' := ?_) #[true, true, true, true, false, false, false, true, false, false, false, false, false, false, false, false, false] rfl rfl (qHB HT_.out (by kernel_rfl)) (fun _ _ _ h => h) (Or.inl ⟨by rfl, ?_⟩) ?_ ?_
           rotate_left
           ·intro w'
            go_simp
            first | (with_reducible rfl) | (rw [if_neg (by simp only [ByteArray.size_extract, ByteArray.size_append] at * <;> omega)]; try with_reducible rfl)
           rotate_left
           ·simp only [Act.put, List.setIfInBounds_toArray, List.set_cons_zero, List.set_cons_succ, i64_w, i32_w, ql]
            rfl
           refine pure_ (i := 8) (N := some 44) (v := ?_) (a' := ?_) #[true, true, true, true, false, false, false, true, true, false, false, false, false, false, false, false, false] rfl rfl (qHB HT_.out (by kernel_rfl)) (fun _ _ _ h => h) (Or.inl ⟨by rfl, ?_⟩) ?_ ?_
           rotate_left
           ·intro w'
            go_simp
            first | (with_reducible rfl) | (rw [if_neg (by simp only [ByteArray.size_extract, ByteArray.size_append] at * <;> omega)]; try with_reducible rfl)
           rotate_left
           ·simp only [Act.put, List.setIfInBounds_toArray, List.set_cons_zero, List.set_cons_succ, i64_w, i32_w, ql]
            rfl
           refine pure_ (i := 9) (N := some 45) (v := ?_) (a' := ?_) #[true, true, true, true, false, false, false, true, true, true, false, false, false, false, false, false, false] rfl rfl (qHB HT_.out (by kernel_rfl)) (fun _ _ _ h => h) (Or.inl ⟨by rfl, ?_⟩) ?_ ?_
           rotate_left
           ·intro w'
            go_simp
            first | (with_reducible rfl) | (rw [if_neg (by simp only [ByteArray.size_extract, ByteArray.size_append] at * <;> omega)]; try with_reducible rfl)
           rotate_left
           ·simp only [Act.put, List.setIfInBounds_toArray, List.set_cons_zero, List.set_cons_succ, i64_w, i32_w, ql]
            rfl
           refine take_ (i := 4) (N := some 40) (v := ?_) (a' := ?_) #[true, true, true, true, true, false, false, true, true, true, false, false, false, false, false, false, false] rfl rfl (qED HT_.out HW_.out (by kernel_rfl)) (fun _ _ _ h => h) (Or.inl ⟨by rfl, ?_⟩) hHeld ?_ ?_
           rotate_left
           ·intro w' _
            go_simp
            first | (with_reducible rfl) | (rw [if_neg (by simp only [ByteArray.size_extract, ByteArray.size_append] at * <;> omega)]; try with_reducible rfl)
           rotate_left
           ·simp only [Act.put, List.setIfInBounds_toArray, List.set_cons_zero, List.set_cons_succ, i64_w, i32_w, ql]
            rfl
           refine pure_ (i := 5) (N := some 41) (v := ?_) (a' := ?_) #[true, true, true, true, true, true, false, true, true, true, false, false, false, false, false, false, false] rfl rfl (qHB HT_.out (by kernel_rfl)) (fun _ _ _ h => h) (Or.inl ⟨by rfl, ?_⟩) ?_ ?_
           rotate_left
           ·intro w'
            go_simp
            first | (with_reducible rfl) | (rw [if_neg (by simp only [ByteArray.size_extract, ByteArray.size_append] at * <;> omega)]; try with_reducible rfl)
           rotate_left
           ·simp only [Act.put, List.setIfInBounds_toArray, List.set_cons_zero, List.set_cons_succ, i64_w, i32_w, ql]
            rfl
           refine pure_ (i := 6) (N := some 42) (v := ?_) (a' := ?_) #[true, true, true, true, true, true, true, true, true, true, false, false, false, false, false, false, false] rfl rfl (qHB HT_.out (by kernel_rfl)) (fun _ _ _ h => h) (Or.inl ⟨by rfl, ?_⟩) ?_ ?_
           rotate_left
           ·intro w'
            go_simp
            first | (with_reducible rfl) | (rw [if_neg (by simp only [ByteArray.size_extract, ByteArray.size_append] at * <;> omega)]; try with_reducible rfl)
           rotate_left
           ·simp only [Act.put, List.setIfInBounds_toArray, List.set_cons_zero, List.set_cons_succ, i64_w, i32_w, ql]
            rfl
           refine take_ (i := 10) (N := some 46) (v := ?_) (a' := ?_) #[true, true, true, true, true, true, true, true, true, true, true, false, false, false, false, false, false] rfl rfl (qED HT_.out HW_.out (by kernel_rfl)) (fun _ _ _ h => h) (Or.inl ⟨by rfl, ?_⟩) hHeld ?_ ?_
           rotate_left
           ·intro w' _
            go_simp
            first | (with_reducible rfl) | (rw [if_neg (by simp only [ByteArray.size_extract, ByteArray.size_append] at * <;> omega)]; try with_reducible rfl)
           rotate_left
           ·simp only [Act.put, List.setIfInBounds_toArray, List.set_cons_zero, List.set_cons_succ, i64_w, i32_w, ql]
            rfl
           refine one_ (i := 11) (N := some 47) #[true, true, true, true, true, true, true, true, true, true, true, true, false, false, false, false, false] rfl rfl (qNB HT_.out (by kernel_rfl)) (by decide) (fun K hK => ?_)
           refine goes_ Tryd.func51 (by kernel_rfl) rfl #[.slice Ao26 t653.length co26, .slice Ao27 x10_2.length co27, .int .i64 (((bt a2 x11_2) - 48) % 256), .int .u8 (bt a2 (ji15))] (by rfl) rfl rfl (by (try simp only [List.map_toArray, List.map_cons, List.map_nil]); first | done | (simp only [hji15]; rfl) | rfl | (simp only [List.length_drop, List.length_take]; rfl)) ?_
           with_reducible refine (qbA.calls _ _ t653 _ _ x10_2 (((bt a2 x11_2) - 48) % 256) (bt a2 (ji15)) t661 false _ ?side1 ?side2 ?side3 ?side4 A19.out).mono ?_
           (case side1 => repeat (first | exact (Kd.qM HO_8.out).2.2 | (with_reducible refine Kd.qa ?_ _) | (with_reducible refine Kd.qZ ?_ _) | (with_reducible refine Kd.qe ?_)))
           (case side2 => exact (Kd.qM HO_8.out).2.1)
           (case side3 => repeat (first | exact (Kd.qM HO_10.out).2.2 | (with_reducible refine Kd.qa ?_ _) | (with_reducible refine Kd.qZ ?_ _) | (with_reducible refine Kd.qe ?_)))
           (case side4 => exact (Kd.qM HO_10.out).2.1)
           rintro e w28 ⟨v663, rfl, ho0, hb⟩
           refine ⟨_, rfl, ?_⟩
           have n0_ := Aside0.mk (Kd.qc (by (with_reducible repeat (first | apply Kd.qK | apply Kd.qJ | apply Kd.qO)); exact HO_8.out) hb)
           have n1_ := Aside0.mk (Kd.qYA (by (with_reducible repeat (first | apply Kd.qK | apply Kd.qJ | apply Kd.qO)); exact HO_10.out) (Kd.qnA ho0) hb)
           have n2_ := Aside0.mk (Kd.qDA (Kd.qmA ho0 (Kd.R_lt (by (with_reducible repeat (first | apply Kd.qK | apply Kd.qJ | apply Kd.qO)); exact HO_10.out))) (qb bl))
           have n3_ := Aside0.mk (qG bl hb)
           clear HO_8
           clear HO_10
           clear HB
           have HO_8 := n0_
           have HO_10 := n1_
           have HO664 := n2_
           have HB := n3_
           clear n0_ n1_ n2_ n3_
           (try clear hb)
           (try clear hb2)
           (try clear hk)
           (try clear hi)
           (try clear ho0)
           refine hK.out _ _ trivial (fun hHeld => ?_)
           clear hK K
           refine norm_ (a' := ?_) ?_ ?_
           rotate_left
           ·show Act.put _ (some 47) _ = _
            simp only [Act.put, List.setIfInBounds_toArray, List.set_cons_zero, List.set_cons_succ, i64_w, i32_w, ql]
            rfl
           refine pure_ (i := 12) (N := some 35) (v := ?_) (a' := ?_) #[true, true, true, true, true, true, true, true, true, true, true, true, true, false, false, false, false] rfl rfl (qHB HT_.out (by kernel_rfl)) (fun _ _ _ h => h) (Or.inl ⟨by rfl, ?_⟩) ?_ ?_
           rotate_left
           ·intro w'
            go_simp
            first | (with_reducible rfl) | (rw [if_neg (by simp only [ByteArray.size_extract, ByteArray.size_append] at * <;> omega)]; try with_reducible rfl)
           rotate_left
           ·simp only [Act.put, List.setIfInBounds_toArray, List.set_cons_zero, List.set_cons_succ, i64_w, i32_w, ql]
            rfl
           refine pure_ (i := 13) (N := some 48) (v := ?_) (a' := ?_) #[true, true, true, true, true, true, true, true, true, true, true, true, true, true, false, false, false] rfl rfl (qHB HT_.out (by kernel_rfl)) (fun _ _ _ h => h) (Or.inl ⟨by rfl, ?_⟩) ?_ ?_
           rotate_left
           ·intro w'
            go_simp
            first | (with_reducible rfl) | (rw [if_neg (by simp only [ByteArray.size_extract, ByteArray.size_append] at * <;> omega)]; try with_reducible rfl)
           rotate_left
           ·simp only [Act.put, List.setIfInBounds_toArray, List.set_cons_zero, List.set_cons_succ, i64_w, i32_w, ql]
            rfl
           refine pure_ (i := 14) (N := some 49) (v := ?_) (a' := ?_) #[true, true, true, true, true, true, true, true, true, true, true, true, true, true, true, false, false] rfl rfl (qHB HT_.out (by kernel_rfl)) (fun _ _ _ h => h) (Or.inl ⟨by rfl, ?_⟩) ?_ ?_
           rotate_left
           ·intro w'
            go_simp
            first | (with_reducible rfl) | (rw [if_neg (by simp only [ByteArray.size_extract, ByteArray.size_append] at * <;> omega)]; try with_reducible rfl)
           rotate_left
           ·simp only [Act.put, List.setIfInBounds_toArray, List.set_cons_zero, List.set_cons_succ, i64_w, i32_w, ql]
            rfl
           refine pure_ (i := 15) (N := some 12) (v := ?_) (a' := ?_) #[true, true, true, true, true, true, true, true, true, true, true, true, true, true, true, true, false] rfl rfl (qHB HT_.out (by kernel_rfl)) (fun _ _ _ h => h) (Or.inl ⟨by rfl, ?_⟩) ?_ ?_
           rotate_left
           ·intro w'
            go_simp
            first | (with_reducible rfl) | (rw [if_neg (by simp only [ByteArray.size_extract, ByteArray.size_append] at * <;> omega)]; try with_reducible rfl)
           rotate_left
           ·simp only [Act.put, List.setIfInBounds_toArray, List.set_cons_zero, List.set_cons_succ, i64_w, i32_w, ql]
            rfl
           refine pure_ (i := 16) (N := some 13) (v := ?_) (a' := ?_) #[true, true, true, true, true, true, true, true, true, true, true, true, true, true, true, true, true] rfl rfl (qHB HT_.out (by kernel_rfl)) (fun _ _ _ h => h) (Or.inl ⟨by rfl, ?_⟩) ?_ ?_
           rotate_left
           ·intro w'
            go_simp
            first | (with_reducible rfl) | (rw [if_neg (by simp only [ByteArray.size_extract, ByteArray.size_append] at * <;> omega)]; try with_reducible rfl)
           rotate_left
           ·simp only [Act.put, List.setIfInBounds_toArray, List.set_cons_zero, List.set_cons_succ, i64_w, i32_w, ql]
            rfl
           refine done_ (qpB HT_.out (by kernel_rfl)) ?_
           try go_wp2
           go_ret2
           exact ⟨_, by first | rfl | (simp [qI, qH] <;> rfl) | (simp only [← hji15]; first | rfl | (simp [qI, qH] <;> rfl)) | (simp [*, qI, qH] <;> rfl), by first | exact Kd.R_nil _ _ _ _ _ | exact Kd.N_nil _ _ _ _ _ | exact Kd.V_nil _ _ _ _ _ | exact Kd.Q_nil _ _ _ _ _ | exact Kd.S_nil _ _ _ _ _, bl⟩
         ·rw [if_neg c17] at H
          exact absurd H (by simp)
        ·rw [if_neg c16] at H
         exact absurd H (by simp)
       ·rw [if_neg c13] at H
        exact absurd H (by simp)
      ·rw [if_neg c12] at H
       have c12b0 : decide (x11_2 < (a2.size : Int)) = false := decide_eq_false c12
       clear c12
       simp only [Option.some.injEq, Prod.mk.injEq] at H
       obtain ⟨rfl, rfl⟩ := H
       go_wp2
       go_ret2
       exact ⟨_, by first | rfl | (simp [qI, qH] <;> rfl) | (simp [*, qI, qH] <;> rfl), by (with_reducible repeat (first | apply Kd.qK | apply Kd.qJ | apply Kd.qO)); exact HO_10.out, bl⟩
end Go.Proofs.YtgjdjnggkmojnaaDoor.P
