/- The program's DiceMoves returns what the reference's returns, for all texts and dice (the law lets longer texts and lists by). No further condition. -/
import Derived.Test.YtgjdjnggkmojnaaDoorKFnExactDiceMoves1
import Derived.Lib.Strings

namespace Go.Proofs.YtgjdjnggkmojnaaDoor.P
open Go.RowKit Go.Proofs.YtgjdjnggkmojnaaDoorW.PrintWords Go.Proofs.YtgjdjnggkmojnaaDoorW.PrintLast Go.Proofs.YtgjdjnggkmojnaaDoorW.PrintMore
attribute [local go_sem] qLA qJA qVA qUA qy qx qKA qIA
set_option linter.unusedVariables false
set_option linter.unusedSimpArgs false
def qbA.f (l0 : List ByteArray) (l1 : List (S57)) (a2 : Int) (a3 : Int) : Option ((List (S57)) × Bool) := (qwA.f a2 0 (wrap64 ((l1.length : Int) - 1))).bind fun t399 => (if t399 = true then (if 0 ≤ a2 then (if a2 < (l1.length : Int) then ((qEB.f l0 ((qC l1 a2).f0) ((qC l1 a2).f1) ((qC l1 a2).f2.f0) ((qC l1 a2).f2.f1) ((qC l1 a2).f2.f2) ((qC l1 a2).f2.f3) ((qC l1 a2).f2.f4) ((qC l1 a2).f2.f5) a3).bind fun bt401 => (if bt401.2.2.2.2.2.2.2.2 = true then ((qdC.f l1 bt401.1 bt401.2.1 bt401.2.2.1 bt401.2.2.2.1 bt401.2.2.2.2.1 bt401.2.2.2.2.2.1 bt401.2.2.2.2.2.2.1 bt401.2.2.2.2.2.2.2.1).bind fun t411 => (if t411 = true then (some (([] : List (S57)), false)) else ((qyA.f l1).bind fun t412 => (if a2 < (t412.length : Int) then (some ((t412.set (a2 : Int).toNat (⟨bt401.1, bt401.2.1, (⟨bt401.2.2.1, bt401.2.2.2.1, bt401.2.2.2.2.1, bt401.2.2.2.2.2.1, bt401.2.2.2.2.2.2.1, bt401.2.2.2.2.2.2.2.1⟩ : S55)⟩ : S57)), true)) else (none))))) else (some (([] : List (S57)), false)))) else (none)) else (none)) else (some (([] : List (S57)), false)))
set_option maxHeartbeats 8000000 in
set_option maxRecDepth 100000 in
theorem qbA.calls (A0 : Option Addr) (c0 : Nat) (l0 : List ByteArray) (A1 : Option Addr) (c1 : Nat) (l1 : List (S57)) (a2 : Int) (a3 : Int) (r1 : List (S57)) (r2 : Bool) (w : World) (hr0 : Kd.C Kd.string w A0 l0.length l0) (hc0 : l0.length ≤ c0) (hr1 : Kd.C k57 w A1 l1.length l1) (hc1 : l1.length ≤ c1) (h : qbA.f l0 l1 a2 a3 = some (r1, r2)) :
  Calls Tryd.prog 51 #[.slice A0 l0.length c0, .slice A1 l1.length c1, .int .i64 a2, .int .u8 a3] w fun e w' => ∃ v0_ : Value, e = .returned (.tuple #[v0_, .bool r2]) ∧ Kd.R k57 57 w' w.heap.size (fun _ => True) v0_ r1 ∧ Below w.heap.size w w' := by
 have hu57 := Tryd.underlying57
 have HR0 := Aside0.mk hr0
 have HC0 := Aside0.mk hc0
 clear hr0 hc0
 have HR1 := Aside0.mk hr1
 have HC1 := Aside0.mk hc1
 clear hr1 hc1
 have HB := Aside0.mk (Below.refl w.heap.size w)
 have H : ((qwA.f a2 0 (wrap64 ((l1.length : Int) - 1))).bind fun t399 => (if t399 = true then (if 0 ≤ a2 then (if a2 < (l1.length : Int) then ((qEB.f l0 ((qC l1 a2).f0) ((qC l1 a2).f1) ((qC l1 a2).f2.f0) ((qC l1 a2).f2.f1) ((qC l1 a2).f2.f2) ((qC l1 a2).f2.f3) ((qC l1 a2).f2.f4) ((qC l1 a2).f2.f5) a3).bind fun bt401 => (if bt401.2.2.2.2.2.2.2.2 = true then ((qdC.f l1 bt401.1 bt401.2.1 bt401.2.2.1 bt401.2.2.2.1 bt401.2.2.2.2.1 bt401.2.2.2.2.2.1 bt401.2.2.2.2.2.2.1 bt401.2.2.2.2.2.2.2.1).bind fun t411 => (if t411 = true then (some (([] : List (S57)), false)) else ((qyA.f l1).bind fun t412 => (if a2 < (t412.length : Int) then (some ((t412.set (a2 : Int).toNat (⟨bt401.1, bt401.2.1, (⟨bt401.2.2.1, bt401.2.2.2.1, bt401.2.2.2.2.1, bt401.2.2.2.2.2.1, bt401.2.2.2.2.2.2.1, bt401.2.2.2.2.2.2.2.1⟩ : S55)⟩ : S57)), true)) else (none))))) else (some (([] : List (S57)), false)))) else (none)) else (none)) else (some (([] : List (S57)), false)))) = some (r1, r2) := h
 clear h
 replace H := Option.bind_eq_some_iff.mp H
 obtain ⟨t399, A50, H⟩ := H
 replace H : (if t399 = true then (if 0 ≤ a2 then (if a2 < (l1.length : Int) then ((qEB.f l0 ((qC l1 a2).f0) ((qC l1 a2).f1) ((qC l1 a2).f2.f0) ((qC l1 a2).f2.f1) ((qC l1 a2).f2.f2) ((qC l1 a2).f2.f3) ((qC l1 a2).f2.f4) ((qC l1 a2).f2.f5) a3).bind fun bt401 => (if bt401.2.2.2.2.2.2.2.2 = true then ((qdC.f l1 bt401.1 bt401.2.1 bt401.2.2.1 bt401.2.2.2.1 bt401.2.2.2.2.1 bt401.2.2.2.2.2.1 bt401.2.2.2.2.2.2.1 bt401.2.2.2.2.2.2.2.1).bind fun t411 => (if t411 = true then (some (([] : List (S57)), false)) else ((qyA.f l1).bind fun t412 => (if a2 < (t412.length : Int) then (some ((t412.set (a2 : Int).toNat (⟨bt401.1, bt401.2.1, (⟨bt401.2.2.1, bt401.2.2.2.1, bt401.2.2.2.2.1, bt401.2.2.2.2.2.1, bt401.2.2.2.2.2.2.1, bt401.2.2.2.2.2.2.2.1⟩ : S55)⟩ : S57)), true)) else (none))))) else (some (([] : List (S57)), false)))) else (none)) else (none)) else (some (([] : List (S57)), false))) = some (r1, r2) := H
 have A5 := Aside0.mk A50
 clear A50
 by_cases c6 : t399 = true
 ·subst c6
  have H1 : (if 0 ≤ a2 then (if a2 < (l1.length : Int) then ((qEB.f l0 ((qC l1 a2).f0) ((qC l1 a2).f1) ((qC l1 a2).f2.f0) ((qC l1 a2).f2.f1) ((qC l1 a2).f2.f2) ((qC l1 a2).f2.f3) ((qC l1 a2).f2.f4) ((qC l1 a2).f2.f5) a3).bind fun bt401 => (if bt401.2.2.2.2.2.2.2.2 = true then ((qdC.f l1 bt401.1 bt401.2.1 bt401.2.2.1 bt401.2.2.2.1 bt401.2.2.2.2.1 bt401.2.2.2.2.2.1 bt401.2.2.2.2.2.2.1 bt401.2.2.2.2.2.2.2.1).bind fun t411 => (if t411 = true then (some (([] : List (S57)), false)) else ((qyA.f l1).bind fun t412 => (if a2 < (t412.length : Int) then (some ((t412.set (a2 : Int).toNat (⟨bt401.1, bt401.2.1, (⟨bt401.2.2.1, bt401.2.2.2.1, bt401.2.2.2.2.1, bt401.2.2.2.2.2.1, bt401.2.2.2.2.2.2.1, bt401.2.2.2.2.2.2.2.1⟩ : S55)⟩ : S57)), true)) else (none))))) else (some (([] : List (S57)), false)))) else (none)) else (none)) = some (r1, r2) := by rw [if_pos rfl] at H; exact H
  clear H
  have H := H1
  clear H1
  by_cases c7 : 0 ≤ a2
  ·rw [if_pos c7] at H
   have c7b0 : decide (0 ≤ a2) = true := decide_eq_true c7
   clear c7
   by_cases c8 : a2 < (l1.length : Int)
   ·rw [if_pos c8] at H
    have c8b0 : decide (a2 < (l1.length : Int)) = true := decide_eq_true c8
    clear c8
    replace H := Option.bind_eq_some_iff.mp H
    obtain ⟨⟨t401, t402, t403, t404, t405, t406, t407, t408, t409⟩, A90, H⟩ := H
    replace H : (if t409 = true then ((qdC.f l1 t401 t402 t403 t404 t405 t406 t407 t408).bind fun t411 => (if t411 = true then (some (([] : List (S57)), false)) else ((qyA.f l1).bind fun t412 => (if a2 < (t412.length : Int) then (some ((t412.set (a2 : Int).toNat (⟨t401, t402, (⟨t403, t404, t405, t406, t407, t408⟩ : S55)⟩ : S57)), true)) else (none))))) else (some (([] : List (S57)), false))) = some (r1, r2) := H
    have A9 := Aside0.mk A90
    clear A90
    by_cases c10 : t409 = true
    ·subst c10
     have H1 : ((qdC.f l1 t401 t402 t403 t404 t405 t406 t407 t408).bind fun t411 => (if t411 = true then (some (([] : List (S57)), false)) else ((qyA.f l1).bind fun t412 => (if a2 < (t412.length : Int) then (some ((t412.set (a2 : Int).toNat (⟨t401, t402, (⟨t403, t404, t405, t406, t407, t408⟩ : S55)⟩ : S57)), true)) else (none))))) = some (r1, r2) := by rw [if_pos rfl] at H; exact H
     clear H
     have H := H1
     clear H1
     replace H := Option.bind_eq_some_iff.mp H
     obtain ⟨t411, A110, H⟩ := H
     replace H : (if t411 = true then (some (([] : List (S57)), false)) else ((qyA.f l1).bind fun t412 => (if a2 < (t412.length : Int) then (some ((t412.set (a2 : Int).toNat (⟨t401, t402, (⟨t403, t404, t405, t406, t407, t408⟩ : S55)⟩ : S57)), true)) else (none)))) = some (r1, r2) := H
     have A11 := Aside0.mk A110
     clear A110
     by_cases c12 : t411 = true
     ·subst c12
      have H1 : (some (([] : List (S57)), false)) = some (r1, r2) := by rw [if_pos rfl] at H; exact H
      clear H
      have H := H1
      clear H1
      simp only [Option.some.injEq, Prod.mk.injEq] at H
      obtain ⟨rfl, rfl⟩ := H
      go_enter Tryd.func51, Tryd.ntmps51
      go_wp2_with (first | ((with_reducible refine qL (f := 70) rfl ?_); refine qh (some 17) rfl rfl Tryd.func70 (by kernel_rfl) rfl #[.int .i64 a2, .int .i64 0, .int .i64 (wrap64 ((l1.length : Int) - 1))] rfl (by (try simp only [List.map_toArray, List.map_cons, List.map_nil]); first | done | rfl | (simp only [List.length_drop, List.length_take]; rfl)) ?_; (with_reducible refine (qwA.calls a2 0 (wrap64 ((l1.length : Int) - 1)) true _ A5.out).mono ?_); rintro e w' ⟨rfl, ⟨nd, rfl⟩⟩; refine ⟨_, rfl, ?_⟩; have p400 : 0 ≤ (a2 : Int) := of_decide_eq_true (by first | (with_reducible assumption) | assumption); have q400 : a2 < (l1.length : Int) := of_decide_eq_true (by first | (with_reducible assumption) | assumption); obtain ⟨ad400, e400, hx400_0, hx400_1, hx400_2, hx400_3, hx400_4, hx400_5, hx400_6, hx400_7⟩ := qgA HR1.out a2 p400 q400; cases e400; replace p400 := eq_true p400; replace q400 := eq_true q400) | ((with_reducible refine qL (f := 75) rfl ?_); refine qh (some 26) rfl rfl Tryd.func75 (by kernel_rfl) rfl #[.slice A0 l0.length c0, .agg #[.int .i64 ((qC l1 a2).f0), .int .i64 ((qC l1 a2).f1), .int .i64 ((qC l1 a2).f2.f0), .int .i64 ((qC l1 a2).f2.f1), .int .i64 ((qC l1 a2).f2.f2), .int .i64 ((qC l1 a2).f2.f3), .int .i64 ((qC l1 a2).f2.f4), .int .i64 ((qC l1 a2).f2.f5)], .int .u8 a3] rfl (by (try simp only [List.map_toArray, List.map_cons, List.map_nil]); first | done | rfl | (simp only [List.length_drop, List.length_take]; rfl)) ?_; (with_reducible refine (qEB.calls _ _ l0 ((qC l1 a2).f0) ((qC l1 a2).f1) ((qC l1 a2).f2.f0) ((qC l1 a2).f2.f1) ((qC l1 a2).f2.f2) ((qC l1 a2).f2.f3) ((qC l1 a2).f2.f4) ((qC l1 a2).f2.f5) a3 t401 t402 t403 t404 t405 t406 t407 t408 true _ ?side1 ?side2 A9.out).mono ?_); (case side1 => repeat (first | exact HR0.out | (with_reducible refine Kd.qa ?_ _) | (with_reducible refine Kd.qZ ?_ _) | (with_reducible refine Kd.qe ?_))); (case side2 => exact HC0.out); rintro e w13 ⟨rfl, hb⟩; refine ⟨_, rfl, ?_⟩; have n0_ := Aside0.mk (qG bl hb); clear HB; have HB := n0_; clear n0_; (try clear hb); (try clear hb2); (try clear hk); (try clear hi)) | ((with_reducible refine qg (N := 10) rfl ?_); refine qd ?hg (N := 10) ?hd (cs := #[.int .i64 0, .int .i64 0, .int .i64 0, .int .i64 0, .int .i64 0, .int .i64 0, .int .i64 0, .int .i64 0]) (t := 57) ?hr ?_; (case hd => rfl); (case hg => rfl); (case hr => first | (go_simp; done) | (go_simp; rfl)); intro gb410 hg w14 hbox hb; have n0_ := Aside0.mk (qG bl hb); have n1_ := Aside0.mk (hbox); have n2_ := Aside0.mk ((gg hg)); have n3_ := Aside0.mk ((gg hg)); clear HB; have HB := n0_; have BK410 := n1_; have GW410 := n2_; have GE410 := n3_; clear n0_ n1_ n2_ n3_; clear hb hbox hg; have hcz15_0 := bc BK410 0; have hcz15_1 := bc BK410 1; have hcz15_2 := bc BK410 2; have hcz15_3 := bc BK410 3; have hcz15_4 := bc BK410 4; have hcz15_5 := bc BK410 5; have hcz15_6 := bc BK410 6; have hcz15_7 := bc BK410 7; have hfz15_0 := qA BK410.out 0; have hfz15_1 := qA BK410.out 1; have hfz15_2 := qA BK410.out 2; have hfz15_3 := qA BK410.out 3; have hfz15_4 := qA BK410.out 4; have hfz15_5 := qA BK410.out 5; have hfz15_6 := qA BK410.out 6; have hfz15_7 := qA BK410.out 7) | (go_at_call 67; (with_reducible refine (qdC.calls _ _ l1 gb410 t401 t402 t403 t404 t405 t406 t407 t408 true _ ?side1 ?side2 ?side3 ?side4 ?side5 ?side6 ?side7 ?side8 ?side9 ?side10 A11.out).mono ?_); (case side1 => exact Kd.qWA HR1.out bl); (case side2 => exact HC1.out); (case side3 => exact (cell_of_row _ gb410 0 _ 57 (0, 0) (by (with_reducible repeat (first | refine qE ?_ _ | refine qF ?_ | refine qD ?_ _)); refine qN (cs := #[.int .i64 t401, .int .i64 t402, .int .i64 t403, .int .i64 t404, .int .i64 t405, .int .i64 t406, .int .i64 t407, .int .i64 0]) ?_ 7 _ rfl; (with_reducible repeat (first | refine qE ?_ _ | refine qF ?_ | refine qD ?_ _)); refine qN (cs := #[.int .i64 t401, .int .i64 t402, .int .i64 t403, .int .i64 t404, .int .i64 t405, .int .i64 t406, .int .i64 0, .int .i64 0]) ?_ 6 _ rfl; (with_reducible repeat (first | refine qE ?_ _ | refine qF ?_ | refine qD ?_ _)); refine qN (cs := #[.int .i64 t401, .int .i64 t402, .int .i64 t403, .int .i64 t404, .int .i64 t405, .int .i64 0, .int .i64 0, .int .i64 0]) ?_ 5 _ rfl; (with_reducible repeat (first | refine qE ?_ _ | refine qF ?_ | refine qD ?_ _)); refine qN (cs := #[.int .i64 t401, .int .i64 t402, .int .i64 t403, .int .i64 t404, .int .i64 0, .int .i64 0, .int .i64 0, .int .i64 0]) ?_ 4 _ rfl; (with_reducible repeat (first | refine qE ?_ _ | refine qF ?_ | refine qD ?_ _)); refine qN (cs := #[.int .i64 t401, .int .i64 t402, .int .i64 t403, .int .i64 0, .int .i64 0, .int .i64 0, .int .i64 0, .int .i64 0]) ?_ 3 _ rfl; (with_reducible repeat (first | refine qE ?_ _ | refine qF ?_ | refine qD ?_ _)); refine qN (cs := #[.int .i64 t401, .int .i64 t402, .int .i64 0, .int .i64 0, .int .i64 0, .int .i64 0, .int .i64 0, .int .i64 0]) ?_ 2 _ rfl; (with_reducible repeat (first | refine qE ?_ _ | refine qF ?_ | refine qD ?_ _)); refine qN (cs := #[.int .i64 t401, .int .i64 0, .int .i64 0, .int .i64 0, .int .i64 0, .int .i64 0, .int .i64 0, .int .i64 0]) ?_ 1 _ rfl; (with_reducible repeat (first | refine qE ?_ _ | refine qF ?_ | refine qD ?_ _)); refine qN (cs := #[.int .i64 0, .int .i64 0, .int .i64 0, .int .i64 0, .int .i64 0, .int .i64 0, .int .i64 0, .int .i64 0]) ?_ 0 _ rfl; (with_reducible repeat (first | refine qE ?_ _ | refine qF ?_ | refine qD ?_ _)); exact BK410.out)).trans rfl); (case side4 => exact (cell_of_row _ gb410 1 _ 57 (0, 0) (by (with_reducible repeat (first | refine qE ?_ _ | refine qF ?_ | refine qD ?_ _)); refine qN (cs := #[.int .i64 t401, .int .i64 t402, .int .i64 t403, .int .i64 t404, .int .i64 t405, .int .i64 t406, .int .i64 t407, .int .i64 0]) ?_ 7 _ rfl; (with_reducible repeat (first | refine qE ?_ _ | refine qF ?_ | refine qD ?_ _)); refine qN (cs := #[.int .i64 t401, .int .i64 t402, .int .i64 t403, .int .i64 t404, .int .i64 t405, .int .i64 t406, .int .i64 0, .int .i64 0]) ?_ 6 _ rfl; (with_reducible repeat (first | refine qE ?_ _ | refine qF ?_ | refine qD ?_ _)); refine qN (cs := #[.int .i64 t401, .int .i64 t402, .int .i64 t403, .int .i64 t404, .int .i64 t405, .int .i64 0, .int .i64 0, .int .i64 0]) ?_ 5 _ rfl; (with_reducible repeat (first | refine qE ?_ _ | refine qF ?_ | refine qD ?_ _)); refine qN (cs := #[.int .i64 t401, .int .i64 t402, .int .i64 t403, .int .i64 t404, .int .i64 0, .int .i64 0, .int .i64 0, .int .i64 0]) ?_ 4 _ rfl; (with_reducible repeat (first | refine qE ?_ _ | refine qF ?_ | refine qD ?_ _)); refine qN (cs := #[.int .i64 t401, .int .i64 t402, .int .i64 t403, .int .i64 0, .int .i64 0, .int .i64 0, .int .i64 0, .int .i64 0]) ?_ 3 _ rfl; (with_reducible repeat (first | refine qE ?_ _ | refine qF ?_ | refine qD ?_ _)); refine qN (cs := #[.int .i64 t401, .int .i64 t402, .int .i64 0, .int .i64 0, .int .i64 0, .int .i64 0, .int .i64 0, .int .i64 0]) ?_ 2 _ rfl; (with_reducible repeat (first | refine qE ?_ _ | refine qF ?_ | refine qD ?_ _)); refine qN (cs := #[.int .i64 t401, .int .i64 0, .int .i64 0, .int .i64 0, .int .i64 0, .int .i64 0, .int .i64 0, .int .i64 0]) ?_ 1 _ rfl; (with_reducible repeat (first | refine qE ?_ _ | refine qF ?_ | refine qD ?_ _)); refine qN (cs := #[.int .i64 0, .int .i64 0, .int .i64 0, .int .i64 0, .int .i64 0, .int .i64 0, .int .i64 0, .int .i64 0]) ?_ 0 _ rfl; (with_reducible repeat (first | refine qE ?_ _ | refine qF ?_ | refine qD ?_ _)); exact BK410.out)).trans rfl); (case side5 => exact (cell_of_row _ gb410 2 _ 57 (0, 0) (by (with_reducible repeat (first | refine qE ?_ _ | refine qF ?_ | refine qD ?_ _)); refine qN (cs := #[.int .i64 t401, .int .i64 t402, .int .i64 t403, .int .i64 t404, .int .i64 t405, .int .i64 t406, .int .i64 t407, .int .i64 0]) ?_ 7 _ rfl; (with_reducible repeat (first | refine qE ?_ _ | refine qF ?_ | refine qD ?_ _)); refine qN (cs := #[.int .i64 t401, .int .i64 t402, .int .i64 t403, .int .i64 t404, .int .i64 t405, .int .i64 t406, .int .i64 0, .int .i64 0]) ?_ 6 _ rfl; (with_reducible repeat (first | refine qE ?_ _ | refine qF ?_ | refine qD ?_ _)); refine qN (cs := #[.int .i64 t401, .int .i64 t402, .int .i64 t403, .int .i64 t404, .int .i64 t405, .int .i64 0, .int .i64 0, .int .i64 0]) ?_ 5 _ rfl; (with_reducible repeat (first | refine qE ?_ _ | refine qF ?_ | refine qD ?_ _)); refine qN (cs := #[.int .i64 t401, .int .i64 t402, .int .i64 t403, .int .i64 t404, .int .i64 0, .int .i64 0, .int .i64 0, .int .i64 0]) ?_ 4 _ rfl; (with_reducible repeat (first | refine qE ?_ _ | refine qF ?_ | refine qD ?_ _)); refine qN (cs := #[.int .i64 t401, .int .i64 t402, .int .i64 t403, .int .i64 0, .int .i64 0, .int .i64 0, .int .i64 0, .int .i64 0]) ?_ 3 _ rfl; (with_reducible repeat (first | refine qE ?_ _ | refine qF ?_ | refine qD ?_ _)); refine qN (cs := #[.int .i64 t401, .int .i64 t402, .int .i64 0, .int .i64 0, .int .i64 0, .int .i64 0, .int .i64 0, .int .i64 0]) ?_ 2 _ rfl; (with_reducible repeat (first | refine qE ?_ _ | refine qF ?_ | refine qD ?_ _)); refine qN (cs := #[.int .i64 t401, .int .i64 0, .int .i64 0, .int .i64 0, .int .i64 0, .int .i64 0, .int .i64 0, .int .i64 0]) ?_ 1 _ rfl; (with_reducible repeat (first | refine qE ?_ _ | refine qF ?_ | refine qD ?_ _)); refine qN (cs := #[.int .i64 0, .int .i64 0, .int .i64 0, .int .i64 0, .int .i64 0, .int .i64 0, .int .i64 0, .int .i64 0]) ?_ 0 _ rfl; (with_reducible repeat (first | refine qE ?_ _ | refine qF ?_ | refine qD ?_ _)); exact BK410.out)).trans rfl); (case side6 => exact (cell_of_row _ gb410 3 _ 57 (0, 0) (by (with_reducible repeat (first | refine qE ?_ _ | refine qF ?_ | refine qD ?_ _)); refine qN (cs := #[.int .i64 t401, .int .i64 t402, .int .i64 t403, .int .i64 t404, .int .i64 t405, .int .i64 t406, .int .i64 t407, .int .i64 0]) ?_ 7 _ rfl; (with_reducible repeat (first | refine qE ?_ _ | refine qF ?_ | refine qD ?_ _)); refine qN (cs := #[.int .i64 t401, .int .i64 t402, .int .i64 t403, .int .i64 t404, .int .i64 t405, .int .i64 t406, .int .i64 0, .int .i64 0]) ?_ 6 _ rfl; (with_reducible repeat (first | refine qE ?_ _ | refine qF ?_ | refine qD ?_ _)); refine qN (cs := #[.int .i64 t401, .int .i64 t402, .int .i64 t403, .int .i64 t404, .int .i64 t405, .int .i64 0, .int .i64 0, .int .i64 0]) ?_ 5 _ rfl; (with_reducible repeat (first | refine qE ?_ _ | refine qF ?_ | refine qD ?_ _)); refine qN (cs := #[.int .i64 t401, .int .i64 t402, .int .i64 t403, .int .i64 t404, .int .i64 0, .int .i64 0, .int .i64 0, .int .i64 0]) ?_ 4 _ rfl; (with_reducible repeat (first | refine qE ?_ _ | refine qF ?_ | refine qD ?_ _)); refine qN (cs := #[.int .i64 t401, .int .i64 t402, .int .i64 t403, .int .i64 0, .int .i64 0, .int .i64 0, .int .i64 0, .int .i64 0]) ?_ 3 _ rfl; (with_reducible repeat (first | refine qE ?_ _ | refine qF ?_ | refine qD ?_ _)); refine qN (cs := #[.int .i64 t401, .int .i64 t402, .int .i64 0, .int .i64 0, .int .i64 0, .int .i64 0, .int .i64 0, .int .i64 0]) ?_ 2 _ rfl; (with_reducible repeat (first | refine qE ?_ _ | refine qF ?_ | refine qD ?_ _)); refine qN (cs := #[.int .i64 t401, .int .i64 0, .int .i64 0, .int .i64 0, .int .i64 0, .int .i64 0, .int .i64 0, .int .i64 0]) ?_ 1 _ rfl; (with_reducible repeat (first | refine qE ?_ _ | refine qF ?_ | refine qD ?_ _)); refine qN (cs := #[.int .i64 0, .int .i64 0, .int .i64 0, .int .i64 0, .int .i64 0, .int .i64 0, .int .i64 0, .int .i64 0]) ?_ 0 _ rfl; (with_reducible repeat (first | refine qE ?_ _ | refine qF ?_ | refine qD ?_ _)); exact BK410.out)).trans rfl); (case side7 => exact (cell_of_row _ gb410 4 _ 57 (0, 0) (by (with_reducible repeat (first | refine qE ?_ _ | refine qF ?_ | refine qD ?_ _)); refine qN (cs := #[.int .i64 t401, .int .i64 t402, .int .i64 t403, .int .i64 t404, .int .i64 t405, .int .i64 t406, .int .i64 t407, .int .i64 0]) ?_ 7 _ rfl; (with_reducible repeat (first | refine qE ?_ _ | refine qF ?_ | refine qD ?_ _)); refine qN (cs := #[.int .i64 t401, .int .i64 t402, .int .i64 t403, .int .i64 t404, .int .i64 t405, .int .i64 t406, .int .i64 0, .int .i64 0]) ?_ 6 _ rfl; (with_reducible repeat (first | refine qE ?_ _ | refine qF ?_ | refine qD ?_ _)); refine qN (cs := #[.int .i64 t401, .int .i64 t402, .int .i64 t403, .int .i64 t404, .int .i64 t405, .int .i64 0, .int .i64 0, .int .i64 0]) ?_ 5 _ rfl; (with_reducible repeat (first | refine qE ?_ _ | refine qF ?_ | refine qD ?_ _)); refine qN (cs := #[.int .i64 t401, .int .i64 t402, .int .i64 t403, .int .i64 t404, .int .i64 0, .int .i64 0, .int .i64 0, .int .i64 0]) ?_ 4 _ rfl; (with_reducible repeat (first | refine qE ?_ _ | refine qF ?_ | refine qD ?_ _)); refine qN (cs := #[.int .i64 t401, .int .i64 t402, .int .i64 t403, .int .i64 0, .int .i64 0, .int .i64 0, .int .i64 0, .int .i64 0]) ?_ 3 _ rfl; (with_reducible repeat (first | refine qE ?_ _ | refine qF ?_ | refine qD ?_ _)); refine qN (cs := #[.int .i64 t401, .int .i64 t402, .int .i64 0, .int .i64 0, .int .i64 0, .int .i64 0, .int .i64 0, .int .i64 0]) ?_ 2 _ rfl; (with_reducible repeat (first | refine qE ?_ _ | refine qF ?_ | refine qD ?_ _)); refine qN (cs := #[.int .i64 t401, .int .i64 0, .int .i64 0, .int .i64 0, .int .i64 0, .int .i64 0, .int .i64 0, .int .i64 0]) ?_ 1 _ rfl; (with_reducible repeat (first | refine qE ?_ _ | refine qF ?_ | refine qD ?_ _)); refine qN (cs := #[.int .i64 0, .int .i64 0, .int .i64 0, .int .i64 0, .int .i64 0, .int .i64 0, .int .i64 0, .int .i64 0]) ?_ 0 _ rfl; (with_reducible repeat (first | refine qE ?_ _ | refine qF ?_ | refine qD ?_ _)); exact BK410.out)).trans rfl); (case side8 => exact (cell_of_row _ gb410 5 _ 57 (0, 0) (by (with_reducible repeat (first | refine qE ?_ _ | refine qF ?_ | refine qD ?_ _)); refine qN (cs := #[.int .i64 t401, .int .i64 t402, .int .i64 t403, .int .i64 t404, .int .i64 t405, .int .i64 t406, .int .i64 t407, .int .i64 0]) ?_ 7 _ rfl; (with_reducible repeat (first | refine qE ?_ _ | refine qF ?_ | refine qD ?_ _)); refine qN (cs := #[.int .i64 t401, .int .i64 t402, .int .i64 t403, .int .i64 t404, .int .i64 t405, .int .i64 t406, .int .i64 0, .int .i64 0]) ?_ 6 _ rfl; (with_reducible repeat (first | refine qE ?_ _ | refine qF ?_ | refine qD ?_ _)); refine qN (cs := #[.int .i64 t401, .int .i64 t402, .int .i64 t403, .int .i64 t404, .int .i64 t405, .int .i64 0, .int .i64 0, .int .i64 0]) ?_ 5 _ rfl; (with_reducible repeat (first | refine qE ?_ _ | refine qF ?_ | refine qD ?_ _)); refine qN (cs := #[.int .i64 t401, .int .i64 t402, .int .i64 t403, .int .i64 t404, .int .i64 0, .int .i64 0, .int .i64 0, .int .i64 0]) ?_ 4 _ rfl; (with_reducible repeat (first | refine qE ?_ _ | refine qF ?_ | refine qD ?_ _)); refine qN (cs := #[.int .i64 t401, .int .i64 t402, .int .i64 t403, .int .i64 0, .int .i64 0, .int .i64 0, .int .i64 0, .int .i64 0]) ?_ 3 _ rfl; (with_reducible repeat (first | refine qE ?_ _ | refine qF ?_ | refine qD ?_ _)); refine qN (cs := #[.int .i64 t401, .int .i64 t402, .int .i64 0, .int .i64 0, .int .i64 0, .int .i64 0, .int .i64 0, .int .i64 0]) ?_ 2 _ rfl; (with_reducible repeat (first | refine qE ?_ _ | refine qF ?_ | refine qD ?_ _)); refine qN (cs := #[.int .i64 t401, .int .i64 0, .int .i64 0, .int .i64 0, .int .i64 0, .int .i64 0, .int .i64 0, .int .i64 0]) ?_ 1 _ rfl; (with_reducible repeat (first | refine qE ?_ _ | refine qF ?_ | refine qD ?_ _)); refine qN (cs := #[.int .i64 0, .int .i64 0, .int .i64 0, .int .i64 0, .int .i64 0, .int .i64 0, .int .i64 0, .int .i64 0]) ?_ 0 _ rfl; (with_reducible repeat (first | refine qE ?_ _ | refine qF ?_ | refine qD ?_ _)); exact BK410.out)).trans rfl); (case side9 => exact (cell_of_row _ gb410 6 _ 57 (0, 0) (by (with_reducible repeat (first | refine qE ?_ _ | refine qF ?_ | refine qD ?_ _)); refine qN (cs := #[.int .i64 t401, .int .i64 t402, .int .i64 t403, .int .i64 t404, .int .i64 t405, .int .i64 t406, .int .i64 t407, .int .i64 0]) ?_ 7 _ rfl; (with_reducible repeat (first | refine qE ?_ _ | refine qF ?_ | refine qD ?_ _)); refine qN (cs := #[.int .i64 t401, .int .i64 t402, .int .i64 t403, .int .i64 t404, .int .i64 t405, .int .i64 t406, .int .i64 0, .int .i64 0]) ?_ 6 _ rfl; (with_reducible repeat (first | refine qE ?_ _ | refine qF ?_ | refine qD ?_ _)); refine qN (cs := #[.int .i64 t401, .int .i64 t402, .int .i64 t403, .int .i64 t404, .int .i64 t405, .int .i64 0, .int .i64 0, .int .i64 0]) ?_ 5 _ rfl; (with_reducible repeat (first | refine qE ?_ _ | refine qF ?_ | refine qD ?_ _)); refine qN (cs := #[.int .i64 t401, .int .i64 t402, .int .i64 t403, .int .i64 t404, .int .i64 0, .int .i64 0, .int .i64 0, .int .i64 0]) ?_ 4 _ rfl; (with_reducible repeat (first | refine qE ?_ _ | refine qF ?_ | refine qD ?_ _)); refine qN (cs := #[.int .i64 t401, .int .i64 t402, .int .i64 t403, .int .i64 0, .int .i64 0, .int .i64 0, .int .i64 0, .int .i64 0]) ?_ 3 _ rfl; (with_reducible repeat (first | refine qE ?_ _ | refine qF ?_ | refine qD ?_ _)); refine qN (cs := #[.int .i64 t401, .int .i64 t402, .int .i64 0, .int .i64 0, .int .i64 0, .int .i64 0, .int .i64 0, .int .i64 0]) ?_ 2 _ rfl; (with_reducible repeat (first | refine qE ?_ _ | refine qF ?_ | refine qD ?_ _)); refine qN (cs := #[.int .i64 t401, .int .i64 0, .int .i64 0, .int .i64 0, .int .i64 0, .int .i64 0, .int .i64 0, .int .i64 0]) ?_ 1 _ rfl; (with_reducible repeat (first | refine qE ?_ _ | refine qF ?_ | refine qD ?_ _)); refine qN (cs := #[.int .i64 0, .int .i64 0, .int .i64 0, .int .i64 0, .int .i64 0, .int .i64 0, .int .i64 0, .int .i64 0]) ?_ 0 _ rfl; (with_reducible repeat (first | refine qE ?_ _ | refine qF ?_ | refine qD ?_ _)); exact BK410.out)).trans rfl); (case side10 => exact (cell_of_row _ gb410 7 _ 57 (0, 0) (by (with_reducible repeat (first | refine qE ?_ _ | refine qF ?_ | refine qD ?_ _)); refine qN (cs := #[.int .i64 t401, .int .i64 t402, .int .i64 t403, .int .i64 t404, .int .i64 t405, .int .i64 t406, .int .i64 t407, .int .i64 0]) ?_ 7 _ rfl; (with_reducible repeat (first | refine qE ?_ _ | refine qF ?_ | refine qD ?_ _)); refine qN (cs := #[.int .i64 t401, .int .i64 t402, .int .i64 t403, .int .i64 t404, .int .i64 t405, .int .i64 t406, .int .i64 0, .int .i64 0]) ?_ 6 _ rfl; (with_reducible repeat (first | refine qE ?_ _ | refine qF ?_ | refine qD ?_ _)); refine qN (cs := #[.int .i64 t401, .int .i64 t402, .int .i64 t403, .int .i64 t404, .int .i64 t405, .int .i64 0, .int .i64 0, .int .i64 0]) ?_ 5 _ rfl; (with_reducible repeat (first | refine qE ?_ _ | refine qF ?_ | refine qD ?_ _)); refine qN (cs := #[.int .i64 t401, .int .i64 t402, .int .i64 t403, .int .i64 t404, .int .i64 0, .int .i64 0, .int .i64 0, .int .i64 0]) ?_ 4 _ rfl; (with_reducible repeat (first | refine qE ?_ _ | refine qF ?_ | refine qD ?_ _)); refine qN (cs := #[.int .i64 t401, .int .i64 t402, .int .i64 t403, .int .i64 0, .int .i64 0, .int .i64 0, .int .i64 0, .int .i64 0]) ?_ 3 _ rfl; (with_reducible repeat (first | refine qE ?_ _ | refine qF ?_ | refine qD ?_ _)); refine qN (cs := #[.int .i64 t401, .int .i64 t402, .int .i64 0, .int .i64 0, .int .i64 0, .int .i64 0, .int .i64 0, .int .i64 0]) ?_ 2 _ rfl; (with_reducible repeat (first | refine qE ?_ _ | refine qF ?_ | refine qD ?_ _)); refine qN (cs := #[.int .i64 t401, .int .i64 0, .int .i64 0, .int .i64 0, .int .i64 0, .int .i64 0, .int .i64 0, .int .i64 0]) ?_ 1 _ rfl; (with_reducible repeat (first | refine qE ?_ _ | refine qF ?_ | refine qD ?_ _)); refine qN (cs := #[.int .i64 0, .int .i64 0, .int .i64 0, .int .i64 0, .int .i64 0, .int .i64 0, .int .i64 0, .int .i64 0]) ?_ 0 _ rfl; (with_reducible repeat (first | refine qE ?_ _ | refine qF ?_ | refine qD ?_ _)); exact BK410.out)).trans rfl); rintro e w16 ⟨rfl, hb⟩; have n0_ := Aside0.mk (qCB (g := gb410) (o := .cells #[.int .i64 t401, .int .i64 t402, .int .i64 t403, .int .i64 t404, .int .i64 t405, .int .i64 t406, .int .i64 t407, .int .i64 t408] 57 (0, 0)) (by (with_reducible repeat (first | refine qE ?_ _ | refine qF ?_ | refine qD ?_ _)); refine qN (cs := #[.int .i64 t401, .int .i64 t402, .int .i64 t403, .int .i64 t404, .int .i64 t405, .int .i64 t406, .int .i64 t407, .int .i64 0]) ?_ 7 _ rfl; (with_reducible repeat (first | refine qE ?_ _ | refine qF ?_ | refine qD ?_ _)); refine qN (cs := #[.int .i64 t401, .int .i64 t402, .int .i64 t403, .int .i64 t404, .int .i64 t405, .int .i64 t406, .int .i64 0, .int .i64 0]) ?_ 6 _ rfl; (with_reducible repeat (first | refine qE ?_ _ | refine qF ?_ | refine qD ?_ _)); refine qN (cs := #[.int .i64 t401, .int .i64 t402, .int .i64 t403, .int .i64 t404, .int .i64 t405, .int .i64 0, .int .i64 0, .int .i64 0]) ?_ 5 _ rfl; (with_reducible repeat (first | refine qE ?_ _ | refine qF ?_ | refine qD ?_ _)); refine qN (cs := #[.int .i64 t401, .int .i64 t402, .int .i64 t403, .int .i64 t404, .int .i64 0, .int .i64 0, .int .i64 0, .int .i64 0]) ?_ 4 _ rfl; (with_reducible repeat (first | refine qE ?_ _ | refine qF ?_ | refine qD ?_ _)); refine qN (cs := #[.int .i64 t401, .int .i64 t402, .int .i64 t403, .int .i64 0, .int .i64 0, .int .i64 0, .int .i64 0, .int .i64 0]) ?_ 3 _ rfl; (with_reducible repeat (first | refine qE ?_ _ | refine qF ?_ | refine qD ?_ _)); refine qN (cs := #[.int .i64 t401, .int .i64 t402, .int .i64 0, .int .i64 0, .int .i64 0, .int .i64 0, .int .i64 0, .int .i64 0]) ?_ 2 _ rfl; (with_reducible repeat (first | refine qE ?_ _ | refine qF ?_ | refine qD ?_ _)); refine qN (cs := #[.int .i64 t401, .int .i64 0, .int .i64 0, .int .i64 0, .int .i64 0, .int .i64 0, .int .i64 0, .int .i64 0]) ?_ 1 _ rfl; (with_reducible repeat (first | refine qE ?_ _ | refine qF ?_ | refine qD ?_ _)); refine qN (cs := #[.int .i64 0, .int .i64 0, .int .i64 0, .int .i64 0, .int .i64 0, .int .i64 0, .int .i64 0, .int .i64 0]) ?_ 0 _ rfl; (with_reducible repeat (first | refine qE ?_ _ | refine qF ?_ | refine qD ?_ _)); exact BK410.out) hb); have n1_ := Aside0.mk (qG bl hb); clear BK410; clear HB; have BK410 := n0_; have HB := n1_; clear n0_ n1_; (try clear hb); (try clear hb2); (try clear hk); (try clear hi)))
      go_ret2
      exact ⟨_, by first | rfl | (simp [qI, qH] <;> rfl) | (simp [*, qI, qH] <;> rfl), by first | exact Kd.R_nil _ _ _ _ _ | exact Kd.N_nil _ _ _ _ _ | exact Kd.V_nil _ _ _ _ _ | exact Kd.Q_nil _ _ _ _ _ | exact Kd.S_nil _ _ _ _ _, bl⟩
     ·replace c12 := Bool.eq_false_iff.mpr c12
      subst c12
      have H1 : ((qyA.f l1).bind fun t412 => (if a2 < (t412.length : Int) then (some ((t412.set (a2 : Int).toNat (⟨t401, t402, (⟨t403, t404, t405, t406, t407, t408⟩ : S55)⟩ : S57)), true)) else (none))) = some (r1, r2) := by rw [if_neg (show ¬ (false = true) by decide)] at H; exact H
      clear H
      have H := H1
      clear H1
      replace H := Option.bind_eq_some_iff.mp H
      obtain ⟨t412, A170, H⟩ := H
      replace H : (if a2 < (t412.length : Int) then (some ((t412.set (a2 : Int).toNat (⟨t401, t402, (⟨t403, t404, t405, t406, t407, t408⟩ : S55)⟩ : S57)), true)) else (none)) = some (r1, r2) := H
      have A17 := Aside0.mk A170
      clear A170
      by_cases c18 : a2 < (t412.length : Int)
      ·rw [if_pos c18] at H
       have c18b0 : decide (a2 < (t412.length : Int)) = true := decide_eq_true c18
       clear c18
       obtain ⟨y415, hy415⟩ : ∃ y_ : List (S57), y_ = (t412.set (a2 : Int).toNat (⟨t401, t402, (⟨t403, t404, t405, t406, t407, t408⟩ : S55)⟩ : S57)) := ⟨_, rfl⟩
       replace H : (some (y415, true)) = some (r1, r2) := by first | (rw [hy415]; with_reducible exact H) | (have H2_ := (Option.bind_some _ _).symm.trans H; rw [hy415]; with_reducible exact H2_) | (have H2_ := (Option.bind_some _ _).symm.trans H; with_reducible exact H2_) | with_reducible exact H | (rw [hy415]; exact H) | exact H
       have Ny415 := Aside0.mk hy415
       clear hy415
       simp only [Option.some.injEq, Prod.mk.injEq] at H
       obtain ⟨rfl, rfl⟩ := H
       go_enter Tryd.func51, Tryd.ntmps51
       go_wp2_with (first | ((with_reducible refine qL (f := 70) rfl ?_); refine qh (some 17) rfl rfl Tryd.func70 (by kernel_rfl) rfl #[.int .i64 a2, .int .i64 0, .int .i64 (wrap64 ((l1.length : Int) - 1))] rfl (by (try simp only [List.map_toArray, List.map_cons, List.map_nil]); first | done | rfl | (simp only [List.length_drop, List.length_take]; rfl)) ?_; (with_reducible refine (qwA.calls a2 0 (wrap64 ((l1.length : Int) - 1)) true _ A5.out).mono ?_); rintro e w' ⟨rfl, ⟨nd, rfl⟩⟩; refine ⟨_, rfl, ?_⟩; have p400 : 0 ≤ (a2 : Int) := of_decide_eq_true (by first | (with_reducible assumption) | assumption); have q400 : a2 < (l1.length : Int) := of_decide_eq_true (by first | (with_reducible assumption) | assumption); obtain ⟨ad400, e400, hx400_0, hx400_1, hx400_2, hx400_3, hx400_4, hx400_5, hx400_6, hx400_7⟩ := qgA HR1.out a2 p400 q400; cases e400; replace p400 := eq_true p400; replace q400 := eq_true q400) | ((with_reducible refine qL (f := 75) rfl ?_); refine qh (some 26) rfl rfl Tryd.func75 (by kernel_rfl) rfl #[.slice A0 l0.length c0, .agg #[.int .i64 ((qC l1 a2).f0), .int .i64 ((qC l1 a2).f1), .int .i64 ((qC l1 a2).f2.f0), .int .i64 ((qC l1 a2).f2.f1), .int .i64 ((qC l1 a2).f2.f2), .int .i64 ((qC l1 a2).f2.f3), .int .i64 ((qC l1 a2).f2.f4), .int .i64 ((qC l1 a2).f2.f5)], .int .u8 a3] rfl (by (try simp only [List.map_toArray, List.map_cons, List.map_nil]); first | done | rfl | (simp only [List.length_drop, List.length_take]; rfl)) ?_; (with_reducible refine (qEB.calls _ _ l0 ((qC l1 a2).f0) ((qC l1 a2).f1) ((qC l1 a2).f2.f0) ((qC l1 a2).f2.f1) ((qC l1 a2).f2.f2) ((qC l1 a2).f2.f3) ((qC l1 a2).f2.f4) ((qC l1 a2).f2.f5) a3 t401 t402 t403 t404 t405 t406 t407 t408 true _ ?side1 ?side2 A9.out).mono ?_); (case side1 => repeat (first | exact HR0.out | (with_reducible refine Kd.qa ?_ _) | (with_reducible refine Kd.qZ ?_ _) | (with_reducible refine Kd.qe ?_))); (case side2 => exact HC0.out); rintro e w20 ⟨rfl, hb⟩; refine ⟨_, rfl, ?_⟩; have n0_ := Aside0.mk (qG bl hb); clear HB; have HB := n0_; clear n0_; (try clear hb); (try clear hb2); (try clear hk); (try clear hi)) | ((with_reducible refine qg (N := 10) rfl ?_); refine qd ?hg (N := 10) ?hd (cs := #[.int .i64 0, .int .i64 0, .int .i64 0, .int .i64 0, .int .i64 0, .int .i64 0, .int .i64 0, .int .i64 0]) (t := 57) ?hr ?_; (case hd => rfl); (case hg => rfl); (case hr => first | (go_simp; done) | (go_simp; rfl)); intro gb410 hg w21 hbox hb; have n0_ := Aside0.mk (qG bl hb); have n1_ := Aside0.mk (hbox); have n2_ := Aside0.mk ((gg hg)); have n3_ := Aside0.mk ((gg hg)); clear HB; have HB := n0_; have BK410 := n1_; have GW410 := n2_; have GE410 := n3_; clear n0_ n1_ n2_ n3_; clear hb hbox hg; have hcz22_0 := bc BK410 0; have hcz22_1 := bc BK410 1; have hcz22_2 := bc BK410 2; have hcz22_3 := bc BK410 3; have hcz22_4 := bc BK410 4; have hcz22_5 := bc BK410 5; have hcz22_6 := bc BK410 6; have hcz22_7 := bc BK410 7; have hfz22_0 := qA BK410.out 0; have hfz22_1 := qA BK410.out 1; have hfz22_2 := qA BK410.out 2; have hfz22_3 := qA BK410.out 3; have hfz22_4 := qA BK410.out 4; have hfz22_5 := qA BK410.out 5; have hfz22_6 := qA BK410.out 6; have hfz22_7 := qA BK410.out 7) | (go_at_call 67; (with_reducible refine (qdC.calls _ _ l1 gb410 t401 t402 t403 t404 t405 t406 t407 t408 false _ ?side1 ?side2 ?side3 ?side4 ?side5 ?side6 ?side7 ?side8 ?side9 ?side10 A11.out).mono ?_); (case side1 => exact Kd.qWA HR1.out bl); (case side2 => exact HC1.out); (case side3 => exact (cell_of_row _ gb410 0 _ 57 (0, 0) (by (with_reducible repeat (first | refine qE ?_ _ | refine qF ?_ | refine qD ?_ _)); refine qN (cs := #[.int .i64 t401, .int .i64 t402, .int .i64 t403, .int .i64 t404, .int .i64 t405, .int .i64 t406, .int .i64 t407, .int .i64 0]) ?_ 7 _ rfl; (with_reducible repeat (first | refine qE ?_ _ | refine qF ?_ | refine qD ?_ _)); refine qN (cs := #[.int .i64 t401, .int .i64 t402, .int .i64 t403, .int .i64 t404, .int .i64 t405, .int .i64 t406, .int .i64 0, .int .i64 0]) ?_ 6 _ rfl; (with_reducible repeat (first | refine qE ?_ _ | refine qF ?_ | refine qD ?_ _)); refine qN (cs := #[.int .i64 t401, .int .i64 t402, .int .i64 t403, .int .i64 t404, .int .i64 t405, .int .i64 0, .int .i64 0, .int .i64 0]) ?_ 5 _ rfl; (with_reducible repeat (first | refine qE ?_ _ | refine qF ?_ | refine qD ?_ _)); refine qN (cs := #[.int .i64 t401, .int .i64 t402, .int .i64 t403, .int .i64 t404, .int .i64 0, .int .i64 0, .int .i64 0, .int .i64 0]) ?_ 4 _ rfl; (with_reducible repeat (first | refine qE ?_ _ | refine qF ?_ | refine qD ?_ _)); refine qN (cs := #[.int .i64 t401, .int .i64 t402, .int .i64 t403, .int .i64 0, .int .i64 0, .int .i64 0, .int .i64 0, .int .i64 0]) ?_ 3 _ rfl; (with_reducible repeat (first | refine qE ?_ _ | refine qF ?_ | refine qD ?_ _)); refine qN (cs := #[.int .i64 t401, .int .i64 t402, .int .i64 0, .int .i64 0, .int .i64 0, .int .i64 0, .int .i64 0, .int .i64 0]) ?_ 2 _ rfl; (with_reducible repeat (first | refine qE ?_ _ | refine qF ?_ | refine qD ?_ _)); refine qN (cs := #[.int .i64 t401, .int .i64 0, .int .i64 0, .int .i64 0, .int .i64 0, .int .i64 0, .int .i64 0, .int .i64 0]) ?_ 1 _ rfl; (with_reducible repeat (first | refine qE ?_ _ | refine qF ?_ | refine qD ?_ _)); refine qN (cs := #[.int .i64 0, .int .i64 0, .int .i64 0, .int .i64 0, .int .i64 0, .int .i64 0, .int .i64 0, .int .i64 0]) ?_ 0 _ rfl; (with_reducible repeat (first | refine qE ?_ _ | refine qF ?_ | refine qD ?_ _)); exact BK410.out)).trans rfl); (case side4 => exact (cell_of_row _ gb410 1 _ 57 (0, 0) (by (with_reducible repeat (first | refine qE ?_ _ | refine qF ?_ | refine qD ?_ _)); refine qN (cs := #[.int .i64 t401, .int .i64 t402, .int .i64 t403, .int .i64 t404, .int .i64 t405, .int .i64 t406, .int .i64 t407, .int .i64 0]) ?_ 7 _ rfl; (with_reducible repeat (first | refine qE ?_ _ | refine qF ?_ | refine qD ?_ _)); refine qN (cs := #[.int .i64 t401, .int .i64 t402, .int .i64 t403, .int .i64 t404, .int .i64 t405, .int .i64 t406, .int .i64 0, .int .i64 0]) ?_ 6 _ rfl; (with_reducible repeat (first | refine qE ?_ _ | refine qF ?_ | refine qD ?_ _)); refine qN (cs := #[.int .i64 t401, .int .i64 t402, .int .i64 t403, .int .i64 t404, .int .i64 t405, .int .i64 0, .int .i64 0, .int .i64 0]) ?_ 5 _ rfl; (with_reducible repeat (first | refine qE ?_ _ | refine qF ?_ | refine qD ?_ _)); refine qN (cs := #[.int .i64 t401, .int .i64 t402, .int .i64 t403, .int .i64 t404, .int .i64 0, .int .i64 0, .int .i64 0, .int .i64 0]) ?_ 4 _ rfl; (with_reducible repeat (first | refine qE ?_ _ | refine qF ?_ | refine qD ?_ _)); refine qN (cs := #[.int .i64 t401, .int .i64 t402, .int .i64 t403, .int .i64 0, .int .i64 0, .int .i64 0, .int .i64 0, .int .i64 0]) ?_ 3 _ rfl; (with_reducible repeat (first | refine qE ?_ _ | refine qF ?_ | refine qD ?_ _)); refine qN (cs := #[.int .i64 t401, .int .i64 t402, .int .i64 0, .int .i64 0, .int .i64 0, .int .i64 0, .int .i64 0, .int .i64 0]) ?_ 2 _ rfl; (with_reducible repeat (first | refine qE ?_ _ | refine qF ?_ | refine qD ?_ _)); refine qN (cs := #[.int .i64 t401, .int .i64 0, .int .i64 0, .int .i64 0, .int .i64 0, .int .i64 0, .int .i64 0, .int .i64 0]) ?_ 1 _ rfl; (with_reducible repeat (first | refine qE ?_ _ | refine qF ?_ | refine qD ?_ _)); refine qN (cs := #[.int .i64 0, .int .i64 0, .int .i64 0, .int .i64 0, .int .i64 0, .int .i64 0, .int .i64 0, .int .i64 0]) ?_ 0 _ rfl; (with_reducible repeat (first | refine qE ?_ _ | refine qF ?_ | refine qD ?_ _)); exact BK410.out)).trans rfl); (case side5 => exact (cell_of_row _ gb410 2 _ 57 (0, 0) (by (with_reducible repeat (first | refine qE ?_ _ | refine qF ?_ | refine qD ?_ _)); refine qN (cs := #[.int .i64 t401, .int .i64 t402, .int .i64 t403, .int .i64 t404, .int .i64 t405, .int .i64 t406, .int .i64 t407, .int .i64 0]) ?_ 7 _ rfl; (with_reducible repeat (first | refine qE ?_ _ | refine qF ?_ | refine qD ?_ _)); refine qN (cs := #[.int .i64 t401, .int .i64 t402, .int .i64 t403, .int .i64 t404, .int .i64 t405, .int .i64 t406, .int .i64 0, .int .i64 0]) ?_ 6 _ rfl; (with_reducible repeat (first | refine qE ?_ _ | refine qF ?_ | refine qD ?_ _)); refine qN (cs := #[.int .i64 t401, .int .i64 t402, .int .i64 t403, .int .i64 t404, .int .i64 t405, .int .i64 0, .int .i64 0, .int .i64 0]) ?_ 5 _ rfl; (with_reducible repeat (first | refine qE ?_ _ | refine qF ?_ | refine qD ?_ _)); refine qN (cs := #[.int .i64 t401, .int .i64 t402, .int .i64 t403, .int .i64 t404, .int .i64 0, .int .i64 0, .int .i64 0, .int .i64 0]) ?_ 4 _ rfl; (with_reducible repeat (first | refine qE ?_ _ | refine qF ?_ | refine qD ?_ _)); refine qN (cs := #[.int .i64 t401, .int .i64 t402, .int .i64 t403, .int .i64 0, .int .i64 0, .int .i64 0, .int .i64 0, .int .i64 0]) ?_ 3 _ rfl; (with_reducible repeat (first | refine qE ?_ _ | refine qF ?_ | refine qD ?_ _)); refine qN (cs := #[.int .i64 t401, .int .i64 t402, .int .i64 0, .int .i64 0, .int .i64 0, .int .i64 0, .int .i64 0, .int .i64 0]) ?_ 2 _ rfl; (with_reducible repeat (first | refine qE ?_ _ | refine qF ?_ | refine qD ?_ _)); refine qN (cs := #[.int .i64 t401, .int .i64 0, .int .i64 0, .int .i64 0, .int .i64 0, .int .i64 0, .int .i64 0, .int .i64 0]) ?_ 1 _ rfl; (with_reducible repeat (first | refine qE ?_ _ | refine qF ?_ | refine qD ?_ _)); refine qN (cs := #[.int .i64 0, .int .i64 0, .int .i64 0, .int .i64 0, .int .i64 0, .int .i64 0, .int .i64 0, .int .i64 0]) ?_ 0 _ rfl; (with_reducible repeat (first | refine qE ?_ _ | refine qF ?_ | refine qD ?_ _)); exact BK410.out)).trans rfl); (case side6 => exact (cell_of_row _ gb410 3 _ 57 (0, 0) (by (with_reducible repeat (first | refine qE ?_ _ | refine qF ?_ | refine qD ?_ _)); refine qN (cs := #[.int .i64 t401, .int .i64 t402, .int .i64 t403, .int .i64 t404, .int .i64 t405, .int .i64 t406, .int .i64 t407, .int .i64 0]) ?_ 7 _ rfl; (with_reducible repeat (first | refine qE ?_ _ | refine qF ?_ | refine qD ?_ _)); refine qN (cs := #[.int .i64 t401, .int .i64 t402, .int .i64 t403, .int .i64 t404, .int .i64 t405, .int .i64 t406, .int .i64 0, .int .i64 0]) ?_ 6 _ rfl; (with_reducible repeat (first | refine qE ?_ _ | refine qF ?_ | refine qD ?_ _)); refine qN (cs := #[.int .i64 t401, .int .i64 t402, .int .i64 t403, .int .i64 t404, .int .i64 t405, .int .i64 0, .int .i64 0, .int .i64 0]) ?_ 5 _ rfl; (with_reducible repeat (first | refine qE ?_ _ | refine qF ?_ | refine qD ?_ _)); refine qN (cs := #[.int .i64 t401, .int .i64 t402, .int .i64 t403, .int .i64 t404, .int .i64 0, .int .i64 0, .int .i64 0, .int .i64 0]) ?_ 4 _ rfl; (with_reducible repeat (first | refine qE ?_ _ | refine qF ?_ | refine qD ?_ _)); refine qN (cs := #[.int .i64 t401, .int .i64 t402, .int .i64 t403, .int .i64 0, .int .i64 0, .int .i64 0, .int .i64 0, .int .i64 0]) ?_ 3 _ rfl; (with_reducible repeat (first | refine qE ?_ _ | refine qF ?_ | refine qD ?_ _)); refine qN (cs := #[.int .i64 t401, .int .i64 t402, .int .i64 0, .int .i64 0, .int .i64 0, .int .i64 0, .int .i64 0, .int .i64 0]) ?_ 2 _ rfl; (with_reducible repeat (first | refine qE ?_ _ | refine qF ?_ | refine qD ?_ _)); refine qN (cs := #[.int .i64 t401, .int .i64 0, .int .i64 0, .int .i64 0, .int .i64 0, .int .i64 0, .int .i64 0, .int .i64 0]) ?_ 1 _ rfl; (with_reducible repeat (first | refine qE ?_ _ | refine qF ?_ | refine qD ?_ _)); refine qN (cs := #[.int .i64 0, .int .i64 0, .int .i64 0, .int .i64 0, .int .i64 0, .int .i64 0, .int .i64 0, .int .i64 0]) ?_ 0 _ rfl; (with_reducible repeat (first | refine qE ?_ _ | refine qF ?_ | refine qD ?_ _)); exact BK410.out)).trans rfl); (case side7 => exact (cell_of_row _ gb410 4 _ 57 (0, 0) (by (with_reducible repeat (first | refine qE ?_ _ | refine qF ?_ | refine qD ?_ _)); refine qN (cs := #[.int .i64 t401, .int .i64 t402, .int .i64 t403, .int .i64 t404, .int .i64 t405, .int .i64 t406, .int .i64 t407, .int .i64 0]) ?_ 7 _ rfl; (with_reducible repeat (first | refine qE ?_ _ | refine qF ?_ | refine qD ?_ _)); refine qN (cs := #[.int .i64 t401, .int .i64 t402, .int .i64 t403, .int .i64 t404, .int .i64 t405, .int .i64 t406, .int .i64 0, .int .i64 0]) ?_ 6 _ rfl; (with_reducible repeat (first | refine qE ?_ _ | refine qF ?_ | refine qD ?_ _)); refine qN (cs := #[.int .i64 t401, .int .i64 t402, .int .i64 t403, .int .i64 t404, .int .i64 t405, .int .i64 0, .int .i64 0, .int .i64 0]) ?_ 5 _ rfl; (with_reducible repeat (first | refine qE ?_ _ | refine qF ?_ | refine qD ?_ _)); refine qN (cs := #[.int .i64 t401, .int .i64 t402, .int .i64 t403, .int .i64 t404, .int .i64 0, .int .i64 0, .int .i64 0, .int .i64 0]) ?_ 4 _ rfl; (with_reducible repeat (first | refine qE ?_ _ | refine qF ?_ | refine qD ?_ _)); refine qN (cs := #[.int .i64 t401, .int .i64 t402, .int .i64 t403, .int .i64 0, .int .i64 0, .int .i64 0, .int .i64 0, .int .i64 0]) ?_ 3 _ rfl; (with_reducible repeat (first | refine qE ?_ _ | refine qF ?_ | refine qD ?_ _)); refine qN (cs := #[.int .i64 t401, .int .i64 t402, .int .i64 0, .int .i64 0, .int .i64 0, .int .i64 0, .int .i64 0, .int .i64 0]) ?_ 2 _ rfl; (with_reducible repeat (first | refine qE ?_ _ | refine qF ?_ | refine qD ?_ _)); refine qN (cs := #[.int .i64 t401, .int .i64 0, .int .i64 0, .int .i64 0, .int .i64 0, .int .i64 0, .int .i64 0, .int .i64 0]) ?_ 1 _ rfl; (with_reducible repeat (first | refine qE ?_ _ | refine qF ?_ | refine qD ?_ _)); refine qN (cs := #[.int .i64 0, .int .i64 0, .int .i64 0, .int .i64 0, .int .i64 0, .int .i64 0, .int .i64 0, .int .i64 0]) ?_ 0 _ rfl; (with_reducible repeat (first | refine qE ?_ _ | refine qF ?_ | refine qD ?_ _)); exact BK410.out)).trans rfl); (case side8 => exact (cell_of_row _ gb410 5 _ 57 (0, 0) (by (with_reducible repeat (first | refine qE ?_ _ | refine qF ?_ | refine qD ?_ _)); refine qN (cs := #[.int .i64 t401, .int .i64 t402, .int .i64 t403, .int .i64 t404, .int .i64 t405, .int .i64 t406, .int .i64 t407, .int .i64 0]) ?_ 7 _ rfl; (with_reducible repeat (first | refine qE ?_ _ | refine qF ?_ | refine qD ?_ _)); refine qN (cs := #[.int .i64 t401, .int .i64 t402, .int .i64 t403, .int .i64 t404, .int .i64 t405, .int .i64 t406, .int .i64 0, .int .i64 0]) ?_ 6 _ rfl; (with_reducible repeat (first | refine qE ?_ _ | refine qF ?_ | refine qD ?_ _)); refine qN (cs := #[.int .i64 t401, .int .i64 t402, .int .i64 t403, .int .i64 t404, .int .i64 t405, .int .i64 0, .int .i64 0, .int .i64 0]) ?_ 5 _ rfl; (with_reducible repeat (first | refine qE ?_ _ | refine qF ?_ | refine qD ?_ _)); refine qN (cs := #[.int .i64 t401, .int .i64 t402, .int .i64 t403, .int .i64 t404, .int .i64 0, .int .i64 0, .int .i64 0, .int .i64 0]) ?_ 4 _ rfl; (with_reducible repeat (first | refine qE ?_ _ | refine qF ?_ | refine qD ?_ _)); refine qN (cs := #[.int .i64 t401, .int .i64 t402, .int .i64 t403, .int .i64 0, .int .i64 0, .int .i64 0, .int .i64 0, .int .i64 0]) ?_ 3 _ rfl; (with_reducible repeat (first | refine qE ?_ _ | refine qF ?_ | refine qD ?_ _)); refine qN (cs := #[.int .i64 t401, .int .i64 t402, .int .i64 0, .int .i64 0, .int .i64 0, .int .i64 0, .int .i64 0, .int .i64 0]) ?_ 2 _ rfl; (with_reducible repeat (first | refine qE ?_ _ | refine qF ?_ | refine qD ?_ _)); refine qN (cs := #[.int .i64 t401, .int .i64 0, .int .i64 0, .int .i64 0, .int .i64 0, .int .i64 0, .int .i64 0, .int .i64 0]) ?_ 1 _ rfl; (with_reducible repeat (first | refine qE ?_ _ | refine qF ?_ | refine qD ?_ _)); refine qN (cs := #[.int .i64 0, .int .i64 0, .int .i64 0, .int .i64 0, .int .i64 0, .int .i64 0, .int .i64 0, .int .i64 0]) ?_ 0 _ rfl; (with_reducible repeat (first | refine qE ?_ _ | refine qF ?_ | refine qD ?_ _)); exact BK410.out)).trans rfl); (case side9 => exact (cell_of_row _ gb410 6 _ 57 (0, 0) (by (with_reducible repeat (first | refine qE ?_ _ | refine qF ?_ | refine qD ?_ _)); refine qN (cs := #[.int .i64 t401, .int .i64 t402, .int .i64 t403, .int .i64 t404, .int .i64 t405, .int .i64 t406, .int .i64 t407, .int .i64 0]) ?_ 7 _ rfl; (with_reducible repeat (first | refine qE ?_ _ | refine qF ?_ | refine qD ?_ _)); refine qN (cs := #[.int .i64 t401, .int .i64 t402, .int .i64 t403, .int .i64 t404, .int .i64 t405, .int .i64 t406, .int .i64 0, .int .i64 0]) ?_ 6 _ rfl; (with_reducible repeat (first | refine qE ?_ _ | refine qF ?_ | refine qD ?_ _)); refine qN (cs := #[.int .i64 t401, .int .i64 t402, .int .i64 t403, .int .i64 t404, .int .i64 t405, .int .i64 0, .int .i64 0, .int .i64 0]) ?_ 5 _ rfl; (with_reducible repeat (first | refine qE ?_ _ | refine qF ?_ | refine qD ?_ _)); refine qN (cs := #[.int .i64 t401, .int .i64 t402, .int .i64 t403, .int .i64 t404, .int .i64 0, .int .i64 0, .int .i64 0, .int .i64 0]) ?_ 4 _ rfl; (with_reducible repeat (first | refine qE ?_ _ | refine qF ?_ | refine qD ?_ _)); refine qN (cs := #[.int .i64 t401, .int .i64 t402, .int .i64 t403, .int .i64 0, .int .i64 0, .int .i64 0, .int .i64 0, .int .i64 0]) ?_ 3 _ rfl; (with_reducible repeat (first | refine qE ?_ _ | refine qF ?_ | refine qD ?_ _)); refine qN (cs := #[.int .i64 t401, .int .i64 t402, .int .i64 0, .int .i64 0, .int .i64 0, .int .i64 0, .int .i64 0, .int .i64 0]) ?_ 2 _ rfl; (with_reducible repeat (first | refine qE ?_ _ | refine qF ?_ | refine qD ?_ _)); refine qN (cs := #[.int .i64 t401, .int .i64 0, .int .i64 0, .int .i64 0, .int .i64 0, .int .i64 0, .int .i64 0, .int .i64 0]) ?_ 1 _ rfl; (with_reducible repeat (first | refine qE ?_ _ | refine qF ?_ | refine qD ?_ _)); refine qN (cs := #[.int .i64 0, .int .i64 0, .int .i64 0, .int .i64 0, .int .i64 0, .int .i64 0, .int .i64 0, .int .i64 0]) ?_ 0 _ rfl; (with_reducible repeat (first | refine qE ?_ _ | refine qF ?_ | refine qD ?_ _)); exact BK410.out)).trans rfl); (case side10 => exact (cell_of_row _ gb410 7 _ 57 (0, 0) (by (with_reducible repeat (first | refine qE ?_ _ | refine qF ?_ | refine qD ?_ _)); refine qN (cs := #[.int .i64 t401, .int .i64 t402, .int .i64 t403, .int .i64 t404, .int .i64 t405, .int .i64 t406, .int .i64 t407, .int .i64 0]) ?_ 7 _ rfl; (with_reducible repeat (first | refine qE ?_ _ | refine qF ?_ | refine qD ?_ _)); refine qN (cs := #[.int .i64 t401, .int .i64 t402, .int .i64 t403, .int .i64 t404, .int .i64 t405, .int .i64 t406, .int .i64 0, .int .i64 0]) ?_ 6 _ rfl; (with_reducible repeat (first | refine qE ?_ _ | refine qF ?_ | refine qD ?_ _)); refine qN (cs := #[.int .i64 t401, .int .i64 t402, .int .i64 t403, .int .i64 t404, .int .i64 t405, .int .i64 0, .int .i64 0, .int .i64 0]) ?_ 5 _ rfl; (with_reducible repeat (first | refine qE ?_ _ | refine qF ?_ | refine qD ?_ _)); refine qN (cs := #[.int .i64 t401, .int .i64 t402, .int .i64 t403, .int .i64 t404, .int .i64 0, .int .i64 0, .int .i64 0, .int .i64 0]) ?_ 4 _ rfl; (with_reducible repeat (first | refine qE ?_ _ | refine qF ?_ | refine qD ?_ _)); refine qN (cs := #[.int .i64 t401, .int .i64 t402, .int .i64 t403, .int .i64 0, .int .i64 0, .int .i64 0, .int .i64 0, .int .i64 0]) ?_ 3 _ rfl; (with_reducible repeat (first | refine qE ?_ _ | refine qF ?_ | refine qD ?_ _)); refine qN (cs := #[.int .i64 t401, .int .i64 t402, .int .i64 0, .int .i64 0, .int .i64 0, .int .i64 0, .int .i64 0, .int .i64 0]) ?_ 2 _ rfl; (with_reducible repeat (first | refine qE ?_ _ | refine qF ?_ | refine qD ?_ _)); refine qN (cs := #[.int .i64 t401, .int .i64 0, .int .i64 0, .int .i64 0, .int .i64 0, .int .i64 0, .int .i64 0, .int .i64 0]) ?_ 1 _ rfl; (with_reducible repeat (first | refine qE ?_ _ | refine qF ?_ | refine qD ?_ _)); refine qN (cs := #[.int .i64 0, .int .i64 0, .int .i64 0, .int .i64 0, .int .i64 0, .int .i64 0, .int .i64 0, .int .i64 0]) ?_ 0 _ rfl; (with_reducible repeat (first | refine qE ?_ _ | refine qF ?_ | refine qD ?_ _)); exact BK410.out)).trans rfl); rintro e w23 ⟨rfl, hb⟩; have n0_ := Aside0.mk (qCB (g := gb410) (o := .cells #[.int .i64 t401, .int .i64 t402, .int .i64 t403, .int .i64 t404, .int .i64 t405, .int .i64 t406, .int .i64 t407, .int .i64 t408] 57 (0, 0)) (by (with_reducible repeat (first | refine qE ?_ _ | refine qF ?_ | refine qD ?_ _)); refine qN (cs := #[.int .i64 t401, .int .i64 t402, .int .i64 t403, .int .i64 t404, .int .i64 t405, .int .i64 t406, .int .i64 t407, .int .i64 0]) ?_ 7 _ rfl; (with_reducible repeat (first | refine qE ?_ _ | refine qF ?_ | refine qD ?_ _)); refine qN (cs := #[.int .i64 t401, .int .i64 t402, .int .i64 t403, .int .i64 t404, .int .i64 t405, .int .i64 t406, .int .i64 0, .int .i64 0]) ?_ 6 _ rfl; (with_reducible repeat (first | refine qE ?_ _ | refine qF ?_ | refine qD ?_ _)); refine qN (cs := #[.int .i64 t401, .int .i64 t402, .int .i64 t403, .int .i64 t404, .int .i64 t405, .int .i64 0, .int .i64 0, .int .i64 0]) ?_ 5 _ rfl; (with_reducible repeat (first | refine qE ?_ _ | refine qF ?_ | refine qD ?_ _)); refine qN (cs := #[.int .i64 t401, .int .i64 t402, .int .i64 t403, .int .i64 t404, .int .i64 0, .int .i64 0, .int .i64 0, .int .i64 0]) ?_ 4 _ rfl; (with_reducible repeat (first | refine qE ?_ _ | refine qF ?_ | refine qD ?_ _)); refine qN (cs := #[.int .i64 t401, .int .i64 t402, .int .i64 t403, .int .i64 0, .int .i64 0, .int .i64 0, .int .i64 0, .int .i64 0]) ?_ 3 _ rfl; (with_reducible repeat (first | refine qE ?_ _ | refine qF ?_ | refine qD ?_ _)); refine qN (cs := #[.int .i64 t401, .int .i64 t402, .int .i64 0, .int .i64 0, .int .i64 0, .int .i64 0, .int .i64 0, .int .i64 0]) ?_ 2 _ rfl; (with_reducible repeat (first | refine qE ?_ _ | refine qF ?_ | refine qD ?_ _)); refine qN (cs := #[.int .i64 t401, .int .i64 0, .int .i64 0, .int .i64 0, .int .i64 0, .int .i64 0, .int .i64 0, .int .i64 0]) ?_ 1 _ rfl; (with_reducible repeat (first | refine qE ?_ _ | refine qF ?_ | refine qD ?_ _)); refine qN (cs := #[.int .i64 0, .int .i64 0, .int .i64 0, .int .i64 0, .int .i64 0, .int .i64 0, .int .i64 0, .int .i64 0]) ?_ 0 _ rfl; (with_reducible repeat (first | refine qE ?_ _ | refine qF ?_ | refine qD ?_ _)); exact BK410.out) hb); have n1_ := Aside0.mk (qG bl hb); clear BK410; clear HB; have BK410 := n0_; have HB := n1_; clear n0_ n1_; (try clear hb); (try clear hb2); (try clear hk); (try clear hi)) | ((with_reducible refine qL (f := 59) rfl ?_); refine qh (some 37) rfl rfl Tryd.func59 (by kernel_rfl) rfl #[.slice (some ad400) l1.length c1] rfl (by (try simp only [List.map_toArray, List.map_cons, List.map_nil]); first | done | rfl | (simp only [List.length_drop, List.length_take]; rfl)) ?_; (with_reducible refine (qyA.calls _ _ l1 t412 _ ?side1 ?side2 A17.out).mono ?_); (case side1 => repeat (first | exact (Kd.qWA HR1.out HB.out) | (with_reducible refine Kd.qa ?_ _) | (with_reducible refine Kd.qZ ?_ _) | (with_reducible refine Kd.qe ?_))); (case side2 => exact HC1.out); rintro e w24 ⟨v413, rfl, ho0, hb⟩; refine ⟨_, rfl, ?_⟩; have n0_ := Aside0.mk (Kd.qDA (Kd.R_newB ho0 (g := gb410) (o := .cells #[.int .i64 t401, .int .i64 t402, .int .i64 t403, .int .i64 t404, .int .i64 t405, .int .i64 t406, .int .i64 t407, .int .i64 t408] 57 (0, 0)) (by (with_reducible repeat (first | refine qE ?_ _ | refine qF ?_ | refine qD ?_ _)); exact BK410.out)) (qb bl)); have n1_ := Aside0.mk (bb BK410 hb); have n2_ := Aside0.mk (qG bl hb); clear BK410; clear HB; have HO414 := n0_; have BK410 := n1_; have HB := n2_; clear n0_ n1_ n2_; (try clear hb); (try clear hb2); (try clear hk); (try clear hi); (try clear ho0); have hcz25_0 := bc BK410 0; have hcz25_1 := bc BK410 1; have hcz25_2 := bc BK410 2; have hcz25_3 := bc BK410 3; have hcz25_4 := bc BK410 4; have hcz25_5 := bc BK410 5; have hcz25_6 := bc BK410 6; have hcz25_7 := bc BK410 7; have hfz25_0 := qA BK410.out 0; have hfz25_1 := qA BK410.out 1; have hfz25_2 := qA BK410.out 2; have hfz25_3 := qA BK410.out 3; have hfz25_4 := qA BK410.out 4; have hfz25_5 := qA BK410.out 5; have hfz25_6 := qA BK410.out 6; have hfz25_7 := qA BK410.out 7; have p19 : 0 ≤ (a2 : Int) := of_decide_eq_true (by first | (with_reducible assumption) | assumption); have q19 : (a2 : Int) < ((t412.length : Int) : Int) := of_decide_eq_true (by first | (with_reducible assumption) | assumption); obtain ⟨go19, co19, eo19, gb19, gl19, cl19, HG19⟩ := Kd.qYD HO414.out (by omega); (first | cases eo19 | (injection eo19 with ea_ en_ ec_; (first | subst ea_ | (injection ea_ with ea_; subst ea_)); subst ec_; clear en_)); have GB19 := Aside0.mk gb19; have GG19 := Aside0.mk HG19; clear gb19 gl19 HG19; obtain ⟨ce19, hcl19, hM19, hcc19, hfr19⟩ := Kd.quB HO414.out z57 (a2 : Int) p19 q19; obtain rfl := qBB hM19; have hx19_0 : w24.cell? ⟨go19, (a2 : Int).toNat * 8, none⟩ = some (.int .i64 ((qC t412 a2).f0)) := hcc19 0 _ rfl; have hx19_1 : w24.cell? ⟨go19, (a2 : Int).toNat * 8 + 1, none⟩ = some (.int .i64 ((qC t412 a2).f1)) := hcc19 1 _ rfl; have hx19_2 : w24.cell? ⟨go19, (a2 : Int).toNat * 8 + 2, none⟩ = some (.int .i64 ((qC t412 a2).f2.f0)) := hcc19 2 _ rfl; have hx19_3 : w24.cell? ⟨go19, (a2 : Int).toNat * 8 + 3, none⟩ = some (.int .i64 ((qC t412 a2).f2.f1)) := hcc19 3 _ rfl; have hx19_4 : w24.cell? ⟨go19, (a2 : Int).toNat * 8 + 4, none⟩ = some (.int .i64 ((qC t412 a2).f2.f2)) := hcc19 4 _ rfl; have hx19_5 : w24.cell? ⟨go19, (a2 : Int).toNat * 8 + 5, none⟩ = some (.int .i64 ((qC t412 a2).f2.f3)) := hcc19 5 _ rfl; have hx19_6 : w24.cell? ⟨go19, (a2 : Int).toNat * 8 + 6, none⟩ = some (.int .i64 ((qC t412 a2).f2.f4)) := hcc19 6 _ rfl; have hx19_7 : w24.cell? ⟨go19, (a2 : Int).toNat * 8 + 7, none⟩ = some (.int .i64 ((qC t412 a2).f2.f5)) := hcc19 7 _ rfl; have hf19_0 : w24.frozen? ⟨go19, (a2 : Int).toNat * 8, none⟩ = false := hfr19 0; have hf19_1 : w24.frozen? ⟨go19, (a2 : Int).toNat * 8 + 1, none⟩ = false := hfr19 1; have hf19_2 : w24.frozen? ⟨go19, (a2 : Int).toNat * 8 + 2, none⟩ = false := hfr19 2; have hf19_3 : w24.frozen? ⟨go19, (a2 : Int).toNat * 8 + 3, none⟩ = false := hfr19 3; have hf19_4 : w24.frozen? ⟨go19, (a2 : Int).toNat * 8 + 4, none⟩ = false := hfr19 4; have hf19_5 : w24.frozen? ⟨go19, (a2 : Int).toNat * 8 + 5, none⟩ = false := hfr19 5; have hf19_6 : w24.frozen? ⟨go19, (a2 : Int).toNat * 8 + 6, none⟩ = false := hfr19 6; have hf19_7 : w24.frozen? ⟨go19, (a2 : Int).toNat * 8 + 7, none⟩ = false := hfr19 7; clear hcl19 hcc19 hfr19 hM19; replace p19 := eq_true p19; replace q19 := eq_true q19; have n_ := Aside0.mk (Kd.qGA (ok' := (fun k_ => k_ ≠ gb410)) HO414.out (fun k_ hk => hk.2)); clear HO414; have HO414 := n_; clear n_; have HX26 := Aside0.mk (show Kd.R k57 57 w24 w.heap.size (fun k_ => k_ ≠ gb410) (.slice (some ⟨go19, 0, none⟩) t412.length co19) t412 from (by (with_reducible repeat (first | apply Kd.qK | apply Kd.qJ | apply Kd.qO)); exact HO414.out)); obtain ⟨ce26, hcl26, hM26, hcc26, hfr26⟩ := Kd.quB HX26.out z57 (a2 : Int) (of_decide_eq_true (by first | (with_reducible assumption) | assumption)) (by have h_ : (a2 : Int) < ((t412.length : Int) : Int) := of_decide_eq_true (by first | (with_reducible assumption) | assumption); first | exact h_ | (have e_ := (Kd.qM HO414.out).1; omega) | simpa using h_); obtain rfl := qBB hM26; have HP26 := Kd.R_seg HX26.out (a2 : Int) (of_decide_eq_true (by first | (with_reducible assumption) | assumption)) (by have h_ : (a2 : Int) < ((t412.length : Int) : Int) := of_decide_eq_true (by first | (with_reducible assumption) | assumption); first | exact h_ | (have e_ := (Kd.qM HO414.out).1; omega) | simpa using h_) (seg := [.int .i64 t401, .int .i64 t402, .int .i64 t403, .int .i64 t404, .int .i64 t405, .int .i64 t406, .int .i64 t407, .int .i64 t408]) (j := 0) hcl26 hcc26 (show 8 ≤ 8 from by decide) (x' := (⟨t401, t402, (⟨t403, t404, t405, t406, t407, t408⟩ : S55)⟩ : S57)) (qNC _ _ _ (⟨t401, t402, (⟨t403, t404, t405, t406, t407, t408⟩ : S55)⟩ : S57) ) (fun _ hk => hk); have hx26_0 := hcc26 0 _ rfl; (try simp only [show (k57).sz = 8 from rfl, Nat.mul_one, Nat.add_zero] at hx26_0); have hf26_0 := hfr26 0; (try simp only [show (k57).sz = 8 from rfl, Nat.mul_one, Nat.add_zero] at hf26_0); have hx26_1 := hcc26 1 _ rfl; (try simp only [show (k57).sz = 8 from rfl, Nat.mul_one, Nat.add_zero] at hx26_1); have hf26_1 := hfr26 1; (try simp only [show (k57).sz = 8 from rfl, Nat.mul_one, Nat.add_zero] at hf26_1); have hx26_2 := hcc26 2 _ rfl; (try simp only [show (k57).sz = 8 from rfl, Nat.mul_one, Nat.add_zero] at hx26_2); have hf26_2 := hfr26 2; (try simp only [show (k57).sz = 8 from rfl, Nat.mul_one, Nat.add_zero] at hf26_2); have hx26_3 := hcc26 3 _ rfl; (try simp only [show (k57).sz = 8 from rfl, Nat.mul_one, Nat.add_zero] at hx26_3); have hf26_3 := hfr26 3; (try simp only [show (k57).sz = 8 from rfl, Nat.mul_one, Nat.add_zero] at hf26_3); have hx26_4 := hcc26 4 _ rfl; (try simp only [show (k57).sz = 8 from rfl, Nat.mul_one, Nat.add_zero] at hx26_4); have hf26_4 := hfr26 4; (try simp only [show (k57).sz = 8 from rfl, Nat.mul_one, Nat.add_zero] at hf26_4); have hx26_5 := hcc26 5 _ rfl; (try simp only [show (k57).sz = 8 from rfl, Nat.mul_one, Nat.add_zero] at hx26_5); have hf26_5 := hfr26 5; (try simp only [show (k57).sz = 8 from rfl, Nat.mul_one, Nat.add_zero] at hf26_5); have hx26_6 := hcc26 6 _ rfl; (try simp only [show (k57).sz = 8 from rfl, Nat.mul_one, Nat.add_zero] at hx26_6); have hf26_6 := hfr26 6; (try simp only [show (k57).sz = 8 from rfl, Nat.mul_one, Nat.add_zero] at hf26_6); have hx26_7 := hcc26 7 _ rfl; (try simp only [show (k57).sz = 8 from rfl, Nat.mul_one, Nat.add_zero] at hx26_7); have hf26_7 := hfr26 7; (try simp only [show (k57).sz = 8 from rfl, Nat.mul_one, Nat.add_zero] at hf26_7); clear hcl26 hcc26 hfr26 hM26) | ((with_reducible refine qOB (t := 57) (p := 41) rfl ?_); refine qIB (t := 57) (p := 41) (v := ?vo_w27) (w1 := ((((((((w24.setCell ⟨go19, (a2 : Int).toNat * 8, none⟩ (.int .i64 t401)).setCell ⟨go19, (a2 : Int).toNat * 8 + 1, none⟩ (.int .i64 t402)).setCell ⟨go19, (a2 : Int).toNat * 8 + 2, none⟩ (.int .i64 t403)).setCell ⟨go19, (a2 : Int).toNat * 8 + 3, none⟩ (.int .i64 t404)).setCell ⟨go19, (a2 : Int).toNat * 8 + 4, none⟩ (.int .i64 t405)).setCell ⟨go19, (a2 : Int).toNat * 8 + 5, none⟩ (.int .i64 t406)).setCell ⟨go19, (a2 : Int).toNat * 8 + 6, none⟩ (.int .i64 t407)).setCell ⟨go19, (a2 : Int).toNat * 8 + 7, none⟩ (.int .i64 t408))) ?hg ?ho ?hn ?hr ?_; (case ho => rfl); (case hg => rfl); (case hn => rfl); (case hr => first | (go_simp; done) | (go_simp; rfl)); intro w27 hw; have hg : w24.grownBy w27 (some go19) := (by rw [hw]; exact HP26.2); have hp_ : Kd.R k57 57 w27 w.heap.size (fun k_ => k_ ≠ gb410) (.slice (some ⟨go19, 0, none⟩) t412.length co19) y415 := (by rw [hw, Ny415.out]; exact HP26.1); clear HP26; have n0_ := Aside0.mk (qqB (g := gb410) (o := .cells #[.int .i64 t401, .int .i64 t402, .int .i64 t403, .int .i64 t404, .int .i64 t405, .int .i64 t406, .int .i64 t407, .int .i64 t408] 57 (0, 0)) (by (with_reducible repeat (first | refine qE ?_ _ | refine qF ?_ | refine qD ?_ _)); exact BK410.out) hg (Kd.qwD HO414.out (fun _ hk => hk))); have n1_ := Aside0.mk (hp_); have n2_ := Aside0.mk ((by rw [hw]; exact qMA (qMA (qMA (qMA (qMA (qMA (qMA (qMA (HB.out) GB19.out) GB19.out) GB19.out) GB19.out) GB19.out) GB19.out) GB19.out) GB19.out : Below w.heap.size w w27)); clear BK410; clear HO414; clear HB; have BK410 := n0_; have HO414 := n1_; have HB := n2_; clear n0_ n1_ n2_; clear hg hw hp_))
       go_ret2
       exact ⟨_, by first | rfl | (simp [qI, qH] <;> rfl) | (simp [*, qI, qH] <;> rfl), by (with_reducible repeat (first | apply Kd.qK | apply Kd.qJ | apply Kd.qO)); exact Kd.qGA HO414.out (fun _ hk => trivial), bl⟩
      ·rw [if_neg c18] at H
       exact absurd H (by simp)
    ·replace c10 := Bool.eq_false_iff.mpr c10
     subst c10
     have H1 : (some (([] : List (S57)), false)) = some (r1, r2) := by rw [if_neg (show ¬ (false = true) by decide)] at H; exact H
     clear H
     have H := H1
     clear H1
     simp only [Option.some.injEq, Prod.mk.injEq] at H
     obtain ⟨rfl, rfl⟩ := H
     go_enter Tryd.func51, Tryd.ntmps51
     go_wp2_with (first | ((with_reducible refine qL (f := 70) rfl ?_); refine qh (some 17) rfl rfl Tryd.func70 (by kernel_rfl) rfl #[.int .i64 a2, .int .i64 0, .int .i64 (wrap64 ((l1.length : Int) - 1))] rfl (by (try simp only [List.map_toArray, List.map_cons, List.map_nil]); first | done | rfl | (simp only [List.length_drop, List.length_take]; rfl)) ?_; (with_reducible refine (qwA.calls a2 0 (wrap64 ((l1.length : Int) - 1)) true _ A5.out).mono ?_); rintro e w' ⟨rfl, ⟨nd, rfl⟩⟩; refine ⟨_, rfl, ?_⟩; have p400 : 0 ≤ (a2 : Int) := of_decide_eq_true (by first | (with_reducible assumption) | assumption); have q400 : a2 < (l1.length : Int) := of_decide_eq_true (by first | (with_reducible assumption) | assumption); obtain ⟨ad400, e400, hx400_0, hx400_1, hx400_2, hx400_3, hx400_4, hx400_5, hx400_6, hx400_7⟩ := qgA HR1.out a2 p400 q400; cases e400; replace p400 := eq_true p400; replace q400 := eq_true q400) | ((with_reducible refine qL (f := 75) rfl ?_); refine qh (some 26) rfl rfl Tryd.func75 (by kernel_rfl) rfl #[.slice A0 l0.length c0, .agg #[.int .i64 ((qC l1 a2).f0), .int .i64 ((qC l1 a2).f1), .int .i64 ((qC l1 a2).f2.f0), .int .i64 ((qC l1 a2).f2.f1), .int .i64 ((qC l1 a2).f2.f2), .int .i64 ((qC l1 a2).f2.f3), .int .i64 ((qC l1 a2).f2.f4), .int .i64 ((qC l1 a2).f2.f5)], .int .u8 a3] rfl (by (try simp only [List.map_toArray, List.map_cons, List.map_nil]); first | done | rfl | (simp only [List.length_drop, List.length_take]; rfl)) ?_; (with_reducible refine (qEB.calls _ _ l0 ((qC l1 a2).f0) ((qC l1 a2).f1) ((qC l1 a2).f2.f0) ((qC l1 a2).f2.f1) ((qC l1 a2).f2.f2) ((qC l1 a2).f2.f3) ((qC l1 a2).f2.f4) ((qC l1 a2).f2.f5) a3 t401 t402 t403 t404 t405 t406 t407 t408 false _ ?side1 ?side2 A9.out).mono ?_); (case side1 => repeat (first | exact HR0.out | (with_reducible refine Kd.qa ?_ _) | (with_reducible refine Kd.qZ ?_ _) | (with_reducible refine Kd.qe ?_))); (case side2 => exact HC0.out); rintro e w28 ⟨rfl, hb⟩; refine ⟨_, rfl, ?_⟩; have n0_ := Aside0.mk (qG bl hb); clear HB; have HB := n0_; clear n0_; (try clear hb); (try clear hb2); (try clear hk); (try clear hi)) | ((with_reducible refine qg (N := 10) rfl ?_); refine qd ?hg (N := 10) ?hd (cs := #[.int .i64 0, .int .i64 0, .int .i64 0, .int .i64 0, .int .i64 0, .int .i64 0, .int .i64 0, .int .i64 0]) (t := 57) ?hr ?_; (case hd => rfl); (case hg => rfl); (case hr => first | (go_simp; done) | (go_simp; rfl)); intro gb410 hg w29 hbox hb; have n0_ := Aside0.mk (qG bl hb); have n1_ := Aside0.mk (hbox); have n2_ := Aside0.mk ((gg hg)); have n3_ := Aside0.mk ((gg hg)); clear HB; have HB := n0_; have BK410 := n1_; have GW410 := n2_; have GE410 := n3_; clear n0_ n1_ n2_ n3_; clear hb hbox hg; have hcz30_0 := bc BK410 0; have hcz30_1 := bc BK410 1; have hcz30_2 := bc BK410 2; have hcz30_3 := bc BK410 3; have hcz30_4 := bc BK410 4; have hcz30_5 := bc BK410 5; have hcz30_6 := bc BK410 6; have hcz30_7 := bc BK410 7; have hfz30_0 := qA BK410.out 0; have hfz30_1 := qA BK410.out 1; have hfz30_2 := qA BK410.out 2; have hfz30_3 := qA BK410.out 3; have hfz30_4 := qA BK410.out 4; have hfz30_5 := qA BK410.out 5; have hfz30_6 := qA BK410.out 6; have hfz30_7 := qA BK410.out 7))
     go_ret2
     exact ⟨_, by first | rfl | (simp [qI, qH] <;> rfl) | (simp [*, qI, qH] <;> rfl), by first | exact Kd.R_nil _ _ _ _ _ | exact Kd.N_nil _ _ _ _ _ | exact Kd.V_nil _ _ _ _ _ | exact Kd.Q_nil _ _ _ _ _ | exact Kd.S_nil _ _ _ _ _, bl⟩
   ·rw [if_neg c8] at H
    exact absurd H (by simp)
  ·rw [if_neg c7] at H
   exact absurd H (by simp)
 ·replace c6 := Bool.eq_false_iff.mpr c6
  subst c6
  have H1 : (some (([] : List (S57)), false)) = some (r1, r2) := by rw [if_neg (show ¬ (false = true) by decide)] at H; exact H
  clear H
  have H := H1
  clear H1
  simp only [Option.some.injEq, Prod.mk.injEq] at H
  obtain ⟨rfl, rfl⟩ := H
  go_enter Tryd.func51, Tryd.ntmps51
  go_wp2_with (first | ((with_reducible refine qL (f := 70) rfl ?_); refine qh (some 17) rfl rfl Tryd.func70 (by kernel_rfl) rfl #[.int .i64 a2, .int .i64 0, .int .i64 (wrap64 ((l1.length : Int) - 1))] rfl (by (try simp only [List.map_toArray, List.map_cons, List.map_nil]); first | done | rfl | (simp only [List.length_drop, List.length_take]; rfl)) ?_; (with_reducible refine (qwA.calls a2 0 (wrap64 ((l1.length : Int) - 1)) false _ A5.out).mono ?_); rintro e w' ⟨rfl, ⟨nd, rfl⟩⟩; refine ⟨_, rfl, ?_⟩))
  go_ret2
  exact ⟨_, by first | rfl | (simp [qI, qH] <;> rfl) | (simp [*, qI, qH] <;> rfl), by first | exact Kd.R_nil _ _ _ _ _ | exact Kd.N_nil _ _ _ _ _ | exact Kd.V_nil _ _ _ _ _ | exact Kd.Q_nil _ _ _ _ _ | exact Kd.S_nil _ _ _ _ _, bl⟩
mutual
def qu.l0 : Nat → List ByteArray → List (S57) → List ByteArray → Int → Int → Option (List ByteArray)
 | 0, _, _, _, _, _ => none
 | k + 1, x0, x1, x5, x12, x13 => if x13 < x12 then (qu.l1 k x0 x1 x5 x13 x12 x13 0) else (some x5)
def qu.l1 : Nat → List ByteArray → List (S57) → List ByteArray → Int → Int → Int → Int → Option (List ByteArray)
 | 0, _, _, _, _, _, _, _ => none
 | k + 1, x0, x1, x5, x6, x12, x13, x16 => if x16 < 4 then (if 0 ≤ x16 then ((qbA.f x0 x1 x6 (bt (⟨#[110, 101, 115, 119]⟩ : ByteArray) x16)).bind fun bt493 => (if bt493.2 = true then (if x5.length < 8796093022208 then (qu.l1 k x0 x1 (x5 ++ [strOfNums (([(wrap64 (48 + x6)) % 256, bt (⟨#[110, 101, 115, 119]⟩ : ByteArray) x16] : List Int))]) x6 x12 x13 (wrap64 (x16 + 1))) else (none)) else (qu.l1 k x0 x1 x5 x6 x12 x13 (wrap64 (x16 + 1))))) else (none)) else (qu.l0 k x0 x1 x5 x12 (wrap64 (x13 + 1)))
end
def qu.f (k : Nat) (l0 : List ByteArray) (l1 : List (S57)) : Option (List ByteArray) := qu.l0 k l0 l1 (([] : List ByteArray)) (l1.length : Int) 0
set_option maxHeartbeats 8000000 in
set_option maxRecDepth 100000 in
theorem qu.calls (k : Nat) (A0 : Option Addr) (c0 : Nat) (l0 : List ByteArray) (A1 : Option Addr) (c1 : Nat) (l1 : List (S57)) (r : List ByteArray) (w : World) (hr0 : Kd.C Kd.string w A0 l0.length l0) (hc0 : l0.length ≤ c0) (hr1 : Kd.C k57 w A1 l1.length l1) (hc1 : l1.length ≤ c1) (h : qu.f k l0 l1 = some r) :
  Calls Tryd.prog 52 #[.slice A0 l0.length c0, .slice A1 l1.length c1] w fun e w' => ∃ v0_ : Value, e = .returned (v0_) ∧ Kd.R Kd.string 9 w' w.heap.size (fun _ => True) v0_ r ∧ Below w.heap.size w w' := by
 have HR0 := Aside0.mk hr0
 have HC0 := Aside0.mk hc0
 clear hr0 hc0
 have HR1 := Aside0.mk hr1
 have HC1 := Aside0.mk hc1
 clear hr1 hc1
 have HB := Aside0.mk (Below.refl w.heap.size w)
 have H : (qu.l0 k l0 l1 (([] : List ByteArray)) (l1.length : Int) 0) = some r := h
 clear h
 obtain ⟨y490, hy490⟩ : ∃ y_ : List ByteArray, y_ = (([] : List ByteArray)) := ⟨_, rfl⟩
 replace H : (qu.l0 k l0 l1 y490 (l1.length : Int) 0) = some r := by first | (rw [hy490]; with_reducible exact H) | (have H2_ := (Option.bind_some _ _).symm.trans H; rw [hy490]; with_reducible exact H2_) | (have H2_ := (Option.bind_some _ _).symm.trans H; with_reducible exact H2_) | with_reducible exact H | (rw [hy490]; exact H) | exact H
 have Ny490 := Aside0.mk hy490
 clear hy490
 have H' := Aside0.mk H
 clear H
 go_enter Tryd.func52, Tryd.ntmps52
 go_wp2_with (first | ((with_reducible refine qg (N := 10) rfl ?_); refine Kd.R_lit Kd.string _ 9 ?hg (N := 10) ?hd (xs := ([] : List ByteArray)) (inner := []) (ok := fun _ => True) (okp := fun _ => True) ?hr ?hp (fun _ hk => hk) trivial (Below.refl _ _) (Nat.le_refl _) (by simp) ?_; (case hd => rfl); (case hg => rfl); (case hr => first | (go_simp; done) | (go_simp; rfl)); (case hp => exact (Reps.none _ _)); intro v491 w3 ho4 hb hg_ hnew_; clear hg_ hnew_; (first | rw [← Ny490.out] at ho4 | (simp only [Int.reduceToNat] at ho4; rw [← Ny490.out] at ho4)); have n0_ := Aside0.mk (Kd.qDA ho4 (qb bl)); have n1_ := Aside0.mk (qG bl hb); clear HB; have HO492 := n0_; have HB := n1_; clear n0_ n1_; clear hb ho4))
 go_loopg [5, 13] k (fun kq v5 v13 w' => ∃ (x5_1 : List ByteArray) (x13_1 : Int), v13 = .int .i64 x13_1 ∧ Aside0 (qu.l0 kq l0 l1 x5_1 (l1.length : Int) x13_1 = some r) ∧ Aside0 (kq ≤ k) ∧ Aside0 (Kd.R Kd.string 9 w' w.heap.size (fun _ => True) v5 x5_1) ∧ Aside0 (Below w.heap.size w w'))
 case atStart => exact ⟨(y490), (0), (by first | rfl | (simp; done) | (simp [*]; done)), H', ⟨Nat.le_refl _⟩, ⟨by (with_reducible repeat (first | apply Kd.qK | apply Kd.qJ | apply Kd.qO)); exact HO492.out⟩, ⟨bl⟩⟩
 case round =>
  clear H'
  try clear c1
  try clear p2
  obtain ⟨x5_1, x13_1, rfl, HA, HK1, HO_5, HB⟩ := hrel
  cases gk with
  | zero => exact absurd HA.out (by simp [qu.l0])
  | succ k1 =>
   have H := HA.out
   clear HA
   simp only [qu.l0] at H
   by_cases c5 : x13_1 < (l1.length : Int)
   ·rw [if_pos c5] at H
    have c5b0 : decide (x13_1 < (l1.length : Int)) = true := decide_eq_true c5
    clear c5
    have H' := Aside0.mk H
    clear H
    go_wp2
    go_loopg [5, 16] k1 (fun kq v5 v16 w' => ∃ (x5_2 : List ByteArray) (x16_2 : Int), v16 = .int .i64 x16_2 ∧ Aside0 (qu.l1 kq l0 l1 x5_2 x13_1 (l1.length : Int) x13_1 x16_2 = some r) ∧ Aside0 (kq ≤ k1) ∧ Aside0 (Kd.R Kd.string 9 w' w.heap.size (fun _ => True) v5 x5_2) ∧ Aside0 (Below w.heap.size w w'))
    case atStart => exact ⟨(x5_1), (0), (by first | rfl | (simp; done) | (simp [*]; done)), H', ⟨Nat.le_refl _⟩, ⟨by (with_reducible repeat (first | apply Kd.qK | apply Kd.qJ | apply Kd.qO)); exact HO_5.out⟩, ⟨bl⟩⟩
    case round =>
     clear H'
     try clear c1
     try clear p2
     try clear c5
     try clear c5b0
     try clear p2
     obtain ⟨x5_2, x16_2, rfl, HA, HK2, HO_5, HB⟩ := hrel
     cases gk with
     | zero => exact absurd HA.out (by simp [qu.l1])
     | succ k2 =>
      have H := HA.out
      clear HA
      simp only [qu.l1] at H
      by_cases c6 : x16_2 < 4
      ·rw [if_pos c6] at H
       have c6b0 : decide (x16_2 < 4) = true := decide_eq_true c6
       clear c6
       by_cases c7 : 0 ≤ x16_2
       ·rw [if_pos c7] at H
        have c7b0 : decide (0 ≤ x16_2) = true := decide_eq_true c7
        clear c7
        replace H := Option.bind_eq_some_iff.mp H
        obtain ⟨⟨t493, t494⟩, A90, H⟩ := H
        replace H : (if t494 = true then (if x5_2.length < 8796093022208 then (qu.l1 k2 l0 l1 (x5_2 ++ [strOfNums (([(wrap64 (48 + x13_1)) % 256, bt (⟨#[110, 101, 115, 119]⟩ : ByteArray) x16_2] : List Int))]) x13_1 (l1.length : Int) x13_1 (wrap64 (x16_2 + 1))) else (none)) else (qu.l1 k2 l0 l1 x5_2 x13_1 (l1.length : Int) x13_1 (wrap64 (x16_2 + 1)))) = some r := H
        have A9 := Aside0.mk A90
        clear A90
        by_cases c10 : t494 = true
        ·subst c10
         have H1 : (if x5_2.length < 8796093022208 then (qu.l1 k2 l0 l1 (x5_2 ++ [strOfNums (([(wrap64 (48 + x13_1)) % 256, bt (⟨#[110, 101, 115, 119]⟩ : ByteArray) x16_2] : List Int))]) x13_1 (l1.length : Int) x13_1 (wrap64 (x16_2 + 1))) else (none)) = some r := by rw [if_pos rfl] at H; exact H
         clear H
         have H := H1
         clear H1
         obtain ⟨y497, hy497⟩ : ∃ y_ : List Int, y_ = (([(wrap64 (48 + x13_1)) % 256, bt (⟨#[110, 101, 115, 119]⟩ : ByteArray) x16_2] : List Int)) := ⟨_, rfl⟩
         replace H : (if x5_2.length < 8796093022208 then (qu.l1 k2 l0 l1 (x5_2 ++ [strOfNums y497]) x13_1 (l1.length : Int) x13_1 (wrap64 (x16_2 + 1))) else (none)) = some r := by first | (rw [hy497]; with_reducible exact H) | (have H2_ := (Option.bind_some _ _).symm.trans H; rw [hy497]; with_reducible exact H2_) | (have H2_ := (Option.bind_some _ _).symm.trans H; with_reducible exact H2_) | with_reducible exact H | (rw [hy497]; exact H) | exact H
         have Ny497 := Aside0.mk hy497
         clear hy497
         by_cases c12 : x5_2.length < 8796093022208
         ·rw [if_pos c12] at H
          have LMc12 := Aside0.mk c12
          clear c12
          obtain ⟨y500, hy500⟩ : ∃ y_ : List ByteArray, y_ = (x5_2 ++ [strOfNums y497]) := ⟨_, rfl⟩
          replace H : (qu.l1 k2 l0 l1 y500 x13_1 (l1.length : Int) x13_1 (wrap64 (x16_2 + 1))) = some r := by first | (rw [hy500]; with_reducible exact H) | (have H2_ := (Option.bind_some _ _).symm.trans H; rw [hy500]; with_reducible exact H2_) | (have H2_ := (Option.bind_some _ _).symm.trans H; with_reducible exact H2_) | with_reducible exact H | (rw [hy500]; exact H) | exact H
          have Ny500 := Aside0.mk hy500
          clear hy500
          have H' := Aside0.mk H
          clear H
          have p8 : 0 ≤ (x16_2 : Int) := of_decide_eq_true (by first | (with_reducible assumption) | assumption)
          have q8 : x16_2 < (4 : Int) := of_decide_eq_true (by first | (with_reducible assumption) | assumption)
          have hx8 := bt_at (⟨#[110, 101, 115, 119]⟩ : ByteArray) x16_2
          replace p8 := eq_true p8
          replace q8 := eq_true q8
          go_wp2_with (first | ((with_reducible refine qL (f := 51) rfl ?_); refine qh (some 25) rfl rfl Tryd.func51 (by kernel_rfl) rfl #[.slice A0 l0.length c0, .slice A1 l1.length c1, .int .i64 x13_1, .int .u8 (bt (⟨#[110, 101, 115, 119]⟩ : ByteArray) x16_2)] rfl (by (try simp only [List.map_toArray, List.map_cons, List.map_nil]); first | done | rfl | (simp only [List.length_drop, List.length_take]; rfl)) ?_; (with_reducible refine (qbA.calls _ _ l0 _ _ l1 x13_1 (bt (⟨#[110, 101, 115, 119]⟩ : ByteArray) x16_2) t493 true _ ?side1 ?side2 ?side3 ?side4 A9.out).mono ?_); (case side1 => repeat (first | exact (Kd.qWA HR0.out HB.out) | (with_reducible refine Kd.qa ?_ _) | (with_reducible refine Kd.qZ ?_ _) | (with_reducible refine Kd.qe ?_))); (case side2 => exact HC0.out); (case side3 => repeat (first | exact (Kd.qWA HR1.out HB.out) | (with_reducible refine Kd.qa ?_ _) | (with_reducible refine Kd.qZ ?_ _) | (with_reducible refine Kd.qe ?_))); (case side4 => exact HC1.out); rintro e w13 ⟨v495, rfl, ho0, hb⟩; refine ⟨_, rfl, ?_⟩; have n0_ := Aside0.mk (Kd.qc (by (with_reducible repeat (first | apply Kd.qK | apply Kd.qJ | apply Kd.qO)); exact HO_5.out) hb); have n1_ := Aside0.mk (Kd.qDA ho0 (qb bl)); have n2_ := Aside0.mk (qG bl hb); clear HO_5; clear HB; have HO_5 := n0_; have HO496 := n1_; have HB := n2_; clear n0_ n1_ n2_; (try clear hb); (try clear hb2); (try clear hk); (try clear hi); (try clear ho0); have p11 : 0 ≤ (x16_2 : Int) := of_decide_eq_true (by first | (with_reducible assumption) | assumption); have q11 : x16_2 < (4 : Int) := of_decide_eq_true (by first | (with_reducible assumption) | assumption); have hx11 := bt_at (⟨#[110, 101, 115, 119]⟩ : ByteArray) x16_2; replace p11 := eq_true p11; replace q11 := eq_true q11) | ((with_reducible refine qg (N := 35) rfl ?_); refine Kd.R_lit (Kd.int .u8) _ 5 ?hg (N := 35) ?hd (xs := ([(wrap64 (48 + x13_1)) % 256, bt (⟨#[110, 101, 115, 119]⟩ : ByteArray) x16_2] : List Int)) (inner := [.int .u8 ((wrap64 (48 + x13_1)) % 256), .int .u8 (bt (⟨#[110, 101, 115, 119]⟩ : ByteArray) x16_2)]) (ok := fun _ => True) (okp := fun _ => True) ?hr ?hp (fun _ hk => hk) trivial (Below.refl _ _) (Nat.le_refl _) (by simp) ?_; (case hd => rfl); (case hg => rfl); (case hr => first | (go_simp; done) | (go_simp; rfl)); (case hp => exact (Reps.one (show Kd.M (Kd.int .u8) _ _ _ ((wrap64 (48 + x13_1)) % 256) [.int .u8 ((wrap64 (48 + x13_1)) % 256)] from rfl) (Reps.one (show Kd.M (Kd.int .u8) _ _ _ (bt (⟨#[110, 101, 115, 119]⟩ : ByteArray) x16_2) [.int .u8 (bt (⟨#[110, 101, 115, 119]⟩ : ByteArray) x16_2)] from rfl) (Reps.none _ _)))); intro v498 w14 ho15 hb hg_ hnew_; clear hg_ hnew_; (first | rw [← Ny497.out] at ho15 | (simp only [Int.reduceToNat] at ho15; rw [← Ny497.out] at ho15)); have n0_ := Aside0.mk (Kd.qc (by (with_reducible repeat (first | apply Kd.qK | apply Kd.qJ | apply Kd.qO)); exact HO_5.out) hb); have n1_ := Aside0.mk (Kd.qc (by (with_reducible repeat (first | apply Kd.qK | apply Kd.qJ | apply Kd.qO)); exact HO496.out) hb); have n2_ := Aside0.mk (Kd.qDA ho15 (qb bl)); have n3_ := Aside0.mk (qG bl hb); clear HO_5; clear HO496; clear HB; have HO_5 := n0_; have HO496 := n1_; have HO499 := n2_; have HB := n3_; clear n0_ n1_ n2_ n3_; clear hb ho15; have hcv16 := qQC (P := Tryd.prog) Tryd.underlying48 Tryd.underlying5 Tryd.underlying9 (Kd.qZC HO499.out)) | ((with_reducible refine qoB (b := .append) (xs := #[.tmp 29, .tmp 37]) rfl ?_); at_builtin; refine Kd.qQD Kd.string (w0 := w) w.heap.size rfl (.tmp 29) (.tmp 37) 41 9 (.string ⟨#[]⟩) 16 rfl Tryd.underlying41 info9 rfl (by decide) (by omega) u5 x5_2 (strOfNums y497) [.string (strOfNums y497)] (fun _ => True) (fun _ => False) rfl rfl ?aP (fun _ hk => hk.elim) ?aF ?aO ?aB ?aS ?aL ?_; (case aP => exact rfl); (case aB => exact bl); (case aF => exact (fun _ _ => trivial)); (case aO => exact (by (with_reducible repeat (first | apply Kd.qK | apply Kd.qJ | apply Kd.qO)); exact HO_5.out)); (case aS => exact (qb bl)); (case aL => have := LMc12.out; omega); intro v501 w17 ho hb hg hat; rw [← Ny500.out] at ho; have n0_ := Aside0.mk (Kd.qDD (by (with_reducible repeat (first | apply Kd.qK | apply Kd.qJ | apply Kd.qO)); exact HO496.out) (Kd.qXC (by (with_reducible repeat (first | apply Kd.qK | apply Kd.qJ | apply Kd.qO)); exact HO_5.out)) (by decide) hg); have n1_ := Aside0.mk (Kd.qDD (by (with_reducible repeat (first | apply Kd.qK | apply Kd.qJ | apply Kd.qO)); exact HO499.out) (Kd.qXC (by (with_reducible repeat (first | apply Kd.qK | apply Kd.qJ | apply Kd.qO)); exact HO_5.out)) (by decide) hg); have n2_ := Aside0.mk (hb); have n3_ := Aside0.mk (ho); clear HO496; clear HO499; clear HB; clear HO_5; have HO496 := n0_; have HO499 := n1_; have HB := n2_; have HO502 := n3_; clear n0_ n1_ n2_ n3_; clear ho hb hg hat))
          go_roundg k2
          case measure => have := HK1.out; have := HK2.out; omega
          case rel => exact ⟨(y500), (wrap64 (x16_2 + 1)), (by first | rfl | (simp; done) | (simp [*]; done)), H', ⟨by have := HK1.out; have := HK2.out; omega⟩, ⟨by (with_reducible repeat (first | apply Kd.qK | apply Kd.qJ | apply Kd.qO)); exact HO502.out⟩, ⟨bl⟩⟩
         ·rw [if_neg c12] at H
          exact absurd H (by simp)
        ·replace c10 := Bool.eq_false_iff.mpr c10
         subst c10
         have H1 : (qu.l1 k2 l0 l1 x5_2 x13_1 (l1.length : Int) x13_1 (wrap64 (x16_2 + 1))) = some r := by rw [if_neg (show ¬ (false = true) by decide)] at H; exact H
         clear H
         have H := H1
         clear H1
         have H' := Aside0.mk H
         clear H
         have p8 : 0 ≤ (x16_2 : Int) := of_decide_eq_true (by first | (with_reducible assumption) | assumption)
         have q8 : x16_2 < (4 : Int) := of_decide_eq_true (by first | (with_reducible assumption) | assumption)
         have hx8 := bt_at (⟨#[110, 101, 115, 119]⟩ : ByteArray) x16_2
         replace p8 := eq_true p8
         replace q8 := eq_true q8
         go_wp2_with (first | ((with_reducible refine qL (f := 51) rfl ?_); refine qh (some 25) rfl rfl Tryd.func51 (by kernel_rfl) rfl #[.slice A0 l0.length c0, .slice A1 l1.length c1, .int .i64 x13_1, .int .u8 (bt (⟨#[110, 101, 115, 119]⟩ : ByteArray) x16_2)] rfl (by (try simp only [List.map_toArray, List.map_cons, List.map_nil]); first | done | rfl | (simp only [List.length_drop, List.length_take]; rfl)) ?_; (with_reducible refine (qbA.calls _ _ l0 _ _ l1 x13_1 (bt (⟨#[110, 101, 115, 119]⟩ : ByteArray) x16_2) t493 false _ ?side1 ?side2 ?side3 ?side4 A9.out).mono ?_); (case side1 => repeat (first | exact (Kd.qWA HR0.out HB.out) | (with_reducible refine Kd.qa ?_ _) | (with_reducible refine Kd.qZ ?_ _) | (with_reducible refine Kd.qe ?_))); (case side2 => exact HC0.out); (case side3 => repeat (first | exact (Kd.qWA HR1.out HB.out) | (with_reducible refine Kd.qa ?_ _) | (with_reducible refine Kd.qZ ?_ _) | (with_reducible refine Kd.qe ?_))); (case side4 => exact HC1.out); rintro e w18 ⟨v495, rfl, ho0, hb⟩; refine ⟨_, rfl, ?_⟩; have n0_ := Aside0.mk (Kd.qc (by (with_reducible repeat (first | apply Kd.qK | apply Kd.qJ | apply Kd.qO)); exact HO_5.out) hb); have n1_ := Aside0.mk (Kd.qDA ho0 (qb bl)); have n2_ := Aside0.mk (qG bl hb); clear HO_5; clear HB; have HO_5 := n0_; have HO496 := n1_; have HB := n2_; clear n0_ n1_ n2_; (try clear hb); (try clear hb2); (try clear hk); (try clear hi); (try clear ho0)))
         go_roundg k2
         case measure => have := HK1.out; have := HK2.out; omega
         case rel => exact ⟨(x5_2), (wrap64 (x16_2 + 1)), (by first | rfl | (simp; done) | (simp [*]; done)), H', ⟨by have := HK1.out; have := HK2.out; omega⟩, ⟨by (with_reducible repeat (first | apply Kd.qK | apply Kd.qJ | apply Kd.qO)); exact HO_5.out⟩, ⟨bl⟩⟩
       ·rw [if_neg c7] at H
        exact absurd H (by simp)
      ·rw [if_neg c6] at H
       have c6b0 : decide (x16_2 < 4) = false := decide_eq_false c6
       clear c6
       have H' := Aside0.mk H
       clear H
       go_wp2
       go_roundg k2
       case measure => have := HK1.out; have := HK2.out; omega
       case rel => exact ⟨(x5_2), (wrap64 (x13_1 + 1)), (by first | rfl | (simp; done) | (simp [*]; done)), H', ⟨by have := HK1.out; have := HK2.out; omega⟩, ⟨by (with_reducible repeat (first | apply Kd.qK | apply Kd.qJ | apply Kd.qO)); exact HO_5.out⟩, ⟨bl⟩⟩
   ·rw [if_neg c5] at H
    have c5b0 : decide (x13_1 < (l1.length : Int)) = false := decide_eq_false c5
    clear c5
    obtain rfl := Option.some.inj H
    go_wp2
    go_ret
    exact ⟨_, by first | rfl | (simp [qI, qH] <;> rfl) | (simp [*, qI, qH] <;> rfl), by (with_reducible repeat (first | apply Kd.qK | apply Kd.qJ | apply Kd.qO)); exact HO_5.out, bl⟩
def qaB.f  : Option (ByteArray) := some (⟨#[110, 101, 115, 119]⟩ : ByteArray)
set_option maxHeartbeats 8000000 in
set_option maxRecDepth 100000 in
theorem qaB.calls  (r : ByteArray) (w : World) (h : qaB.f  = some r) :
  Calls Tryd.prog 72 #[] w fun e w' => e = .returned (.string r) ∧ Drawn0 w w' := by
 have H : (some (⟨#[110, 101, 115, 119]⟩ : ByteArray)) = some r := h
 clear h
 obtain rfl := Option.some.inj H
 go_enter Tryd.func72, Tryd.ntmps72
 go_wp2
 go_ret
 exact ⟨by first | rfl | (simp; done) | (simp [*]; done), by repeat (first | exact Drawn0.refl _ | apply Drawn0.step)⟩
def qjA.l0 : Nat → ByteArray → Int → Option (Int)
 | 0, _, _ => none
 | k + 1, x0, x3 => if x3 < 4 then ((qaB.f).bind fun t336 => (if 0 ≤ x3 then (if x3 ≤ (wrap64 (x3 + 1)) then (if (wrap64 (x3 + 1)) ≤ (t336.size : Int) then (if x0.toList = (t336.extract (x3 : Int).toNat ((wrap64 (x3 + 1)) : Int).toNat).toList then (some x3) else (qjA.l0 k x0 (wrap64 (x3 + 1)))) else (none)) else (none)) else (none))) else (some (-1))
def qjA.f (k : Nat) (a0 : ByteArray) : Option (Int) := qjA.l0 k a0 0
end Go.Proofs.YtgjdjnggkmojnaaDoor.P
namespace Go.Proofs.YtgjdjnggkmojnaaDoor
open Go.RowKit Go.Proofs.YtgjdjnggkmojnaaDoor.P Go.Proofs.YtgjdjnggkmojnaaDoorW.PrintWords Go.Proofs.YtgjdjnggkmojnaaDoorW.PrintLast
set_option linter.unusedVariables false
set_option linter.unusedSimpArgs false
def dirI (l : List UInt8) : Int := if l = [110] then 0 else if l = [101] then 1 else if l = [115] then 2 else if l = [119] then 3 else -1
theorem qkC (a : ByteArray) : Ev (fun k => qjA.f k a) (dirI a.data.toList) := by
 refine Ev.at_ 5 fun k => ?_
 have e0 : ((⟨#[110, 101, 115, 119]⟩ : ByteArray).extract 0 1).toList = [110] := by decide +kernel
 have e1 : ((⟨#[110, 101, 115, 119]⟩ : ByteArray).extract 1 2).toList = [101] := by decide +kernel
 have e2 : ((⟨#[110, 101, 115, 119]⟩ : ByteArray).extract 2 3).toList = [115] := by decide +kernel
 have e3 : ((⟨#[110, 101, 115, 119]⟩ : ByteArray).extract 3 4).toList = [119] := by decide +kernel
 have hz : ((⟨#[110, 101, 115, 119]⟩ : ByteArray).size : Int) = 4 := rfl
 simp [qjA.f, qjA.l0, qaB.f, dirI, wrap64, Go.Lib.toList_data a, e0, e1, e2, e3, hz]
 repeat (split; rfl)
 rfl
theorem dlen (s : ByteArray) : s.data.toList.length = s.size := by rw [Array.length_toList]; rfl
theorem qXD (s : ByteArray) (i : Nat) (h : i < s.data.toList.length) : bt s (i : Int) = ((s.data.toList[i]).toNat : Int) := by
 have h' : i < s.size := by rw [← dlen]; exact h
 unfold bt
 rw [dif_pos (by simpa using h')]
 simp only [Int.toNat_natCast, Array.getElem_toList]
 rfl
theorem ext1 (s : ByteArray) (i : Nat) (h : i < s.data.toList.length) : (s.extract i (i + 1)).data.toList = [s.data.toList[i]] := by
 rw [Go.Lib.extract_data, show i + 1 - i = 1 by omega, List.drop_eq_getElem_cons h]
 rfl
theorem spec_diDir_at (s : ByteArray) (i : Nat) (h : i < s.data.toList.length) : Ev (fun k => qjA.f k (s.extract i (i + 1))) (dirI [s.data.toList[i]]) := by
 have := qkC (s.extract i (i + 1))
 rwa [ext1 s i h] at this
theorem qeD (c : UInt8) : (dirI [c] < 0) = (¬ (c = 110 ∨ c = 101 ∨ c = 115 ∨ c = 119)) := by
 unfold dirI
 by_cases h1 : c = 110
 ·simp [h1]
 by_cases h2 : c = 101
 ·simp [h2]
 by_cases h3 : c = 115
 ·simp [h3]
 by_cases h4 : c = 119
 ·simp [h4]
 simp [h1, h2, h3, h4]
end Go.Proofs.YtgjdjnggkmojnaaDoor
namespace Go.Proofs.YtgjdjnggkmojnaaDoor.P
open Go.RowKit Go.Proofs.YtgjdjnggkmojnaaDoorW.PrintWords Go.Proofs.YtgjdjnggkmojnaaDoorW.PrintLast Go.Proofs.YtgjdjnggkmojnaaDoorW.PrintMore
attribute [local go_sem] qLA qJA qVA qUA qy qx qKA qIA
set_option linter.unusedVariables false
set_option linter.unusedSimpArgs false
def qiB.f (a0 : ByteArray) : Option (Bool) := if (a0.size : Int) = 1 then ((qPB.f (⟨#[110, 101, 115, 119]⟩ : ByteArray) a0).bind fun t385 => (some t385)) else (some false)
end Go.Proofs.YtgjdjnggkmojnaaDoor.P
namespace Go.Proofs.YtgjdjnggkmojnaaDoor
open Go.RowKit Go.Proofs.YtgjdjnggkmojnaaDoor.P Go.Proofs.YtgjdjnggkmojnaaDoorW.PrintWords Go.Proofs.YtgjdjnggkmojnaaDoorW.PrintLast
set_option linter.unusedVariables false
set_option linter.unusedSimpArgs false
def isDirU (c : UInt8) : Bool := c == 110 || c == 101 || c == 115 || c == 119
def dirU (c : UInt8) : Nat := if c = 110 then 0 else if c = 101 then 1 else if c = 115 then 2 else 3
theorem qwC (c : UInt8) : isDirU c = true ↔ c = 110 ∨ c = 101 ∨ c = 115 ∨ c = 119 := by
 unfold isDirU
 simp only [Bool.or_eq_true, beq_iff_eq, or_assoc]
theorem qxD {c : UInt8} (h : isDirU c = true) : dirI [c] = (dirU c : Int) := by
 rcases (qwC c).1 h with rfl | rfl | rfl | rfl <;> decide
theorem dirI_not {c : UInt8} (h : isDirU c = false) : dirI [c] < 0 := by
 rw [qeD, ← qwC, h]
 decide
theorem oneU (l : List UInt8) (h : l.length = 1) : ∃ c, l = [c] := by
 match l, h with
 | [c], _ => exact ⟨c, rfl⟩
theorem indexByte_dirs (c : UInt8) : decide (0 ≤ Lib.indexByte [110, 101, 115, 119] c) = isDirU c := by
 unfold isDirU
 by_cases h1 : c = 110
 ·subst h1; decide
 by_cases h2 : c = 101
 ·subst h2; decide
 by_cases h3 : c = 115
 ·subst h3; decide
 by_cases h4 : c = 119
 ·subst h4; decide
 have b1 : (c == 110) = false := by simpa using h1
 have b2 : (c == 101) = false := by simpa using h2
 have b3 : (c == 115) = false := by simpa using h3
 have b4 : (c == 119) = false := by simpa using h4
 rw [b1, b2, b3, b4]
 have a1 : ((110 : UInt8) == c) = false := by simpa using Ne.symm h1
 have a2 : ((101 : UInt8) == c) = false := by simpa using Ne.symm h2
 have a3 : ((115 : UInt8) == c) = false := by simpa using Ne.symm h3
 have a4 : ((119 : UInt8) == c) = false := by simpa using Ne.symm h4
 simp [Lib.indexByte, a1, a2, a3, a4, h1, h2, h3, h4, Ne.symm h1, Ne.symm h2, Ne.symm h3, Ne.symm h4]
def dirB (a : ByteArray) : Bool := match a.data.toList with | [c] => isDirU c | _ => false
theorem qbD (a : ByteArray) : qiB.f a = some (dirB a) := by
 unfold qiB.f dirB
 by_cases h : a.size = 1
 ·rw [if_pos (by omega)]
  obtain ⟨c, hc⟩ := oneU a.data.toList (by rw [dlen]; exact h)
  unfold qPB.f
  rw [hc]
  simp only [Option.bind_some]
  rw [indexByte_dirs]
 ·rw [if_neg (by omega)]
  have hl : a.data.toList.length ≠ 1 := by rw [dlen]; exact h
  match a.data.toList, hl with
  | [], _ => rfl
  | [c], hl => exact absurd rfl hl
  | _ :: _ :: _, _ => rfl
theorem dirI_B (a : ByteArray) : decide (dirI a.data.toList < 0) = !dirB a := by
 unfold dirB
 match h : a.data.toList with
 | [] => rfl
 | [c] =>
  cases hc : isDirU c with
  | true =>
   rw [qxD hc, decide_eq_false (by omega)]
   show false = !isDirU c
   rw [hc]; rfl
  | false =>
   rw [decide_eq_true (dirI_not hc)]
   show true = !isDirU c
   rw [hc]; rfl
 | c :: d :: l => simp [dirI]
theorem dirB_one {a : ByteArray} (h : dirB a = true) : ∃ c, a.data.toList = [c] ∧ isDirU c = true := by
 unfold dirB at h
 split at h
 ·rename_i c hc
  exact ⟨c, hc, h⟩
 ·cases h
def dOf (c : Int) : Int := if c = 110 then 0 else if c = 101 then 1 else if c = 115 then 2 else 3
def nextC (x y d : Int) : Int × Int := if d = 0 then (x, wrap64 (y - 1)) else if d = 1 then (wrap64 (x + 1), y) else if d = 2 then (x, wrap64 (y + 1)) else (wrap64 (x - 1), y)
abbrev XD := S55
def rollD (x : XD) (d : Int) : XD := if d = 0 then ⟨x.f3, x.f0, x.f2, x.f5, x.f4, x.f1⟩ else if d = 1 then ⟨x.f4, x.f1, x.f0, x.f3, x.f5, x.f2⟩ else if d = 2 then ⟨x.f1, x.f5, x.f2, x.f0, x.f4, x.f3⟩ else ⟨x.f2, x.f1, x.f5, x.f3, x.f0, x.f4⟩
def tupD (x : XD) : Int × Int × Int × Int × Int × Int := (x.f0, x.f1, x.f2, x.f3, x.f4, x.f5)
def rollS (s : XS) (d : Int) : XS := ⟨(nextC s.f0 s.f1 d).1, (nextC s.f0 s.f1 d).2, rollD s.f2 d⟩
theorem implNext_eq (x y c : Int) : qVC.f x y c = some (nextC x y (dOf c)) := by
 unfold qVC.f nextC dOf
 by_cases h1 : c = 110
 ·simp [h1]
 by_cases h2 : c = 101
 ·simp [h1, h2]
 by_cases h3 : c = 115
 ·simp [h1, h2, h3]
 simp [h1, h2, h3]
theorem specNext_eq (x y d : Int) : qkB.f x y d = some (nextC x y d) := by
 unfold qkB.f nextC
 by_cases h1 : d = 0
 ·simp [h1]
 by_cases h2 : d = 1
 ·simp [h1, h2]
 by_cases h3 : d = 2
 ·simp [h1, h2, h3]
 simp [h1, h2, h3]
theorem implDie_eq (x : XD) (c : Int) : qXB.f x.f0 x.f1 x.f2 x.f3 x.f4 x.f5 c = some (tupD (rollD x (dOf c))) := by
 unfold qXB.f rollD dOf
 by_cases h1 : c = 110
 ·simp [tupD, h1]
 by_cases h2 : c = 101
 ·simp [tupD, h1, h2]
 by_cases h3 : c = 115
 ·simp [tupD, h1, h2, h3]
 simp [tupD, h1, h2, h3]
theorem specDie_eq (x : XD) (d : Int) : qZB.f x.f0 x.f1 x.f2 x.f3 x.f4 x.f5 d = some (tupD (rollD x d)) := by
 unfold qZB.f rollD
 by_cases h1 : d = 0
 ·simp [tupD, h1]
 by_cases h2 : d = 1
 ·simp [tupD, h1, h2]
 by_cases h3 : d = 2
 ·simp [tupD, h1, h2, h3]
 simp [tupD, h1, h2, h3]
theorem implRoll_eq {a : ByteArray} (g : Gnd a) (s : XS) (c : Int) : qEB.f (rowsT a) s.f0 s.f1 s.f2.f0 s.f2.f1 s.f2.f2 s.f2.f3 s.f2.f4 s.f2.f5 c = some ((rollS s (dOf c)).f0, (rollS s (dOf c)).f1, (rollS s (dOf c)).f2.f0, (rollS s (dOf c)).f2.f1, (rollS s (dOf c)).f2.f2, (rollS s (dOf c)).f2.f3, (rollS s (dOf c)).f2.f4, (rollS s (dOf c)).f2.f5, floorB a (rollS s (dOf c)).f0 (rollS s (dOf c)).f1) := by
 unfold qEB.f
 obtain ⟨q, h1, h2⟩ := at_floor g (rollS s (dOf c)).f0 (rollS s (dOf c)).f1
 rw [implNext_eq, Option.bind_some, implDie_eq, Option.bind_some]
 rw [show qrA.f (rowsT a) (nextC s.f0 s.f1 (dOf c)).1 (nextC s.f0 s.f1 (dOf c)).2 = some q from h1, Option.bind_some, ← h2]
 rfl
theorem specRoll_eq {a : ByteArray} (g : Gnd a) (s : XS) (d : Int) : qQB.f (wideT a : Int) (highT a : Int) (csOf a) s.f0 s.f1 s.f2.f0 s.f2.f1 s.f2.f2 s.f2.f3 s.f2.f4 s.f2.f5 d = some (if floorB a (rollS s d).f0 (rollS s d).f1 = true then ((rollS s d).f0, (rollS s d).f1, (rollS s d).f2.f0, (rollS s d).f2.f1, (rollS s d).f2.f2, (rollS s d).f2.f3, (rollS s d).f2.f4, (rollS s d).f2.f5, true) else (0, 0, 0, 0, 0, 0, 0, 0, false)) := by
 unfold qQB.f
 rw [specNext_eq, Option.bind_some, show qDB.f (wideT a : Int) (highT a : Int) (csOf a) (nextC s.f0 s.f1 d).1 (nextC s.f0 s.f1 d).2 = some (floorB a (rollS s d).f0 (rollS s d).f1) from boFloor_eq g _ _, Option.bind_some]
 cases h : floorB a (rollS s d).f0 (rollS s d).f1 with
 | true =>
  rw [if_pos rfl, specDie_eq, Option.bind_some, if_pos rfl]; rfl
 | false => rw [if_neg (by decide), if_neg (by decide)]
def moveB (a : ByteArray) (l : List XS) (k : Nat) (d : Int) : List XS × Bool :=
 if h : k < l.length then (if floorB a (rollS l[k] d).f0 (rollS l[k] d).f1 = true ∧ l.any (atCell (rollS l[k] d).f0 (rollS l[k] d).f1) = false then (l.set k (rollS l[k] d), true) else ([], false)) else ([], false)
theorem qJD {a : ByteArray} {l : List XS} {k : Nat} {d : Int} (h : (moveB a l k d).2 = true) : (moveB a l k d).1.length = l.length := by
 unfold moveB at h ⊢
 split
 ·rename_i hk
  rw [dif_pos hk] at h
  split
  ·simp
  ·rename_i hc
   rw [if_neg hc] at h; cases h
 ·rename_i hk
  rw [dif_neg hk] at h; cases h
theorem moveB_pair {a : ByteArray} {l : List XS} {k : Nat} {d : Int} (h : (moveB a l k d).2 = false) : moveB a l k d = ([], false) := by
 unfold moveB at h ⊢
 split
 ·rename_i hk
  rw [dif_pos hk] at h
  split
  ·rename_i hc
   rw [if_pos hc] at h; cases h
  ·rfl
 ·rfl
theorem qAD {a : ByteArray} (g : Gnd a) (l : List XS) (hl : l.length ≤ 2000000) (k : Nat) (c : Int) : qbA.f (rowsT a) l (k : Int) c = some (moveB a l k (dOf c)) := by
 unfold qbA.f moveB
 have w : wrap64 ((l.length : Int) - 1) = (l.length : Int) - 1 := by unfold wrap64; omega
 rw [qoC, w, Option.bind_some]
 by_cases hk : k < l.length
 ·rw [dif_pos hk, if_pos (by simp only [Bool.and_eq_true, decide_eq_true_eq]; omega), if_pos (by omega), if_pos (by omega), rdXS l k hk, implRoll_eq g, Option.bind_some]
  show (if floorB a (rollS l[k] (dOf c)).f0 (rollS l[k] (dOf c)).f1 = true then _ else _) = _
  cases hf : floorB a (rollS l[k] (dOf c)).f0 (rollS l[k] (dOf c)).f1 with
  | false => rw [if_neg (by decide), if_neg (by simp)]
  | true =>
   rw [if_pos rfl]
   show (if l.any (atCell (rollS l[k] (dOf c)).f0 (rollS l[k] (dOf c)).f1) = true then _ else _) = _
   cases ha : l.any (atCell (rollS l[k] (dOf c)).f0 (rollS l[k] (dOf c)).f1) with
   | true => rw [if_pos rfl, if_neg (by simp)]
   | false =>
    rw [if_neg (by decide), if_pos ⟨rfl, rfl⟩]
    unfold qyA.f
    rw [if_pos (by omega), Option.bind_some, if_pos (by omega), Int.toNat_natCast]
 ·rw [dif_neg hk, if_neg (by simp only [Bool.and_eq_true, decide_eq_true_eq]; omega)]
theorem qlC {a : ByteArray} (g : Gnd a) (l : List XS) (hl : l.length ≤ 2000000) (k : Nat) (hk : k < l.length) (d : Int) : Ev (fun n => qcA.f n (wideT a : Int) (highT a : Int) (csOf a) l (k : Int) d) (moveB a l k d) := by
 unfold qcA.f moveB
 rw [dif_pos hk]
 obtain ⟨r, h1, h2⟩ := myAt_ev l (by omega) (rollS l[k] d).f0 (rollS l[k] d).f1
 refine Ev.pos (by omega) (Ev.pos (by omega) ?_)
 rw [rdXS l k hk]
 refine Ev.bindc (specRoll_eq g l[k] d) ?_
 cases hf : floorB a (rollS l[k] d).f0 (rollS l[k] d).f1 with
 | false => exact Ev.neg (by simp) (Ev.some_ (by simp))
 | true =>
  refine Ev.pos rfl (Ev.bind h1 ?_)
  rw [← h2]
  by_cases hq : r ≥ 0
  ·rw [decide_eq_true hq]
   exact Ev.pos hq (Ev.some_ (by simp))
  ·rw [decide_eq_false hq]
   refine Ev.neg hq (Ev.bindc rfl (Ev.pos (by simp; omega) (Ev.bindc rfl (Ev.pos (by simp; omega) (Ev.some_ ?_)))))
   rw [List.nil_append, Int.toNat_natCast]
   exact (if_pos ⟨rfl, rfl⟩).symm
theorem dOf_U {c : UInt8} (h : isDirU c = true) : dOf (c.toNat : Int) = (dirU c : Int) := by
 rcases (qwC c).1 h with rfl | rfl | rfl | rfl <;> decide
end Go.Proofs.YtgjdjnggkmojnaaDoor
namespace Go.Proofs.YtgjdjnggkmojnaaDoor.P
open Go.RowKit Go.Proofs.YtgjdjnggkmojnaaDoorW.PrintWords Go.Proofs.YtgjdjnggkmojnaaDoorW.PrintLast Go.Proofs.YtgjdjnggkmojnaaDoorW.PrintMore
attribute [local go_sem] qLA qJA qVA qUA qy qx qKA qIA
set_option linter.unusedVariables false
set_option linter.unusedSimpArgs false
def qzA.f : Nat → Int → Option (ByteArray)
 | 0, _ => none
 | k + 1, a0 => if a0 < 10 then (some (strOfNums (([(wrap64 (48 + a0)) % 256] : List Int)))) else ((qzA.f k (wrap64 (Int.tdiv a0 10))).bind fun t560 => ((some (([(wrap64 (48 + (Int.tmod a0 10))) % 256] : List Int) : List Int)).bind fun y561 => (if t560.size + (strOfNums y561).size ≤ 9223372036854775807 then (some (t560 ++ (strOfNums y561))) else (none))))
def qzA.T3 : Bool × List (List Nat × List Nat) := (true, [([], []), ([0], [0]), ([1], [1]), ([], []), ([3], [3]), ([4], [4]), ([5], [5]), ([6], [6]), ([7], [7]), ([2, 8], [2, 8]), ([9, 2, 0, 1, 2, 3, 4, 5, 6, 7, 8, 9], [9])])
def qzA.B3 : List Nat := [0, 1, 3, 0, 8, 24, 56, 120, 248, 511, 1023]
theorem qzA.tab3 : rtab .any (opsOf Tryd.f78 3) = qzA.T3 := by kernel_rfl
theorem qzA.bits3 : waitsOk qzA.T3.2 qzA.B3 = true := by kernel_rfl
set_option maxHeartbeats 8000000 in
set_option maxRecDepth 100000 in
theorem qzA.calls (k : Nat) : ∀ (a0 : Int) (r : ByteArray) (w : World) (h : qzA.f k a0 = some r),
  Calls Tryd.prog 78 #[.int .i64 a0] w fun e w' => e = .returned (.string r) ∧ Below w.heap.size w w' := by
 induction k using Nat.strongRecOn with
 | _ k ih =>
 intro a0 r w h
 cases k with
 | zero => exact absurd h (by simp [qzA.f])
 | succ k =>
 simp only [qzA.f] at h
 have HB := Aside0.mk (Below.refl w.heap.size w)
 have H : (if a0 < 10 then (some (strOfNums (([(wrap64 (48 + a0)) % 256] : List Int)))) else ((qzA.f k (wrap64 (Int.tdiv a0 10))).bind fun t560 => ((some (([(wrap64 (48 + (Int.tmod a0 10))) % 256] : List Int) : List Int)).bind fun y561 => (if t560.size + (strOfNums y561).size ≤ 9223372036854775807 then (some (t560 ++ (strOfNums y561))) else (none))))) = some r := h
 clear h
 by_cases c2 : a0 < 10
 ·rw [if_pos c2] at H
  have c2b0 : decide (a0 < 10) = true := decide_eq_true c2
  clear c2
  obtain ⟨y557, hy557⟩ : ∃ y_ : List Int, y_ = (([(wrap64 (48 + a0)) % 256] : List Int)) := ⟨_, rfl⟩
  replace H : (some (strOfNums y557)) = some r := by first | (rw [hy557]; with_reducible exact H) | (have H2_ := (Option.bind_some _ _).symm.trans H; rw [hy557]; with_reducible exact H2_) | (have H2_ := (Option.bind_some _ _).symm.trans H; with_reducible exact H2_) | with_reducible exact H | (rw [hy557]; exact H) | exact H
  have Ny557 := Aside0.mk hy557
  clear hy557
  obtain rfl := Option.some.inj H
  go_enter Tryd.func78, Tryd.ntmps78
  go_wp2_with (first | ((with_reducible refine qg (N := 8) rfl ?_); refine Kd.R_lit (Kd.int .u8) _ 5 ?hg (N := 8) ?hd (xs := ([(wrap64 (48 + a0)) % 256] : List Int)) (inner := [.int .u8 ((wrap64 (48 + a0)) % 256)]) (ok := fun _ => True) (okp := fun _ => True) ?hr ?hp (fun _ hk => hk) trivial (Below.refl _ _) (Nat.le_refl _) (by simp) ?_; (case hd => rfl); (case hg => rfl); (case hr => first | (go_simp; done) | (go_simp; rfl)); (case hp => exact (Reps.one (show Kd.M (Kd.int .u8) _ _ _ ((wrap64 (48 + a0)) % 256) [.int .u8 ((wrap64 (48 + a0)) % 256)] from rfl) (Reps.none _ _))); intro v558 w3 ho4 hb hg_ hnew_; clear hg_ hnew_; (first | rw [← Ny557.out] at ho4 | (simp only [Int.reduceToNat] at ho4; rw [← Ny557.out] at ho4)); have n0_ := Aside0.mk (Kd.qDA ho4 (qb bl)); have n1_ := Aside0.mk (qG bl hb); clear HB; have HO559 := n0_; have HB := n1_; clear n0_ n1_; clear hb ho4; have hcv5 := qQC (P := Tryd.prog) Tryd.underlying48 Tryd.underlying5 Tryd.underlying9 (Kd.qZC HO559.out)))
  go_ret
  exact ⟨by first | rfl | (simp [qI, qH] <;> rfl) | (simp [*, qI, qH] <;> rfl), bl⟩
 ·rw [if_neg c2] at H
  have c2b0 : decide (a0 < 10) = false := decide_eq_false c2
  clear c2
  replace H := Option.bind_eq_some_iff.mp H
  obtain ⟨t560, A60, H⟩ := H
  replace H : ((some (([(wrap64 (48 + (Int.tmod a0 10))) % 256] : List Int) : List Int)).bind fun y561 => (if t560.size + (strOfNums y561).size ≤ 9223372036854775807 then (some (t560 ++ (strOfNums y561))) else (none))) = some r := H
  have A6 := Aside0.mk A60
  clear A60
  obtain ⟨y561, hy561⟩ : ∃ y_ : List Int, y_ = (([(wrap64 (48 + (Int.tmod a0 10))) % 256] : List Int)) := ⟨_, rfl⟩
  replace H : (if t560.size + (strOfNums y561).size ≤ 9223372036854775807 then (some (t560 ++ (strOfNums y561))) else (none)) = some r := by first | (rw [hy561]; with_reducible exact H) | (have H2_ := (Option.bind_some _ _).symm.trans H; rw [hy561]; with_reducible exact H2_) | (have H2_ := (Option.bind_some _ _).symm.trans H; with_reducible exact H2_) | with_reducible exact H | (rw [hy561]; exact H) | exact H
  have Ny561 := Aside0.mk hy561
  clear hy561
  by_cases c7 : t560.size + (strOfNums y561).size ≤ 9223372036854775807
  ·rw [if_pos c7] at H
   have c7b0 := eq_true c7
   have c7b1 : decide (t560.size + (strOfNums y561).size ≤ 9223372036854775807) = true := decide_eq_true c7
   try have c7b2 : (9223372036854775807 < t560.size + (strOfNums y561).size) = False := eq_false (Nat.not_lt.2 c7)
   obtain rfl := Option.some.inj H
   go_enter Tryd.func78, Tryd.ntmps78
   try go_wp2
   have n0_ := Aside0.mk (qp HB.out)
   clear HB
   have HB := n0_
   clear n0_
   refine qDC (n := 11) (S := fun w' => True) (ds := []) #[false, false, false, false, false, false, false, false, false, false, false] (by kernel_rfl) rfl rfl trivial (fun hHeld => ?_); refine qJB qzA.tab3 qzA.bits3 (fun HT_ HW_ => ?_)
   generalize w.drew = w8 at HB hHeld ⊢
   refine pS (i := 0) (N := some 10) #[true, false, false, false, false, false, false, false, false, false, false] HT_ ?_
   refine pS (i := 1) (N := some 11) #[true, true, false, false, false, false, false, false, false, false, false] HT_ ?_
   refine pS (i := 3) (N := some 13) #[true, true, false, true, false, false, false, false, false, false, false] HT_ ?_
   refine pS (i := 4) (N := some 14) #[true, true, false, true, true, false, false, false, false, false, false] HT_ ?_
   refine pS (i := 5) (N := some 15) #[true, true, false, true, true, true, false, false, false, false, false] HT_ ?_
   refine pS (i := 6) (N := some 16) #[true, true, false, true, true, true, true, false, false, false, false] HT_ ?_
   refine join_ (σ := Value) 2 #[true, true, true, true, true, true, true, true, true, false, false] (fun s_ => [(12, .string t560), (17, s_), (18, .string (strOfNums y561))]) (fun s_ w' => (Kd.R (Kd.int .u8) 5 w' w.heap.size (fun _ => True) s_ y561) ∧ (Below w.heap.size w w')) ?_ ?_
   rotate_left
   ·intro hCont
    refine two_ (i := 2) (j := 7) (Ni := some 12) (Nj := some 17) #[true, true, true, true, true, true, true, false, false, false, false] #[true, true, false, true, true, true, true, true, false, false, false] rfl rfl rfl rfl (qiD HT_.out (by kernel_rfl)) (by decide) (by decide) (fun K hK => ?_) (fun K hK => ?_)
    ·skip
     refine goes_ Tryd.func78 (by kernel_rfl) rfl #[.int .i64 (wrap64 (Int.tdiv a0 10))] (by rfl) rfl rfl (by (try simp only [List.map_toArray, List.map_cons, List.map_nil]); first | done | rfl | (simp only [List.length_drop, List.length_take]; rfl)) ?_
     with_reducible refine (ih k (by omega) (wrap64 (Int.tdiv a0 10)) t560 _ A6.out).mono ?_
     rintro e w9 ⟨rfl, hb⟩
     refine ⟨_, rfl, ?_⟩
     have n0_ := Aside0.mk (qG bl hb)
     clear HB
     have HB := n0_
     clear n0_
     (try clear hb)
     (try clear hb2)
     (try clear hk)
     (try clear hi)
     refine hK.out _ _ trivial (fun hHeld => ?_)
     clear hK K
     refine norm_ (a' := ?_) ?_ ?_
     rotate_left
     ·show Act.put _ (some 12) _ = _
      simp only [Act.put, List.setIfInBounds_toArray, List.set_cons_zero, List.set_cons_succ, i64_w, i32_w]
      rfl
     refine one_ (i := 7) (N := some 17) #[true, true, true, true, true, true, true, true, false, false, false] rfl rfl (qNB HT_.out (by kernel_rfl)) (by decide) (fun K hK => ?_)
     refine Kd.R_lit_step (Kd.int .u8) _ 5 ?hg (N := 17) ?hd (xs := ([(wrap64 (48 + (Int.tmod a0 10))) % 256] : List Int)) (inner := [.int .u8 ((wrap64 (48 + (Int.tmod a0 10))) % 256)]) (ok := fun _ => True) (okp := fun _ => True) ?hr ?hp (fun _ hk => hk) trivial (Below.refl _ _) (Nat.le_refl _) (by simp) ?_; (case hd => rfl); (case hg => rfl); (case hr => first | (go_simp; done) | (go_simp; rfl)); (case hp => exact (Reps.one (show Kd.M (Kd.int .u8) _ _ _ ((wrap64 (48 + (Int.tmod a0 10))) % 256) [.int .u8 ((wrap64 (48 + (Int.tmod a0 10))) % 256)] from rfl) (Reps.none _ _)))
     intro v562 w10 ho11 hb hg_ hnew_
     clear hg_ hnew_
     (first | rw [← Ny561.out] at ho11 | (simp only [Int.reduceToNat] at ho11; rw [← Ny561.out] at ho11))
     have n0_ := Aside0.mk (Kd.qDA ho11 (qb bl))
     have n1_ := Aside0.mk (qG bl hb)
     clear HB
     have HO563 := n0_
     have HB := n1_
     clear n0_ n1_
     clear hb ho11
     refine hK.out _ _ trivial (fun hHeld => ?_)
     clear hK K
     refine norm_ (a' := ?_) ?_ ?_
     rotate_left
     ·show Act.put _ (some 17) _ = _
      simp only [Act.put, List.setIfInBounds_toArray, List.set_cons_zero, List.set_cons_succ, i64_w, i32_w]
      rfl
     refine one_ (i := 8) (N := some 18) #[true, true, true, true, true, true, true, true, true, false, false] rfl rfl (qNB HT_.out (by kernel_rfl)) (by decide) (fun K hK => ?_)
     have hcv12 := qQC (P := Tryd.prog) Tryd.underlying48 Tryd.underlying5 Tryd.underlying9 (Kd.qZC HO563.out)
     refine qsD (w1 := ?_) (v := ?_) (by rfl) rfl ?_ ?_
     rotate_left 2
     ·go_simp
      constructor
      ·rfl
      ·rfl
     clear hcv12
     refine hK.out _ _ trivial (fun hHeld => ?_)
     clear hK K
     refine norm_ (a' := ?_) ?_ ?_
     rotate_left
     ·show Act.put _ (some 18) _ = _
      simp only [Act.put, List.setIfInBounds_toArray, List.set_cons_zero, List.set_cons_succ, i64_w, i32_w]
      rfl
     exact norm_ (by simp only [putAll, Act.put, List.setIfInBounds_toArray, List.set_cons_zero, List.set_cons_succ]) (hCont (v562) _ ⟨(by (with_reducible repeat (first | apply Kd.qK | apply Kd.qJ | apply Kd.qO)); exact HO563.out), bl⟩)
    ·skip
     refine Kd.R_lit_step (Kd.int .u8) _ 5 ?hg (N := 17) ?hd (xs := ([(wrap64 (48 + (Int.tmod a0 10))) % 256] : List Int)) (inner := [.int .u8 ((wrap64 (48 + (Int.tmod a0 10))) % 256)]) (ok := fun _ => True) (okp := fun _ => True) ?hr ?hp (fun _ hk => hk) trivial (Below.refl _ _) (Nat.le_refl _) (by simp) ?_; (case hd => rfl); (case hg => rfl); (case hr => first | (go_simp; done) | (go_simp; rfl)); (case hp => exact (Reps.one (show Kd.M (Kd.int .u8) _ _ _ ((wrap64 (48 + (Int.tmod a0 10))) % 256) [.int .u8 ((wrap64 (48 + (Int.tmod a0 10))) % 256)] from rfl) (Reps.none _ _)))
     intro v562 w9 ho10 hb hg_ hnew_
     clear hg_ hnew_
     (first | rw [← Ny561.out] at ho10 | (simp only [Int.reduceToNat] at ho10; rw [← Ny561.out] at ho10))
     have n0_ := Aside0.mk (Kd.qDA ho10 (qb bl))
     have n1_ := Aside0.mk (qG bl hb)
     clear HB
     have HO563 := n0_
     have HB := n1_
     clear n0_ n1_
     clear hb ho10
     refine hK.out _ _ trivial (fun hHeld => ?_)
     clear hK K
     refine norm_ (a' := ?_) ?_ ?_
     rotate_left
     ·show Act.put _ (some 17) _ = _
      simp only [Act.put, List.setIfInBounds_toArray, List.set_cons_zero, List.set_cons_succ, i64_w, i32_w]
      rfl
     refine two_ (i := 2) (j := 8) (Ni := some 12) (Nj := some 18) #[true, true, true, true, true, true, true, true, false, false, false] #[true, true, false, true, true, true, true, true, true, false, false] rfl rfl rfl rfl (qiD HT_.out (by kernel_rfl)) (by decide) (by decide) (fun K hK => ?_) (fun K hK => ?_)
     ·skip
      refine goes_ Tryd.func78 (by kernel_rfl) rfl #[.int .i64 (wrap64 (Int.tdiv a0 10))] (by rfl) rfl rfl (by (try simp only [List.map_toArray, List.map_cons, List.map_nil]); first | done | rfl | (simp only [List.length_drop, List.length_take]; rfl)) ?_
      with_reducible refine (ih k (by omega) (wrap64 (Int.tdiv a0 10)) t560 _ A6.out).mono ?_
      rintro e w11 ⟨rfl, hb⟩
      refine ⟨_, rfl, ?_⟩
      have n0_ := Aside0.mk (Kd.qc (by (with_reducible repeat (first | apply Kd.qK | apply Kd.qJ | apply Kd.qO)); exact HO563.out) hb)
      have n1_ := Aside0.mk (qG bl hb)
      clear HO563
      clear HB
      have HO563 := n0_
      have HB := n1_
      clear n0_ n1_
      (try clear hb)
      (try clear hb2)
      (try clear hk)
      (try clear hi)
      refine hK.out _ _ trivial (fun hHeld => ?_)
      clear hK K
      refine norm_ (a' := ?_) ?_ ?_
      rotate_left
      ·show Act.put _ (some 12) _ = _
       simp only [Act.put, List.setIfInBounds_toArray, List.set_cons_zero, List.set_cons_succ, i64_w, i32_w]
       rfl
      refine one_ (i := 8) (N := some 18) #[true, true, true, true, true, true, true, true, true, false, false] rfl rfl (qNB HT_.out (by kernel_rfl)) (by decide) (fun K hK => ?_)
      have hcv12 := qQC (P := Tryd.prog) Tryd.underlying48 Tryd.underlying5 Tryd.underlying9 (Kd.qZC HO563.out)
      refine qsD (w1 := ?_) (v := ?_) (by rfl) rfl ?_ ?_
      rotate_left 2
      ·go_simp
       constructor
       ·rfl
       ·rfl
      clear hcv12
      refine hK.out _ _ trivial (fun hHeld => ?_)
      clear hK K
      refine norm_ (a' := ?_) ?_ ?_
      rotate_left
      ·show Act.put _ (some 18) _ = _
       simp only [Act.put, List.setIfInBounds_toArray, List.set_cons_zero, List.set_cons_succ, i64_w, i32_w]
       rfl
      exact norm_ (by simp only [putAll, Act.put, List.setIfInBounds_toArray, List.set_cons_zero, List.set_cons_succ]) (hCont (v562) _ ⟨(by (with_reducible repeat (first | apply Kd.qK | apply Kd.qJ | apply Kd.qO)); exact HO563.out), bl⟩)
     ·skip
      have hcv11 := qQC (P := Tryd.prog) Tryd.underlying48 Tryd.underlying5 Tryd.underlying9 (Kd.qZC HO563.out)
      refine qsD (w1 := ?_) (v := ?_) (by rfl) rfl ?_ ?_
      rotate_left 2
      ·go_simp
       constructor
       ·rfl
       ·rfl
      clear hcv11
      refine hK.out _ _ trivial (fun hHeld => ?_)
      clear hK K
      refine norm_ (a' := ?_) ?_ ?_
      rotate_left
      ·show Act.put _ (some 18) _ = _
       simp only [Act.put, List.setIfInBounds_toArray, List.set_cons_zero, List.set_cons_succ, i64_w, i32_w]
       rfl
      refine one_ (i := 2) (N := some 12) #[true, true, true, true, true, true, true, true, true, false, false] rfl rfl (qNB HT_.out (by kernel_rfl)) (by decide) (fun K hK => ?_)
      refine goes_ Tryd.func78 (by kernel_rfl) rfl #[.int .i64 (wrap64 (Int.tdiv a0 10))] (by rfl) rfl rfl (by (try simp only [List.map_toArray, List.map_cons, List.map_nil]); first | done | rfl | (simp only [List.length_drop, List.length_take]; rfl)) ?_
      with_reducible refine (ih k (by omega) (wrap64 (Int.tdiv a0 10)) t560 _ A6.out).mono ?_
      rintro e w12 ⟨rfl, hb⟩
      refine ⟨_, rfl, ?_⟩
      have n0_ := Aside0.mk (Kd.qc (by (with_reducible repeat (first | apply Kd.qK | apply Kd.qJ | apply Kd.qO)); exact HO563.out) hb)
      have n1_ := Aside0.mk (qG bl hb)
      clear HO563
      clear HB
      have HO563 := n0_
      have HB := n1_
      clear n0_ n1_
      (try clear hb)
      (try clear hb2)
      (try clear hk)
      (try clear hi)
      refine hK.out _ _ trivial (fun hHeld => ?_)
      clear hK K
      refine norm_ (a' := ?_) ?_ ?_
      rotate_left
      ·show Act.put _ (some 12) _ = _
       simp only [Act.put, List.setIfInBounds_toArray, List.set_cons_zero, List.set_cons_succ, i64_w, i32_w]
       rfl
      exact norm_ (by simp only [putAll, Act.put, List.setIfInBounds_toArray, List.set_cons_zero, List.set_cons_succ]) (hCont (v562) _ ⟨(by (with_reducible repeat (first | apply Kd.qK | apply Kd.qJ | apply Kd.qO)); exact HO563.out), bl⟩)
   rintro v562 w13 ⟨h0_, h1_⟩
   have n0_ : Aside0 (Kd.R (Kd.int .u8) 5 w13 w.heap.size (fun _ => True) v562 y561) := ⟨h0_⟩
   have n1_ : Aside0 (Below w.heap.size w w13) := ⟨h1_⟩
   clear HB
   clear h0_ h1_
   have HO563 := n0_
   have HB := n1_
   clear n0_ n1_
   have hHeld := trivial
   refine norm_ (a' := ?_) ?_ ?_
   rotate_left
   ·simp only [putAll, Act.put, List.setIfInBounds_toArray, List.set_cons_zero, List.set_cons_succ]
    rfl
   refine pS (i := 9) (N := some 19) #[true, true, true, true, true, true, true, true, true, true, false] HT_ ?_
   refine pS (i := 10) (N := some 2) #[true, true, true, true, true, true, true, true, true, true, true] HT_ ?_
   refine done_ (qpB HT_.out (by kernel_rfl)) ?_
   try go_wp2
   go_ret
   exact ⟨by first | rfl | (simp [qI, qH] <;> rfl) | (simp [*, qI, qH] <;> rfl), bl⟩
  ·rw [if_neg c7] at H
   exact absurd H (by simp)
def qjB.f (k : Nat) (a0 : Int) (a1 : Int) : Option (ByteArray) := (qzA.f k a0).bind fun t564 => ((qaB.f).bind fun t565 => (if 0 ≤ a1 then (if a1 ≤ (wrap64 (a1 + 1)) then (if (wrap64 (a1 + 1)) ≤ (t565.size : Int) then (if t564.size + (t565.extract (a1 : Int).toNat ((wrap64 (a1 + 1)) : Int).toNat).size ≤ 9223372036854775807 then (some (t564 ++ (t565.extract (a1 : Int).toNat ((wrap64 (a1 + 1)) : Int).toNat))) else (none)) else (none)) else (none)) else (none)))
set_option maxHeartbeats 8000000 in
set_option maxRecDepth 100000 in
theorem qjB.calls (k : Nat) (a0 : Int) (a1 : Int) (r : ByteArray) (w : World) (h : qjB.f k a0 a1 = some r) :
  Calls Tryd.prog 55 #[.int .i64 a0, .int .i64 a1] w fun e w' => e = .returned (.string r) ∧ Below w.heap.size w w' := by
 have HB := Aside0.mk (Below.refl w.heap.size w)
 have H : ((qzA.f k a0).bind fun t564 => ((qaB.f).bind fun t565 => (if 0 ≤ a1 then (if a1 ≤ (wrap64 (a1 + 1)) then (if (wrap64 (a1 + 1)) ≤ (t565.size : Int) then (if t564.size + (t565.extract (a1 : Int).toNat ((wrap64 (a1 + 1)) : Int).toNat).size ≤ 9223372036854775807 then (some (t564 ++ (t565.extract (a1 : Int).toNat ((wrap64 (a1 + 1)) : Int).toNat))) else (none)) else (none)) else (none)) else (none)))) = some r := h
 clear h
 replace H := Option.bind_eq_some_iff.mp H
 obtain ⟨t564, A30, H⟩ := H
 replace H : ((qaB.f).bind fun t565 => (if 0 ≤ a1 then (if a1 ≤ (wrap64 (a1 + 1)) then (if (wrap64 (a1 + 1)) ≤ (t565.size : Int) then (if t564.size + (t565.extract (a1 : Int).toNat ((wrap64 (a1 + 1)) : Int).toNat).size ≤ 9223372036854775807 then (some (t564 ++ (t565.extract (a1 : Int).toNat ((wrap64 (a1 + 1)) : Int).toNat))) else (none)) else (none)) else (none)) else (none))) = some r := H
 have A3 := Aside0.mk A30
 clear A30
 replace H := Option.bind_eq_some_iff.mp H
 obtain ⟨t565, A40, H⟩ := H
 replace H : (if 0 ≤ a1 then (if a1 ≤ (wrap64 (a1 + 1)) then (if (wrap64 (a1 + 1)) ≤ (t565.size : Int) then (if t564.size + (t565.extract (a1 : Int).toNat ((wrap64 (a1 + 1)) : Int).toNat).size ≤ 9223372036854775807 then (some (t564 ++ (t565.extract (a1 : Int).toNat ((wrap64 (a1 + 1)) : Int).toNat))) else (none)) else (none)) else (none)) else (none)) = some r := H
 have A4 := Aside0.mk A40
 clear A40
 by_cases c5 : 0 ≤ a1
 ·rw [if_pos c5] at H
  have c5b0 := eq_true c5
  have c5b1 : decide (0 ≤ a1) = true := decide_eq_true c5
  clear c5
  by_cases c6 : a1 ≤ (wrap64 (a1 + 1))
  ·rw [if_pos c6] at H
   have c6b0 := eq_true c6
   have c6b1 : decide (a1 ≤ (wrap64 (a1 + 1))) = true := decide_eq_true c6
   by_cases c7 : (wrap64 (a1 + 1)) ≤ (t565.size : Int)
   ·rw [if_pos c7] at H
    have c7b0 := eq_true c7
    have c7b1 : decide ((wrap64 (a1 + 1)) ≤ (t565.size : Int)) = true := decide_eq_true c7
    by_cases c8 : t564.size + (t565.extract (a1 : Int).toNat ((wrap64 (a1 + 1)) : Int).toNat).size ≤ 9223372036854775807
    ·rw [if_pos c8] at H
     have c8b0 := eq_true c8
     have c8b1 : decide (t564.size + (t565.extract (a1 : Int).toNat ((wrap64 (a1 + 1)) : Int).toNat).size ≤ 9223372036854775807) = true := decide_eq_true c8
     try have c8b2 : (9223372036854775807 < t564.size + (t565.extract (a1 : Int).toNat ((wrap64 (a1 + 1)) : Int).toNat).size) = False := eq_false (Nat.not_lt.2 c8)
     obtain rfl := Option.some.inj H
     go_enter Tryd.func55, Tryd.ntmps55
     go_wp2_with (first | ((with_reducible refine qL (f := 78) rfl ?_); refine qh (some 6) rfl rfl Tryd.func78 (by kernel_rfl) rfl #[.int .i64 a0] rfl (by (try simp only [List.map_toArray, List.map_cons, List.map_nil]); first | done | rfl | (simp only [List.length_drop, List.length_take]; rfl)) ?_; (with_reducible refine (qzA.calls k a0 t564 _ A3.out).mono ?_); rintro e w9 ⟨rfl, hb⟩; refine ⟨_, rfl, ?_⟩; have n0_ := Aside0.mk (qG bl hb); clear HB; have HB := n0_; clear n0_; (try clear hb); (try clear hb2); (try clear hk); (try clear hi)) | ((with_reducible refine qL (f := 72) rfl ?_); refine qh (some 7) rfl rfl Tryd.func72 (by kernel_rfl) rfl #[] rfl (by (try simp only [List.map_toArray, List.map_cons, List.map_nil]); first | done | rfl | (simp only [List.length_drop, List.length_take]; rfl)) ?_; (with_reducible refine (qaB.calls  t565 _ A4.out).mono ?_); rintro e w' ⟨rfl, ⟨nd, rfl⟩⟩; refine ⟨_, rfl, ?_⟩))
     go_ret
     exact ⟨by first | rfl | (simp [qI, qH] <;> rfl) | (simp [*, qI, qH] <;> rfl), bl⟩
    ·rw [if_neg c8] at H
     exact absurd H (by simp)
   ·rw [if_neg c7] at H
    exact absurd H (by simp)
  ·rw [if_neg c6] at H
   exact absurd H (by simp)
 ·rw [if_neg c5] at H
  exact absurd H (by simp)
end Go.Proofs.YtgjdjnggkmojnaaDoor.P
namespace Go.Proofs.YtgjdjnggkmojnaaDoor
open Go.RowKit Go.Proofs.YtgjdjnggkmojnaaDoor.P Go.Proofs.YtgjdjnggkmojnaaDoorW.PrintWords Go.Proofs.YtgjdjnggkmojnaaDoorW.PrintLast
set_option linter.unusedVariables false
set_option linter.unusedSimpArgs false
def dirsT : ByteArray := ⟨#[110, 101, 115, 119]⟩
def signN (k i : Nat) : ByteArray := strOfNums [48 + (k : Int), bt dirsT (i : Int)]
theorem dOf_bt (i : Nat) (h : i < 4) : dOf (bt dirsT (i : Int)) = (i : Int) := by
 have : i = 0 ∨ i = 1 ∨ i = 2 ∨ i = 3 := by omega
 rcases this with rfl | rfl | rfl | rfl <;> decide +kernel
theorem sign_spec (k i : Nat) (hk : k < 3) (hi : i < 4) : Ev (fun n => qjB.f n (k : Int) (i : Int)) (signN k i) := by
 have h1 : i = 0 ∨ i = 1 ∨ i = 2 ∨ i = 3 := by omega
 have h2 : k = 0 ∨ k = 1 ∨ k = 2 := by omega
 refine Ev.at_ 1 fun n => ?_
 unfold qjB.f
 rw [qzA.f, if_pos (by omega)]
 rcases h2 with rfl | rfl | rfl <;> rcases h1 with rfl | rfl | rfl | rfl <;> decide +kernel
theorem sign_size (k i : Nat) : (signN k i).size = 2 := rfl
theorem sign_num (k i : Nat) (hk : k < 3) (hi : i < 4) : (bt (signN k i) 0 - 48) % 256 = (k : Int) := by
 have h1 : i = 0 ∨ i = 1 ∨ i = 2 ∨ i = 3 := by omega
 have h2 : k = 0 ∨ k = 1 ∨ k = 2 := by omega
 rcases h2 with rfl | rfl | rfl <;> rcases h1 with rfl | rfl | rfl | rfl <;> decide +kernel
def mv1 (a : ByteArray) (l : List XS) (k i : Nat) : List ByteArray := if (moveB a l k (i : Int)).2 = true then [signN k i] else []
def mvK (a : ByteArray) (l : List XS) (k : Nat) : List ByteArray := mv1 a l k 0 ++ (mv1 a l k 1 ++ (mv1 a l k 2 ++ mv1 a l k 3))
def mvs (a : ByteArray) (l : List XS) : Nat → Nat → List ByteArray
 | _, 0 => []
 | k, d + 1 => mvK a l k ++ mvs a l (k + 1) d
theorem qMC (a : ByteArray) (l : List XS) (k i : Nat) : (mv1 a l k i).length ≤ 1 := by
 unfold mv1; split <;> simp
theorem qmD (a : ByteArray) (l : List XS) (k : Nat) : (mvK a l k).length ≤ 4 := by
 have h0 := qMC a l k 0
 have h1 := qMC a l k 1
 have h2 := qMC a l k 2
 have h3 := qMC a l k 3
 unfold mvK
 simp only [List.length_append]; omega
theorem mvs_len (a : ByteArray) (l : List XS) (d : Nat) : ∀ k, (mvs a l k d).length ≤ 4 * d := by
 induction d with
 | zero => intro k; simp [mvs]
 | succ d ih =>
  intro k
  have := ih (k + 1)
  have h := qmD a l k
  unfold mvs
  simp only [List.length_append]; omega
theorem qvC {a : ByteArray} (g : Gnd a) (l : List XS) (hl : l.length ≤ 3) (k : Nat) (hk : k < l.length) (i : Nat) (hi : i < 4) (out : List ByteArray) (ho : out.length ≤ 1000) (r : List ByteArray)
  (h : Ev (fun n => qu.l1 n (rowsT a) l (out ++ mv1 a l k i) (k : Int) (l.length : Int) (k : Int) ((i + 1 : Nat) : Int)) r) :
  Ev (fun n => qu.l1 n (rowsT a) l out (k : Int) (l.length : Int) (k : Int) (i : Int)) r := by
 have w : wrap64 ((i : Int) + 1) = ((i + 1 : Nat) : Int) := by unfold wrap64; omega
 have w2 : wrap64 (48 + (k : Int)) % 256 = 48 + (k : Int) := by unfold wrap64; omega
 refine Ev.step (f := fun n => _) (fun n => by rw [qu.l1]) (Ev.pos (by omega) (Ev.pos (by omega) (Ev.bindc (qAD g l (by omega) k _) ?_)))
 rw [w, w2, show dOf (bt (⟨#[110, 101, 115, 119]⟩ : ByteArray) (i : Int)) = (i : Int) from dOf_bt i hi]
 unfold mv1 at h
 cases hm : (moveB a l k (i : Int)).2 with
 | true =>
  rw [hm, if_pos rfl] at h
  exact Ev.pos rfl (Ev.pos (by omega) h)
 | false =>
  rw [hm, if_neg (by decide), List.append_nil] at h
  exact Ev.neg (by decide) h
theorem moves_loop {a : ByteArray} (g : Gnd a) (l : List XS) (hl : l.length ≤ 3) (d : Nat) : ∀ (k : Nat) (out : List ByteArray), k ≤ l.length → l.length - k = d → out.length ≤ 100 * k →
  Ev (fun n => qu.l0 n (rowsT a) l out (l.length : Int) (k : Int)) (out ++ mvs a l k d) := by
 induction d with
 | zero =>
  intro k out hk hd ho
  refine Ev.step (f := fun n => _) (fun n => by rw [qu.l0]) (Ev.neg (by omega) (Ev.some_ ?_))
  simp [mvs]
 | succ d ih =>
  intro k out hk hd ho
  have h : k < l.length := by omega
  have w : wrap64 ((k : Int) + 1) = ((k + 1 : Nat) : Int) := by unfold wrap64; omega
  have h0 := qMC a l k 0
  have h1 := qMC a l k 1
  have h2 := qMC a l k 2
  have h3 := qMC a l k 3
  have hn := ih (k + 1) (out ++ mvK a l k) (by omega) (by omega) (by have := qmD a l k; simp only [List.length_append]; omega)
  refine Ev.step (f := fun n => _) (fun n => by rw [qu.l0]) (Ev.pos (by omega) ?_)
  refine qvC g l hl k h 0 (by omega) _ (by omega) _ (qvC g l hl k h 1 (by omega) _ (by simp only [List.length_append]; omega) _ (qvC g l hl k h 2 (by omega) _ (by simp only [List.length_append]; omega) _ (qvC g l hl k h 3 (by omega) _ (by simp only [List.length_append]; omega) _ ?_)))
  refine Ev.step (f := fun n => _) (fun n => by rw [qu.l1]) (Ev.neg (by omega) ?_)
  rw [w]
  unfold mvs
  unfold mvK at hn
  simpa only [mvK, List.append_assoc] using hn
theorem moves_ev {a : ByteArray} (g : Gnd a) (l : List XS) (hl : l.length ≤ 3) : Ev (fun n => qu.f n (rowsT a) l) (mvs a l 0 l.length) := by
 have := moves_loop g l hl l.length 0 [] (by omega) (by omega) (by simp)
 rwa [List.nil_append] at this
def markXS (j : Nat) : XS := ⟨1 + 8 * (j : Int), 2 + 8 * (j : Int), ⟨3 + 8 * (j : Int), 4 + 8 * (j : Int), 5 + 8 * (j : Int), 6 + 8 * (j : Int), 7 + 8 * (j : Int), 8 + 8 * (j : Int)⟩⟩
def marksXS (n : Nat) : List XS := (List.range n).map markXS
theorem qSB (n : Nat) : (marksXS n).length = n := by simp [marksXS]
theorem marksXS_succ (n : Nat) : marksXS (n + 1) = marksXS n ++ [markXS n] := by simp [marksXS, List.range_succ]
theorem markStateS_loop (l : List XS) (ha : l.length ≤ 2000000) (d : Nat) : ∀ i : Nat, i ≤ l.length → l.length - i = d →
  Ev (fun k => qj.l0 k (marksXS i ++ l.drop i) (1 + 8 * (i : Int)) (i : Int)) (1 + 8 * (l.length : Int), marksXS l.length) := by
 induction d with
 | zero =>
  intro i hi hd
  obtain rfl : i = l.length := by omega
  refine Ev.step (f := fun k => _) (fun k => by rw [qj.l0]) (Ev.neg ?_ (Ev.some_ ?_))
  ·simp [qSB]
  ·simp
 | succ d ih =>
  intro i hi hd
  refine Ev.step (f := fun k => _) (fun k => by rw [qj.l0]) (Ev.pos ?_ (Ev.pos (by omega) ?_))
  ·simp [qSB]; omega
  ·have hl : i < (marksXS i ++ l.drop i).length := by simp [qSB]; omega
   have w0 : wrap64 ((i : Int) + 1) = ((i + 1 : Nat) : Int) := by unfold wrap64; omega
   have w1 : wrap64 (1 + 8 * (i : Int) + 1) = 2 + 8 * (i : Int) := by unfold wrap64; omega
   have w2 : wrap64 (2 + 8 * (i : Int) + 1) = 3 + 8 * (i : Int) := by unfold wrap64; omega
   have w3 : wrap64 (3 + 8 * (i : Int) + 1) = 4 + 8 * (i : Int) := by unfold wrap64; omega
   have w4 : wrap64 (4 + 8 * (i : Int) + 1) = 5 + 8 * (i : Int) := by unfold wrap64; omega
   have w5 : wrap64 (5 + 8 * (i : Int) + 1) = 6 + 8 * (i : Int) := by unfold wrap64; omega
   have w6 : wrap64 (6 + 8 * (i : Int) + 1) = 7 + 8 * (i : Int) := by unfold wrap64; omega
   have w7 : wrap64 (7 + 8 * (i : Int) + 1) = 8 + 8 * (i : Int) := by unfold wrap64; omega
   have w8 : wrap64 (8 + 8 * (i : Int) + 1) = 1 + 8 * ((i + 1 : Nat) : Int) := by unfold wrap64; omega
   have e : (marksXS i ++ l.drop i).set i (markXS i) = marksXS (i + 1) ++ l.drop (i + 1) := by
    rw [List.set_append_right _ _ (by rw [qSB]; omega), qSB, Nat.sub_self, List.drop_eq_getElem_cons (show i < l.length by omega), List.set_cons_zero, marksXS_succ, List.append_assoc]
    rfl
   simp only [Option.bind_some, Int.toNat_natCast, w0, w1, w2, w3, w4, w5, w6, w7, w8]
   simp only [rdXS_set _ _ _ hl, List.set_set]
   have := ih (i + 1) (by omega) (by omega)
   rw [← e] at this
   exact this
theorem qtB (l : List XS) (ha : l.length ≤ 2000000) : Ev (fun k => qj.f k l 1) (1 + 8 * (l.length : Int), marksXS l.length) := by
 have := markStateS_loop l ha l.length 0 (by omega) (by omega)
 simpa [marksXS, qj.f] using this
end Go.Proofs.YtgjdjnggkmojnaaDoor
namespace Go.Proofs.YtgjdjnggkmojnaaDoor.P
open Go.RowKit Go.Proofs.YtgjdjnggkmojnaaDoorW.PrintWords Go.Proofs.YtgjdjnggkmojnaaDoorW.PrintLast Go.Proofs.YtgjdjnggkmojnaaDoorW.PrintMore
attribute [local go_sem] qLA qJA qVA qUA qy qx qKA qIA
set_option linter.unusedVariables false
set_option linter.unusedSimpArgs false
mutual
def qFA.l0 : Nat → List (S57) → List ByteArray → Int → Int → Int → Int → List Int → Option (List ByteArray × Bool)
 | 0, _, _, _, _, _, _, _ => none
 | k + 1, x1, x8, x22, x23, x573000, x573001, x573002 => if x23 < x22 then (qFA.l1 k x1 x8 x23 0 x22 x23 x573000 x573001 x573002) else (some (x8, true))
def qFA.l1 : Nat → List (S57) → List ByteArray → Int → Int → Int → Int → Int → Int → List Int → Option (List ByteArray × Bool)
 | 0, _, _, _, _, _, _, _, _, _ => none
 | k + 1, x1, x8, x9, x10, x22, x23, x573000, x573001, x573002 => if x10 < 4 then ((qcA.f k x573000 x573001 x573002 x1 x9 x10).bind fun bt573 => (if bt573.2 = true then ((qjB.f k x9 x10).bind fun t577 => (if x8.length < 8796093022208 then (qFA.l1 k x1 (x8 ++ [t577]) x9 (wrap64 (x10 + 1)) x22 x23 x573000 x573001 x573002) else (none))) else (qFA.l1 k x1 x8 x9 (wrap64 (x10 + 1)) x22 x23 x573000 x573001 x573002))) else (qFA.l0 k x1 x8 x22 (wrap64 (x23 + 1)) x573000 x573001 x573002)
end
def qFA.f (k : Nat) (a0 : ByteArray) (l1 : List (S57)) : Option (List ByteArray × Bool) := (qRA.f k a0 l1).bind fun bt566 => (if bt566.2.2.2 = true then (qFA.l0 k l1 ([] : List ByteArray) (l1.length : Int) 0 bt566.1 bt566.2.1 bt566.2.2.1) else (some (([] : List ByteArray), false)))
set_option maxHeartbeats 8000000 in
set_option maxRecDepth 100000 in
theorem qFA.calls (k : Nat) (a0 : ByteArray) (A1 : Option Addr) (c1 : Nat) (l1 : List (S57)) (r1 : List ByteArray) (r2 : Bool) (w : World) (hr1 : Kd.C k57 w A1 l1.length l1) (hc1 : l1.length ≤ c1) (h : qFA.f k a0 l1 = some (r1, r2)) :
  Calls Tryd.prog 29 #[.string a0, .slice A1 l1.length c1] w fun e w' => ∃ v0_ : Value, e = .returned (.tuple #[v0_, .bool r2]) ∧ Kd.R Kd.string 9 w' w.heap.size (fun _ => True) v0_ r1 ∧ Below w.heap.size w w' := by
 have hu50 := Tryd.underlying50
 have HR1 := Aside0.mk hr1
 have HC1 := Aside0.mk hc1
 clear hr1 hc1
 have HB := Aside0.mk (Below.refl w.heap.size w)
 have H : ((qRA.f k a0 l1).bind fun bt566 => (if bt566.2.2.2 = true then (qFA.l0 k l1 ([] : List ByteArray) (l1.length : Int) 0 bt566.1 bt566.2.1 bt566.2.2.1) else (some (([] : List ByteArray), false)))) = some (r1, r2) := h
 clear h
 replace H := Option.bind_eq_some_iff.mp H
 obtain ⟨⟨t566, t567, t568, t571⟩, A30, H⟩ := H
 replace H : (if t571 = true then (qFA.l0 k l1 ([] : List ByteArray) (l1.length : Int) 0 t566 t567 t568) else (some (([] : List ByteArray), false))) = some (r1, r2) := H
 have A3 := Aside0.mk A30
 clear A30
 by_cases c4 : t571 = true
 ·subst c4
  have H1 : (qFA.l0 k l1 ([] : List ByteArray) (l1.length : Int) 0 t566 t567 t568) = some (r1, r2) := by rw [if_pos rfl] at H; exact H
  clear H
  have H := H1
  clear H1
  have H' := Aside0.mk H
  clear H
  go_enter Tryd.func29, Tryd.ntmps29
  go_wp2_with (first | ((with_reducible refine qL (f := 44) rfl ?_); refine qh (some 16) rfl rfl Tryd.func44 (by kernel_rfl) rfl #[.string a0, .slice A1 l1.length c1] rfl (by (try simp only [List.map_toArray, List.map_cons, List.map_nil]); first | done | rfl | (simp only [List.length_drop, List.length_take]; rfl)) ?_; (with_reducible refine (qRA.calls k a0 _ _ l1 t566 t567 t568 true _ ?side1 ?side2 A3.out).mono ?_); (case side1 => repeat (first | exact HR1.out | (with_reducible refine Kd.qa ?_ _) | (with_reducible refine Kd.qZ ?_ _) | (with_reducible refine Kd.qe ?_))); (case side2 => exact HC1.out); rintro e w5 ⟨v569, rfl, ho0, hb⟩; refine ⟨_, rfl, ?_⟩; have n0_ := Aside0.mk (Kd.qDA ho0 (qb bl)); have n1_ := Aside0.mk (qG bl hb); clear HB; have HO570 := n0_; have HB := n1_; clear n0_ n1_; (try clear hb); (try clear hb2); (try clear hk); (try clear hi); (try clear ho0)) | ((with_reducible refine qg (N := 6) rfl ?_); refine qd ?hg (N := 6) ?hd (cs := #[.int .i64 0, .int .i64 0, .slice none 0 0]) (t := 50) ?hr ?_; (case hd => rfl); (case hg => rfl); (case hr => first | (go_simp; done) | (go_simp; rfl)); intro gb572 hg w6 hbox hb; have n0_ := Aside0.mk (Kd.qc (by (with_reducible repeat (first | apply Kd.qK | apply Kd.qJ | apply Kd.qO)); exact HO570.out) hb); have n1_ := Aside0.mk (qG bl hb); have n2_ := Aside0.mk (hbox); have n3_ := Aside0.mk ((gg hg)); have n4_ := Aside0.mk ((gg hg)); clear HO570; clear HB; have HO570 := n0_; have HB := n1_; have BK572 := n2_; have GW572 := n3_; have GE572 := n4_; clear n0_ n1_ n2_ n3_ n4_; clear hb hbox hg; have hcz7_0 := bc BK572 0; have hcz7_1 := bc BK572 1; have hcz7_2 := bc BK572 2; have hfz7_0 := qA BK572.out 0; have hfz7_1 := qA BK572.out 1; have hfz7_2 := qA BK572.out 2; obtain ⟨Ao8, co8, eo8⟩ := Kd.qt HO570.out; subst eo8))
  go_loopg [8, 23] k (fun kq v8 v23 w' => ∃ (x8_1 : List ByteArray) (x23_1 : Int), v23 = .int .i64 x23_1 ∧ Aside0 (qFA.l0 kq l1 x8_1 (l1.length : Int) x23_1 t566 t567 t568 = some (r1, r2)) ∧ Aside0 (kq ≤ k) ∧ Aside0 (Kd.R Kd.string 9 w' w.heap.size (fun _ => True) v8 x8_1) ∧ Aside0 (Kd.R (Kd.int .u8) 5 w' w.heap.size (fun _ => True) (.slice Ao8 t568.length co8) t568) ∧ Aside0 (w'.heap[gb572]? = some (.cells #[.int .i64 t566, .int .i64 t567, (.slice Ao8 t568.length co8)] 50 (0, 0))) ∧ Aside0 (Below w.heap.size w w'))
  case atStart => exact ⟨(([] : List ByteArray)), (0), (by first | rfl | (simp; done) | (simp [*]; done)), H', ⟨Nat.le_refl _⟩, ⟨by first | exact Kd.R_nil _ _ _ _ _ | exact Kd.N_nil _ _ _ _ _ | exact Kd.V_nil _ _ _ _ _ | exact Kd.Q_nil _ _ _ _ _ | exact Kd.S_nil _ _ _ _ _⟩, ⟨by (with_reducible repeat (first | apply Kd.qK | apply Kd.qJ | apply Kd.qO)); exact Kd.qGA (Kd.R_far (p := ⟨gb572, 2, none⟩) (Kd.R_far (p := ⟨gb572, 1, none⟩) (Kd.R_far (p := ⟨gb572, 0, none⟩) (Kd.qvA HO570.out BK572.out (by decide)) (fun _ hk => hk.2) (.int .i64 t566)) (fun _ hk => hk.2) (.int .i64 t567)) (fun _ hk => hk.2) (.slice Ao8 t568.length co8)) (fun _ hk => trivial)⟩, ⟨by (with_reducible repeat (first | refine qE ?_ _ | refine qF ?_ | refine qD ?_ _)); refine qN (cs := #[.int .i64 t566, .int .i64 t567, .slice none 0 0]) ?_ 2 _ rfl; (with_reducible repeat (first | refine qE ?_ _ | refine qF ?_ | refine qD ?_ _)); refine qN (cs := #[.int .i64 t566, .int .i64 0, .slice none 0 0]) ?_ 1 _ rfl; (with_reducible repeat (first | refine qE ?_ _ | refine qF ?_ | refine qD ?_ _)); refine qN (cs := #[.int .i64 0, .int .i64 0, .slice none 0 0]) ?_ 0 _ rfl; (with_reducible repeat (first | refine qE ?_ _ | refine qF ?_ | refine qD ?_ _)); exact BK572.out⟩, ⟨bl⟩⟩
  case round =>
   clear H'
   try clear c1
   try clear c2
   try clear p2
   try clear c4
   try clear hcz7_0
   try clear hcz7_1
   try clear hcz7_2
   try clear hfz7_0
   try clear hfz7_1
   try clear hfz7_2
   obtain ⟨x8_1, x23_1, rfl, HA, HK1, HO_8, HO_573002, BK572, HB⟩ := hrel
   cases gk with
   | zero => exact absurd HA.out (by simp [qFA.l0])
   | succ k1 =>
    have H := HA.out
    clear HA
    simp only [qFA.l0] at H
    by_cases c9 : x23_1 < (l1.length : Int)
    ·rw [if_pos c9] at H
     have c9b0 : decide (x23_1 < (l1.length : Int)) = true := decide_eq_true c9
     clear c9
     have H' := Aside0.mk H
     clear H
     go_wp2
     go_loopg [8, 10] k1 (fun kq v8 v10 w' => ∃ (x8_2 : List ByteArray) (x10_2 : Int), v10 = .int .i64 x10_2 ∧ Aside0 (qFA.l1 kq l1 x8_2 x23_1 x10_2 (l1.length : Int) x23_1 t566 t567 t568 = some (r1, r2)) ∧ Aside0 (kq ≤ k1) ∧ Aside0 (Kd.R Kd.string 9 w' w.heap.size (fun _ => True) v8 x8_2) ∧ Aside0 (Kd.R (Kd.int .u8) 5 w' w.heap.size (fun _ => True) (.slice Ao8 t568.length co8) t568) ∧ Aside0 (w'.heap[gb572]? = some (.cells #[.int .i64 t566, .int .i64 t567, (.slice Ao8 t568.length co8)] 50 (0, 0))) ∧ Aside0 (Below w.heap.size w w'))
     case atStart => exact ⟨(x8_1), (0), (by first | rfl | (simp; done) | (simp [*]; done)), H', ⟨Nat.le_refl _⟩, ⟨by (with_reducible repeat (first | apply Kd.qK | apply Kd.qJ | apply Kd.qO)); exact HO_8.out⟩, ⟨by (with_reducible repeat (first | apply Kd.qK | apply Kd.qJ | apply Kd.qO)); exact HO_573002.out⟩, ⟨by (with_reducible repeat (first | refine qE ?_ _ | refine qF ?_ | refine qD ?_ _)); exact BK572.out⟩, ⟨bl⟩⟩
     case round =>
      clear H'
      try clear c1
      try clear c2
      try clear p2
      try clear c4
      try clear c9
      try clear c9b0
      try clear hcz7_0
      try clear hcz7_1
      try clear hcz7_2
      try clear hfz7_0
      try clear hfz7_1
      try clear hfz7_2
      try clear p2
      obtain ⟨x8_2, x10_2, rfl, HA, HK2, HO_8, HO_573002, BK572, HB⟩ := hrel
      cases gk with
      | zero => exact absurd HA.out (by simp [qFA.l1])
      | succ k2 =>
       have H := HA.out
       clear HA
       simp only [qFA.l1] at H
       by_cases c10 : x10_2 < 4
       ·rw [if_pos c10] at H
        have c10b0 : decide (x10_2 < 4) = true := decide_eq_true c10
        clear c10
        replace H := Option.bind_eq_some_iff.mp H
        obtain ⟨⟨t573, t576⟩, A110, H⟩ := H
        replace H : (if t576 = true then ((qjB.f k2 x23_1 x10_2).bind fun t577 => (if x8_2.length < 8796093022208 then (qFA.l1 k2 l1 (x8_2 ++ [t577]) x23_1 (wrap64 (x10_2 + 1)) (l1.length : Int) x23_1 t566 t567 t568) else (none))) else (qFA.l1 k2 l1 x8_2 x23_1 (wrap64 (x10_2 + 1)) (l1.length : Int) x23_1 t566 t567 t568)) = some (r1, r2) := H
        have A11 := Aside0.mk A110
        clear A110
        by_cases c12 : t576 = true
        ·subst c12
         have H1 : ((qjB.f k2 x23_1 x10_2).bind fun t577 => (if x8_2.length < 8796093022208 then (qFA.l1 k2 l1 (x8_2 ++ [t577]) x23_1 (wrap64 (x10_2 + 1)) (l1.length : Int) x23_1 t566 t567 t568) else (none))) = some (r1, r2) := by rw [if_pos rfl] at H; exact H
         clear H
         have H := H1
         clear H1
         replace H := Option.bind_eq_some_iff.mp H
         obtain ⟨t577, A130, H⟩ := H
         replace H : (if x8_2.length < 8796093022208 then (qFA.l1 k2 l1 (x8_2 ++ [t577]) x23_1 (wrap64 (x10_2 + 1)) (l1.length : Int) x23_1 t566 t567 t568) else (none)) = some (r1, r2) := H
         have A13 := Aside0.mk A130
         clear A130
         by_cases c14 : x8_2.length < 8796093022208
         ·rw [if_pos c14] at H
          have LMc14 := Aside0.mk c14
          clear c14
          obtain ⟨y578, hy578⟩ : ∃ y_ : List ByteArray, y_ = (x8_2 ++ [t577]) := ⟨_, rfl⟩
          replace H : (qFA.l1 k2 l1 y578 x23_1 (wrap64 (x10_2 + 1)) (l1.length : Int) x23_1 t566 t567 t568) = some (r1, r2) := by first | (rw [hy578]; with_reducible exact H) | (have H2_ := (Option.bind_some _ _).symm.trans H; rw [hy578]; with_reducible exact H2_) | (have H2_ := (Option.bind_some _ _).symm.trans H; with_reducible exact H2_) | with_reducible exact H | (rw [hy578]; exact H) | exact H
          have Ny578 := Aside0.mk hy578
          clear hy578
          have H' := Aside0.mk H
          clear H
          have hcz15_0 := bc BK572 0
          have hcz15_1 := bc BK572 1
          have hcz15_2 := bc BK572 2
          have hfz15_0 := qA BK572.out 0
          have hfz15_1 := qA BK572.out 1
          have hfz15_2 := qA BK572.out 2
          go_wp2_with (first | ((with_reducible refine qL (f := 49) rfl ?_); refine qh (some 35) rfl rfl Tryd.func49 (by kernel_rfl) rfl #[.agg #[.int .i64 t566, .int .i64 t567, .slice Ao8 t568.length co8], .slice A1 l1.length c1, .int .i64 x23_1, .int .i64 x10_2] rfl (by (try simp only [List.map_toArray, List.map_cons, List.map_nil]); first | done | rfl | (simp only [List.length_drop, List.length_take]; rfl)) ?_; (with_reducible refine (qcA.calls k2 t566 t567 _ _ t568 _ _ l1 x23_1 x10_2 t573 true _ ?side1 ?side2 ?side3 ?side4 A11.out).mono ?_); (case side1 => repeat (first | exact (Kd.qM HO_573002.out).2.2 | (with_reducible refine Kd.qa ?_ _) | (with_reducible refine Kd.qZ ?_ _) | (with_reducible refine Kd.qe ?_))); (case side2 => exact (Kd.qM HO_573002.out).2.1); (case side3 => repeat (first | exact (Kd.qWA HR1.out HB.out) | (with_reducible refine Kd.qa ?_ _) | (with_reducible refine Kd.qZ ?_ _) | (with_reducible refine Kd.qe ?_))); (case side4 => exact HC1.out); rintro e w16 ⟨v574, rfl, ho0, hb⟩; refine ⟨_, rfl, ?_⟩; have n0_ := Aside0.mk (Kd.qc (by (with_reducible repeat (first | apply Kd.qK | apply Kd.qJ | apply Kd.qO)); exact HO_8.out) hb); have n1_ := Aside0.mk (Kd.qc (by (with_reducible repeat (first | apply Kd.qK | apply Kd.qJ | apply Kd.qO)); exact HO_573002.out) hb); have n2_ := Aside0.mk (Kd.qDA ho0 (qb bl)); have n3_ := Aside0.mk (bb BK572 hb); have n4_ := Aside0.mk (qG bl hb); clear HO_8; clear HO_573002; clear BK572; clear HB; have HO_8 := n0_; have HO_573002 := n1_; have HO575 := n2_; have BK572 := n3_; have HB := n4_; clear n0_ n1_ n2_ n3_ n4_; (try clear hb); (try clear hb2); (try clear hk); (try clear hi); (try clear ho0)) | ((with_reducible refine qL (f := 55) rfl ?_); refine qh (some 42) rfl rfl Tryd.func55 (by kernel_rfl) rfl #[.int .i64 x23_1, .int .i64 x10_2] rfl (by (try simp only [List.map_toArray, List.map_cons, List.map_nil]); first | done | rfl | (simp only [List.length_drop, List.length_take]; rfl)) ?_; (with_reducible refine (qjB.calls k2 x23_1 x10_2 t577 _ A13.out).mono ?_); rintro e w17 ⟨rfl, hb⟩; refine ⟨_, rfl, ?_⟩; have n0_ := Aside0.mk (Kd.qc (by (with_reducible repeat (first | apply Kd.qK | apply Kd.qJ | apply Kd.qO)); exact HO_8.out) hb); have n1_ := Aside0.mk (Kd.qc (by (with_reducible repeat (first | apply Kd.qK | apply Kd.qJ | apply Kd.qO)); exact HO_573002.out) hb); have n2_ := Aside0.mk (Kd.qc (by (with_reducible repeat (first | apply Kd.qK | apply Kd.qJ | apply Kd.qO)); exact HO575.out) hb); have n3_ := Aside0.mk (bb BK572 hb); have n4_ := Aside0.mk (qG bl hb); clear HO_8; clear HO_573002; clear HO575; clear BK572; clear HB; have HO_8 := n0_; have HO_573002 := n1_; have HO575 := n2_; have BK572 := n3_; have HB := n4_; clear n0_ n1_ n2_ n3_ n4_; (try clear hb); (try clear hb2); (try clear hk); (try clear hi)) | ((with_reducible refine qoB (b := .append) (xs := #[.tmp 39, .tmp 43]) rfl ?_); at_builtin; refine Kd.qQD Kd.string (w0 := w) w.heap.size rfl (.tmp 39) (.tmp 43) 41 9 (.string ⟨#[]⟩) 16 rfl Tryd.underlying41 info9 rfl (by decide) (by omega) u8 x8_2 t577 [.string t577] (fun _ => True) (fun _ => False) rfl rfl ?aP (fun _ hk => hk.elim) ?aF ?aO ?aB ?aS ?aL ?_; (case aP => exact rfl); (case aB => exact bl); (case aF => exact (fun _ _ => trivial)); (case aO => exact (by (with_reducible repeat (first | apply Kd.qK | apply Kd.qJ | apply Kd.qO)); exact HO_8.out)); (case aS => exact (qb bl)); (case aL => have := LMc14.out; omega); intro v579 w18 ho hb hg hat; rw [← Ny578.out] at ho; have n0_ := Aside0.mk (Kd.qDD (by (with_reducible repeat (first | apply Kd.qK | apply Kd.qJ | apply Kd.qO)); exact HO_573002.out) (Kd.qXC (by (with_reducible repeat (first | apply Kd.qK | apply Kd.qJ | apply Kd.qO)); exact HO_8.out)) (by decide) hg); have n1_ := Aside0.mk (qqB (g := gb572) (o := .cells #[.int .i64 t566, .int .i64 t567, .slice Ao8 t568.length co8] 50 (0, 0)) (by (with_reducible repeat (first | refine qE ?_ _ | refine qF ?_ | refine qD ?_ _)); exact BK572.out) hg (Kd.R_ne HO_8.out BK572.out (by decide))); have n2_ := Aside0.mk (Kd.qDD (by (with_reducible repeat (first | apply Kd.qK | apply Kd.qJ | apply Kd.qO)); exact HO575.out) (Kd.qXC (by (with_reducible repeat (first | apply Kd.qK | apply Kd.qJ | apply Kd.qO)); exact HO_8.out)) (by decide) hg); have n3_ := Aside0.mk (hb); have n4_ := Aside0.mk (ho); clear HO_573002; clear BK572; clear HO575; clear HB; clear HO_8; have HO_573002 := n0_; have BK572 := n1_; have HO575 := n2_; have HB := n3_; have HO580 := n4_; clear n0_ n1_ n2_ n3_ n4_; clear ho hb hg hat))
          go_roundg k2
          case measure => have := HK1.out; have := HK2.out; omega
          case rel => exact ⟨(y578), (wrap64 (x10_2 + 1)), (by first | rfl | (simp; done) | (simp [*]; done)), H', ⟨by have := HK1.out; have := HK2.out; omega⟩, ⟨by (with_reducible repeat (first | apply Kd.qK | apply Kd.qJ | apply Kd.qO)); exact HO580.out⟩, ⟨by (with_reducible repeat (first | apply Kd.qK | apply Kd.qJ | apply Kd.qO)); exact HO_573002.out⟩, ⟨by (with_reducible repeat (first | refine qE ?_ _ | refine qF ?_ | refine qD ?_ _)); exact BK572.out⟩, ⟨bl⟩⟩
         ·rw [if_neg c14] at H
          exact absurd H (by simp)
        ·replace c12 := Bool.eq_false_iff.mpr c12
         subst c12
         have H1 : (qFA.l1 k2 l1 x8_2 x23_1 (wrap64 (x10_2 + 1)) (l1.length : Int) x23_1 t566 t567 t568) = some (r1, r2) := by rw [if_neg (show ¬ (false = true) by decide)] at H; exact H
         clear H
         have H := H1
         clear H1
         have H' := Aside0.mk H
         clear H
         have hcz19_0 := bc BK572 0
         have hcz19_1 := bc BK572 1
         have hcz19_2 := bc BK572 2
         have hfz19_0 := qA BK572.out 0
         have hfz19_1 := qA BK572.out 1
         have hfz19_2 := qA BK572.out 2
         go_wp2_with (first | ((with_reducible refine qL (f := 49) rfl ?_); refine qh (some 35) rfl rfl Tryd.func49 (by kernel_rfl) rfl #[.agg #[.int .i64 t566, .int .i64 t567, .slice Ao8 t568.length co8], .slice A1 l1.length c1, .int .i64 x23_1, .int .i64 x10_2] rfl (by (try simp only [List.map_toArray, List.map_cons, List.map_nil]); first | done | rfl | (simp only [List.length_drop, List.length_take]; rfl)) ?_; (with_reducible refine (qcA.calls k2 t566 t567 _ _ t568 _ _ l1 x23_1 x10_2 t573 false _ ?side1 ?side2 ?side3 ?side4 A11.out).mono ?_); (case side1 => repeat (first | exact (Kd.qM HO_573002.out).2.2 | (with_reducible refine Kd.qa ?_ _) | (with_reducible refine Kd.qZ ?_ _) | (with_reducible refine Kd.qe ?_))); (case side2 => exact (Kd.qM HO_573002.out).2.1); (case side3 => repeat (first | exact (Kd.qWA HR1.out HB.out) | (with_reducible refine Kd.qa ?_ _) | (with_reducible refine Kd.qZ ?_ _) | (with_reducible refine Kd.qe ?_))); (case side4 => exact HC1.out); rintro e w20 ⟨v574, rfl, ho0, hb⟩; refine ⟨_, rfl, ?_⟩; have n0_ := Aside0.mk (Kd.qc (by (with_reducible repeat (first | apply Kd.qK | apply Kd.qJ | apply Kd.qO)); exact HO_8.out) hb); have n1_ := Aside0.mk (Kd.qc (by (with_reducible repeat (first | apply Kd.qK | apply Kd.qJ | apply Kd.qO)); exact HO_573002.out) hb); have n2_ := Aside0.mk (Kd.qDA ho0 (qb bl)); have n3_ := Aside0.mk (bb BK572 hb); have n4_ := Aside0.mk (qG bl hb); clear HO_8; clear HO_573002; clear BK572; clear HB; have HO_8 := n0_; have HO_573002 := n1_; have HO575 := n2_; have BK572 := n3_; have HB := n4_; clear n0_ n1_ n2_ n3_ n4_; (try clear hb); (try clear hb2); (try clear hk); (try clear hi); (try clear ho0)))
         go_roundg k2
         case measure => have := HK1.out; have := HK2.out; omega
         case rel => exact ⟨(x8_2), (wrap64 (x10_2 + 1)), (by first | rfl | (simp; done) | (simp [*]; done)), H', ⟨by have := HK1.out; have := HK2.out; omega⟩, ⟨by (with_reducible repeat (first | apply Kd.qK | apply Kd.qJ | apply Kd.qO)); exact HO_8.out⟩, ⟨by (with_reducible repeat (first | apply Kd.qK | apply Kd.qJ | apply Kd.qO)); exact HO_573002.out⟩, ⟨by (with_reducible repeat (first | refine qE ?_ _ | refine qF ?_ | refine qD ?_ _)); exact BK572.out⟩, ⟨bl⟩⟩
       ·rw [if_neg c10] at H
        have c10b0 : decide (x10_2 < 4) = false := decide_eq_false c10
        clear c10
        have H' := Aside0.mk H
        clear H
        go_wp2
        go_roundg k2
        case measure => have := HK1.out; have := HK2.out; omega
        case rel => exact ⟨(x8_2), (wrap64 (x23_1 + 1)), (by first | rfl | (simp; done) | (simp [*]; done)), H', ⟨by have := HK1.out; have := HK2.out; omega⟩, ⟨by (with_reducible repeat (first | apply Kd.qK | apply Kd.qJ | apply Kd.qO)); exact HO_8.out⟩, ⟨by (with_reducible repeat (first | apply Kd.qK | apply Kd.qJ | apply Kd.qO)); exact HO_573002.out⟩, ⟨by (with_reducible repeat (first | refine qE ?_ _ | refine qF ?_ | refine qD ?_ _)); exact BK572.out⟩, ⟨bl⟩⟩
    ·rw [if_neg c9] at H
     have c9b0 : decide (x23_1 < (l1.length : Int)) = false := decide_eq_false c9
     clear c9
     simp only [Option.some.injEq, Prod.mk.injEq] at H
     obtain ⟨rfl, rfl⟩ := H
     go_wp2
     go_ret2
     exact ⟨_, by first | rfl | (simp [qI, qH] <;> rfl) | (simp [*, qI, qH] <;> rfl), by (with_reducible repeat (first | apply Kd.qK | apply Kd.qJ | apply Kd.qO)); exact HO_8.out, bl⟩
 ·replace c4 := Bool.eq_false_iff.mpr c4
  subst c4
  have H1 : (some (([] : List ByteArray), false)) = some (r1, r2) := by rw [if_neg (show ¬ (false = true) by decide)] at H; exact H
  clear H
  have H := H1
  clear H1
  simp only [Option.some.injEq, Prod.mk.injEq] at H
  obtain ⟨rfl, rfl⟩ := H
  go_enter Tryd.func29, Tryd.ntmps29
  go_wp2_with (first | ((with_reducible refine qL (f := 44) rfl ?_); refine qh (some 16) rfl rfl Tryd.func44 (by kernel_rfl) rfl #[.string a0, .slice A1 l1.length c1] rfl (by (try simp only [List.map_toArray, List.map_cons, List.map_nil]); first | done | rfl | (simp only [List.length_drop, List.length_take]; rfl)) ?_; (with_reducible refine (qRA.calls k a0 _ _ l1 t566 t567 t568 false _ ?side1 ?side2 A3.out).mono ?_); (case side1 => repeat (first | exact HR1.out | (with_reducible refine Kd.qa ?_ _) | (with_reducible refine Kd.qZ ?_ _) | (with_reducible refine Kd.qe ?_))); (case side2 => exact HC1.out); rintro e w21 ⟨v569, rfl, ho0, hb⟩; refine ⟨_, rfl, ?_⟩; have n0_ := Aside0.mk (Kd.qDA ho0 (qb bl)); have n1_ := Aside0.mk (qG bl hb); clear HB; have HO570 := n0_; have HB := n1_; clear n0_ n1_; (try clear hb); (try clear hb2); (try clear hk); (try clear hi); (try clear ho0)) | ((with_reducible refine qg (N := 6) rfl ?_); refine qd ?hg (N := 6) ?hd (cs := #[.int .i64 0, .int .i64 0, .slice none 0 0]) (t := 50) ?hr ?_; (case hd => rfl); (case hg => rfl); (case hr => first | (go_simp; done) | (go_simp; rfl)); intro gb572 hg w22 hbox hb; have n0_ := Aside0.mk (Kd.qc (by (with_reducible repeat (first | apply Kd.qK | apply Kd.qJ | apply Kd.qO)); exact HO570.out) hb); have n1_ := Aside0.mk (qG bl hb); have n2_ := Aside0.mk (hbox); have n3_ := Aside0.mk ((gg hg)); have n4_ := Aside0.mk ((gg hg)); clear HO570; clear HB; have HO570 := n0_; have HB := n1_; have BK572 := n2_; have GW572 := n3_; have GE572 := n4_; clear n0_ n1_ n2_ n3_ n4_; clear hb hbox hg; have hcz23_0 := bc BK572 0; have hcz23_1 := bc BK572 1; have hcz23_2 := bc BK572 2; have hfz23_0 := qA BK572.out 0; have hfz23_1 := qA BK572.out 1; have hfz23_2 := qA BK572.out 2; obtain ⟨Ao24, co24, eo24⟩ := Kd.qt HO570.out; subst eo24))
  go_ret2
  exact ⟨_, by first | rfl | (simp [qI, qH] <;> rfl) | (simp [*, qI, qH] <;> rfl), by first | exact Kd.R_nil _ _ _ _ _ | exact Kd.N_nil _ _ _ _ _ | exact Kd.V_nil _ _ _ _ _ | exact Kd.Q_nil _ _ _ _ _ | exact Kd.S_nil _ _ _ _ _, bl⟩
def qlA.f (k : Nat) (a0 : ByteArray) (l1 : List (S57)) : Option (List ByteArray × Bool) := (qZA.f k a0 l1).bind fun bt581 => (if bt581.2 = true then ((qu.f k bt581.1 l1).bind fun t585 => (some (t585, true))) else (some (([] : List ByteArray), false)))
set_option maxHeartbeats 8000000 in
set_option maxRecDepth 100000 in
theorem qlA.calls (k : Nat) (a0 : ByteArray) (A1 : Option Addr) (c1 : Nat) (l1 : List (S57)) (r1 : List ByteArray) (r2 : Bool) (w : World) (hr1 : Kd.C k57 w A1 l1.length l1) (hc1 : l1.length ≤ c1) (hL : Laid w) (h : qlA.f k a0 l1 = some (r1, r2)) :
  Calls Tryd.prog 30 #[.string a0, .slice A1 l1.length c1] w fun e w' => ∃ v0_ : Value, e = .returned (.tuple #[v0_, .bool r2]) ∧ Kd.R Kd.string 9 w' w.heap.size (fun _ => True) v0_ r1 ∧ Below w.heap.size w w' := by
 have HR1 := Aside0.mk hr1
 have HC1 := Aside0.mk hc1
 clear hr1 hc1
 have HLD := Aside0.mk hL
 clear hL
 have HB := Aside0.mk (Below.refl w.heap.size w)
 have H : ((qZA.f k a0 l1).bind fun bt581 => (if bt581.2 = true then ((qu.f k bt581.1 l1).bind fun t585 => (some (t585, true))) else (some (([] : List ByteArray), false)))) = some (r1, r2) := h
 clear h
 replace H := Option.bind_eq_some_iff.mp H
 obtain ⟨⟨t581, t582⟩, A30, H⟩ := H
 replace H : (if t582 = true then ((qu.f k t581 l1).bind fun t585 => (some (t585, true))) else (some (([] : List ByteArray), false))) = some (r1, r2) := H
 have A3 := Aside0.mk A30
 clear A30
 by_cases c4 : t582 = true
 ·subst c4
  have H1 : ((qu.f k t581 l1).bind fun t585 => (some (t585, true))) = some (r1, r2) := by rw [if_pos rfl] at H; exact H
  clear H
  have H := H1
  clear H1
  replace H := Option.bind_eq_some_iff.mp H
  obtain ⟨t585, A50, H⟩ := H
  replace H : (some (t585, true)) = some (r1, r2) := H
  have A5 := Aside0.mk A50
  clear A50
  simp only [Option.some.injEq, Prod.mk.injEq] at H
  obtain ⟨rfl, rfl⟩ := H
  go_enter Tryd.func30, Tryd.ntmps30
  go_wp2_with (first | ((with_reducible refine qL (f := 45) rfl ?_); refine qh (some 11) rfl rfl Tryd.func45 (by kernel_rfl) rfl #[.string a0, .slice A1 l1.length c1] rfl (by (try simp only [List.map_toArray, List.map_cons, List.map_nil]); first | done | rfl | (simp only [List.length_drop, List.length_take]; rfl)) ?_; (with_reducible refine (qZA.calls k a0 _ _ l1 t581 true _ ?side1 ?side2 ?side3 A3.out).mono ?_); (case side1 => repeat (first | exact HR1.out | (with_reducible refine Kd.qa ?_ _) | (with_reducible refine Kd.qZ ?_ _) | (with_reducible refine Kd.qe ?_))); (case side2 => exact HC1.out); (case side3 => first | exact HLD.out | exact Laid.below HLD.out (by repeat (first | (with_reducible first | exact HB.out | apply qAA | apply qo | apply qp | refine qMA ?_ (Aside0.out (by with_reducible assumption))) | exact HB.out))); rintro e w6 ⟨v583, rfl, ho0, hb⟩; refine ⟨_, rfl, ?_⟩; have n0_ := Aside0.mk (Kd.qDA ho0 (qb bl)); have n1_ := Aside0.mk (qG bl hb); clear HB; have HO584 := n0_; have HB := n1_; clear n0_ n1_; (try clear hb); (try clear hb2); (try clear hk); (try clear hi); (try clear ho0); obtain ⟨Ao7, co7, eo7⟩ := Kd.qt HO584.out; subst eo7) | ((with_reducible refine qL (f := 52) rfl ?_); refine qh (some 18) rfl rfl Tryd.func52 (by kernel_rfl) rfl #[.slice Ao7 t581.length co7, .slice A1 l1.length c1] rfl (by (try simp only [List.map_toArray, List.map_cons, List.map_nil]); first | done | rfl | (simp only [List.length_drop, List.length_take]; rfl)) ?_; (with_reducible refine (qu.calls k _ _ t581 _ _ l1 t585 _ ?side1 ?side2 ?side3 ?side4 A5.out).mono ?_); (case side1 => repeat (first | exact (Kd.qM HO584.out).2.2 | (with_reducible refine Kd.qa ?_ _) | (with_reducible refine Kd.qZ ?_ _) | (with_reducible refine Kd.qe ?_))); (case side2 => exact (Kd.qM HO584.out).2.1); (case side3 => repeat (first | exact (Kd.qWA HR1.out HB.out) | (with_reducible refine Kd.qa ?_ _) | (with_reducible refine Kd.qZ ?_ _) | (with_reducible refine Kd.qe ?_))); (case side4 => exact HC1.out); rintro e w8 ⟨v586, rfl, ho0, hb⟩; refine ⟨_, rfl, ?_⟩; have n0_ := Aside0.mk (Kd.qYA (by (with_reducible repeat (first | apply Kd.qK | apply Kd.qJ | apply Kd.qO)); exact HO584.out) (Kd.qnA ho0) hb); have n1_ := Aside0.mk (Kd.qDA (Kd.qmA ho0 (Kd.R_lt (by (with_reducible repeat (first | apply Kd.qK | apply Kd.qJ | apply Kd.qO)); exact HO584.out))) (qb bl)); have n2_ := Aside0.mk (qG bl hb); clear HO584; clear HB; have HO584 := n0_; have HO587 := n1_; have HB := n2_; clear n0_ n1_ n2_; (try clear hb); (try clear hb2); (try clear hk); (try clear hi); (try clear ho0)))
  go_ret2
  exact ⟨_, by first | rfl | (simp [qI, qH] <;> rfl) | (simp [*, qI, qH] <;> rfl), by (with_reducible repeat (first | apply Kd.qK | apply Kd.qJ | apply Kd.qO)); exact Kd.qGA HO587.out (fun _ hk => trivial), bl⟩
 ·replace c4 := Bool.eq_false_iff.mpr c4
  subst c4
  have H1 : (some (([] : List ByteArray), false)) = some (r1, r2) := by rw [if_neg (show ¬ (false = true) by decide)] at H; exact H
  clear H
  have H := H1
  clear H1
  simp only [Option.some.injEq, Prod.mk.injEq] at H
  obtain ⟨rfl, rfl⟩ := H
  go_enter Tryd.func30, Tryd.ntmps30
  go_wp2_with (first | ((with_reducible refine qL (f := 45) rfl ?_); refine qh (some 11) rfl rfl Tryd.func45 (by kernel_rfl) rfl #[.string a0, .slice A1 l1.length c1] rfl (by (try simp only [List.map_toArray, List.map_cons, List.map_nil]); first | done | rfl | (simp only [List.length_drop, List.length_take]; rfl)) ?_; (with_reducible refine (qZA.calls k a0 _ _ l1 t581 false _ ?side1 ?side2 ?side3 A3.out).mono ?_); (case side1 => repeat (first | exact HR1.out | (with_reducible refine Kd.qa ?_ _) | (with_reducible refine Kd.qZ ?_ _) | (with_reducible refine Kd.qe ?_))); (case side2 => exact HC1.out); (case side3 => first | exact HLD.out | exact Laid.below HLD.out (by repeat (first | (with_reducible first | exact HB.out | apply qAA | apply qo | apply qp | refine qMA ?_ (Aside0.out (by with_reducible assumption))) | exact HB.out))); rintro e w9 ⟨v583, rfl, ho0, hb⟩; refine ⟨_, rfl, ?_⟩; have n0_ := Aside0.mk (Kd.qDA ho0 (qb bl)); have n1_ := Aside0.mk (qG bl hb); clear HB; have HO584 := n0_; have HB := n1_; clear n0_ n1_; (try clear hb); (try clear hb2); (try clear hk); (try clear hi); (try clear ho0)))
  go_ret2
  exact ⟨_, by first | rfl | (simp [qI, qH] <;> rfl) | (simp [*, qI, qH] <;> rfl), by first | exact Kd.R_nil _ _ _ _ _ | exact Kd.N_nil _ _ _ _ _ | exact Kd.V_nil _ _ _ _ _ | exact Kd.Q_nil _ _ _ _ _ | exact Kd.S_nil _ _ _ _ _, bl⟩
def qCA.l0 : Nat → List ByteArray → List ByteArray → Int → Option (Bool)
 | 0, _, _, _ => none
 | k + 1, x0, x1, x5 => if x5 < (x0.length : Int) then (if 0 ≤ x5 then (if x5 < (x1.length : Int) then (if (rdOf ByteArray.empty x0 x5).toList = (rdOf ByteArray.empty x1 x5).toList then (qCA.l0 k x0 x1 (wrap64 (x5 + 1))) else (some false)) else (none)) else (none)) else (some true)
def qCA.f (k : Nat) (l0 : List ByteArray) (l1 : List ByteArray) : Option (Bool) := if (l0.length : Int) = (l1.length : Int) then (qCA.l0 k l0 l1 0) else (some false)
set_option maxHeartbeats 8000000 in
set_option maxRecDepth 100000 in
theorem qCA.calls (k : Nat) (A0 : Option Addr) (c0 : Nat) (l0 : List ByteArray) (A1 : Option Addr) (c1 : Nat) (l1 : List ByteArray) (r : Bool) (w : World) (hr0 : Kd.C Kd.string w A0 l0.length l0) (hc0 : l0.length ≤ c0) (hr1 : Kd.C Kd.string w A1 l1.length l1) (hc1 : l1.length ≤ c1) (h : qCA.f k l0 l1 = some r) :
  Calls Tryd.prog 31 #[.slice A0 l0.length c0, .slice A1 l1.length c1] w fun e w' => e = .returned (.bool r) ∧ Drawn0 w w' := by
 have HR0 := Aside0.mk hr0
 have HC0 := Aside0.mk hc0
 clear hr0 hc0
 have HR1 := Aside0.mk hr1
 have HC1 := Aside0.mk hc1
 clear hr1 hc1
 have H : (if (l0.length : Int) = (l1.length : Int) then (qCA.l0 k l0 l1 0) else (some false)) = some r := h
 clear h
 by_cases c3 : (l0.length : Int) = (l1.length : Int)
 ·rw [if_pos c3] at H
  have c3b0 : ((l0.length : Int) == (l1.length : Int)) = true := beq_iff_eq.mpr c3
  have c3b1 : ((l0.length : Int) != (l1.length : Int)) = false := bne_eq_false_iff_eq.mpr c3
  have c3b2 : (l0.length == l1.length) = true := by first | simpa using c3 | (simp at c3 ⊢; omega)
  clear c3
  have H' := Aside0.mk H
  clear H
  go_enter Tryd.func31, Tryd.ntmps31
  go_wp2
  repeat (go_quiet (fail); try go_wp2)
  go_loopg [5] k (fun kq v5 w' => ∃ (x5_1 : Int), v5 = .int .i64 x5_1 ∧ Aside0 (qCA.l0 kq l0 l1 x5_1 = some r) ∧ Aside0 (kq ≤ k) ∧ Drawn0 w w')
  case atStart => exact ⟨(0), (by first | rfl | (simp; done) | (simp [*]; done)), H', ⟨Nat.le_refl _⟩, by repeat (first | exact Drawn0.refl _ | apply Drawn0.step)⟩
  case round =>
   clear H'
   try clear c1
   try clear p2
   try clear c3
   try clear c3b0
   try clear c3b1
   try clear c3b2
   obtain ⟨x5_1, rfl, HA, HK1, ⟨m1, rfl⟩⟩ := hrel
   cases gk with
   | zero => exact absurd HA.out (by simp [qCA.l0])
   | succ k1 =>
    have H := HA.out
    clear HA
    simp only [qCA.l0] at H
    by_cases c4 : x5_1 < (l0.length : Int)
    ·rw [if_pos c4] at H
     have c4b0 : decide (x5_1 < (l0.length : Int)) = true := decide_eq_true c4
     clear c4
     by_cases c5 : 0 ≤ x5_1
     ·rw [if_pos c5] at H
      have c5b0 : decide (0 ≤ x5_1) = true := decide_eq_true c5
      clear c5
      by_cases c6 : x5_1 < (l1.length : Int)
      ·rw [if_pos c6] at H
       have c6b0 : decide (x5_1 < (l1.length : Int)) = true := decide_eq_true c6
       clear c6
       by_cases c7 : (rdOf ByteArray.empty l0 x5_1).toList = (rdOf ByteArray.empty l1 x5_1).toList
       ·rw [if_pos c7] at H
        have c7b0 : ((rdOf ByteArray.empty l0 x5_1).toList == (rdOf ByteArray.empty l1 x5_1).toList) = true := beq_iff_eq.mpr c7
        have c7b1 : ((rdOf ByteArray.empty l0 x5_1).toList != (rdOf ByteArray.empty l1 x5_1).toList) = false := bne_eq_false_iff_eq.mpr c7
        clear c7
        have H' := Aside0.mk H
        clear H
        have p588 : 0 ≤ (x5_1 : Int) := of_decide_eq_true (by first | (with_reducible assumption) | assumption)
        have q588 : x5_1 < (l0.length : Int) := of_decide_eq_true (by first | (with_reducible assumption) | assumption)
        obtain ⟨ad588, e588, hx588_0⟩ := Kd.qbB HR0.out x5_1 p588 q588
        cases e588
        replace p588 := eq_true p588
        replace q588 := eq_true q588
        have p589 : 0 ≤ (x5_1 : Int) := of_decide_eq_true (by first | (with_reducible assumption) | assumption)
        have q589 : x5_1 < (l1.length : Int) := of_decide_eq_true (by first | (with_reducible assumption) | assumption)
        obtain ⟨ad589, e589, hx589_0⟩ := Kd.qbB HR1.out x5_1 p589 q589
        cases e589
        replace p589 := eq_true p589
        replace q589 := eq_true q589
        go_wp2
        repeat (go_quiet (fail); try go_wp2)
        go_roundg k1
        case measure => have := HK1.out; omega
        case rel => exact ⟨(wrap64 (x5_1 + 1)), (by first | rfl | (simp; done) | (simp [*]; done)), H', ⟨by have := HK1.out; omega⟩, by repeat (first | exact Drawn0.refl _ | apply Drawn0.step)⟩
       ·rw [if_neg c7] at H
        have c7b0 : ((rdOf ByteArray.empty l0 x5_1).toList == (rdOf ByteArray.empty l1 x5_1).toList) = false := beq_eq_false_iff_ne.mpr c7
        have c7b1 : ((rdOf ByteArray.empty l0 x5_1).toList != (rdOf ByteArray.empty l1 x5_1).toList) = true := bne_iff_ne.mpr c7
        obtain rfl := Option.some.inj H
        have p588 : 0 ≤ (x5_1 : Int) := of_decide_eq_true (by first | (with_reducible assumption) | assumption)
        have q588 : x5_1 < (l0.length : Int) := of_decide_eq_true (by first | (with_reducible assumption) | assumption)
        obtain ⟨ad588, e588, hx588_0⟩ := Kd.qbB HR0.out x5_1 p588 q588
        cases e588
        replace p588 := eq_true p588
        replace q588 := eq_true q588
        have p589 : 0 ≤ (x5_1 : Int) := of_decide_eq_true (by first | (with_reducible assumption) | assumption)
        have q589 : x5_1 < (l1.length : Int) := of_decide_eq_true (by first | (with_reducible assumption) | assumption)
        obtain ⟨ad589, e589, hx589_0⟩ := Kd.qbB HR1.out x5_1 p589 q589
        cases e589
        replace p589 := eq_true p589
        replace q589 := eq_true q589
        go_wp2
        repeat (go_quiet (fail); try go_wp2)
        go_ret
        exact ⟨by first | rfl | (simp; done) | (simp [*]; done), by repeat (first | exact Drawn0.refl _ | apply Drawn0.step)⟩
      ·rw [if_neg c6] at H
       exact absurd H (by simp)
     ·rw [if_neg c5] at H
      exact absurd H (by simp)
    ·rw [if_neg c4] at H
     have c4b0 : decide (x5_1 < (l0.length : Int)) = false := decide_eq_false c4
     clear c4
     obtain rfl := Option.some.inj H
     go_wp2
     repeat (go_quiet (fail); try go_wp2)
     go_ret
     exact ⟨by first | rfl | (simp; done) | (simp [*]; done), by repeat (first | exact Drawn0.refl _ | apply Drawn0.step)⟩
 ·rw [if_neg c3] at H
  have c3b0 : ((l0.length : Int) == (l1.length : Int)) = false := beq_eq_false_iff_ne.mpr c3
  have c3b1 : ((l0.length : Int) != (l1.length : Int)) = true := bne_iff_ne.mpr c3
  have c3b2 : (l0.length == l1.length) = false := by first | simpa using c3 | (simp at c3 ⊢; omega)
  obtain rfl := Option.some.inj H
  go_enter Tryd.func31, Tryd.ntmps31
  go_wp2
  repeat (go_quiet (fail); try go_wp2)
  go_ret
  exact ⟨by first | rfl | (simp; done) | (simp [*]; done), by repeat (first | exact Drawn0.refl _ | apply Drawn0.step)⟩
def qiA.l0 : Nat → Int → ByteArray → Option (ByteArray)
 | 0, _, _ => none
 | k + 1, x0, x3 => if x0 > 0 then ((some (([(wrap64 (48 + (Int.tmod x0 10))) % 256] : List Int) : List Int)).bind fun y590 => (if (strOfNums y590).size + x3.size ≤ 9223372036854775807 then (qiA.l0 k (wrap64 (Int.tdiv x0 10)) ((strOfNums y590) ++ x3)) else (none))) else (if 1 + x3.size ≤ 9223372036854775807 then (some ((⟨#[109]⟩ : ByteArray) ++ x3)) else (none))
def qiA.f (k : Nat) (a0 : Int) : Option (ByteArray) := if a0 ≤ 0 then (some (⟨#[109, 48]⟩ : ByteArray)) else (qiA.l0 k a0 (⟨#[]⟩ : ByteArray))
set_option maxHeartbeats 8000000 in
set_option maxRecDepth 100000 in
theorem qiA.calls (k : Nat) (a0 : Int) (r : ByteArray) (w : World) (h : qiA.f k a0 = some r) :
  Calls Tryd.prog 56 #[.int .i64 a0] w fun e w' => e = .returned (.string r) ∧ Below w.heap.size w w' := by
 have HB := Aside0.mk (Below.refl w.heap.size w)
 have H : (if a0 ≤ 0 then (some (⟨#[109, 48]⟩ : ByteArray)) else (qiA.l0 k a0 (⟨#[]⟩ : ByteArray))) = some r := h
 clear h
 by_cases c2 : a0 ≤ 0
 ·rw [if_pos c2] at H
  have c2b0 : decide (a0 ≤ 0) = true := decide_eq_true c2
  clear c2
  obtain rfl := Option.some.inj H
  go_enter Tryd.func56, Tryd.ntmps56
  go_wp2
  go_ret
  exact ⟨by first | rfl | (simp [qI, qH] <;> rfl) | (simp [*, qI, qH] <;> rfl), bl⟩
 ·rw [if_neg c2] at H
  have c2b0 : decide (a0 ≤ 0) = false := decide_eq_false c2
  clear c2
  have H' := Aside0.mk H
  clear H
  go_enter Tryd.func56, Tryd.ntmps56
  go_wp2
  go_loopg [0, 3] k (fun kq v0 v3 w' => ∃ (x0_1 : Int) (x3_1 : ByteArray), v0 = .int .i64 x0_1 ∧ v3 = .string x3_1 ∧ Aside0 (qiA.l0 kq x0_1 x3_1 = some r) ∧ Aside0 (kq ≤ k) ∧ Aside0 (Below w.heap.size w w'))
  case atStart => exact ⟨(a0), ((⟨#[]⟩ : ByteArray)), (by first | rfl | (simp; done) | (simp [*]; done)), (by first | rfl | (simp; done) | (simp [*]; done)), H', ⟨Nat.le_refl _⟩, ⟨bl⟩⟩
  case round =>
   clear H'
   try clear c2
   try clear c2b0
   try clear p2
   obtain ⟨x0_1, x3_1, rfl, rfl, HA, HK1, HB⟩ := hrel
   cases gk with
   | zero => exact absurd HA.out (by simp [qiA.l0])
   | succ k1 =>
    have H := HA.out
    clear HA
    simp only [qiA.l0] at H
    by_cases c3 : x0_1 > 0
    ·rw [if_pos c3] at H
     have c3b0 : decide (0 < x0_1) = true := decide_eq_true c3
     clear c3
     obtain ⟨y590, hy590⟩ : ∃ y_ : List Int, y_ = (([(wrap64 (48 + (Int.tmod x0_1 10))) % 256] : List Int)) := ⟨_, rfl⟩
     replace H : (if (strOfNums y590).size + x3_1.size ≤ 9223372036854775807 then (qiA.l0 k1 (wrap64 (Int.tdiv x0_1 10)) ((strOfNums y590) ++ x3_1)) else (none)) = some r := by first | (rw [hy590]; with_reducible exact H) | (have H2_ := (Option.bind_some _ _).symm.trans H; rw [hy590]; with_reducible exact H2_) | (have H2_ := (Option.bind_some _ _).symm.trans H; with_reducible exact H2_) | with_reducible exact H | (rw [hy590]; exact H) | exact H
     have Ny590 := Aside0.mk hy590
     clear hy590
     by_cases c4 : (strOfNums y590).size + x3_1.size ≤ 9223372036854775807
     ·rw [if_pos c4] at H
      have c4b0 := eq_true c4
      have c4b1 : decide ((strOfNums y590).size + x3_1.size ≤ 9223372036854775807) = true := decide_eq_true c4
      try have c4b2 : (9223372036854775807 < (strOfNums y590).size + x3_1.size) = False := eq_false (Nat.not_lt.2 c4)
      have H' := Aside0.mk H
      clear H
      go_wp2_with (first | ((with_reducible refine qg (N := 12) rfl ?_); refine Kd.R_lit (Kd.int .u8) _ 5 ?hg (N := 12) ?hd (xs := ([(wrap64 (48 + (Int.tmod x0_1 10))) % 256] : List Int)) (inner := [.int .u8 ((wrap64 (48 + (Int.tmod x0_1 10))) % 256)]) (ok := fun _ => True) (okp := fun _ => True) ?hr ?hp (fun _ hk => hk) trivial (Below.refl _ _) (Nat.le_refl _) (by simp) ?_; (case hd => rfl); (case hg => rfl); (case hr => first | (go_simp; done) | (go_simp; rfl)); (case hp => exact (Reps.one (show Kd.M (Kd.int .u8) _ _ _ ((wrap64 (48 + (Int.tmod x0_1 10))) % 256) [.int .u8 ((wrap64 (48 + (Int.tmod x0_1 10))) % 256)] from rfl) (Reps.none _ _))); intro v591 w5 ho6 hb hg_ hnew_; clear hg_ hnew_; (first | rw [← Ny590.out] at ho6 | (simp only [Int.reduceToNat] at ho6; rw [← Ny590.out] at ho6)); have n0_ := Aside0.mk (Kd.qDA ho6 (qb bl)); have n1_ := Aside0.mk (qG bl hb); clear HB; have HO592 := n0_; have HB := n1_; clear n0_ n1_; clear hb ho6; have hcv7 := qQC (P := Tryd.prog) Tryd.underlying48 Tryd.underlying5 Tryd.underlying9 (Kd.qZC HO592.out)))
      go_roundg k1
      case measure => have := HK1.out; omega
      case rel => exact ⟨(wrap64 (Int.tdiv x0_1 10)), ((strOfNums y590) ++ x3_1), (by first | rfl | (simp; done) | (simp [*]; done)), (by first | rfl | (simp; done) | (simp [*]; done)), H', ⟨by have := HK1.out; omega⟩, ⟨bl⟩⟩
     ·rw [if_neg c4] at H
      exact absurd H (by simp)
    ·rw [if_neg c3] at H
     have c3b0 : decide (0 < x0_1) = false := decide_eq_false c3
     clear c3
     by_cases c8 : 1 + x3_1.size ≤ 9223372036854775807
     ·rw [if_pos c8] at H
      have c8b0 := eq_true c8
      have c8b1 : decide (1 + x3_1.size ≤ 9223372036854775807) = true := decide_eq_true c8
      try have c8b2 : (9223372036854775807 < 1 + x3_1.size) = False := eq_false (Nat.not_lt.2 c8)
      obtain rfl := Option.some.inj H
      go_wp2
      go_ret
      exact ⟨by first | rfl | (simp [qI, qH] <;> rfl) | (simp [*, qI, qH] <;> rfl), bl⟩
     ·rw [if_neg c8] at H
      exact absurd H (by simp)
def qaA.l0 : Nat → List ByteArray → Int → Int → Option (Int × List ByteArray)
 | 0, _, _, _ => none
 | k + 1, x0, x1, x5 => if x5 < (x0.length : Int) then ((qiA.f k x1).bind fun t593 => (if 0 ≤ x5 then (qaA.l0 k (x0.set (x5 : Int).toNat t593) (wrap64 (x1 + 1)) (wrap64 (x5 + 1))) else (none))) else (some (x1, x0))
def qaA.f (k : Nat) (l0 : List ByteArray) (a1 : Int) : Option (Int × List ByteArray) := qaA.l0 k l0 a1 0
set_option maxHeartbeats 8000000 in
set_option maxRecDepth 100000 in
theorem qaA.calls (k : Nat) (P0_ : Nat → Prop) (u9000_ : Value) (l0 : List ByteArray) (a1 : Int) (r1 : Int) (r2 : List ByteArray) (w0 w : World) (hB : Below w0.heap.size w0 w) (ho0 : Kd.R Kd.string 9 w w0.heap.size P0_ u9000_ l0) (h : qaA.f k l0 a1 = some (r1, r2)) :
  Calls Tryd.prog 32 #[u9000_, .int .i64 a1] w fun e w' => e = .returned (.int .i64 r1) ∧ Kd.R Kd.string 9 w' w0.heap.size (fun k_ => (P0_ k_ ∨ w.heap.size ≤ k_)) u9000_ r2 ∧ Below w0.heap.size w0 w' ∧ Kept w w' (fun k_ => P0_ k_) := by
 have HO0 := Aside0.mk (show Kd.R Kd.string 9 w w0.heap.size (fun k_ => (P0_ k_ ∨ w.heap.size ≤ k_)) u9000_ l0 from Kd.qGA ho0 (fun k_ hk => (.inl hk)))
 have HK := Aside0.mk (Kept.refl w (fun k_ => P0_ k_))
 have HW0 := Aside0.mk hB.size
 have HB := Aside0.mk hB
 clear hB
 have H : (qaA.l0 k l0 a1 0) = some (r1, r2) := h
 clear h
 have H' := Aside0.mk H
 clear H
 go_enter Tryd.func32, Tryd.ntmps32
 go_wp2
 go_loopg [1, 5] k (fun kq v1 v5 w' => ∃ (x0_1 : List ByteArray) (x1_1 : Int) (x5_1 : Int), v1 = .int .i64 x1_1 ∧ v5 = .int .i64 x5_1 ∧ Aside0 (qaA.l0 kq x0_1 x1_1 x5_1 = some (r1, r2)) ∧ Aside0 (kq ≤ k) ∧ Aside0 (Kd.R Kd.string 9 w' w0.heap.size (fun k_ => (P0_ k_ ∨ w.heap.size ≤ k_)) u9000_ x0_1) ∧ Aside0 (Kept w w' (fun k_ => P0_ k_)) ∧ Aside0 (Below w0.heap.size w0 w'))
 case atStart => exact ⟨(l0), (a1), (0), (by first | rfl | (simp; done) | (simp [*]; done)), (by first | rfl | (simp; done) | (simp [*]; done)), H', ⟨Nat.le_refl _⟩, ⟨by (with_reducible repeat (first | apply Kd.qK | apply Kd.qJ | apply Kd.qO)); exact HO0.out⟩, ⟨by repeat (first | (with_reducible first | exact HK.out | apply Kept.alloc | apply Kept.drewN | apply Kept.drew) | exact HK.out)⟩, ⟨bl⟩⟩
 case round =>
  clear H'
  try clear p2
  obtain ⟨x0_1, x1_1, x5_1, rfl, rfl, HA, HK1, HO_0, HK, HB⟩ := hrel
  cases gk with
  | zero => exact absurd HA.out (by simp [qaA.l0])
  | succ k1 =>
   have H := HA.out
   clear HA
   simp only [qaA.l0] at H
   by_cases c3 : x5_1 < (x0_1.length : Int)
   ·rw [if_pos c3] at H
    have c3b0 : decide (x5_1 < (x0_1.length : Int)) = true := decide_eq_true c3
    clear c3
    replace H := Option.bind_eq_some_iff.mp H
    obtain ⟨t593, A40, H⟩ := H
    replace H : (if 0 ≤ x5_1 then (qaA.l0 k1 (x0_1.set (x5_1 : Int).toNat t593) (wrap64 (x1_1 + 1)) (wrap64 (x5_1 + 1))) else (none)) = some (r1, r2) := H
    have A4 := Aside0.mk A40
    clear A40
    by_cases c5 : 0 ≤ x5_1
    ·rw [if_pos c5] at H
     have c5b0 : decide (0 ≤ x5_1) = true := decide_eq_true c5
     clear c5
     obtain ⟨y594, hy594⟩ : ∃ y_ : List ByteArray, y_ = (x0_1.set (x5_1 : Int).toNat t593) := ⟨_, rfl⟩
     replace H : (qaA.l0 k1 y594 (wrap64 (x1_1 + 1)) (wrap64 (x5_1 + 1))) = some (r1, r2) := by first | (rw [hy594]; with_reducible exact H) | (have H2_ := (Option.bind_some _ _).symm.trans H; rw [hy594]; with_reducible exact H2_) | (have H2_ := (Option.bind_some _ _).symm.trans H; with_reducible exact H2_) | with_reducible exact H | (rw [hy594]; exact H) | exact H
     have Ny594 := Aside0.mk hy594
     clear hy594
     have H' := Aside0.mk H
     clear H
     obtain ⟨Ao7, co7, eo7⟩ := Kd.qt HO_0.out
     subst eo7
     go_wp2_with (first | ((with_reducible refine qL (f := 56) rfl ?_); refine qh (some 15) rfl rfl Tryd.func56 (by kernel_rfl) rfl #[.int .i64 x1_1] rfl (by (try simp only [List.map_toArray, List.map_cons, List.map_nil]); first | done | rfl | (simp only [List.length_drop, List.length_take]; rfl)) ?_; (with_reducible refine (qiA.calls k1 x1_1 t593 _ A4.out).mono ?_); rintro e w8 ⟨rfl, hb⟩; refine ⟨_, rfl, ?_⟩; have n0_ := Aside0.mk (Kd.qc (by (with_reducible repeat (first | apply Kd.qK | apply Kd.qJ | apply Kd.qO)); exact HO_0.out) hb); have n1_ := Aside0.mk (Kept.below (S := (fun k_ => P0_ k_)) (by repeat (first | (with_reducible first | exact HK.out | apply Kept.alloc | apply Kept.drewN | apply Kept.drew) | exact HK.out)) hb); have n2_ := Aside0.mk (qG bl hb); clear HO_0; clear HK; clear HB; have HO_0 := n0_; have HK := n1_; have HB := n2_; clear n0_ n1_ n2_; (try clear hb); (try clear hb2); (try clear hk); (try clear hi); have p6 : 0 ≤ (x5_1 : Int) := of_decide_eq_true (by first | (with_reducible assumption) | assumption); have q6 : (x5_1 : Int) < ((x0_1.length : Int) : Int) := of_decide_eq_true (by first | (with_reducible assumption) | assumption); obtain ⟨go6, co6, eo6, gb6, gl6, cl6, HG6⟩ := Kd.qYD HO_0.out (by omega); (first | cases eo6 | (injection eo6 with ea_ en_ ec_; (first | subst ea_ | (injection ea_ with ea_; subst ea_)); subst ec_; clear en_)); have GB6 := Aside0.mk gb6; have GG6 := Aside0.mk HG6; clear gb6 gl6 HG6; have HMgo6 := Aside0.mk (show (P0_ go6 ∨ w.heap.size ≤ go6) from (HO_0.out.1 _ rfl)); obtain ⟨hx6_0, hf6_0⟩ := Kd.qrD (⟨#[]⟩ : ByteArray) HO_0.out (x5_1 : Int) p6 q6; replace p6 := eq_true p6; replace q6 := eq_true q6; obtain ⟨hy9_, hz9_⟩ := Kd.qrD (⟨#[]⟩ : ByteArray) HO_0.out (x5_1 : Int) (of_decide_eq_true (by first | (with_reducible assumption) | assumption)) (of_decide_eq_true (by first | (with_reducible assumption) | assumption)); have HP9 := Kd.R_putg HO_0.out (x5_1 : Int) t593) | ((with_reducible refine qOB (t := 9) (p := 16) rfl ?_); refine qIB (t := 9) (p := 16) (v := ?vo_w10) (w1 := (w8.setCell ⟨go6, (x5_1 : Int).toNat, none⟩ (.string t593))) ?hg ?ho ?hn ?hr ?_; (case ho => rfl); (case hg => rfl); (case hn => rfl); (case hr => first | (go_simp; done) | (go_simp; rfl)); intro w10 hw; have hg : w8.grownBy w10 (some go6) := (by rw [hw]; exact HP9.2); have hp_ : Kd.R Kd.string 9 w10 w0.heap.size (fun k_ => (P0_ k_ ∨ w.heap.size ≤ k_)) (.slice (some ⟨go6, 0, none⟩) x0_1.length co7) y594 := (by rw [hw, Ny594.out]; exact HP9.1); clear HP9; have n0_ := Aside0.mk (hp_); have n1_ := Aside0.mk ((by rw [hw]; exact qMA (HB.out) GB6.out : Below w0.heap.size w0 w10)); have n2_ := Aside0.mk (Kept.qEC (S := (fun k_ => P0_ k_)) hg (by repeat (first | (with_reducible first | exact HK.out | apply Kept.alloc | apply Kept.drewN | apply Kept.drew) | exact HK.out)) (fun k_ e_ => (HO_0.out.1 k_ e_))); clear HO_0; clear HB; clear HK; have HO_0 := n0_; have HB := n1_; have HK := n2_; clear n0_ n1_ n2_; clear hg hw hp_))
     go_roundg k1
     case measure => have := HK1.out; omega
     case rel => exact ⟨(y594), (wrap64 (x1_1 + 1)), (wrap64 (x5_1 + 1)), (by first | rfl | (simp; done) | (simp [*]; done)), (by first | rfl | (simp; done) | (simp [*]; done)), H', ⟨by have := HK1.out; omega⟩, ⟨by (with_reducible repeat (first | apply Kd.qK | apply Kd.qJ | apply Kd.qO)); exact HO_0.out⟩, ⟨by repeat (first | (with_reducible first | exact HK.out | apply Kept.alloc | apply Kept.drewN | apply Kept.drew) | exact HK.out)⟩, ⟨bl⟩⟩
    ·rw [if_neg c5] at H
     exact absurd H (by simp)
   ·rw [if_neg c3] at H
    have c3b0 : decide (x5_1 < (x0_1.length : Int)) = false := decide_eq_false c3
    clear c3
    simp only [Option.some.injEq, Prod.mk.injEq] at H
    obtain ⟨rfl, rfl⟩ := H
    obtain ⟨Ao11, co11, eo11⟩ := Kd.qt HO_0.out
    subst eo11
    go_wp2
    go_ret
    exact ⟨by first | rfl | (simp [qI, qH] <;> rfl) | (simp [*, qI, qH] <;> rfl), by (with_reducible repeat (first | apply Kd.qK | apply Kd.qJ | apply Kd.qO)); exact HO_0.out, bl, by repeat (first | (with_reducible first | exact HK.out | apply Kept.alloc | apply Kept.drewN | apply Kept.drew) | exact HK.out)⟩
def qQA.l0 : Nat → List ByteArray → Int → Int → Option (Int)
 | 0, _, _, _ => none
 | k + 1, x0, x1, x5 => if x5 < (x0.length : Int) then (if 0 ≤ x5 then ((qiA.f k x1).bind fun t596 => (if (rdOf ByteArray.empty x0 x5).toList = t596.toList then (qQA.l0 k x0 (wrap64 (x1 + 1)) (wrap64 (x5 + 1))) else (some (-1)))) else (none)) else (some x1)
def qQA.f (k : Nat) (l0 : List ByteArray) (a1 : Int) : Option (Int) := qQA.l0 k l0 a1 0
set_option maxHeartbeats 8000000 in
set_option maxRecDepth 100000 in
theorem qQA.calls (k : Nat) (A0 : Option Addr) (c0 : Nat) (l0 : List ByteArray) (a1 : Int) (r : Int) (w : World) (hr0 : Kd.C Kd.string w A0 l0.length l0) (hc0 : l0.length ≤ c0) (h : qQA.f k l0 a1 = some r) :
  Calls Tryd.prog 33 #[.slice A0 l0.length c0, .int .i64 a1] w fun e w' => e = .returned (.int .i64 r) ∧ Below w.heap.size w w' := by
 have HR0 := Aside0.mk hr0
 have HC0 := Aside0.mk hc0
 clear hr0 hc0
 have HB := Aside0.mk (Below.refl w.heap.size w)
 have H : (qQA.l0 k l0 a1 0) = some r := h
 clear h
 have H' := Aside0.mk H
 clear H
 go_enter Tryd.func33, Tryd.ntmps33
 go_wp2
 go_loopg [1, 5] k (fun kq v1 v5 w' => ∃ (x1_1 : Int) (x5_1 : Int), v1 = .int .i64 x1_1 ∧ v5 = .int .i64 x5_1 ∧ Aside0 (qQA.l0 kq l0 x1_1 x5_1 = some r) ∧ Aside0 (kq ≤ k) ∧ Aside0 (Below w.heap.size w w'))
 case atStart => exact ⟨(a1), (0), (by first | rfl | (simp; done) | (simp [*]; done)), (by first | rfl | (simp; done) | (simp [*]; done)), H', ⟨Nat.le_refl _⟩, ⟨bl⟩⟩
 case round =>
  clear H'
  try clear p2
  obtain ⟨x1_1, x5_1, rfl, rfl, HA, HK1, HB⟩ := hrel
  cases gk with
  | zero => exact absurd HA.out (by simp [qQA.l0])
  | succ k1 =>
   have H := HA.out
   clear HA
   simp only [qQA.l0] at H
   by_cases c3 : x5_1 < (l0.length : Int)
   ·rw [if_pos c3] at H
    have c3b0 : decide (x5_1 < (l0.length : Int)) = true := decide_eq_true c3
    clear c3
    by_cases c4 : 0 ≤ x5_1
    ·rw [if_pos c4] at H
     have c4b0 : decide (0 ≤ x5_1) = true := decide_eq_true c4
     clear c4
     replace H := Option.bind_eq_some_iff.mp H
     obtain ⟨t596, A50, H⟩ := H
     replace H : (if (rdOf ByteArray.empty l0 x5_1).toList = t596.toList then (qQA.l0 k1 l0 (wrap64 (x1_1 + 1)) (wrap64 (x5_1 + 1))) else (some (-1))) = some r := H
     have A5 := Aside0.mk A50
     clear A50
     by_cases c6 : (rdOf ByteArray.empty l0 x5_1).toList = t596.toList
     ·rw [if_pos c6] at H
      have c6b0 : ((rdOf ByteArray.empty l0 x5_1).toList == t596.toList) = true := beq_iff_eq.mpr c6
      have c6b1 : ((rdOf ByteArray.empty l0 x5_1).toList != t596.toList) = false := bne_eq_false_iff_eq.mpr c6
      clear c6
      have H' := Aside0.mk H
      clear H
      try go_wp2
      have n0_ := Aside0.mk (qp HB.out)
      clear HB
      have HB := n0_
      clear n0_
      have p595 : 0 ≤ (x5_1 : Int) := of_decide_eq_true (by first | (with_reducible assumption) | assumption)
      have q595 : x5_1 < (l0.length : Int) := of_decide_eq_true (by first | (with_reducible assumption) | assumption)
      obtain ⟨ad595, e595, hx595_0⟩ := Kd.qbB HR0.out x5_1 p595 q595
      have hw595_0 := hx595_0
      cases e595
      replace hx595_0 := (HB.out.cell (World.block_lt_of_cell? w _ hx595_0)).trans hx595_0
      replace p595 := eq_true p595
      replace q595 := eq_true q595
      refine qDC (n := 7) (S := fun w' => w'.cell? (ad595.add (x5_1).toNat) = some (.string (rdOf ByteArray.empty l0 x5_1))) (ds := []) #[false, false, false, false, false, false, false] (by kernel_rfl) rfl rfl (((HB.out.cell (World.block_lt_of_cell? w _ hw595_0)).trans hw595_0)) (fun hHeld => ?_)
      generalize wr.drew = w7 at HB hx595_0 hHeld ⊢
      refine pure_ (i := 0) (N := some 12) (v := ?_) (a' := ?_) #[true, false, false, false, false, false, false] rfl rfl (by kernel_rfl) (fun _ _ _ h => h) (Or.inl ⟨by rfl, ?_⟩) ?_ ?_
      rotate_left
      ·intro w'
       go_simp
       first | (with_reducible rfl) | (rw [if_neg (by simp only [ByteArray.size_extract, ByteArray.size_append] at * <;> omega)]; try with_reducible rfl)
      rotate_left
      ·simp only [Act.put, List.setIfInBounds_toArray, List.set_cons_zero, List.set_cons_succ, i64_w, i32_w]
       rfl
      refine pure_ (i := 1) (N := some 13) (v := ?_) (a' := ?_) #[true, true, false, false, false, false, false] rfl rfl (by kernel_rfl) (fun _ _ _ h => h) (Or.inl ⟨by rfl, ?_⟩) ?_ ?_
      rotate_left
      ·intro w'
       go_simp
       first | (with_reducible rfl) | (rw [if_neg (by simp only [ByteArray.size_extract, ByteArray.size_append] at * <;> omega)]; try with_reducible rfl)
      rotate_left
      ·simp only [Act.put, List.setIfInBounds_toArray, List.set_cons_zero, List.set_cons_succ, i64_w, i32_w]
       rfl
      refine pure_ (i := 2) (N := some 14) (v := ?_) (a' := ?_) #[true, true, true, false, false, false, false] rfl rfl (by kernel_rfl) (fun _ _ _ h => h) (Or.inl ⟨by rfl, ?_⟩) ?_ ?_
      rotate_left
      ·intro w'
       go_simp
       first | (with_reducible rfl) | (rw [if_neg (by simp only [ByteArray.size_extract, ByteArray.size_append] at * <;> omega)]; try with_reducible rfl)
      rotate_left
      ·simp only [Act.put, List.setIfInBounds_toArray, List.set_cons_zero, List.set_cons_succ, i64_w, i32_w]
       rfl
      refine pure_ (i := 4) (N := some 16) (v := ?_) (a' := ?_) #[true, true, true, false, true, false, false] rfl rfl (by kernel_rfl) (fun _ _ _ h => h) (Or.inl ⟨by rfl, ?_⟩) ?_ ?_
      rotate_left
      ·intro w'
       go_simp
       first | (with_reducible rfl) | (rw [if_neg (by simp only [ByteArray.size_extract, ByteArray.size_append] at * <;> omega)]; try with_reducible rfl)
      rotate_left
      ·simp only [Act.put, List.setIfInBounds_toArray, List.set_cons_zero, List.set_cons_succ, i64_w, i32_w]
       rfl
      refine take_ (i := 3) (N := some 15) (v := ?_) (a' := ?_) #[true, true, true, true, true, false, false] rfl rfl (by kernel_rfl) (fun _ _ _ h => h) (Or.inl ⟨by rfl, ?_⟩) hHeld ?_ ?_
      rotate_left
      ·intro w' s0
       go_simp
       first | (with_reducible rfl) | (rw [if_neg (by simp only [ByteArray.size_extract, ByteArray.size_append] at * <;> omega)]; try with_reducible rfl)
      rotate_left
      ·simp only [Act.put, List.setIfInBounds_toArray, List.set_cons_zero, List.set_cons_succ, i64_w, i32_w]
       rfl
      refine one_ (i := 5) (N := some 17) #[true, true, true, true, true, true, false] rfl rfl (by kernel_rfl) (by decide) (fun K hK => ?_)
      refine goes_ Tryd.func56 (by kernel_rfl) rfl #[.int .i64 x1_1] (by rfl) rfl rfl (by (try simp only [List.map_toArray, List.map_cons, List.map_nil]); first | done | rfl | (simp only [List.length_drop, List.length_take]; rfl)) ?_
      with_reducible refine (qiA.calls k1 x1_1 t596 _ A5.out).mono ?_
      rintro e w8 ⟨rfl, hb⟩
      refine ⟨_, rfl, ?_⟩
      have n0_ := Aside0.mk (qG bl hb)
      clear HB
      have HB := n0_
      clear n0_
      (try clear hb)
      (try clear hb2)
      (try clear hk)
      (try clear hi)
      refine hK.out _ _ (((HB.out.cell (World.block_lt_of_cell? w _ hw595_0)).trans hw595_0)) (fun hHeld => ?_)
      clear hK K
      refine norm_ (a' := ?_) ?_ ?_
      rotate_left
      ·show Act.put _ (some 17) _ = _
       simp only [Act.put, List.setIfInBounds_toArray, List.set_cons_zero, List.set_cons_succ, i64_w, i32_w]
       rfl
      refine pure_ (i := 6) (N := some 18) (v := ?_) (a' := ?_) #[true, true, true, true, true, true, true] rfl rfl (by kernel_rfl) (fun _ _ _ h => h) (Or.inl ⟨by rfl, ?_⟩) ?_ ?_
      rotate_left
      ·intro w'
       go_simp
       first | (with_reducible rfl) | (rw [if_neg (by simp only [ByteArray.size_extract, ByteArray.size_append] at * <;> omega)]; try with_reducible rfl)
      rotate_left
      ·simp only [Act.put, List.setIfInBounds_toArray, List.set_cons_zero, List.set_cons_succ, i64_w, i32_w]
       rfl
      refine done_ (by kernel_rfl) ?_
      try go_wp2
      go_roundg k1
      case measure => have := HK1.out; omega
      case rel => exact ⟨(wrap64 (x1_1 + 1)), (wrap64 (x5_1 + 1)), (by first | rfl | (simp; done) | (simp [*]; done)), (by first | rfl | (simp; done) | (simp [*]; done)), H', ⟨by have := HK1.out; omega⟩, ⟨bl⟩⟩
     ·rw [if_neg c6] at H
      have c6b0 : ((rdOf ByteArray.empty l0 x5_1).toList == t596.toList) = false := beq_eq_false_iff_ne.mpr c6
      have c6b1 : ((rdOf ByteArray.empty l0 x5_1).toList != t596.toList) = true := bne_iff_ne.mpr c6
      obtain rfl := Option.some.inj H
      try go_wp2
      have n0_ := Aside0.mk (qp HB.out)
      clear HB
      have HB := n0_
      clear n0_
      have p595 : 0 ≤ (x5_1 : Int) := of_decide_eq_true (by first | (with_reducible assumption) | assumption)
      have q595 : x5_1 < (l0.length : Int) := of_decide_eq_true (by first | (with_reducible assumption) | assumption)
      obtain ⟨ad595, e595, hx595_0⟩ := Kd.qbB HR0.out x5_1 p595 q595
      have hw595_0 := hx595_0
      cases e595
      replace hx595_0 := (HB.out.cell (World.block_lt_of_cell? w _ hx595_0)).trans hx595_0
      replace p595 := eq_true p595
      replace q595 := eq_true q595
      refine qDC (n := 7) (S := fun w' => w'.cell? (ad595.add (x5_1).toNat) = some (.string (rdOf ByteArray.empty l0 x5_1))) (ds := []) #[false, false, false, false, false, false, false] (by kernel_rfl) rfl rfl (((HB.out.cell (World.block_lt_of_cell? w _ hw595_0)).trans hw595_0)) (fun hHeld => ?_)
      generalize wr.drew = w9 at HB hx595_0 hHeld ⊢
      refine pure_ (i := 0) (N := some 12) (v := ?_) (a' := ?_) #[true, false, false, false, false, false, false] rfl rfl (by kernel_rfl) (fun _ _ _ h => h) (Or.inl ⟨by rfl, ?_⟩) ?_ ?_
      rotate_left
      ·intro w'
       go_simp
       first | (with_reducible rfl) | (rw [if_neg (by simp only [ByteArray.size_extract, ByteArray.size_append] at * <;> omega)]; try with_reducible rfl)
      rotate_left
      ·simp only [Act.put, List.setIfInBounds_toArray, List.set_cons_zero, List.set_cons_succ, i64_w, i32_w]
       rfl
      refine pure_ (i := 1) (N := some 13) (v := ?_) (a' := ?_) #[true, true, false, false, false, false, false] rfl rfl (by kernel_rfl) (fun _ _ _ h => h) (Or.inl ⟨by rfl, ?_⟩) ?_ ?_
      rotate_left
      ·intro w'
       go_simp
       first | (with_reducible rfl) | (rw [if_neg (by simp only [ByteArray.size_extract, ByteArray.size_append] at * <;> omega)]; try with_reducible rfl)
      rotate_left
      ·simp only [Act.put, List.setIfInBounds_toArray, List.set_cons_zero, List.set_cons_succ, i64_w, i32_w]
       rfl
      refine pure_ (i := 2) (N := some 14) (v := ?_) (a' := ?_) #[true, true, true, false, false, false, false] rfl rfl (by kernel_rfl) (fun _ _ _ h => h) (Or.inl ⟨by rfl, ?_⟩) ?_ ?_
      rotate_left
      ·intro w'
       go_simp
       first | (with_reducible rfl) | (rw [if_neg (by simp only [ByteArray.size_extract, ByteArray.size_append] at * <;> omega)]; try with_reducible rfl)
      rotate_left
      ·simp only [Act.put, List.setIfInBounds_toArray, List.set_cons_zero, List.set_cons_succ, i64_w, i32_w]
       rfl
      refine pure_ (i := 4) (N := some 16) (v := ?_) (a' := ?_) #[true, true, true, false, true, false, false] rfl rfl (by kernel_rfl) (fun _ _ _ h => h) (Or.inl ⟨by rfl, ?_⟩) ?_ ?_
      rotate_left
      ·intro w'
       go_simp
       first | (with_reducible rfl) | (rw [if_neg (by simp only [ByteArray.size_extract, ByteArray.size_append] at * <;> omega)]; try with_reducible rfl)
      rotate_left
      ·simp only [Act.put, List.setIfInBounds_toArray, List.set_cons_zero, List.set_cons_succ, i64_w, i32_w]
       rfl
      refine take_ (i := 3) (N := some 15) (v := ?_) (a' := ?_) #[true, true, true, true, true, false, false] rfl rfl (by kernel_rfl) (fun _ _ _ h => h) (Or.inl ⟨by rfl, ?_⟩) hHeld ?_ ?_
      rotate_left
      ·intro w' s0
       go_simp
       first | (with_reducible rfl) | (rw [if_neg (by simp only [ByteArray.size_extract, ByteArray.size_append] at * <;> omega)]; try with_reducible rfl)
      rotate_left
      ·simp only [Act.put, List.setIfInBounds_toArray, List.set_cons_zero, List.set_cons_succ, i64_w, i32_w]
       rfl
      refine one_ (i := 5) (N := some 17) #[true, true, true, true, true, true, false] rfl rfl (by kernel_rfl) (by decide) (fun K hK => ?_)
      refine goes_ Tryd.func56 (by kernel_rfl) rfl #[.int .i64 x1_1] (by rfl) rfl rfl (by (try simp only [List.map_toArray, List.map_cons, List.map_nil]); first | done | rfl | (simp only [List.length_drop, List.length_take]; rfl)) ?_
      with_reducible refine (qiA.calls k1 x1_1 t596 _ A5.out).mono ?_
      rintro e w10 ⟨rfl, hb⟩
      refine ⟨_, rfl, ?_⟩
      have n0_ := Aside0.mk (qG bl hb)
      clear HB
      have HB := n0_
      clear n0_
      (try clear hb)
      (try clear hb2)
      (try clear hk)
      (try clear hi)
      refine hK.out _ _ (((HB.out.cell (World.block_lt_of_cell? w _ hw595_0)).trans hw595_0)) (fun hHeld => ?_)
      clear hK K
      refine norm_ (a' := ?_) ?_ ?_
      rotate_left
      ·show Act.put _ (some 17) _ = _
       simp only [Act.put, List.setIfInBounds_toArray, List.set_cons_zero, List.set_cons_succ, i64_w, i32_w]
       rfl
      refine pure_ (i := 6) (N := some 18) (v := ?_) (a' := ?_) #[true, true, true, true, true, true, true] rfl rfl (by kernel_rfl) (fun _ _ _ h => h) (Or.inl ⟨by rfl, ?_⟩) ?_ ?_
      rotate_left
      ·intro w'
       go_simp
       first | (with_reducible rfl) | (rw [if_neg (by simp only [ByteArray.size_extract, ByteArray.size_append] at * <;> omega)]; try with_reducible rfl)
      rotate_left
      ·simp only [Act.put, List.setIfInBounds_toArray, List.set_cons_zero, List.set_cons_succ, i64_w, i32_w]
       rfl
      refine done_ (by kernel_rfl) ?_
      try go_wp2
      go_ret
      exact ⟨by first | rfl | (simp [qI, qH] <;> rfl) | (simp [*, qI, qH] <;> rfl), bl⟩
    ·rw [if_neg c4] at H
     exact absurd H (by simp)
   ·rw [if_neg c3] at H
    have c3b0 : decide (x5_1 < (l0.length : Int)) = false := decide_eq_false c3
    clear c3
    obtain rfl := Option.some.inj H
    go_wp2
    go_ret
    exact ⟨by first | rfl | (simp [qI, qH] <;> rfl) | (simp [*, qI, qH] <;> rfl), bl⟩
mutual
def qQ.j0 : Nat → ByteArray → List (S61) → List ByteArray → Bool → List (S57) → List ByteArray → Bool → Bool → Option (Bool)
 | 0, _, _, _, _, _, _, _, _ => none
 | k + 1, x0, x1, x6, x7, x8, x9, x10, x47 => if x47 = true then (some false) else ((qS.f k x1).bind fun t613 => ((qX.f k x8 t613).bind fun t616 => (if t616 = true then ((qj.f k x8 1).bind fun bt617 => (if bt617.1 < 0 then (qQ.j1 k x0 x1 x6 x7 x9 true) else ((qCA.f k x9 x6).bind fun t619 => (if t619 = true then (qQ.j1 k x0 x1 x6 x7 x9 (x10 != x7)) else (qQ.j1 k x0 x1 x6 x7 x9 true))))) else (some false))))
def qQ.j1 : Nat → ByteArray → List (S61) → List ByteArray → Bool → List ByteArray → Bool → Option (Bool)
 | 0, _, _, _, _, _, _ => none
 | k + 1, x0, x1, x6, x7, x9, x68 => if x68 = true then (some false) else ((qaA.f k x9 1).bind fun bt620 => ((qQA.f k bt620.2 1).bind fun t622 => (if t622 < 0 then (some false) else (if t622 = bt620.1 then ((qS.f k x1).bind fun t623 => ((qlA.f k x0 t623).bind fun bt626 => ((qCA.f k bt626.1 x6).bind fun t630 => (if t630 = true then (qQ.j2 k bt620.2 bt620.1 (bt626.2 != x7)) else (qQ.j2 k bt620.2 bt620.1 true))))) else (some false)))))
def qQ.j2 : Nat → List ByteArray → Int → Bool → Option (Bool)
 | 0, _, _, _ => none
 | k + 1, x9, x12, x95 => if x95 = true then (some false) else ((qQA.f k x9 1).bind fun t631 => (if t631 < 0 then (some false) else (if t631 = x12 then (some true) else (some false))))
end
def qQ.f (k : Nat) (a0 : ByteArray) (l1 : List (S61)) : Option (Bool) := if (a0.size : Int) > 1048576 then (some true) else ((qSA.f l1 1048576).bind fun t597 => (if t597 < 0 then (some true) else ((qS.f k l1).bind fun t598 => ((qFA.f k a0 t598).bind fun bt601 => ((qS.f k l1).bind fun t605 => ((qlA.f k a0 t605).bind fun bt608 => ((qCA.f k bt608.1 bt601.1).bind fun t612 => (if t612 = true then (qQ.j0 k a0 l1 bt601.1 bt601.2 t605 bt608.1 bt608.2 (bt608.2 != bt601.2)) else (qQ.j0 k a0 l1 bt601.1 bt601.2 t605 bt608.1 bt608.2 true)))))))))
set_option maxHeartbeats 8000000 in
set_option maxRecDepth 100000 in
theorem qQ.calls (k : Nat) (a0 : ByteArray) (A1 : Option Addr) (c1 : Nat) (l1 : List (S61)) (r : Bool) (w : World) (hr1 : Kd.C k61 w A1 l1.length l1) (hc1 : l1.length ≤ c1) (hL : Laid w) (h : qQ.f k a0 l1 = some r) :
  Calls Tryd.prog 8 #[.string a0, .slice A1 l1.length c1] w fun e w' => e = .returned (.bool r) ∧ Below w.heap.size w w' := by
 have HR1 := Aside0.mk hr1
 have HC1 := Aside0.mk hc1
 clear hr1 hc1
 have HLD := Aside0.mk hL
 clear hL
 have HB := Aside0.mk (Below.refl w.heap.size w)
 have H : (if (a0.size : Int) > 1048576 then (some true) else ((qSA.f l1 1048576).bind fun t597 => (if t597 < 0 then (some true) else ((qS.f k l1).bind fun t598 => ((qFA.f k a0 t598).bind fun bt601 => ((qS.f k l1).bind fun t605 => ((qlA.f k a0 t605).bind fun bt608 => ((qCA.f k bt608.1 bt601.1).bind fun t612 => (if t612 = true then (qQ.j0 k a0 l1 bt601.1 bt601.2 t605 bt608.1 bt608.2 (bt608.2 != bt601.2)) else (qQ.j0 k a0 l1 bt601.1 bt601.2 t605 bt608.1 bt608.2 true)))))))))) = some r := h
 clear h
 by_cases c3 : (a0.size : Int) > 1048576
 ·rw [if_pos c3] at H
  have c3b0 : decide (1048576 < (a0.size : Int)) = true := decide_eq_true c3
  have c3b1 : decide (1048576 < a0.size) = true := decide_eq_true (by omega)
  clear c3
  obtain rfl := Option.some.inj H
  go_enter Tryd.func8, Tryd.ntmps8
  go_wp2
  go_ret
  exact ⟨by first | rfl | (simp [qI, qH] <;> rfl) | (simp [*, qI, qH] <;> rfl), bl⟩
 ·rw [if_neg c3] at H
  have c3b0 : decide (1048576 < (a0.size : Int)) = false := decide_eq_false c3
  have c3b1 : decide (1048576 < a0.size) = false := decide_eq_false (by omega)
  clear c3
  replace H := Option.bind_eq_some_iff.mp H
  obtain ⟨t597, A40, H⟩ := H
  replace H : (if t597 < 0 then (some true) else ((qS.f k l1).bind fun t598 => ((qFA.f k a0 t598).bind fun bt601 => ((qS.f k l1).bind fun t605 => ((qlA.f k a0 t605).bind fun bt608 => ((qCA.f k bt608.1 bt601.1).bind fun t612 => (if t612 = true then (qQ.j0 k a0 l1 bt601.1 bt601.2 t605 bt608.1 bt608.2 (bt608.2 != bt601.2)) else (qQ.j0 k a0 l1 bt601.1 bt601.2 t605 bt608.1 bt608.2 true)))))))) = some r := H
  have A4 := Aside0.mk A40
  clear A40
  by_cases c5 : t597 < 0
  ·rw [if_pos c5] at H
   have c5b0 : decide (t597 < 0) = true := decide_eq_true c5
   clear c5
   obtain rfl := Option.some.inj H
   go_enter Tryd.func8, Tryd.ntmps8
   go_wp2_with (first | ((with_reducible refine qL (f := 11) rfl ?_); refine qh (some 21) rfl rfl Tryd.func11 (by kernel_rfl) rfl #[.slice A1 l1.length c1, .int .i64 1048576] rfl (by (try simp only [List.map_toArray, List.map_cons, List.map_nil]); first | done | rfl | (simp only [List.length_drop, List.length_take]; rfl)) ?_; (with_reducible refine (qSA.calls _ _ l1 1048576 t597 _ ?side1 ?side2 A4.out).mono ?_); (case side1 => repeat (first | exact HR1.out | (with_reducible refine Kd.qa ?_ _) | (with_reducible refine Kd.qZ ?_ _) | (with_reducible refine Kd.qe ?_))); (case side2 => exact HC1.out); rintro e w' ⟨rfl, ⟨nd, rfl⟩⟩; refine ⟨_, rfl, ?_⟩))
   go_ret
   exact ⟨by first | rfl | (simp [qI, qH] <;> rfl) | (simp [*, qI, qH] <;> rfl), bl⟩
  ·rw [if_neg c5] at H
   have c5b0 : decide (t597 < 0) = false := decide_eq_false c5
   clear c5
   replace H := Option.bind_eq_some_iff.mp H
   obtain ⟨t598, A60, H⟩ := H
   replace H : ((qFA.f k a0 t598).bind fun bt601 => ((qS.f k l1).bind fun t605 => ((qlA.f k a0 t605).bind fun bt608 => ((qCA.f k bt608.1 bt601.1).bind fun t612 => (if t612 = true then (qQ.j0 k a0 l1 bt601.1 bt601.2 t605 bt608.1 bt608.2 (bt608.2 != bt601.2)) else (qQ.j0 k a0 l1 bt601.1 bt601.2 t605 bt608.1 bt608.2 true)))))) = some r := H
   have A6 := Aside0.mk A60
   clear A60
   replace H := Option.bind_eq_some_iff.mp H
   obtain ⟨⟨t601, t602⟩, A70, H⟩ := H
   replace H : ((qS.f k l1).bind fun t605 => ((qlA.f k a0 t605).bind fun bt608 => ((qCA.f k bt608.1 t601).bind fun t612 => (if t612 = true then (qQ.j0 k a0 l1 t601 t602 t605 bt608.1 bt608.2 (bt608.2 != t602)) else (qQ.j0 k a0 l1 t601 t602 t605 bt608.1 bt608.2 true))))) = some r := H
   have A7 := Aside0.mk A70
   clear A70
   replace H := Option.bind_eq_some_iff.mp H
   obtain ⟨t605, A80, H⟩ := H
   replace H : ((qlA.f k a0 t605).bind fun bt608 => ((qCA.f k bt608.1 t601).bind fun t612 => (if t612 = true then (qQ.j0 k a0 l1 t601 t602 t605 bt608.1 bt608.2 (bt608.2 != t602)) else (qQ.j0 k a0 l1 t601 t602 t605 bt608.1 bt608.2 true)))) = some r := H
   have A8 := Aside0.mk A80
   clear A80
   replace H := Option.bind_eq_some_iff.mp H
   obtain ⟨⟨t608, t609⟩, A90, H⟩ := H
   replace H : ((qCA.f k t608 t601).bind fun t612 => (if t612 = true then (qQ.j0 k a0 l1 t601 t602 t605 t608 t609 (t609 != t602)) else (qQ.j0 k a0 l1 t601 t602 t605 t608 t609 true))) = some r := H
   have A9 := Aside0.mk A90
   clear A90
   have HC10 := Aside0.mk H
   clear H
   go_enter Tryd.func8, Tryd.ntmps8
   go_upto_region 10 with (first | ((with_reducible refine qL (f := 11) rfl ?_); refine qh (some 21) rfl rfl Tryd.func11 (by kernel_rfl) rfl #[.slice A1 l1.length c1, .int .i64 1048576] rfl (by (try simp only [List.map_toArray, List.map_cons, List.map_nil]); first | done | rfl | (simp only [List.length_drop, List.length_take]; rfl)) ?_; (with_reducible refine (qSA.calls _ _ l1 1048576 t597 _ ?side1 ?side2 A4.out).mono ?_); (case side1 => repeat (first | exact HR1.out | (with_reducible refine Kd.qa ?_ _) | (with_reducible refine Kd.qZ ?_ _) | (with_reducible refine Kd.qe ?_))); (case side2 => exact HC1.out); rintro e w' ⟨rfl, ⟨nd, rfl⟩⟩; refine ⟨_, rfl, ?_⟩) | ((with_reducible refine qL (f := 13) rfl ?_); refine qh (some 27) rfl rfl Tryd.func13 (by kernel_rfl) rfl #[.slice A1 l1.length c1] rfl (by (try simp only [List.map_toArray, List.map_cons, List.map_nil]); first | done | rfl | (simp only [List.length_drop, List.length_take]; rfl)) ?_; (with_reducible refine (qS.calls k _ _ l1 t598 _ ?side1 ?side2 A6.out).mono ?_); (case side1 => repeat (first | exact HR1.out | (with_reducible refine Kd.qa ?_ _) | (with_reducible refine Kd.qZ ?_ _) | (with_reducible refine Kd.qe ?_))); (case side2 => exact HC1.out); rintro e w11 ⟨v599, rfl, ho0, hb⟩; refine ⟨_, rfl, ?_⟩; have n0_ := Aside0.mk (Kd.qDA ho0 (qb bl)); have n1_ := Aside0.mk (qG bl hb); clear HB; have HO600 := n0_; have HB := n1_; clear n0_ n1_; (try clear hb); (try clear hb2); (try clear hk); (try clear hi); (try clear ho0); obtain ⟨Ao12, co12, eo12⟩ := Kd.qt HO600.out; subst eo12) | ((with_reducible refine qL (f := 29) rfl ?_); refine qh (some 28) rfl rfl Tryd.func29 (by kernel_rfl) rfl #[.string a0, .slice Ao12 t598.length co12] rfl (by (try simp only [List.map_toArray, List.map_cons, List.map_nil]); first | done | rfl | (simp only [List.length_drop, List.length_take]; rfl)) ?_; (with_reducible refine (qFA.calls k a0 _ _ t598 t601 t602 _ ?side1 ?side2 A7.out).mono ?_); (case side1 => repeat (first | exact (Kd.qM HO600.out).2.2 | (with_reducible refine Kd.qa ?_ _) | (with_reducible refine Kd.qZ ?_ _) | (with_reducible refine Kd.qe ?_))); (case side2 => exact (Kd.qM HO600.out).2.1); rintro e w13 ⟨v603, rfl, ho0, hb⟩; refine ⟨_, rfl, ?_⟩; have n0_ := Aside0.mk (Kd.qc (by (with_reducible repeat (first | apply Kd.qK | apply Kd.qJ | apply Kd.qO)); exact HO600.out) hb); have n1_ := Aside0.mk (Kd.qDA ho0 (qb bl)); have n2_ := Aside0.mk (qG bl hb); clear HO600; clear HB; have HO600 := n0_; have HO604 := n1_; have HB := n2_; clear n0_ n1_ n2_; (try clear hb); (try clear hb2); (try clear hk); (try clear hi); (try clear ho0)) | ((with_reducible refine qL (f := 13) rfl ?_); refine qh (some 32) rfl rfl Tryd.func13 (by kernel_rfl) rfl #[.slice A1 l1.length c1] rfl (by (try simp only [List.map_toArray, List.map_cons, List.map_nil]); first | done | rfl | (simp only [List.length_drop, List.length_take]; rfl)) ?_; (with_reducible refine (qS.calls k _ _ l1 t605 _ ?side1 ?side2 A8.out).mono ?_); (case side1 => repeat (first | exact (Kd.qWA HR1.out HB.out) | (with_reducible refine Kd.qa ?_ _) | (with_reducible refine Kd.qZ ?_ _) | (with_reducible refine Kd.qe ?_))); (case side2 => exact HC1.out); rintro e w14 ⟨v606, rfl, ho0, hb⟩; refine ⟨_, rfl, ?_⟩; have n0_ := Aside0.mk (Kd.qYA (by (with_reducible repeat (first | apply Kd.qK | apply Kd.qJ | apply Kd.qO)); exact HO600.out) (Kd.qnA ho0) hb); have n1_ := Aside0.mk (Kd.qc (by (with_reducible repeat (first | apply Kd.qK | apply Kd.qJ | apply Kd.qO)); exact HO604.out) hb); have n2_ := Aside0.mk (Kd.qDA (Kd.qmA ho0 (Kd.R_lt (by (with_reducible repeat (first | apply Kd.qK | apply Kd.qJ | apply Kd.qO)); exact HO600.out))) (qb bl)); have n3_ := Aside0.mk (qG bl hb); clear HO600; clear HO604; clear HB; have HO600 := n0_; have HO604 := n1_; have HO607 := n2_; have HB := n3_; clear n0_ n1_ n2_ n3_; (try clear hb); (try clear hb2); (try clear hk); (try clear hi); (try clear ho0); obtain ⟨Ao15, co15, eo15⟩ := Kd.qt HO607.out; subst eo15) | ((with_reducible refine qL (f := 30) rfl ?_); refine qh (some 36) rfl rfl Tryd.func30 (by kernel_rfl) rfl #[.string a0, .slice Ao15 t605.length co15] rfl (by (try simp only [List.map_toArray, List.map_cons, List.map_nil]); first | done | rfl | (simp only [List.length_drop, List.length_take]; rfl)) ?_; (with_reducible refine (qlA.calls k a0 _ _ t605 t608 t609 _ ?side1 ?side2 ?side3 A9.out).mono ?_); (case side1 => repeat (first | exact (Kd.qM HO607.out).2.2 | (with_reducible refine Kd.qa ?_ _) | (with_reducible refine Kd.qZ ?_ _) | (with_reducible refine Kd.qe ?_))); (case side2 => exact (Kd.qM HO607.out).2.1); (case side3 => first | exact HLD.out | exact Laid.below HLD.out (by repeat (first | (with_reducible first | exact HB.out | apply qAA | apply qo | apply qp | refine qMA ?_ (Aside0.out (by with_reducible assumption))) | exact HB.out))); rintro e w16 ⟨v610, rfl, ho0, hb⟩; refine ⟨_, rfl, ?_⟩; have n0_ := Aside0.mk (Kd.qc (by (with_reducible repeat (first | apply Kd.qK | apply Kd.qJ | apply Kd.qO)); exact HO600.out) hb); have n1_ := Aside0.mk (Kd.qYA (by (with_reducible repeat (first | apply Kd.qK | apply Kd.qJ | apply Kd.qO)); exact HO604.out) (Kd.qnA ho0) hb); have n2_ := Aside0.mk (Kd.qc (by (with_reducible repeat (first | apply Kd.qK | apply Kd.qJ | apply Kd.qO)); exact HO607.out) hb); have n3_ := Aside0.mk (Kd.qDA (Kd.qmA ho0 (Kd.R_lt (by (with_reducible repeat (first | apply Kd.qK | apply Kd.qJ | apply Kd.qO)); exact HO604.out))) (qb bl)); have n4_ := Aside0.mk (qG bl hb); clear HO600; clear HO604; clear HO607; clear HB; have HO600 := n0_; have HO604 := n1_; have HO607 := n2_; have HO611 := n3_; have HB := n4_; clear n0_ n1_ n2_ n3_ n4_; (try clear hb); (try clear hb2); (try clear hk); (try clear hi); (try clear ho0)))
   (try simp only [Act.put, List.setIfInBounds_toArray, List.set_cons_zero, List.set_cons_succ])
   go_cut [47] (fun v47 wc => ∃ (kq : Nat) (x47_9 : Bool), v47 = .bool x47_9 ∧ Aside0 (qQ.j0 kq a0 l1 t601 t602 t605 t608 t609 x47_9 = some r) ∧ Aside0 (kq ≤ k) ∧ Aside0 (Kd.R Kd.string 9 wc w.heap.size (fun k_ => some k_ ≠ (v610 : Value).ownBlock) v603 t601) ∧ Aside0 (Kd.R k57 57 wc w.heap.size (fun _ => True) (.slice Ao15 t605.length co15) t605) ∧ Aside0 (Kd.R Kd.string 9 wc w.heap.size (fun k_ => some k_ ≠ (v603 : Value).ownBlock) v610 t608) ∧ Aside0 (Below w.heap.size w wc))
   case first =>
    have H := HC10.out
    clear HC10
    replace H := Option.bind_eq_some_iff.mp H
    obtain ⟨t612, A170, H⟩ := H
    replace H : (if t612 = true then (qQ.j0 k a0 l1 t601 t602 t605 t608 t609 (t609 != t602)) else (qQ.j0 k a0 l1 t601 t602 t605 t608 t609 true)) = some r := H
    have A17 := Aside0.mk A170
    clear A170
    by_cases c18 : t612 = true
    ·subst c18
     have H1 : (qQ.j0 k a0 l1 t601 t602 t605 t608 t609 (t609 != t602)) = some r := by rw [if_pos rfl] at H; exact H
     clear H
     have H := H1
     clear H1
     have H' := Aside0.mk H
     clear H
     obtain ⟨Ao19, co19, eo19⟩ := Kd.qt HO611.out
     subst eo19
     obtain ⟨Ao20, co20, eo20⟩ := Kd.qt HO604.out
     subst eo20
     go_wp2_with (first | ((with_reducible refine qL (f := 31) rfl ?_); refine qh (some 41) rfl rfl Tryd.func31 (by kernel_rfl) rfl #[.slice Ao19 t608.length co19, .slice Ao20 t601.length co20] rfl (by (try simp only [List.map_toArray, List.map_cons, List.map_nil]); first | done | rfl | (simp only [List.length_drop, List.length_take]; rfl)) ?_; (with_reducible refine (qCA.calls k _ _ t608 _ _ t601 true _ ?side1 ?side2 ?side3 ?side4 A17.out).mono ?_); (case side1 => repeat (first | exact (Kd.qM HO611.out).2.2 | (with_reducible refine Kd.qa ?_ _) | (with_reducible refine Kd.qZ ?_ _) | (with_reducible refine Kd.qe ?_))); (case side2 => exact (Kd.qM HO611.out).2.1); (case side3 => repeat (first | exact (Kd.qM HO604.out).2.2 | (with_reducible refine Kd.qa ?_ _) | (with_reducible refine Kd.qZ ?_ _) | (with_reducible refine Kd.qe ?_))); (case side4 => exact (Kd.qM HO604.out).2.1); rintro e w' ⟨rfl, ⟨nd, rfl⟩⟩; refine ⟨_, rfl, ?_⟩))
     go_meet
     case rel => exact ⟨_, ((t609 != t602)), (by first | rfl | (simp; done) | (simp [*]; done)), H', ⟨by first | omega | exact Nat.le_refl _⟩, ⟨by (with_reducible repeat (first | apply Kd.qK | apply Kd.qJ | apply Kd.qO)); exact Kd.qGA HO604.out (fun _ hk => hk.2)⟩, ⟨by (with_reducible repeat (first | apply Kd.qK | apply Kd.qJ | apply Kd.qO)); exact Kd.qGA HO607.out (fun _ hk => trivial)⟩, ⟨by (with_reducible repeat (first | apply Kd.qK | apply Kd.qJ | apply Kd.qO)); exact Kd.qGA HO611.out (fun _ hk => hk.2)⟩, ⟨bl⟩⟩
    ·replace c18 := Bool.eq_false_iff.mpr c18
     subst c18
     have H1 : (qQ.j0 k a0 l1 t601 t602 t605 t608 t609 true) = some r := by rw [if_neg (show ¬ (false = true) by decide)] at H; exact H
     clear H
     have H := H1
     clear H1
     have H' := Aside0.mk H
     clear H
     obtain ⟨Ao21, co21, eo21⟩ := Kd.qt HO611.out
     subst eo21
     obtain ⟨Ao22, co22, eo22⟩ := Kd.qt HO604.out
     subst eo22
     go_wp2_with (first | ((with_reducible refine qL (f := 31) rfl ?_); refine qh (some 41) rfl rfl Tryd.func31 (by kernel_rfl) rfl #[.slice Ao21 t608.length co21, .slice Ao22 t601.length co22] rfl (by (try simp only [List.map_toArray, List.map_cons, List.map_nil]); first | done | rfl | (simp only [List.length_drop, List.length_take]; rfl)) ?_; (with_reducible refine (qCA.calls k _ _ t608 _ _ t601 false _ ?side1 ?side2 ?side3 ?side4 A17.out).mono ?_); (case side1 => repeat (first | exact (Kd.qM HO611.out).2.2 | (with_reducible refine Kd.qa ?_ _) | (with_reducible refine Kd.qZ ?_ _) | (with_reducible refine Kd.qe ?_))); (case side2 => exact (Kd.qM HO611.out).2.1); (case side3 => repeat (first | exact (Kd.qM HO604.out).2.2 | (with_reducible refine Kd.qa ?_ _) | (with_reducible refine Kd.qZ ?_ _) | (with_reducible refine Kd.qe ?_))); (case side4 => exact (Kd.qM HO604.out).2.1); rintro e w' ⟨rfl, ⟨nd, rfl⟩⟩; refine ⟨_, rfl, ?_⟩))
     go_meet
     case rel => exact ⟨_, (true), (by first | rfl | (simp; done) | (simp [*]; done)), H', ⟨by first | omega | exact Nat.le_refl _⟩, ⟨by (with_reducible repeat (first | apply Kd.qK | apply Kd.qJ | apply Kd.qO)); exact Kd.qGA HO604.out (fun _ hk => hk.2)⟩, ⟨by (with_reducible repeat (first | apply Kd.qK | apply Kd.qJ | apply Kd.qO)); exact Kd.qGA HO607.out (fun _ hk => trivial)⟩, ⟨by (with_reducible repeat (first | apply Kd.qK | apply Kd.qJ | apply Kd.qO)); exact Kd.qGA HO611.out (fun _ hk => hk.2)⟩, ⟨bl⟩⟩
   case rest =>
    clear HC10
    try clear c1
    try clear c2
    try clear p2
    try clear c3
    try clear c3b0
    try clear c3b1
    try clear c5
    try clear c5b0
    try clear c8
    try clear c11
    try clear c13
    try clear c18
    obtain ⟨kq, x47_9, rfl, HA, HJ9, HO_6, HO_8, HO_9, HB⟩ := hcut
    cases kq with
    | zero => exact absurd HA.out (by simp [qQ.j0])
    | succ kj9 =>
     have H := HA.out
     clear HA
     simp only [qQ.j0] at H
     by_cases c23 : x47_9 = true
     ·subst c23
      have H1 : (some false) = some r := by rw [if_pos rfl] at H; exact H
      clear H
      have H := H1
      clear H1
      obtain rfl := Option.some.inj H
      go_wp2
      go_ret
      exact ⟨by first | rfl | (simp [qI, qH] <;> rfl) | (simp [*, qI, qH] <;> rfl), bl⟩
     ·replace c23 := Bool.eq_false_iff.mpr c23
      subst c23
      have H1 : ((qS.f kj9 l1).bind fun t613 => ((qX.f kj9 t605 t613).bind fun t616 => (if t616 = true then ((qj.f kj9 t605 1).bind fun bt617 => (if bt617.1 < 0 then (qQ.j1 kj9 a0 l1 t601 t602 t608 true) else ((qCA.f kj9 t608 t601).bind fun t619 => (if t619 = true then (qQ.j1 kj9 a0 l1 t601 t602 t608 (t609 != t602)) else (qQ.j1 kj9 a0 l1 t601 t602 t608 true))))) else (some false)))) = some r := by rw [if_neg (show ¬ (false = true) by decide)] at H; exact H
      clear H
      have H := H1
      clear H1
      replace H := Option.bind_eq_some_iff.mp H
      obtain ⟨t613, A240, H⟩ := H
      replace H : ((qX.f kj9 t605 t613).bind fun t616 => (if t616 = true then ((qj.f kj9 t605 1).bind fun bt617 => (if bt617.1 < 0 then (qQ.j1 kj9 a0 l1 t601 t602 t608 true) else ((qCA.f kj9 t608 t601).bind fun t619 => (if t619 = true then (qQ.j1 kj9 a0 l1 t601 t602 t608 (t609 != t602)) else (qQ.j1 kj9 a0 l1 t601 t602 t608 true))))) else (some false))) = some r := H
      have A24 := Aside0.mk A240
      clear A240
      replace H := Option.bind_eq_some_iff.mp H
      obtain ⟨t616, A250, H⟩ := H
      replace H : (if t616 = true then ((qj.f kj9 t605 1).bind fun bt617 => (if bt617.1 < 0 then (qQ.j1 kj9 a0 l1 t601 t602 t608 true) else ((qCA.f kj9 t608 t601).bind fun t619 => (if t619 = true then (qQ.j1 kj9 a0 l1 t601 t602 t608 (t609 != t602)) else (qQ.j1 kj9 a0 l1 t601 t602 t608 true))))) else (some false)) = some r := H
      have A25 := Aside0.mk A250
      clear A250
      by_cases c26 : t616 = true
      ·subst c26
       have H1 : ((qj.f kj9 t605 1).bind fun bt617 => (if bt617.1 < 0 then (qQ.j1 kj9 a0 l1 t601 t602 t608 true) else ((qCA.f kj9 t608 t601).bind fun t619 => (if t619 = true then (qQ.j1 kj9 a0 l1 t601 t602 t608 (t609 != t602)) else (qQ.j1 kj9 a0 l1 t601 t602 t608 true))))) = some r := by rw [if_pos rfl] at H; exact H
       clear H
       have H := H1
       clear H1
       replace H := Option.bind_eq_some_iff.mp H
       obtain ⟨⟨t617, t618⟩, A270, H⟩ := H
       replace H : (if t617 < 0 then (qQ.j1 kj9 a0 l1 t601 t602 t608 true) else ((qCA.f kj9 t608 t601).bind fun t619 => (if t619 = true then (qQ.j1 kj9 a0 l1 t601 t602 t608 (t609 != t602)) else (qQ.j1 kj9 a0 l1 t601 t602 t608 true)))) = some r := H
       have A27 := Aside0.mk A270
       clear A270
       have HC28 := Aside0.mk H
       clear H
       go_upto_region 16 with (first | ((with_reducible refine qL (f := 13) rfl ?_); refine qh (some 50) rfl rfl Tryd.func13 (by kernel_rfl) rfl #[.slice A1 l1.length c1] rfl (by (try simp only [List.map_toArray, List.map_cons, List.map_nil]); first | done | rfl | (simp only [List.length_drop, List.length_take]; rfl)) ?_; (with_reducible refine (qS.calls kj9 _ _ l1 t613 _ ?side1 ?side2 A24.out).mono ?_); (case side1 => repeat (first | exact (Kd.qWA HR1.out HB.out) | (with_reducible refine Kd.qa ?_ _) | (with_reducible refine Kd.qZ ?_ _) | (with_reducible refine Kd.qe ?_))); (case side2 => exact HC1.out); rintro e w29 ⟨v614, rfl, ho0, hb⟩; refine ⟨_, rfl, ?_⟩; have n0_ := Aside0.mk (Kd.qc (by (with_reducible repeat (first | apply Kd.qK | apply Kd.qJ | apply Kd.qO)); exact HO_6.out) hb); have n1_ := Aside0.mk (Kd.qYA (by (with_reducible repeat (first | apply Kd.qK | apply Kd.qJ | apply Kd.qO)); exact HO_8.out) (Kd.qnA ho0) hb); have n2_ := Aside0.mk (Kd.qc (by (with_reducible repeat (first | apply Kd.qK | apply Kd.qJ | apply Kd.qO)); exact HO_9.out) hb); have n3_ := Aside0.mk (Kd.qDA (Kd.qmA ho0 (Kd.R_lt (by (with_reducible repeat (first | apply Kd.qK | apply Kd.qJ | apply Kd.qO)); exact HO_8.out))) (qb bl)); have n4_ := Aside0.mk (qG bl hb); clear HO_6; clear HO_8; clear HO_9; clear HB; have HO_6 := n0_; have HO_8 := n1_; have HO_9 := n2_; have HO615 := n3_; have HB := n4_; clear n0_ n1_ n2_ n3_ n4_; (try clear hb); (try clear hb2); (try clear hk); (try clear hi); (try clear ho0); obtain ⟨Ao30, co30, eo30⟩ := Kd.qt HO615.out; subst eo30) | ((with_reducible refine qL (f := 15) rfl ?_); refine qh (some 51) rfl rfl Tryd.func15 (by kernel_rfl) rfl #[.slice Ao15 t605.length co15, .slice Ao30 t613.length co30] rfl (by (try simp only [List.map_toArray, List.map_cons, List.map_nil]); first | done | rfl | (simp only [List.length_drop, List.length_take]; rfl)) ?_; (with_reducible refine (qX.calls kj9 _ _ t605 _ _ t613 true _ ?side1 ?side2 ?side3 ?side4 A25.out).mono ?_); (case side1 => repeat (first | exact (Kd.qM HO_8.out).2.2 | (with_reducible refine Kd.qa ?_ _) | (with_reducible refine Kd.qZ ?_ _) | (with_reducible refine Kd.qe ?_))); (case side2 => exact (Kd.qM HO_8.out).2.1); (case side3 => repeat (first | exact (Kd.qM HO615.out).2.2 | (with_reducible refine Kd.qa ?_ _) | (with_reducible refine Kd.qZ ?_ _) | (with_reducible refine Kd.qe ?_))); (case side4 => exact (Kd.qM HO615.out).2.1); rintro e w31 ⟨rfl, hb⟩; refine ⟨_, rfl, ?_⟩; have n0_ := Aside0.mk (Kd.qc (by (with_reducible repeat (first | apply Kd.qK | apply Kd.qJ | apply Kd.qO)); exact HO_6.out) hb); have n1_ := Aside0.mk (Kd.qc (by (with_reducible repeat (first | apply Kd.qK | apply Kd.qJ | apply Kd.qO)); exact HO_8.out) hb); have n2_ := Aside0.mk (Kd.qc (by (with_reducible repeat (first | apply Kd.qK | apply Kd.qJ | apply Kd.qO)); exact HO_9.out) hb); have n3_ := Aside0.mk (Kd.qc (by (with_reducible repeat (first | apply Kd.qK | apply Kd.qJ | apply Kd.qO)); exact HO615.out) hb); have n4_ := Aside0.mk (qG bl hb); clear HO_6; clear HO_8; clear HO_9; clear HO615; clear HB; have HO_6 := n0_; have HO_8 := n1_; have HO_9 := n2_; have HO615 := n3_; have HB := n4_; clear n0_ n1_ n2_ n3_ n4_; (try clear hb); (try clear hb2); (try clear hk); (try clear hi)) | ((with_reducible refine qL (f := 22) rfl ?_); refine qh (some 55) rfl rfl Tryd.func22 (by kernel_rfl) rfl #[.slice Ao15 t605.length co15, .int .i64 1] rfl (by (try simp only [List.map_toArray, List.map_cons, List.map_nil]); first | done | rfl | (simp only [List.length_drop, List.length_take]; rfl)) ?_; (with_reducible refine (qj.calls kj9 (fun k_ => some k_ = (.slice Ao15 t605.length co15 : Value).ownBlock) (.slice Ao15 t605.length co15) t605 1 t617 t618 w _ ?side1 ?side2 A27.out).mono ?_); (case side1 => repeat (first | (with_reducible first | exact HB.out | apply qAA | apply qo | apply qp) | exact HB.out)); (case side2 => exact Kd.qrB rfl HO_8.out); rintro e w32 ⟨rfl, hy0, hb, hkp⟩; refine ⟨_, rfl, ?_⟩; have n0_ := Aside0.mk (Kd.qGA (ok' := fun k_ => some k_ ≠ (v610 : Value).ownBlock) (Kd.qRB ((Kd.qRD HO_6.out (Kd.qXC HO_8.out) (by decide))) hkp (fun k_ hk_ hs_ => (hk_.2) hs_)) (fun k_ hk_ => hk_.1.1)); have n1_ := Aside0.mk (Kd.qOC rfl hy0 (fun k_ e_ => HO_8.out.1 k_ e_)); have n2_ := Aside0.mk (Kd.qGA (ok' := fun k_ => some k_ ≠ (v603 : Value).ownBlock) (Kd.qRB ((Kd.qRD HO_9.out (Kd.qXC HO_8.out) (by decide))) hkp (fun k_ hk_ hs_ => (hk_.2) hs_)) (fun k_ hk_ => hk_.1.1)); have n3_ := Aside0.mk (Kd.qGA (ok' := fun k_ => some k_ ≠ (.slice Ao15 t605.length co15 : Value).ownBlock) (Kd.qRB (HO615.out) hkp (fun k_ hk_ hs_ => (hk_.2) hs_)) (fun k_ hk_ => hk_.1.2)); have n4_ := Aside0.mk (hb); clear HO_6; clear HO_8; clear HO_9; clear HO615; clear HB; have HO_6 := n0_; have HO_8 := n1_; have HO_9 := n2_; have HO615 := n3_; have HB := n4_; clear n0_ n1_ n2_ n3_ n4_; (try clear hb); (try clear hkp); (try clear hy0)))
       (try simp only [Act.put, List.setIfInBounds_toArray, List.set_cons_zero, List.set_cons_succ])
       go_cut [68] (fun v68 wc => ∃ (kq : Nat) (x68_27 : Bool), v68 = .bool x68_27 ∧ Aside0 (qQ.j1 kq a0 l1 t601 t602 t608 x68_27 = some r) ∧ Aside0 (kq ≤ kj9) ∧ Aside0 (Kd.R Kd.string 9 wc w.heap.size (fun k_ => some k_ ≠ (v610 : Value).ownBlock) v603 t601) ∧ Aside0 (Kd.R Kd.string 9 wc w.heap.size (fun k_ => some k_ ≠ (v603 : Value).ownBlock) v610 t608) ∧ Aside0 (Below w.heap.size w wc))
       case first =>
        have H := HC28.out
        clear HC28
        by_cases c33 : t617 < 0
        ·rw [if_pos c33] at H
         have c33b0 : decide (t617 < 0) = true := decide_eq_true c33
         clear c33
         (first | rw [c33b0] | (simp only [i64_w, i32_w]; rw [c33b0]) | skip)
         have H' := Aside0.mk H
         clear H
         go_wp2
         go_meet
         case rel => exact ⟨_, (true), (by first | rfl | (simp; done) | (simp [*]; done)), H', ⟨by have := HJ9.out; first | omega | exact Nat.le_refl _⟩, ⟨by (with_reducible repeat (first | apply Kd.qK | apply Kd.qJ | apply Kd.qO)); exact HO_6.out⟩, ⟨by (with_reducible repeat (first | apply Kd.qK | apply Kd.qJ | apply Kd.qO)); exact HO_9.out⟩, ⟨bl⟩⟩
        ·rw [if_neg c33] at H
         have c33b0 : decide (t617 < 0) = false := decide_eq_false c33
         clear c33
         (first | rw [c33b0] | (simp only [i64_w, i32_w]; rw [c33b0]) | skip)
         replace H := Option.bind_eq_some_iff.mp H
         obtain ⟨t619, A340, H⟩ := H
         replace H : (if t619 = true then (qQ.j1 kj9 a0 l1 t601 t602 t608 (t609 != t602)) else (qQ.j1 kj9 a0 l1 t601 t602 t608 true)) = some r := H
         have A34 := Aside0.mk A340
         clear A340
         by_cases c35 : t619 = true
         ·subst c35
          have H1 : (qQ.j1 kj9 a0 l1 t601 t602 t608 (t609 != t602)) = some r := by rw [if_pos rfl] at H; exact H
          clear H
          have H := H1
          clear H1
          have H' := Aside0.mk H
          clear H
          obtain ⟨Ao36, co36, eo36⟩ := Kd.qt HO_9.out
          subst eo36
          obtain ⟨Ao37, co37, eo37⟩ := Kd.qt HO_6.out
          subst eo37
          go_wp2_with (first | (go_at_call 31; (with_reducible refine (qCA.calls kj9 _ _ t608 _ _ t601 true _ ?side1 ?side2 ?side3 ?side4 A34.out).mono ?_); (case side1 => repeat (first | exact (Kd.qM HO_9.out).2.2 | (with_reducible refine Kd.qa ?_ _) | (with_reducible refine Kd.qZ ?_ _) | (with_reducible refine Kd.qe ?_))); (case side2 => exact (Kd.qM HO_9.out).2.1); (case side3 => repeat (first | exact (Kd.qM HO_6.out).2.2 | (with_reducible refine Kd.qa ?_ _) | (with_reducible refine Kd.qZ ?_ _) | (with_reducible refine Kd.qe ?_))); (case side4 => exact (Kd.qM HO_6.out).2.1); rintro e w' ⟨rfl, ⟨nd, rfl⟩⟩))
          go_meet
          case rel => exact ⟨_, ((t609 != t602)), (by first | rfl | (simp; done) | (simp [*]; done)), H', ⟨by have := HJ9.out; first | omega | exact Nat.le_refl _⟩, ⟨by (with_reducible repeat (first | apply Kd.qK | apply Kd.qJ | apply Kd.qO)); exact HO_6.out⟩, ⟨by (with_reducible repeat (first | apply Kd.qK | apply Kd.qJ | apply Kd.qO)); exact HO_9.out⟩, ⟨bl⟩⟩
         ·replace c35 := Bool.eq_false_iff.mpr c35
          subst c35
          have H1 : (qQ.j1 kj9 a0 l1 t601 t602 t608 true) = some r := by rw [if_neg (show ¬ (false = true) by decide)] at H; exact H
          clear H
          have H := H1
          clear H1
          have H' := Aside0.mk H
          clear H
          obtain ⟨Ao38, co38, eo38⟩ := Kd.qt HO_9.out
          subst eo38
          obtain ⟨Ao39, co39, eo39⟩ := Kd.qt HO_6.out
          subst eo39
          go_wp2_with (first | (go_at_call 31; (with_reducible refine (qCA.calls kj9 _ _ t608 _ _ t601 false _ ?side1 ?side2 ?side3 ?side4 A34.out).mono ?_); (case side1 => repeat (first | exact (Kd.qM HO_9.out).2.2 | (with_reducible refine Kd.qa ?_ _) | (with_reducible refine Kd.qZ ?_ _) | (with_reducible refine Kd.qe ?_))); (case side2 => exact (Kd.qM HO_9.out).2.1); (case side3 => repeat (first | exact (Kd.qM HO_6.out).2.2 | (with_reducible refine Kd.qa ?_ _) | (with_reducible refine Kd.qZ ?_ _) | (with_reducible refine Kd.qe ?_))); (case side4 => exact (Kd.qM HO_6.out).2.1); rintro e w' ⟨rfl, ⟨nd, rfl⟩⟩))
          go_meet
          case rel => exact ⟨_, (true), (by first | rfl | (simp; done) | (simp [*]; done)), H', ⟨by have := HJ9.out; first | omega | exact Nat.le_refl _⟩, ⟨by (with_reducible repeat (first | apply Kd.qK | apply Kd.qJ | apply Kd.qO)); exact HO_6.out⟩, ⟨by (with_reducible repeat (first | apply Kd.qK | apply Kd.qJ | apply Kd.qO)); exact HO_9.out⟩, ⟨bl⟩⟩
       case rest =>
        clear HC28
        try clear c1
        try clear c2
        try clear p2
        try clear c3
        try clear c3b0
        try clear c3b1
        try clear c5
        try clear c5b0
        try clear c8
        try clear c11
        try clear c13
        try clear c15
        try clear c18
        try clear c22
        try clear c23
        try clear c26
        try clear c29
        try clear c30
        try clear c31
        try clear c33
        try clear c33b0
        try clear c35
        try clear p2
        obtain ⟨kq, x68_27, rfl, HA, HJ27, HO_6, HO_9, HB⟩ := hcut
        cases kq with
        | zero => exact absurd HA.out (by simp [qQ.j1])
        | succ kj27 =>
         have H := HA.out
         clear HA
         simp only [qQ.j1] at H
         by_cases c40 : x68_27 = true
         ·subst c40
          have H1 : (some false) = some r := by rw [if_pos rfl] at H; exact H
          clear H
          have H := H1
          clear H1
          obtain rfl := Option.some.inj H
          go_wp2
          go_ret
          exact ⟨by first | rfl | (simp [qI, qH] <;> rfl) | (simp [*, qI, qH] <;> rfl), bl⟩
         ·replace c40 := Bool.eq_false_iff.mpr c40
          subst c40
          have H1 : ((qaA.f kj27 t608 1).bind fun bt620 => ((qQA.f kj27 bt620.2 1).bind fun t622 => (if t622 < 0 then (some false) else (if t622 = bt620.1 then ((qS.f kj27 l1).bind fun t623 => ((qlA.f kj27 a0 t623).bind fun bt626 => ((qCA.f kj27 bt626.1 t601).bind fun t630 => (if t630 = true then (qQ.j2 kj27 bt620.2 bt620.1 (bt626.2 != t602)) else (qQ.j2 kj27 bt620.2 bt620.1 true))))) else (some false))))) = some r := by rw [if_neg (show ¬ (false = true) by decide)] at H; exact H
          clear H
          have H := H1
          clear H1
          replace H := Option.bind_eq_some_iff.mp H
          obtain ⟨⟨t620, t621⟩, A410, H⟩ := H
          replace H : ((qQA.f kj27 t621 1).bind fun t622 => (if t622 < 0 then (some false) else (if t622 = t620 then ((qS.f kj27 l1).bind fun t623 => ((qlA.f kj27 a0 t623).bind fun bt626 => ((qCA.f kj27 bt626.1 t601).bind fun t630 => (if t630 = true then (qQ.j2 kj27 t621 t620 (bt626.2 != t602)) else (qQ.j2 kj27 t621 t620 true))))) else (some false)))) = some r := H
          have A41 := Aside0.mk A410
          clear A410
          replace H := Option.bind_eq_some_iff.mp H
          obtain ⟨t622, A420, H⟩ := H
          replace H : (if t622 < 0 then (some false) else (if t622 = t620 then ((qS.f kj27 l1).bind fun t623 => ((qlA.f kj27 a0 t623).bind fun bt626 => ((qCA.f kj27 bt626.1 t601).bind fun t630 => (if t630 = true then (qQ.j2 kj27 t621 t620 (bt626.2 != t602)) else (qQ.j2 kj27 t621 t620 true))))) else (some false))) = some r := H
          have A42 := Aside0.mk A420
          clear A420
          by_cases c43 : t622 < 0
          ·rw [if_pos c43] at H
           have c43b0 : decide (t622 < 0) = true := decide_eq_true c43
           clear c43
           obtain rfl := Option.some.inj H
           obtain ⟨Ao44, co44, eo44⟩ := Kd.qt HO_9.out
           subst eo44
           go_wp2_with (first | ((with_reducible refine qL (f := 32) rfl ?_); refine qh (some 71) rfl rfl Tryd.func32 (by kernel_rfl) rfl #[.slice Ao44 t608.length co44, .int .i64 1] rfl (by (try simp only [List.map_toArray, List.map_cons, List.map_nil]); first | done | rfl | (simp only [List.length_drop, List.length_take]; rfl)) ?_; (with_reducible refine (qaA.calls kj27 (fun k_ => some k_ = (.slice Ao44 t608.length co44 : Value).ownBlock) (.slice Ao44 t608.length co44) t608 1 t620 t621 w _ ?side1 ?side2 A41.out).mono ?_); (case side1 => repeat (first | (with_reducible first | exact HB.out | apply qAA | apply qo | apply qp) | exact HB.out)); (case side2 => exact Kd.qrB rfl HO_9.out); rintro e w45 ⟨rfl, hy0, hb, hkp⟩; refine ⟨_, rfl, ?_⟩; have n0_ := Aside0.mk (Kd.qGA (ok' := fun k_ => some k_ ≠ (.slice Ao44 t608.length co44 : Value).ownBlock) (Kd.qRB (HO_6.out) hkp (fun k_ hk_ hs_ => (hk_) hs_)) (fun k_ hk_ => hk_.1)); have n1_ := Aside0.mk (Kd.qOC rfl hy0 (fun k_ e_ => HO_9.out.1 k_ e_)); have n2_ := Aside0.mk (hb); clear HO_6; clear HO_9; clear HB; have HO_6 := n0_; have HO_9 := n1_; have HB := n2_; clear n0_ n1_ n2_; (try clear hb); (try clear hkp); (try clear hy0)) | ((with_reducible refine qL (f := 33) rfl ?_); refine qh (some 74) rfl rfl Tryd.func33 (by kernel_rfl) rfl #[.slice Ao44 t621.length co44, .int .i64 1] rfl (by (try simp only [List.map_toArray, List.map_cons, List.map_nil]); first | done | (rw [show t621.length = t608.length from (Kd.qM HO_9.out).1.symm] <;> rfl) | rfl | (simp only [List.length_drop, List.length_take]; rfl)) ?_; (with_reducible refine (qQA.calls kj27 _ _ t621 1 t622 _ ?side1 ?side2 A42.out).mono ?_); (case side1 => repeat (first | exact (Kd.qM HO_9.out).2.2 | (with_reducible refine Kd.qa ?_ _) | (with_reducible refine Kd.qZ ?_ _) | (with_reducible refine Kd.qe ?_))); (case side2 => rw [show t621.length = t608.length from (Kd.qM HO_9.out).1.symm]; exact (Kd.qM HO_9.out).2.1); rintro e w46 ⟨rfl, hb⟩; refine ⟨_, rfl, ?_⟩; have n0_ := Aside0.mk (Kd.qc (by (with_reducible repeat (first | apply Kd.qK | apply Kd.qJ | apply Kd.qO)); exact HO_6.out) hb); have n1_ := Aside0.mk (Kd.qc (by (with_reducible repeat (first | apply Kd.qK | apply Kd.qJ | apply Kd.qO)); exact HO_9.out) hb); have n2_ := Aside0.mk (qG bl hb); clear HO_6; clear HO_9; clear HB; have HO_6 := n0_; have HO_9 := n1_; have HB := n2_; clear n0_ n1_ n2_; (try clear hb); (try clear hb2); (try clear hk); (try clear hi)))
           go_ret
           exact ⟨by first | rfl | (simp [qI, qH] <;> rfl) | (simp [*, qI, qH] <;> rfl), bl⟩
          ·rw [if_neg c43] at H
           have c43b0 : decide (t622 < 0) = false := decide_eq_false c43
           clear c43
           by_cases c47 : t622 = t620
           ·rw [if_pos c47] at H
            have c47b0 : (t622 == t620) = true := beq_iff_eq.mpr c47
            have c47b1 : (t622 != t620) = false := bne_eq_false_iff_eq.mpr c47
            clear c47
            replace H := Option.bind_eq_some_iff.mp H
            obtain ⟨t623, A480, H⟩ := H
            replace H : ((qlA.f kj27 a0 t623).bind fun bt626 => ((qCA.f kj27 bt626.1 t601).bind fun t630 => (if t630 = true then (qQ.j2 kj27 t621 t620 (bt626.2 != t602)) else (qQ.j2 kj27 t621 t620 true)))) = some r := H
            have A48 := Aside0.mk A480
            clear A480
            replace H := Option.bind_eq_some_iff.mp H
            obtain ⟨⟨t626, t627⟩, A490, H⟩ := H
            replace H : ((qCA.f kj27 t626 t601).bind fun t630 => (if t630 = true then (qQ.j2 kj27 t621 t620 (t627 != t602)) else (qQ.j2 kj27 t621 t620 true))) = some r := H
            have A49 := Aside0.mk A490
            clear A490
            have HC50 := Aside0.mk H
            clear H
            obtain ⟨Ao51, co51, eo51⟩ := Kd.qt HO_9.out
            subst eo51
            go_upto_region 27 with (first | ((with_reducible refine qL (f := 32) rfl ?_); refine qh (some 71) rfl rfl Tryd.func32 (by kernel_rfl) rfl #[.slice Ao51 t608.length co51, .int .i64 1] rfl (by (try simp only [List.map_toArray, List.map_cons, List.map_nil]); first | done | rfl | (simp only [List.length_drop, List.length_take]; rfl)) ?_; (with_reducible refine (qaA.calls kj27 (fun k_ => some k_ = (.slice Ao51 t608.length co51 : Value).ownBlock) (.slice Ao51 t608.length co51) t608 1 t620 t621 w _ ?side1 ?side2 A41.out).mono ?_); (case side1 => repeat (first | (with_reducible first | exact HB.out | apply qAA | apply qo | apply qp) | exact HB.out)); (case side2 => exact Kd.qrB rfl HO_9.out); rintro e w52 ⟨rfl, hy0, hb, hkp⟩; refine ⟨_, rfl, ?_⟩; have n0_ := Aside0.mk (Kd.qGA (ok' := fun k_ => some k_ ≠ (.slice Ao51 t608.length co51 : Value).ownBlock) (Kd.qRB (HO_6.out) hkp (fun k_ hk_ hs_ => (hk_) hs_)) (fun k_ hk_ => hk_.1)); have n1_ := Aside0.mk (Kd.qOC rfl hy0 (fun k_ e_ => HO_9.out.1 k_ e_)); have n2_ := Aside0.mk (hb); clear HO_6; clear HO_9; clear HB; have HO_6 := n0_; have HO_9 := n1_; have HB := n2_; clear n0_ n1_ n2_; (try clear hb); (try clear hkp); (try clear hy0)) | ((with_reducible refine qL (f := 33) rfl ?_); refine qh (some 74) rfl rfl Tryd.func33 (by kernel_rfl) rfl #[.slice Ao51 t621.length co51, .int .i64 1] rfl (by (try simp only [List.map_toArray, List.map_cons, List.map_nil]); first | done | (rw [show t621.length = t608.length from (Kd.qM HO_9.out).1.symm] <;> rfl) | rfl | (simp only [List.length_drop, List.length_take]; rfl)) ?_; (with_reducible refine (qQA.calls kj27 _ _ t621 1 t622 _ ?side1 ?side2 A42.out).mono ?_); (case side1 => repeat (first | exact (Kd.qM HO_9.out).2.2 | (with_reducible refine Kd.qa ?_ _) | (with_reducible refine Kd.qZ ?_ _) | (with_reducible refine Kd.qe ?_))); (case side2 => rw [show t621.length = t608.length from (Kd.qM HO_9.out).1.symm]; exact (Kd.qM HO_9.out).2.1); rintro e w53 ⟨rfl, hb⟩; refine ⟨_, rfl, ?_⟩; have n0_ := Aside0.mk (Kd.qc (by (with_reducible repeat (first | apply Kd.qK | apply Kd.qJ | apply Kd.qO)); exact HO_6.out) hb); have n1_ := Aside0.mk (Kd.qc (by (with_reducible repeat (first | apply Kd.qK | apply Kd.qJ | apply Kd.qO)); exact HO_9.out) hb); have n2_ := Aside0.mk (qG bl hb); clear HO_6; clear HO_9; clear HB; have HO_6 := n0_; have HO_9 := n1_; have HB := n2_; clear n0_ n1_ n2_; (try clear hb); (try clear hb2); (try clear hk); (try clear hi)) | ((with_reducible refine qL (f := 13) rfl ?_); refine qh (some 83) rfl rfl Tryd.func13 (by kernel_rfl) rfl #[.slice A1 l1.length c1] rfl (by (try simp only [List.map_toArray, List.map_cons, List.map_nil]); first | done | rfl | (simp only [List.length_drop, List.length_take]; rfl)) ?_; (with_reducible refine (qS.calls kj27 _ _ l1 t623 _ ?side1 ?side2 A48.out).mono ?_); (case side1 => repeat (first | exact (Kd.qWA HR1.out HB.out) | (with_reducible refine Kd.qa ?_ _) | (with_reducible refine Kd.qZ ?_ _) | (with_reducible refine Kd.qe ?_))); (case side2 => exact HC1.out); rintro e w54 ⟨v624, rfl, ho0, hb⟩; refine ⟨_, rfl, ?_⟩; have n0_ := Aside0.mk (Kd.qc (by (with_reducible repeat (first | apply Kd.qK | apply Kd.qJ | apply Kd.qO)); exact HO_6.out) hb); have n1_ := Aside0.mk (Kd.qc (by (with_reducible repeat (first | apply Kd.qK | apply Kd.qJ | apply Kd.qO)); exact HO_9.out) hb); have n2_ := Aside0.mk (Kd.qDA ho0 (qb bl)); have n3_ := Aside0.mk (qG bl hb); clear HO_6; clear HO_9; clear HB; have HO_6 := n0_; have HO_9 := n1_; have HO625 := n2_; have HB := n3_; clear n0_ n1_ n2_ n3_; (try clear hb); (try clear hb2); (try clear hk); (try clear hi); (try clear ho0); obtain ⟨Ao55, co55, eo55⟩ := Kd.qt HO625.out; subst eo55) | ((with_reducible refine qL (f := 30) rfl ?_); refine qh (some 84) rfl rfl Tryd.func30 (by kernel_rfl) rfl #[.string a0, .slice Ao55 t623.length co55] rfl (by (try simp only [List.map_toArray, List.map_cons, List.map_nil]); first | done | rfl | (simp only [List.length_drop, List.length_take]; rfl)) ?_; (with_reducible refine (qlA.calls kj27 a0 _ _ t623 t626 t627 _ ?side1 ?side2 ?side3 A49.out).mono ?_); (case side1 => repeat (first | exact (Kd.qM HO625.out).2.2 | (with_reducible refine Kd.qa ?_ _) | (with_reducible refine Kd.qZ ?_ _) | (with_reducible refine Kd.qe ?_))); (case side2 => exact (Kd.qM HO625.out).2.1); (case side3 => first | exact HLD.out | exact Laid.below HLD.out (by repeat (first | (with_reducible first | exact HB.out | apply qAA | apply qo | apply qp | refine qMA ?_ (Aside0.out (by with_reducible assumption))) | exact HB.out))); rintro e w56 ⟨v628, rfl, ho0, hb⟩; refine ⟨_, rfl, ?_⟩; have n0_ := Aside0.mk (Kd.qYA (by (with_reducible repeat (first | apply Kd.qK | apply Kd.qJ | apply Kd.qO)); exact HO_6.out) (Kd.qnA ho0) hb); have n1_ := Aside0.mk (Kd.qYA (by (with_reducible repeat (first | apply Kd.qK | apply Kd.qJ | apply Kd.qO)); exact HO_9.out) (Kd.qnA ho0) hb); have n2_ := Aside0.mk (Kd.qc (by (with_reducible repeat (first | apply Kd.qK | apply Kd.qJ | apply Kd.qO)); exact HO625.out) hb); have n3_ := Aside0.mk (Kd.qDA (Kd.qmA (Kd.qmA ho0 (Kd.R_lt (by (with_reducible repeat (first | apply Kd.qK | apply Kd.qJ | apply Kd.qO)); exact HO_6.out))) (Kd.R_lt (by (with_reducible repeat (first | apply Kd.qK | apply Kd.qJ | apply Kd.qO)); exact HO_9.out))) (qb bl)); have n4_ := Aside0.mk (qG bl hb); clear HO_6; clear HO_9; clear HO625; clear HB; have HO_6 := n0_; have HO_9 := n1_; have HO625 := n2_; have HO629 := n3_; have HB := n4_; clear n0_ n1_ n2_ n3_ n4_; (try clear hb); (try clear hb2); (try clear hk); (try clear hi); (try clear ho0)))
            (try simp only [Act.put, List.setIfInBounds_toArray, List.set_cons_zero, List.set_cons_succ])
            go_cut [95] (fun v95 wc => ∃ (kq : Nat) (x95_49 : Bool), v95 = .bool x95_49 ∧ Aside0 (qQ.j2 kq t621 t620 x95_49 = some r) ∧ Aside0 (kq ≤ kj27) ∧ Aside0 (Kd.R Kd.string 9 wc w.heap.size (fun _ => True) (.slice Ao51 t608.length co51) t621) ∧ Aside0 (Below w.heap.size w wc))
            case first =>
             have H := HC50.out
             clear HC50
             replace H := Option.bind_eq_some_iff.mp H
             obtain ⟨t630, A570, H⟩ := H
             replace H : (if t630 = true then (qQ.j2 kj27 t621 t620 (t627 != t602)) else (qQ.j2 kj27 t621 t620 true)) = some r := H
             have A57 := Aside0.mk A570
             clear A570
             by_cases c58 : t630 = true
             ·subst c58
              have H1 : (qQ.j2 kj27 t621 t620 (t627 != t602)) = some r := by rw [if_pos rfl] at H; exact H
              clear H
              have H := H1
              clear H1
              have H' := Aside0.mk H
              clear H
              obtain ⟨Ao59, co59, eo59⟩ := Kd.qt HO629.out
              subst eo59
              obtain ⟨Ao60, co60, eo60⟩ := Kd.qt HO_6.out
              subst eo60
              go_wp2_with (first | ((with_reducible refine qL (f := 31) rfl ?_); refine qh (some 89) rfl rfl Tryd.func31 (by kernel_rfl) rfl #[.slice Ao59 t626.length co59, .slice Ao60 t601.length co60] rfl (by (try simp only [List.map_toArray, List.map_cons, List.map_nil]); first | done | rfl | (simp only [List.length_drop, List.length_take]; rfl)) ?_; (with_reducible refine (qCA.calls kj27 _ _ t626 _ _ t601 true _ ?side1 ?side2 ?side3 ?side4 A57.out).mono ?_); (case side1 => repeat (first | exact (Kd.qM HO629.out).2.2 | (with_reducible refine Kd.qa ?_ _) | (with_reducible refine Kd.qZ ?_ _) | (with_reducible refine Kd.qe ?_))); (case side2 => exact (Kd.qM HO629.out).2.1); (case side3 => repeat (first | exact (Kd.qM HO_6.out).2.2 | (with_reducible refine Kd.qa ?_ _) | (with_reducible refine Kd.qZ ?_ _) | (with_reducible refine Kd.qe ?_))); (case side4 => exact (Kd.qM HO_6.out).2.1); rintro e w' ⟨rfl, ⟨nd, rfl⟩⟩; refine ⟨_, rfl, ?_⟩))
              go_meet
              case rel => exact ⟨_, ((t627 != t602)), (by first | rfl | (simp; done) | (simp [*]; done)), H', ⟨by have := HJ9.out; have := HJ27.out; first | omega | exact Nat.le_refl _⟩, ⟨by (with_reducible repeat (first | apply Kd.qK | apply Kd.qJ | apply Kd.qO)); exact Kd.qGA HO_9.out (fun _ hk => trivial)⟩, ⟨bl⟩⟩
             ·replace c58 := Bool.eq_false_iff.mpr c58
              subst c58
              have H1 : (qQ.j2 kj27 t621 t620 true) = some r := by rw [if_neg (show ¬ (false = true) by decide)] at H; exact H
              clear H
              have H := H1
              clear H1
              have H' := Aside0.mk H
              clear H
              obtain ⟨Ao61, co61, eo61⟩ := Kd.qt HO629.out
              subst eo61
              obtain ⟨Ao62, co62, eo62⟩ := Kd.qt HO_6.out
              subst eo62
              go_wp2_with (first | ((with_reducible refine qL (f := 31) rfl ?_); refine qh (some 89) rfl rfl Tryd.func31 (by kernel_rfl) rfl #[.slice Ao61 t626.length co61, .slice Ao62 t601.length co62] rfl (by (try simp only [List.map_toArray, List.map_cons, List.map_nil]); first | done | rfl | (simp only [List.length_drop, List.length_take]; rfl)) ?_; (with_reducible refine (qCA.calls kj27 _ _ t626 _ _ t601 false _ ?side1 ?side2 ?side3 ?side4 A57.out).mono ?_); (case side1 => repeat (first | exact (Kd.qM HO629.out).2.2 | (with_reducible refine Kd.qa ?_ _) | (with_reducible refine Kd.qZ ?_ _) | (with_reducible refine Kd.qe ?_))); (case side2 => exact (Kd.qM HO629.out).2.1); (case side3 => repeat (first | exact (Kd.qM HO_6.out).2.2 | (with_reducible refine Kd.qa ?_ _) | (with_reducible refine Kd.qZ ?_ _) | (with_reducible refine Kd.qe ?_))); (case side4 => exact (Kd.qM HO_6.out).2.1); rintro e w' ⟨rfl, ⟨nd, rfl⟩⟩; refine ⟨_, rfl, ?_⟩))
              go_meet
              case rel => exact ⟨_, (true), (by first | rfl | (simp; done) | (simp [*]; done)), H', ⟨by have := HJ9.out; have := HJ27.out; first | omega | exact Nat.le_refl _⟩, ⟨by (with_reducible repeat (first | apply Kd.qK | apply Kd.qJ | apply Kd.qO)); exact Kd.qGA HO_9.out (fun _ hk => trivial)⟩, ⟨bl⟩⟩
            case rest =>
             clear HC50
             try clear c1
             try clear c2
             try clear p2
             try clear c3
             try clear c3b0
             try clear c3b1
             try clear c4
             try clear c5
             try clear c5b0
             try clear c8
             try clear c11
             try clear c13
             try clear c15
             try clear c18
             try clear c22
             try clear c23
             try clear c26
             try clear c29
             try clear c30
             try clear c31
             try clear c32
             try clear c33
             try clear c33b0
             try clear c35
             try clear c40
             try clear c43
             try clear c43b0
             try clear c47
             try clear c47b0
             try clear c47b1
             try clear c58
             try clear p2
             obtain ⟨kq, x95_49, rfl, HA, HJ49, HO_9, HB⟩ := hcut
             have hl9_49 := (Kd.qM HO_9.out).1
             rw [hl9_49] at HO_9
             (try simp only [hl9_49])
             cases kq with
             | zero => exact absurd HA.out (by simp [qQ.j2])
             | succ kj49 =>
              have H := HA.out
              clear HA
              simp only [qQ.j2] at H
              by_cases c63 : x95_49 = true
              ·subst c63
               have H1 : (some false) = some r := by rw [if_pos rfl] at H; exact H
               clear H
               have H := H1
               clear H1
               obtain rfl := Option.some.inj H
               go_wp2
               go_ret
               exact ⟨by first | rfl | (simp [qI, qH] <;> rfl) | (simp [*, qI, qH] <;> rfl), bl⟩
              ·replace c63 := Bool.eq_false_iff.mpr c63
               subst c63
               have H1 : ((qQA.f kj49 t621 1).bind fun t631 => (if t631 < 0 then (some false) else (if t631 = t620 then (some true) else (some false)))) = some r := by rw [if_neg (show ¬ (false = true) by decide)] at H; exact H
               clear H
               have H := H1
               clear H1
               replace H := Option.bind_eq_some_iff.mp H
               obtain ⟨t631, A640, H⟩ := H
               replace H : (if t631 < 0 then (some false) else (if t631 = t620 then (some true) else (some false))) = some r := H
               have A64 := Aside0.mk A640
               clear A640
               by_cases c65 : t631 < 0
               ·rw [if_pos c65] at H
                have c65b0 : decide (t631 < 0) = true := decide_eq_true c65
                clear c65
                obtain rfl := Option.some.inj H
                go_wp2_with (first | ((with_reducible refine qL (f := 33) rfl ?_); refine qh (some 98) rfl rfl Tryd.func33 (by kernel_rfl) rfl #[.slice Ao51 t621.length co51, .int .i64 1] rfl (by (try simp only [List.map_toArray, List.map_cons, List.map_nil]); first | done | rfl | (simp only [List.length_drop, List.length_take]; rfl)) ?_; (with_reducible refine (qQA.calls kj49 _ _ t621 1 t631 _ ?side1 ?side2 A64.out).mono ?_); (case side1 => repeat (first | exact (Kd.qM HO_9.out).2.2 | (with_reducible refine Kd.qa ?_ _) | (with_reducible refine Kd.qZ ?_ _) | (with_reducible refine Kd.qe ?_))); (case side2 => exact (Kd.qM HO_9.out).2.1); rintro e w66 ⟨rfl, hb⟩; refine ⟨_, rfl, ?_⟩; have n0_ := Aside0.mk (Kd.qc (by (with_reducible repeat (first | apply Kd.qK | apply Kd.qJ | apply Kd.qO)); exact HO_9.out) hb); have n1_ := Aside0.mk (qG bl hb); clear HO_9; clear HB; have HO_9 := n0_; have HB := n1_; clear n0_ n1_; (try clear hb); (try clear hb2); (try clear hk); (try clear hi)))
                go_ret
                exact ⟨by first | rfl | (simp [qI, qH] <;> rfl) | (simp [*, qI, qH] <;> rfl), bl⟩
               ·rw [if_neg c65] at H
                have c65b0 : decide (t631 < 0) = false := decide_eq_false c65
                clear c65
                by_cases c67 : t631 = t620
                ·rw [if_pos c67] at H
                 have c67b0 : (t631 == t620) = true := beq_iff_eq.mpr c67
                 have c67b1 : (t631 != t620) = false := bne_eq_false_iff_eq.mpr c67
                 clear c67
                 obtain rfl := Option.some.inj H
                 go_wp2_with (first | ((with_reducible refine qL (f := 33) rfl ?_); refine qh (some 98) rfl rfl Tryd.func33 (by kernel_rfl) rfl #[.slice Ao51 t621.length co51, .int .i64 1] rfl (by (try simp only [List.map_toArray, List.map_cons, List.map_nil]); first | done | rfl | (simp only [List.length_drop, List.length_take]; rfl)) ?_; (with_reducible refine (qQA.calls kj49 _ _ t621 1 t631 _ ?side1 ?side2 A64.out).mono ?_); (case side1 => repeat (first | exact (Kd.qM HO_9.out).2.2 | (with_reducible refine Kd.qa ?_ _) | (with_reducible refine Kd.qZ ?_ _) | (with_reducible refine Kd.qe ?_))); (case side2 => exact (Kd.qM HO_9.out).2.1); rintro e w68 ⟨rfl, hb⟩; refine ⟨_, rfl, ?_⟩; have n0_ := Aside0.mk (Kd.qc (by (with_reducible repeat (first | apply Kd.qK | apply Kd.qJ | apply Kd.qO)); exact HO_9.out) hb); have n1_ := Aside0.mk (qG bl hb); clear HO_9; clear HB; have HO_9 := n0_; have HB := n1_; clear n0_ n1_; (try clear hb); (try clear hb2); (try clear hk); (try clear hi)))
                 go_ret
                 exact ⟨by first | rfl | (simp [qI, qH] <;> rfl) | (simp [*, qI, qH] <;> rfl), bl⟩
                ·rw [if_neg c67] at H
                 have c67b0 : (t631 == t620) = false := beq_eq_false_iff_ne.mpr c67
                 have c67b1 : (t631 != t620) = true := bne_iff_ne.mpr c67
                 obtain rfl := Option.some.inj H
                 go_wp2_with (first | ((with_reducible refine qL (f := 33) rfl ?_); refine qh (some 98) rfl rfl Tryd.func33 (by kernel_rfl) rfl #[.slice Ao51 t621.length co51, .int .i64 1] rfl (by (try simp only [List.map_toArray, List.map_cons, List.map_nil]); first | done | rfl | (simp only [List.length_drop, List.length_take]; rfl)) ?_; (with_reducible refine (qQA.calls kj49 _ _ t621 1 t631 _ ?side1 ?side2 A64.out).mono ?_); (case side1 => repeat (first | exact (Kd.qM HO_9.out).2.2 | (with_reducible refine Kd.qa ?_ _) | (with_reducible refine Kd.qZ ?_ _) | (with_reducible refine Kd.qe ?_))); (case side2 => exact (Kd.qM HO_9.out).2.1); rintro e w69 ⟨rfl, hb⟩; refine ⟨_, rfl, ?_⟩; have n0_ := Aside0.mk (Kd.qc (by (with_reducible repeat (first | apply Kd.qK | apply Kd.qJ | apply Kd.qO)); exact HO_9.out) hb); have n1_ := Aside0.mk (qG bl hb); clear HO_9; clear HB; have HO_9 := n0_; have HB := n1_; clear n0_ n1_; (try clear hb); (try clear hb2); (try clear hk); (try clear hi)))
                 go_ret
                 exact ⟨by first | rfl | (simp [qI, qH] <;> rfl) | (simp [*, qI, qH] <;> rfl), bl⟩
           ·rw [if_neg c47] at H
            have c47b0 : (t622 == t620) = false := beq_eq_false_iff_ne.mpr c47
            have c47b1 : (t622 != t620) = true := bne_iff_ne.mpr c47
            obtain rfl := Option.some.inj H
            obtain ⟨Ao70, co70, eo70⟩ := Kd.qt HO_9.out
            subst eo70
            go_wp2_with (first | ((with_reducible refine qL (f := 32) rfl ?_); refine qh (some 71) rfl rfl Tryd.func32 (by kernel_rfl) rfl #[.slice Ao70 t608.length co70, .int .i64 1] rfl (by (try simp only [List.map_toArray, List.map_cons, List.map_nil]); first | done | rfl | (simp only [List.length_drop, List.length_take]; rfl)) ?_; (with_reducible refine (qaA.calls kj27 (fun k_ => some k_ = (.slice Ao70 t608.length co70 : Value).ownBlock) (.slice Ao70 t608.length co70) t608 1 t620 t621 w _ ?side1 ?side2 A41.out).mono ?_); (case side1 => repeat (first | (with_reducible first | exact HB.out | apply qAA | apply qo | apply qp) | exact HB.out)); (case side2 => exact Kd.qrB rfl HO_9.out); rintro e w71 ⟨rfl, hy0, hb, hkp⟩; refine ⟨_, rfl, ?_⟩; have n0_ := Aside0.mk (Kd.qGA (ok' := fun k_ => some k_ ≠ (.slice Ao70 t608.length co70 : Value).ownBlock) (Kd.qRB (HO_6.out) hkp (fun k_ hk_ hs_ => (hk_) hs_)) (fun k_ hk_ => hk_.1)); have n1_ := Aside0.mk (Kd.qOC rfl hy0 (fun k_ e_ => HO_9.out.1 k_ e_)); have n2_ := Aside0.mk (hb); clear HO_6; clear HO_9; clear HB; have HO_6 := n0_; have HO_9 := n1_; have HB := n2_; clear n0_ n1_ n2_; (try clear hb); (try clear hkp); (try clear hy0)) | ((with_reducible refine qL (f := 33) rfl ?_); refine qh (some 74) rfl rfl Tryd.func33 (by kernel_rfl) rfl #[.slice Ao70 t621.length co70, .int .i64 1] rfl (by (try simp only [List.map_toArray, List.map_cons, List.map_nil]); first | done | (rw [show t621.length = t608.length from (Kd.qM HO_9.out).1.symm] <;> rfl) | rfl | (simp only [List.length_drop, List.length_take]; rfl)) ?_; (with_reducible refine (qQA.calls kj27 _ _ t621 1 t622 _ ?side1 ?side2 A42.out).mono ?_); (case side1 => repeat (first | exact (Kd.qM HO_9.out).2.2 | (with_reducible refine Kd.qa ?_ _) | (with_reducible refine Kd.qZ ?_ _) | (with_reducible refine Kd.qe ?_))); (case side2 => rw [show t621.length = t608.length from (Kd.qM HO_9.out).1.symm]; exact (Kd.qM HO_9.out).2.1); rintro e w72 ⟨rfl, hb⟩; refine ⟨_, rfl, ?_⟩; have n0_ := Aside0.mk (Kd.qc (by (with_reducible repeat (first | apply Kd.qK | apply Kd.qJ | apply Kd.qO)); exact HO_6.out) hb); have n1_ := Aside0.mk (Kd.qc (by (with_reducible repeat (first | apply Kd.qK | apply Kd.qJ | apply Kd.qO)); exact HO_9.out) hb); have n2_ := Aside0.mk (qG bl hb); clear HO_6; clear HO_9; clear HB; have HO_6 := n0_; have HO_9 := n1_; have HB := n2_; clear n0_ n1_ n2_; (try clear hb); (try clear hb2); (try clear hk); (try clear hi)))
            go_ret
            exact ⟨by first | rfl | (simp [qI, qH] <;> rfl) | (simp [*, qI, qH] <;> rfl), bl⟩
      ·replace c26 := Bool.eq_false_iff.mpr c26
       subst c26
       have H1 : (some false) = some r := by rw [if_neg (show ¬ (false = true) by decide)] at H; exact H
       clear H
       have H := H1
       clear H1
       obtain rfl := Option.some.inj H
       go_wp2_with (first | ((with_reducible refine qL (f := 13) rfl ?_); refine qh (some 50) rfl rfl Tryd.func13 (by kernel_rfl) rfl #[.slice A1 l1.length c1] rfl (by (try simp only [List.map_toArray, List.map_cons, List.map_nil]); first | done | rfl | (simp only [List.length_drop, List.length_take]; rfl)) ?_; (with_reducible refine (qS.calls kj9 _ _ l1 t613 _ ?side1 ?side2 A24.out).mono ?_); (case side1 => repeat (first | exact (Kd.qWA HR1.out HB.out) | (with_reducible refine Kd.qa ?_ _) | (with_reducible refine Kd.qZ ?_ _) | (with_reducible refine Kd.qe ?_))); (case side2 => exact HC1.out); rintro e w73 ⟨v614, rfl, ho0, hb⟩; refine ⟨_, rfl, ?_⟩; have n0_ := Aside0.mk (Kd.qc (by (with_reducible repeat (first | apply Kd.qK | apply Kd.qJ | apply Kd.qO)); exact HO_6.out) hb); have n1_ := Aside0.mk (Kd.qYA (by (with_reducible repeat (first | apply Kd.qK | apply Kd.qJ | apply Kd.qO)); exact HO_8.out) (Kd.qnA ho0) hb); have n2_ := Aside0.mk (Kd.qc (by (with_reducible repeat (first | apply Kd.qK | apply Kd.qJ | apply Kd.qO)); exact HO_9.out) hb); have n3_ := Aside0.mk (Kd.qDA (Kd.qmA ho0 (Kd.R_lt (by (with_reducible repeat (first | apply Kd.qK | apply Kd.qJ | apply Kd.qO)); exact HO_8.out))) (qb bl)); have n4_ := Aside0.mk (qG bl hb); clear HO_6; clear HO_8; clear HO_9; clear HB; have HO_6 := n0_; have HO_8 := n1_; have HO_9 := n2_; have HO615 := n3_; have HB := n4_; clear n0_ n1_ n2_ n3_ n4_; (try clear hb); (try clear hb2); (try clear hk); (try clear hi); (try clear ho0); obtain ⟨Ao74, co74, eo74⟩ := Kd.qt HO615.out; subst eo74) | ((with_reducible refine qL (f := 15) rfl ?_); refine qh (some 51) rfl rfl Tryd.func15 (by kernel_rfl) rfl #[.slice Ao15 t605.length co15, .slice Ao74 t613.length co74] rfl (by (try simp only [List.map_toArray, List.map_cons, List.map_nil]); first | done | rfl | (simp only [List.length_drop, List.length_take]; rfl)) ?_; (with_reducible refine (qX.calls kj9 _ _ t605 _ _ t613 false _ ?side1 ?side2 ?side3 ?side4 A25.out).mono ?_); (case side1 => repeat (first | exact (Kd.qM HO_8.out).2.2 | (with_reducible refine Kd.qa ?_ _) | (with_reducible refine Kd.qZ ?_ _) | (with_reducible refine Kd.qe ?_))); (case side2 => exact (Kd.qM HO_8.out).2.1); (case side3 => repeat (first | exact (Kd.qM HO615.out).2.2 | (with_reducible refine Kd.qa ?_ _) | (with_reducible refine Kd.qZ ?_ _) | (with_reducible refine Kd.qe ?_))); (case side4 => exact (Kd.qM HO615.out).2.1); rintro e w75 ⟨rfl, hb⟩; refine ⟨_, rfl, ?_⟩; have n0_ := Aside0.mk (Kd.qc (by (with_reducible repeat (first | apply Kd.qK | apply Kd.qJ | apply Kd.qO)); exact HO_6.out) hb); have n1_ := Aside0.mk (Kd.qc (by (with_reducible repeat (first | apply Kd.qK | apply Kd.qJ | apply Kd.qO)); exact HO_8.out) hb); have n2_ := Aside0.mk (Kd.qc (by (with_reducible repeat (first | apply Kd.qK | apply Kd.qJ | apply Kd.qO)); exact HO_9.out) hb); have n3_ := Aside0.mk (Kd.qc (by (with_reducible repeat (first | apply Kd.qK | apply Kd.qJ | apply Kd.qO)); exact HO615.out) hb); have n4_ := Aside0.mk (qG bl hb); clear HO_6; clear HO_8; clear HO_9; clear HO615; clear HB; have HO_6 := n0_; have HO_8 := n1_; have HO_9 := n2_; have HO615 := n3_; have HB := n4_; clear n0_ n1_ n2_ n3_ n4_; (try clear hb); (try clear hb2); (try clear hk); (try clear hi)))
       go_ret
       exact ⟨by first | rfl | (simp [qI, qH] <;> rfl) | (simp [*, qI, qH] <;> rfl), bl⟩
def qQ.Pure : Prop := ∀ (a0 : ByteArray) (l1 : List (S61)), a0.size ≤ 140737488351232 → l1.length * 64 ≤ 140737488351232 → ∃ k, qQ.f k a0 l1 = some true
end Go.Proofs.YtgjdjnggkmojnaaDoor.P
namespace Go.Proofs.YtgjdjnggkmojnaaDoor
open Go.RowKit Go.Proofs.YtgjdjnggkmojnaaDoor.P Go.Proofs.YtgjdjnggkmojnaaDoorW.PrintWords Go.Proofs.YtgjdjnggkmojnaaDoorW.PrintLast
set_option linter.unusedVariables false
set_option linter.unusedSimpArgs false
theorem rdB (l : List ByteArray) (i : Nat) (h : i < l.length) : rdOf ByteArray.empty l (i : Int) = l[i] := by
 unfold rdOf
 rw [Int.toNat_natCast, List.getD_eq_getElem?_getD, List.getElem?_eq_getElem h]; rfl
theorem eqStringS_loop (a : List ByteArray) (ha : a.length ≤ 140737488355328) (d : Nat) : ∀ i : Nat, i ≤ a.length → a.length - i = d → Ev (fun k => qCA.l0 k a a (i : Int)) true := by
 induction d with
 | zero =>
  intro i hi hd
  refine Ev.step (f := fun k => _) (fun k => by rw [qCA.l0]) ?_
  exact Ev.neg (by omega) (Ev.now _)
 | succ d ih =>
  intro i hi hd
  refine Ev.step (f := fun k => _) (fun k => by rw [qCA.l0]) ?_
  refine Ev.pos (by omega) (Ev.pos (by omega) (Ev.pos (by omega) (Ev.pos rfl ?_)))
  rw [show wrap64 ((i : Int) + 1) = ((i + 1 : Nat) : Int) by unfold wrap64; omega]
  exact ih (i + 1) (by omega) (by omega)
theorem qcC (a : List ByteArray) (ha : a.length ≤ 140737488355328) : Ev (fun k => qCA.f k a a) true := by
 unfold qCA.f
 exact Ev.pos rfl (eqStringS_loop a ha a.length 0 (by omega) (by omega))
theorem markText_loop (m : Nat) : ∀ (x : Int) (t : ByteArray), x < 10 ^ m → t.size + m ≤ 1000 → ∃ r, Ev (fun k => qiA.l0 k x t) r := by
 induction m with
 | zero =>
  intro x t hx ht
  refine ⟨⟨#[109]⟩ ++ t, Ev.step (f := fun k => _) (fun k => by rw [qiA.l0]) ?_⟩
  refine Ev.neg (by simp at hx; omega) ?_
  exact Ev.pos (by omega) (Ev.now _)
 | succ m ih =>
  intro x t hx ht
  by_cases h : x > 0
  ·have hs : (strOfNums [(wrap64 (48 + (Int.tmod x 10))) % 256]).size = 1 := rfl
   have hq : Int.tdiv x 10 = x / 10 := Int.tdiv_eq_ediv_of_nonneg (by omega)
   have hlt : x / 10 < 10 ^ m := by
    have : (10 : Int) ^ (m + 1) = 10 ^ m * 10 := by rw [Int.pow_succ]
    omega
   obtain ⟨w, hw1, hw2⟩ : ∃ w, w = wrap64 (Int.tdiv x 10) ∧ w < 10 ^ m := by
    refine ⟨_, rfl, ?_⟩
    rw [hq]
    have : (0 : Int) < 10 ^ m := Int.pow_pos (by omega)
    by_cases hbig : x / 10 ≤ 9223372036854775807
    ·have : wrap64 (x / 10) = x / 10 := by unfold wrap64; omega
     omega
    ·have h1 : wrap64 (x / 10) ≤ 9223372036854775807 := by unfold wrap64; omega
     omega
   obtain ⟨r, hr⟩ := ih w (strOfNums [(wrap64 (48 + (Int.tmod x 10))) % 256] ++ t) hw2 (by rw [ByteArray.size_append, hs]; omega)
   refine ⟨r, Ev.step (f := fun k => _) (fun k => by rw [qiA.l0]) ?_⟩
   refine Ev.pos h (Ev.bindc rfl ?_)
   refine Ev.pos (by rw [hs]; omega) ?_
   rw [← hw1]
   exact hr
  ·refine ⟨⟨#[109]⟩ ++ t, Ev.step (f := fun k => _) (fun k => by rw [qiA.l0]) ?_⟩
   refine Ev.neg h ?_
   exact Ev.pos (by omega) (Ev.now _)
theorem markText_ex (x : Int) : ∃ r, x ≤ 2000001 → Ev (fun k => qiA.f k x) r := by
 by_cases h : x ≤ 2000001
 ·by_cases h0 : x ≤ 0
  ·exact ⟨_, fun _ => by unfold qiA.f; exact Ev.pos h0 (Ev.now _)⟩
  ·obtain ⟨r, hr⟩ := markText_loop 7 x ⟨#[]⟩ (by omega) (by decide)
   exact ⟨r, fun _ => by unfold qiA.f; exact Ev.neg h0 hr⟩
 ·exact ⟨ByteArray.empty, fun h' => absurd h' h⟩
noncomputable def markT (x : Int) : ByteArray := (markText_ex x).choose
theorem markText_ev (x : Int) (h : x ≤ 2000001) : Ev (fun k => qiA.f k x) (markT x) := (markText_ex x).choose_spec h
noncomputable def marksS (n : Nat) : List ByteArray := (List.range n).map fun j : Nat => markT (1 + (j : Int))
theorem qfB (n : Nat) : (marksS n).length = n := by simp [marksS]
theorem marksS_succ (n : Nat) : marksS (n + 1) = marksS n ++ [markT (1 + (n : Int))] := by simp [marksS, List.range_succ]
theorem markStringS_loop (l : List ByteArray) (ha : l.length ≤ 2000000) (d : Nat) : ∀ i : Nat, i ≤ l.length → l.length - i = d →
  Ev (fun k => qaA.l0 k (marksS i ++ l.drop i) (1 + (i : Int)) (i : Int)) (1 + (l.length : Int), marksS l.length) := by
 induction d with
 | zero =>
  intro i hi hd
  obtain rfl : i = l.length := by omega
  refine Ev.step (f := fun k => _) (fun k => by rw [qaA.l0]) (Ev.neg ?_ (Ev.some_ ?_))
  ·simp [qfB]
  ·simp
 | succ d ih =>
  intro i hi hd
  refine Ev.step (f := fun k => _) (fun k => by rw [qaA.l0]) (Ev.pos ?_ (Ev.bind (markText_ev _ (by omega)) ?_))
  ·simp [qfB]; omega
  refine Ev.pos (by omega) ?_
  ·have w0 : wrap64 ((i : Int) + 1) = ((i + 1 : Nat) : Int) := by unfold wrap64; omega
   have w1 : wrap64 (1 + (i : Int) + 1) = 1 + ((i + 1 : Nat) : Int) := by unfold wrap64; omega
   have e : (marksS i ++ l.drop i).set i (markT (1 + (i : Int))) = marksS (i + 1) ++ l.drop (i + 1) := by
    rw [List.set_append_right _ _ (by rw [qfB]; omega), qfB, Nat.sub_self, List.drop_eq_getElem_cons (show i < l.length by omega), List.set_cons_zero, marksS_succ, List.append_assoc]
    rfl
   rw [w0, w1, Int.toNat_natCast, e]
   exact ih (i + 1) (by omega) (by omega)
theorem markStringS_ev (l : List ByteArray) (ha : l.length ≤ 2000000) : Ev (fun k => qaA.f k l 1) (1 + (l.length : Int), marksS l.length) := by
 have := markStringS_loop l ha l.length 0 (by omega) (by omega)
 simpa [marksS, qaA.f] using this
theorem heldStringS_loop (n : Nat) (hn : n ≤ 2000000) (d : Nat) : ∀ i : Nat, i ≤ n → n - i = d → Ev (fun k => qQA.l0 k (marksS n) (1 + (i : Int)) (i : Int)) (1 + (n : Int)) := by
 induction d with
 | zero =>
  intro i hi hd
  obtain rfl : i = n := by omega
  refine Ev.step (f := fun k => _) (fun k => by rw [qQA.l0]) ?_
  exact Ev.neg (by rw [qfB]; omega) (Ev.now _)
 | succ d ih =>
  intro i hi hd
  have w0 : wrap64 ((i : Int) + 1) = ((i + 1 : Nat) : Int) := by unfold wrap64; omega
  have w1 : wrap64 (1 + (i : Int) + 1) = 1 + ((i + 1 : Nat) : Int) := by unfold wrap64; omega
  have hr : rdOf ByteArray.empty (marksS n) (i : Int) = markT (1 + (i : Int)) := by
   rw [rdB _ i (by rw [qfB]; omega)]
   unfold marksS
   rw [List.getElem_map, List.getElem_range]
  refine Ev.step (f := fun k => _) (fun k => by rw [qQA.l0]) ?_
  refine Ev.pos (by rw [qfB]; omega) (Ev.pos (by omega) (Ev.bind (markText_ev _ (by omega)) (Ev.pos (by rw [hr]) ?_)))
  rw [w0, w1]
  exact ih (i + 1) (by omega) (by omega)
theorem heldStringS_ev (n : Nat) (hn : n ≤ 2000000) : Ev (fun k => qQA.f k (marksS n) 1) (1 + (n : Int)) := by
 have := heldStringS_loop n hn n 0 (by omega) (by omega)
 simpa [qQA.f] using this
end Go.Proofs.YtgjdjnggkmojnaaDoor
namespace Go.Proofs.YtgjdjnggkmojnaaDoor.Pure
open Go.RowKit Go.Proofs.YtgjdjnggkmojnaaDoor.P Go.Proofs.YtgjdjnggkmojnaaDoorW.PrintWords Go.Proofs.YtgjdjnggkmojnaaDoorW.PrintLast
set_option linter.unusedVariables false
set_option linter.unusedSimpArgs false
theorem qjC {a : ByteArray} (g : Gnd a) (l : List XS) (hl : l.length ≤ 3) (k : Nat) (hk : k < l.length) (i : Nat) (hi : i < 4) (out : List ByteArray) (ho : out.length ≤ 1000) (r : List ByteArray × Bool)
  (h : Ev (fun n => qFA.l1 n l (out ++ mv1 a l k i) (k : Int) ((i + 1 : Nat) : Int) (l.length : Int) (k : Int) (wideT a : Int) (highT a : Int) (csOf a)) r) :
  Ev (fun n => qFA.l1 n l out (k : Int) (i : Int) (l.length : Int) (k : Int) (wideT a : Int) (highT a : Int) (csOf a)) r := by
 have w : wrap64 ((i : Int) + 1) = ((i + 1 : Nat) : Int) := by unfold wrap64; omega
 refine Ev.step (f := fun n => _) (fun n => by rw [qFA.l1]) (Ev.pos (by omega) (Ev.bind (qlC g l (by omega) k hk (i : Int)) ?_))
 rw [w]
 unfold mv1 at h
 cases hm : (moveB a l k (i : Int)).2 with
 | true =>
  rw [hm, if_pos rfl] at h
  exact Ev.pos rfl (Ev.bind (sign_spec k i (by omega) hi) (Ev.pos (by omega) h))
 | false =>
  rw [hm, if_neg (by decide), List.append_nil] at h
  exact Ev.neg (by decide) h
theorem loop_ev {a : ByteArray} (g : Gnd a) (l : List XS) (hl : l.length ≤ 3) (d : Nat) : ∀ (k : Nat) (out : List ByteArray), k ≤ l.length → l.length - k = d → out.length ≤ 100 * k →
  Ev (fun n => qFA.l0 n l out (l.length : Int) (k : Int) (wideT a : Int) (highT a : Int) (csOf a)) (out ++ mvs a l k d, true) := by
 induction d with
 | zero =>
  intro k out hk hd ho
  refine Ev.step (f := fun n => _) (fun n => by rw [qFA.l0]) (Ev.neg (by omega) (Ev.some_ ?_))
  simp [mvs]
 | succ d ih =>
  intro k out hk hd ho
  have h : k < l.length := by omega
  have w : wrap64 ((k : Int) + 1) = ((k + 1 : Nat) : Int) := by unfold wrap64; omega
  have h0 := qMC a l k 0
  have h1 := qMC a l k 1
  have h2 := qMC a l k 2
  have h3 := qMC a l k 3
  have hn := ih (k + 1) (out ++ mvK a l k) (by omega) (by omega) (by have := qmD a l k; simp only [List.length_append]; omega)
  refine Ev.step (f := fun n => _) (fun n => by rw [qFA.l0]) (Ev.pos (by omega) ?_)
  refine qjC g l hl k h 0 (by omega) _ (by omega) _ (qjC g l hl k h 1 (by omega) _ (by simp only [List.length_append]; omega) _ (qjC g l hl k h 2 (by omega) _ (by simp only [List.length_append]; omega) _ (qjC g l hl k h 3 (by omega) _ (by simp only [List.length_append]; omega) _ ?_)))
  refine Ev.step (f := fun n => _) (fun n => by rw [qFA.l1]) (Ev.neg (by omega) ?_)
  rw [w]
  unfold mvs
  simpa only [mvK, List.append_assoc] using hn
theorem both (a : ByteArray) (l : List XS) (ha : a.size ≤ 1048576) (hl : l.length ≤ 2000000) : ∃ r : List ByteArray × Bool, r.1.length ≤ 12 ∧ Ev (fun n => qFA.f n a l) r ∧ Ev (fun n => qlA.f n a l) r := by
 obtain ⟨rows, h1, hr⟩ := qGC a l ha hl
 obtain ⟨w, h, cs, h2, hs⟩ := qRC a l hl
 unfold qFA.f qlA.f
 cases hb : askD a l with
 | false =>
  rw [hb] at h1 h2
  exact ⟨([], false), by simp, Ev.bind h2 (Ev.neg (by simp) (Ev.now _)), Ev.bind h1 (Ev.neg (by simp) (Ev.now _))⟩
 | true =>
  have g := qMD (qiC hb)
  obtain ⟨e1, e2, e3⟩ := hs hb
  have er := hr hb
  obtain ⟨l1, l3⟩ := qfD hb
  subst e1 e2 e3 er
  rw [hb] at h1 h2
  have h3 := loop_ev g l l3 l.length 0 [] (by omega) (by omega) (by simp)
  rw [List.nil_append] at h3
  refine ⟨(mvs a l 0 l.length, true), ?_, Ev.bind h2 (Ev.pos rfl h3), Ev.bind h1 (Ev.pos rfl (Ev.bind (moves_ev g l l3) (Ev.now _)))⟩
  ·have := mvs_len a l l.length 0
   show (mvs a l 0 l.length).length ≤ 12
   omega
theorem FnExactDiceMoves : qQ.Pure := by
 intro a l _ hl
 refine Ev.rounds (r := true) ?_
 unfold qQ.f
 by_cases ha : a.size ≤ 1048576
 ·refine Ev.neg (by omega) (Ev.bindc (qxB l hl) ?_)
  by_cases hn : l.length ≤ 1048576
  ·rw [if_pos hn]
   have hc : l.length ≤ 2000000 := by omega
   have ht := qwB l hc
   obtain ⟨r, hr, hs, hi⟩ := both a (l.map convS) ha (by simp; omega)
   have h1 : r.1.length ≤ 140737488355328 := by omega
   have h3 : (l.map convS).length ≤ 140737488355328 := by simp; omega
   have h4 : (l.map convS).length ≤ 2000000 := by simp; omega
   have h2 : r.1.length ≤ 2000000 := by omega
   refine Ev.neg (by omega) (Ev.bind ht (Ev.bind hs (Ev.bind ht (Ev.bind hi (Ev.bind (qcC _ h1) (Ev.pos rfl ?_))))))
   refine Ev.step (f := fun k => _) (fun k => by rw [qQ.j0]) (Ev.neg (by simp) ?_)
   refine Ev.bind ht (Ev.bind (qAB _ h3) (Ev.pos rfl (Ev.bind (qtB _ h4) (Ev.neg (by omega) (Ev.bind (qcC _ h1) (Ev.pos rfl ?_))))))
   refine Ev.step (f := fun k => _) (fun k => by rw [qQ.j1]) (Ev.neg (by simp) ?_)
   refine Ev.bind (markStringS_ev _ h2) (Ev.bind (heldStringS_ev _ h2) (Ev.neg (by omega) (Ev.pos rfl (Ev.bind ht (Ev.bind hi (Ev.bind (qcC _ h1) (Ev.pos rfl ?_)))))))
   refine Ev.step (f := fun k => _) (fun k => by rw [qQ.j2]) (Ev.neg (by simp) ?_)
   exact Ev.bind (heldStringS_ev _ h2) (Ev.neg (by omega) (Ev.pos rfl (Ev.now _)))
  ·rw [if_neg hn]
   exact Ev.pos (by decide) (Ev.now _)
 ·exact Ev.pos (by omega) (Ev.now _)
end Go.Proofs.YtgjdjnggkmojnaaDoor.Pure
