/- A part of the proofs of the rows of this seat: functions that all reach. -/
import Derived.Test.YtgjdjnggkmojnaaDoorKC0

namespace Go.Proofs.YtgjdjnggkmojnaaDoor.P
open Go.RowKit Go.Proofs.YtgjdjnggkmojnaaDoorW.PrintWords Go.Proofs.YtgjdjnggkmojnaaDoorW.PrintLast Go.Proofs.YtgjdjnggkmojnaaDoorW.PrintMore
attribute [local go_sem] qLA qJA qVA qUA qy qx qKA qIA
set_option linter.unusedVariables false
set_option linter.unusedSimpArgs false
def qHA.l0 : Nat → List ByteArray → List (S57) → List (S57) → Int → Int → Option (Bool)
 | 0, _, _, _, _, _ => none
 | k + 1, x0, x1, x7, x8, x9 => if x9 < x8 then (if 0 ≤ x9 then (if x9 < (x7.length : Int) then ((qGB.f k x0 ((qC x7 x9).f0) ((qC x7 x9).f1) ((qC x7 x9).f2.f0) ((qC x7 x9).f2.f1) ((qC x7 x9).f2.f2) ((qC x7 x9).f2.f3) ((qC x7 x9).f2.f4) ((qC x7 x9).f2.f5)).bind fun t212 => (if t212 = true then (if x9 ≤ (x1.length : Int) then ((qqC.f (x1.take (x9 : Int).toNat) ((qC x7 x9).f0) ((qC x7 x9).f1) ((qC x7 x9).f2.f0) ((qC x7 x9).f2.f1) ((qC x7 x9).f2.f2) ((qC x7 x9).f2.f3) ((qC x7 x9).f2.f4) ((qC x7 x9).f2.f5)).bind fun t217 => (if t217 = true then (some false) else (qHA.l0 k x0 x1 x7 x8 (wrap64 (x9 + 1))))) else (none)) else (some false))) else (none)) else (none)) else ((qwA.f (x1.length : Int) 1 3).bind fun t209 => (some t209))
def qHA.f (k : Nat) (l0 : List ByteArray) (l1 : List (S57)) : Option (Bool) := qHA.l0 k l0 l1 l1 (l1.length : Int) 0
set_option maxHeartbeats 8000000 in
set_option maxRecDepth 100000 in
theorem qHA.calls (k : Nat) (A0 : Option Addr) (c0 : Nat) (l0 : List ByteArray) (A1 : Option Addr) (c1 : Nat) (l1 : List (S57)) (r : Bool) (w : World) (hr0 : Kd.C Kd.string w A0 l0.length l0) (hc0 : l0.length ≤ c0) (hr1 : Kd.C k57 w A1 l1.length l1) (hc1 : l1.length ≤ c1) (h : qHA.f k l0 l1 = some r) :
  Calls Tryd.prog 42 #[.slice A0 l0.length c0, .slice A1 l1.length c1] w fun e w' => e = .returned (.bool r) ∧ Below w.heap.size w w' := by
 have hu57 := Tryd.underlying57
 have HR0 := Aside0.mk hr0
 have HC0 := Aside0.mk hc0
 clear hr0 hc0
 have HR1 := Aside0.mk hr1
 have HC1 := Aside0.mk hc1
 clear hr1 hc1
 have HB := Aside0.mk (Below.refl w.heap.size w)
 have H : (qHA.l0 k l0 l1 l1 (l1.length : Int) 0) = some r := h
 clear h
 have H' := Aside0.mk H
 clear H
 go_enter Tryd.func42, Tryd.ntmps42
 go_wp2
 go_loopg [9] k (fun kq v9 w' => ∃ (x9_1 : Int), v9 = .int .i64 x9_1 ∧ Aside0 (qHA.l0 kq l0 l1 l1 (l1.length : Int) x9_1 = some r) ∧ Aside0 (kq ≤ k) ∧ Aside0 (Below w.heap.size w w'))
 case atStart => exact ⟨(0), (by first | rfl | (simp; done) | (simp [*]; done)), H', ⟨Nat.le_refl _⟩, ⟨bl⟩⟩
 case round =>
  clear H'
  try clear c1
  try clear p2
  obtain ⟨x9_1, rfl, HA, HK1, HB⟩ := hrel
  cases gk with
  | zero => exact absurd HA.out (by simp [qHA.l0])
  | succ k1 =>
   have H := HA.out
   clear HA
   simp only [qHA.l0] at H
   by_cases c3 : x9_1 < (l1.length : Int)
   ·rw [if_pos c3] at H
    have c3b0 : decide (x9_1 < (l1.length : Int)) = true := decide_eq_true c3
    clear c3
    by_cases c4 : 0 ≤ x9_1
    ·rw [if_pos c4] at H
     have c4b0 : decide (0 ≤ x9_1) = true := decide_eq_true c4
     clear c4
     by_cases c5 : x9_1 < (l1.length : Int)
     ·rw [if_pos c5] at H
      have c5b0 : decide (x9_1 < (l1.length : Int)) = true := decide_eq_true c5
      clear c5
      replace H := Option.bind_eq_some_iff.mp H
      obtain ⟨t212, A60, H⟩ := H
      replace H : (if t212 = true then (if x9_1 ≤ (l1.length : Int) then ((qqC.f (l1.take (x9_1 : Int).toNat) ((qC l1 x9_1).f0) ((qC l1 x9_1).f1) ((qC l1 x9_1).f2.f0) ((qC l1 x9_1).f2.f1) ((qC l1 x9_1).f2.f2) ((qC l1 x9_1).f2.f3) ((qC l1 x9_1).f2.f4) ((qC l1 x9_1).f2.f5)).bind fun t217 => (if t217 = true then (some false) else (qHA.l0 k1 l0 l1 l1 (l1.length : Int) (wrap64 (x9_1 + 1))))) else (none)) else (some false)) = some r := H
      have A6 := Aside0.mk A60
      clear A60
      by_cases c7 : t212 = true
      ·subst c7
       have H1 : (if x9_1 ≤ (l1.length : Int) then ((qqC.f (l1.take (x9_1 : Int).toNat) ((qC l1 x9_1).f0) ((qC l1 x9_1).f1) ((qC l1 x9_1).f2.f0) ((qC l1 x9_1).f2.f1) ((qC l1 x9_1).f2.f2) ((qC l1 x9_1).f2.f3) ((qC l1 x9_1).f2.f4) ((qC l1 x9_1).f2.f5)).bind fun t217 => (if t217 = true then (some false) else (qHA.l0 k1 l0 l1 l1 (l1.length : Int) (wrap64 (x9_1 + 1))))) else (none)) = some r := by rw [if_pos rfl] at H; exact H
       clear H
       have H := H1
       clear H1
       have c8b0 := eq_true (of_decide_eq_true (by first | (with_reducible assumption) | assumption) : 0 ≤ x9_1)
       by_cases c9 : x9_1 ≤ (l1.length : Int)
       ·rw [if_pos c9] at H
        have c9b0 := eq_true c9
        have c9b1 : decide (x9_1 ≤ (l1.length : Int)) = true := decide_eq_true c9
        clear c9
        obtain ⟨y213, hy213⟩ : ∃ y_ : List (S57), y_ = (l1.take (x9_1 : Int).toNat) := ⟨_, rfl⟩
        replace H : ((qqC.f y213 ((qC l1 x9_1).f0) ((qC l1 x9_1).f1) ((qC l1 x9_1).f2.f0) ((qC l1 x9_1).f2.f1) ((qC l1 x9_1).f2.f2) ((qC l1 x9_1).f2.f3) ((qC l1 x9_1).f2.f4) ((qC l1 x9_1).f2.f5)).bind fun t217 => (if t217 = true then (some false) else (qHA.l0 k1 l0 l1 l1 (l1.length : Int) (wrap64 (x9_1 + 1))))) = some r := by first | (rw [hy213]; with_reducible exact H) | (have H2_ := (Option.bind_some _ _).symm.trans H; rw [hy213]; with_reducible exact H2_) | (have H2_ := (Option.bind_some _ _).symm.trans H; with_reducible exact H2_) | with_reducible exact H | (rw [hy213]; exact H) | exact H
        have Ny213 := Aside0.mk hy213
        clear hy213
        replace H := Option.bind_eq_some_iff.mp H
        obtain ⟨t217, A100, H⟩ := H
        replace H : (if t217 = true then (some false) else (qHA.l0 k1 l0 l1 l1 (l1.length : Int) (wrap64 (x9_1 + 1)))) = some r := H
        have A10 := Aside0.mk A100
        clear A100
        by_cases c11 : t217 = true
        ·subst c11
         have H1 : (some false) = some r := by rw [if_pos rfl] at H; exact H
         clear H
         have H := H1
         clear H1
         obtain rfl := Option.some.inj H
         have p210 : 0 ≤ (x9_1 : Int) := of_decide_eq_true (by first | (with_reducible assumption) | assumption)
         have q210 : x9_1 < (l1.length : Int) := of_decide_eq_true (by first | (with_reducible assumption) | assumption)
         obtain ⟨ad210, e210, hx210_0, hx210_1, hx210_2, hx210_3, hx210_4, hx210_5, hx210_6, hx210_7⟩ := qgA HR1.out x9_1 p210 q210
         cases e210
         replace hx210_0 := (HB.out.cell (World.block_lt_of_cell? w _ hx210_0)).trans hx210_0
         replace hx210_1 := (HB.out.cell (World.block_lt_of_cell? w _ hx210_1)).trans hx210_1
         replace hx210_2 := (HB.out.cell (World.block_lt_of_cell? w _ hx210_2)).trans hx210_2
         replace hx210_3 := (HB.out.cell (World.block_lt_of_cell? w _ hx210_3)).trans hx210_3
         replace hx210_4 := (HB.out.cell (World.block_lt_of_cell? w _ hx210_4)).trans hx210_4
         replace hx210_5 := (HB.out.cell (World.block_lt_of_cell? w _ hx210_5)).trans hx210_5
         replace hx210_6 := (HB.out.cell (World.block_lt_of_cell? w _ hx210_6)).trans hx210_6
         replace hx210_7 := (HB.out.cell (World.block_lt_of_cell? w _ hx210_7)).trans hx210_7
         replace p210 := eq_true p210
         replace q210 := eq_true q210
         go_wp2_with (first | ((with_reducible refine qg (N := 6) rfl ?_); refine qd ?hg (N := 6) ?hd (cs := #[.int .i64 0, .int .i64 0, .int .i64 0, .int .i64 0, .int .i64 0, .int .i64 0, .int .i64 0, .int .i64 0]) (t := 57) ?hr ?_; (case hd => rfl); (case hg => rfl); (case hr => first | (go_simp; done) | (go_simp; rfl)); intro gb211 hg w12 hbox hb; have n0_ := Aside0.mk (qG bl hb); have n1_ := Aside0.mk (hbox); have n2_ := Aside0.mk ((gg hg)); have n3_ := Aside0.mk ((gg hg)); clear HB; have HB := n0_; have BK211 := n1_; have GW211 := n2_; have GE211 := n3_; clear n0_ n1_ n2_ n3_; clear hb hbox hg; have hcz13_0 := bc BK211 0; have hcz13_1 := bc BK211 1; have hcz13_2 := bc BK211 2; have hcz13_3 := bc BK211 3; have hcz13_4 := bc BK211 4; have hcz13_5 := bc BK211 5; have hcz13_6 := bc BK211 6; have hcz13_7 := bc BK211 7; have hfz13_0 := qA BK211.out 0; have hfz13_1 := qA BK211.out 1; have hfz13_2 := qA BK211.out 2; have hfz13_3 := qA BK211.out 3; have hfz13_4 := qA BK211.out 4; have hfz13_5 := qA BK211.out 5; have hfz13_6 := qA BK211.out 6; have hfz13_7 := qA BK211.out 7) | ((with_reducible refine qL (f := 66) rfl ?_); refine qh (some 16) rfl rfl Tryd.func66 (by kernel_rfl) rfl #[.slice A0 l0.length c0, .agg #[.int .i64 ((qC l1 x9_1).f0), .int .i64 ((qC l1 x9_1).f1), .int .i64 ((qC l1 x9_1).f2.f0), .int .i64 ((qC l1 x9_1).f2.f1), .int .i64 ((qC l1 x9_1).f2.f2), .int .i64 ((qC l1 x9_1).f2.f3), .int .i64 ((qC l1 x9_1).f2.f4), .int .i64 ((qC l1 x9_1).f2.f5)]] rfl (by (try simp only [List.map_toArray, List.map_cons, List.map_nil]); first | done | rfl | (simp only [List.length_drop, List.length_take]; rfl)) ?_; (with_reducible refine (qGB.calls k1 _ _ l0 ((qC l1 x9_1).f0) ((qC l1 x9_1).f1) ((qC l1 x9_1).f2.f0) ((qC l1 x9_1).f2.f1) ((qC l1 x9_1).f2.f2) ((qC l1 x9_1).f2.f3) ((qC l1 x9_1).f2.f4) ((qC l1 x9_1).f2.f5) true _ ?side1 ?side2 A6.out).mono ?_); (case side1 => exact Kd.qWA HR0.out bl); (case side2 => exact HC0.out); rintro e w14 ⟨rfl, hb⟩; refine ⟨_, rfl, ?_⟩; have n0_ := Aside0.mk (qCB (g := gb211) (o := .cells #[.int .i64 ((qC l1 x9_1).f0), .int .i64 ((qC l1 x9_1).f1), .int .i64 ((qC l1 x9_1).f2.f0), .int .i64 ((qC l1 x9_1).f2.f1), .int .i64 ((qC l1 x9_1).f2.f2), .int .i64 ((qC l1 x9_1).f2.f3), .int .i64 ((qC l1 x9_1).f2.f4), .int .i64 ((qC l1 x9_1).f2.f5)] 57 (0, 0)) (by (with_reducible repeat (first | refine qE ?_ _ | refine qF ?_ | refine qD ?_ _)); refine qN (cs := #[.int .i64 ((qC l1 x9_1).f0), .int .i64 ((qC l1 x9_1).f1), .int .i64 ((qC l1 x9_1).f2.f0), .int .i64 ((qC l1 x9_1).f2.f1), .int .i64 ((qC l1 x9_1).f2.f2), .int .i64 ((qC l1 x9_1).f2.f3), .int .i64 ((qC l1 x9_1).f2.f4), .int .i64 0]) ?_ 7 _ rfl; (with_reducible repeat (first | refine qE ?_ _ | refine qF ?_ | refine qD ?_ _)); refine qN (cs := #[.int .i64 ((qC l1 x9_1).f0), .int .i64 ((qC l1 x9_1).f1), .int .i64 ((qC l1 x9_1).f2.f0), .int .i64 ((qC l1 x9_1).f2.f1), .int .i64 ((qC l1 x9_1).f2.f2), .int .i64 ((qC l1 x9_1).f2.f3), .int .i64 0, .int .i64 0]) ?_ 6 _ rfl; (with_reducible repeat (first | refine qE ?_ _ | refine qF ?_ | refine qD ?_ _)); refine qN (cs := #[.int .i64 ((qC l1 x9_1).f0), .int .i64 ((qC l1 x9_1).f1), .int .i64 ((qC l1 x9_1).f2.f0), .int .i64 ((qC l1 x9_1).f2.f1), .int .i64 ((qC l1 x9_1).f2.f2), .int .i64 0, .int .i64 0, .int .i64 0]) ?_ 5 _ rfl; (with_reducible repeat (first | refine qE ?_ _ | refine qF ?_ | refine qD ?_ _)); refine qN (cs := #[.int .i64 ((qC l1 x9_1).f0), .int .i64 ((qC l1 x9_1).f1), .int .i64 ((qC l1 x9_1).f2.f0), .int .i64 ((qC l1 x9_1).f2.f1), .int .i64 0, .int .i64 0, .int .i64 0, .int .i64 0]) ?_ 4 _ rfl; (with_reducible repeat (first | refine qE ?_ _ | refine qF ?_ | refine qD ?_ _)); refine qN (cs := #[.int .i64 ((qC l1 x9_1).f0), .int .i64 ((qC l1 x9_1).f1), .int .i64 ((qC l1 x9_1).f2.f0), .int .i64 0, .int .i64 0, .int .i64 0, .int .i64 0, .int .i64 0]) ?_ 3 _ rfl; (with_reducible repeat (first | refine qE ?_ _ | refine qF ?_ | refine qD ?_ _)); refine qN (cs := #[.int .i64 ((qC l1 x9_1).f0), .int .i64 ((qC l1 x9_1).f1), .int .i64 0, .int .i64 0, .int .i64 0, .int .i64 0, .int .i64 0, .int .i64 0]) ?_ 2 _ rfl; (with_reducible repeat (first | refine qE ?_ _ | refine qF ?_ | refine qD ?_ _)); refine qN (cs := #[.int .i64 ((qC l1 x9_1).f0), .int .i64 0, .int .i64 0, .int .i64 0, .int .i64 0, .int .i64 0, .int .i64 0, .int .i64 0]) ?_ 1 _ rfl; (with_reducible repeat (first | refine qE ?_ _ | refine qF ?_ | refine qD ?_ _)); refine qN (cs := #[.int .i64 0, .int .i64 0, .int .i64 0, .int .i64 0, .int .i64 0, .int .i64 0, .int .i64 0, .int .i64 0]) ?_ 0 _ rfl; (with_reducible repeat (first | refine qE ?_ _ | refine qF ?_ | refine qD ?_ _)); exact BK211.out) hb); have n1_ := Aside0.mk (qG bl hb); clear BK211; clear HB; have BK211 := n0_; have HB := n1_; clear n0_ n1_; (try clear hb); (try clear hb2); (try clear hk); (try clear hi); have q15 : (x9_1 : Int) ≤ ((l1.length : Int) : Int) := of_decide_eq_true (by first | (with_reducible assumption) | assumption); obtain ⟨i015, hi015, _, hsz15, _⟩ := info_parts info57; have hroom15 : l1.length ≤ c1 := HC1.out; have hC15 : Kd.C k57 _ (some ad210) l1.length l1 := HR1.out; have hcut15 := qkD (P := Tryd.prog) 26 57 .i64 Tryd.underlying26 hi015 (some ad210) l1.length c1 x9_1 (of_decide_eq_true (by first | (with_reducible assumption) | assumption)) q15 hroom15; have hr15 := Kd.qlD (m := (x9_1 : Int).toNat) hC15 (by omega); have hy15 : y213.length = (x9_1 : Int).toNat := (by rw [Ny213.out, List.length_take]; omega); rw [← Ny213.out] at hr15; rw [← hy15] at hcut15; have HR216 := Aside0.mk hr15; have HC216 := Aside0.mk (show y213.length ≤ c1 from by omega); clear hr15 hC15 hroom15 hi015 hsz15; have KY15 := Aside0.mk hy15; clear hy15; replace q15 := eq_true q15) | (go_at_call 67; (with_reducible refine (qqC.calls _ _ y213 gb211 ((qC l1 x9_1).f0) ((qC l1 x9_1).f1) ((qC l1 x9_1).f2.f0) ((qC l1 x9_1).f2.f1) ((qC l1 x9_1).f2.f2) ((qC l1 x9_1).f2.f3) ((qC l1 x9_1).f2.f4) ((qC l1 x9_1).f2.f5) true _ ?side1 ?side2 ?side3 ?side4 ?side5 ?side6 ?side7 ?side8 ?side9 ?side10 A10.out).mono ?_); (case side1 => repeat (first | exact (Kd.qWA HR216.out HB.out) | (with_reducible refine Kd.qa ?_ _) | (with_reducible refine Kd.qZ ?_ _) | (with_reducible refine Kd.qe ?_))); (case side2 => exact HC216.out); (case side3 => exact (cell_of_row _ gb211 0 _ 57 (0, 0) (by (with_reducible repeat (first | refine qE ?_ _ | refine qF ?_ | refine qD ?_ _)); exact BK211.out)).trans rfl); (case side4 => exact (cell_of_row _ gb211 1 _ 57 (0, 0) (by (with_reducible repeat (first | refine qE ?_ _ | refine qF ?_ | refine qD ?_ _)); exact BK211.out)).trans rfl); (case side5 => exact (cell_of_row _ gb211 2 _ 57 (0, 0) (by (with_reducible repeat (first | refine qE ?_ _ | refine qF ?_ | refine qD ?_ _)); exact BK211.out)).trans rfl); (case side6 => exact (cell_of_row _ gb211 3 _ 57 (0, 0) (by (with_reducible repeat (first | refine qE ?_ _ | refine qF ?_ | refine qD ?_ _)); exact BK211.out)).trans rfl); (case side7 => exact (cell_of_row _ gb211 4 _ 57 (0, 0) (by (with_reducible repeat (first | refine qE ?_ _ | refine qF ?_ | refine qD ?_ _)); exact BK211.out)).trans rfl); (case side8 => exact (cell_of_row _ gb211 5 _ 57 (0, 0) (by (with_reducible repeat (first | refine qE ?_ _ | refine qF ?_ | refine qD ?_ _)); exact BK211.out)).trans rfl); (case side9 => exact (cell_of_row _ gb211 6 _ 57 (0, 0) (by (with_reducible repeat (first | refine qE ?_ _ | refine qF ?_ | refine qD ?_ _)); exact BK211.out)).trans rfl); (case side10 => exact (cell_of_row _ gb211 7 _ 57 (0, 0) (by (with_reducible repeat (first | refine qE ?_ _ | refine qF ?_ | refine qD ?_ _)); exact BK211.out)).trans rfl); rintro e w16 ⟨rfl, hb⟩; have n0_ := Aside0.mk (bb BK211 hb); have n1_ := Aside0.mk (qG bl hb); clear BK211; clear HB; have BK211 := n0_; have HB := n1_; clear n0_ n1_; (try clear hb); (try clear hb2); (try clear hk); (try clear hi)))
         go_ret
         exact ⟨by first | rfl | (simp [qI, qH] <;> rfl) | (simp [*, qI, qH] <;> rfl), bl⟩
        ·replace c11 := Bool.eq_false_iff.mpr c11
         subst c11
         have H1 : (qHA.l0 k1 l0 l1 l1 (l1.length : Int) (wrap64 (x9_1 + 1))) = some r := by rw [if_neg (show ¬ (false = true) by decide)] at H; exact H
         clear H
         have H := H1
         clear H1
         have H' := Aside0.mk H
         clear H
         have p210 : 0 ≤ (x9_1 : Int) := of_decide_eq_true (by first | (with_reducible assumption) | assumption)
         have q210 : x9_1 < (l1.length : Int) := of_decide_eq_true (by first | (with_reducible assumption) | assumption)
         obtain ⟨ad210, e210, hx210_0, hx210_1, hx210_2, hx210_3, hx210_4, hx210_5, hx210_6, hx210_7⟩ := qgA HR1.out x9_1 p210 q210
         cases e210
         replace hx210_0 := (HB.out.cell (World.block_lt_of_cell? w _ hx210_0)).trans hx210_0
         replace hx210_1 := (HB.out.cell (World.block_lt_of_cell? w _ hx210_1)).trans hx210_1
         replace hx210_2 := (HB.out.cell (World.block_lt_of_cell? w _ hx210_2)).trans hx210_2
         replace hx210_3 := (HB.out.cell (World.block_lt_of_cell? w _ hx210_3)).trans hx210_3
         replace hx210_4 := (HB.out.cell (World.block_lt_of_cell? w _ hx210_4)).trans hx210_4
         replace hx210_5 := (HB.out.cell (World.block_lt_of_cell? w _ hx210_5)).trans hx210_5
         replace hx210_6 := (HB.out.cell (World.block_lt_of_cell? w _ hx210_6)).trans hx210_6
         replace hx210_7 := (HB.out.cell (World.block_lt_of_cell? w _ hx210_7)).trans hx210_7
         replace p210 := eq_true p210
         replace q210 := eq_true q210
         go_wp2_with (first | ((with_reducible refine qg (N := 6) rfl ?_); refine qd ?hg (N := 6) ?hd (cs := #[.int .i64 0, .int .i64 0, .int .i64 0, .int .i64 0, .int .i64 0, .int .i64 0, .int .i64 0, .int .i64 0]) (t := 57) ?hr ?_; (case hd => rfl); (case hg => rfl); (case hr => first | (go_simp; done) | (go_simp; rfl)); intro gb211 hg w17 hbox hb; have n0_ := Aside0.mk (qG bl hb); have n1_ := Aside0.mk (hbox); have n2_ := Aside0.mk ((gg hg)); have n3_ := Aside0.mk ((gg hg)); clear HB; have HB := n0_; have BK211 := n1_; have GW211 := n2_; have GE211 := n3_; clear n0_ n1_ n2_ n3_; clear hb hbox hg; have hcz18_0 := bc BK211 0; have hcz18_1 := bc BK211 1; have hcz18_2 := bc BK211 2; have hcz18_3 := bc BK211 3; have hcz18_4 := bc BK211 4; have hcz18_5 := bc BK211 5; have hcz18_6 := bc BK211 6; have hcz18_7 := bc BK211 7; have hfz18_0 := qA BK211.out 0; have hfz18_1 := qA BK211.out 1; have hfz18_2 := qA BK211.out 2; have hfz18_3 := qA BK211.out 3; have hfz18_4 := qA BK211.out 4; have hfz18_5 := qA BK211.out 5; have hfz18_6 := qA BK211.out 6; have hfz18_7 := qA BK211.out 7) | ((with_reducible refine qL (f := 66) rfl ?_); refine qh (some 16) rfl rfl Tryd.func66 (by kernel_rfl) rfl #[.slice A0 l0.length c0, .agg #[.int .i64 ((qC l1 x9_1).f0), .int .i64 ((qC l1 x9_1).f1), .int .i64 ((qC l1 x9_1).f2.f0), .int .i64 ((qC l1 x9_1).f2.f1), .int .i64 ((qC l1 x9_1).f2.f2), .int .i64 ((qC l1 x9_1).f2.f3), .int .i64 ((qC l1 x9_1).f2.f4), .int .i64 ((qC l1 x9_1).f2.f5)]] rfl (by (try simp only [List.map_toArray, List.map_cons, List.map_nil]); first | done | rfl | (simp only [List.length_drop, List.length_take]; rfl)) ?_; (with_reducible refine (qGB.calls k1 _ _ l0 ((qC l1 x9_1).f0) ((qC l1 x9_1).f1) ((qC l1 x9_1).f2.f0) ((qC l1 x9_1).f2.f1) ((qC l1 x9_1).f2.f2) ((qC l1 x9_1).f2.f3) ((qC l1 x9_1).f2.f4) ((qC l1 x9_1).f2.f5) true _ ?side1 ?side2 A6.out).mono ?_); (case side1 => exact Kd.qWA HR0.out bl); (case side2 => exact HC0.out); rintro e w19 ⟨rfl, hb⟩; refine ⟨_, rfl, ?_⟩; have n0_ := Aside0.mk (qCB (g := gb211) (o := .cells #[.int .i64 ((qC l1 x9_1).f0), .int .i64 ((qC l1 x9_1).f1), .int .i64 ((qC l1 x9_1).f2.f0), .int .i64 ((qC l1 x9_1).f2.f1), .int .i64 ((qC l1 x9_1).f2.f2), .int .i64 ((qC l1 x9_1).f2.f3), .int .i64 ((qC l1 x9_1).f2.f4), .int .i64 ((qC l1 x9_1).f2.f5)] 57 (0, 0)) (by (with_reducible repeat (first | refine qE ?_ _ | refine qF ?_ | refine qD ?_ _)); refine qN (cs := #[.int .i64 ((qC l1 x9_1).f0), .int .i64 ((qC l1 x9_1).f1), .int .i64 ((qC l1 x9_1).f2.f0), .int .i64 ((qC l1 x9_1).f2.f1), .int .i64 ((qC l1 x9_1).f2.f2), .int .i64 ((qC l1 x9_1).f2.f3), .int .i64 ((qC l1 x9_1).f2.f4), .int .i64 0]) ?_ 7 _ rfl; (with_reducible repeat (first | refine qE ?_ _ | refine qF ?_ | refine qD ?_ _)); refine qN (cs := #[.int .i64 ((qC l1 x9_1).f0), .int .i64 ((qC l1 x9_1).f1), .int .i64 ((qC l1 x9_1).f2.f0), .int .i64 ((qC l1 x9_1).f2.f1), .int .i64 ((qC l1 x9_1).f2.f2), .int .i64 ((qC l1 x9_1).f2.f3), .int .i64 0, .int .i64 0]) ?_ 6 _ rfl; (with_reducible repeat (first | refine qE ?_ _ | refine qF ?_ | refine qD ?_ _)); refine qN (cs := #[.int .i64 ((qC l1 x9_1).f0), .int .i64 ((qC l1 x9_1).f1), .int .i64 ((qC l1 x9_1).f2.f0), .int .i64 ((qC l1 x9_1).f2.f1), .int .i64 ((qC l1 x9_1).f2.f2), .int .i64 0, .int .i64 0, .int .i64 0]) ?_ 5 _ rfl; (with_reducible repeat (first | refine qE ?_ _ | refine qF ?_ | refine qD ?_ _)); refine qN (cs := #[.int .i64 ((qC l1 x9_1).f0), .int .i64 ((qC l1 x9_1).f1), .int .i64 ((qC l1 x9_1).f2.f0), .int .i64 ((qC l1 x9_1).f2.f1), .int .i64 0, .int .i64 0, .int .i64 0, .int .i64 0]) ?_ 4 _ rfl; (with_reducible repeat (first | refine qE ?_ _ | refine qF ?_ | refine qD ?_ _)); refine qN (cs := #[.int .i64 ((qC l1 x9_1).f0), .int .i64 ((qC l1 x9_1).f1), .int .i64 ((qC l1 x9_1).f2.f0), .int .i64 0, .int .i64 0, .int .i64 0, .int .i64 0, .int .i64 0]) ?_ 3 _ rfl; (with_reducible repeat (first | refine qE ?_ _ | refine qF ?_ | refine qD ?_ _)); refine qN (cs := #[.int .i64 ((qC l1 x9_1).f0), .int .i64 ((qC l1 x9_1).f1), .int .i64 0, .int .i64 0, .int .i64 0, .int .i64 0, .int .i64 0, .int .i64 0]) ?_ 2 _ rfl; (with_reducible repeat (first | refine qE ?_ _ | refine qF ?_ | refine qD ?_ _)); refine qN (cs := #[.int .i64 ((qC l1 x9_1).f0), .int .i64 0, .int .i64 0, .int .i64 0, .int .i64 0, .int .i64 0, .int .i64 0, .int .i64 0]) ?_ 1 _ rfl; (with_reducible repeat (first | refine qE ?_ _ | refine qF ?_ | refine qD ?_ _)); refine qN (cs := #[.int .i64 0, .int .i64 0, .int .i64 0, .int .i64 0, .int .i64 0, .int .i64 0, .int .i64 0, .int .i64 0]) ?_ 0 _ rfl; (with_reducible repeat (first | refine qE ?_ _ | refine qF ?_ | refine qD ?_ _)); exact BK211.out) hb); have n1_ := Aside0.mk (qG bl hb); clear BK211; clear HB; have BK211 := n0_; have HB := n1_; clear n0_ n1_; (try clear hb); (try clear hb2); (try clear hk); (try clear hi); have q20 : (x9_1 : Int) ≤ ((l1.length : Int) : Int) := of_decide_eq_true (by first | (with_reducible assumption) | assumption); obtain ⟨i020, hi020, _, hsz20, _⟩ := info_parts info57; have hroom20 : l1.length ≤ c1 := HC1.out; have hC20 : Kd.C k57 _ (some ad210) l1.length l1 := HR1.out; have hcut20 := qkD (P := Tryd.prog) 26 57 .i64 Tryd.underlying26 hi020 (some ad210) l1.length c1 x9_1 (of_decide_eq_true (by first | (with_reducible assumption) | assumption)) q20 hroom20; have hr20 := Kd.qlD (m := (x9_1 : Int).toNat) hC20 (by omega); have hy20 : y213.length = (x9_1 : Int).toNat := (by rw [Ny213.out, List.length_take]; omega); rw [← Ny213.out] at hr20; rw [← hy20] at hcut20; have HR216 := Aside0.mk hr20; have HC216 := Aside0.mk (show y213.length ≤ c1 from by omega); clear hr20 hC20 hroom20 hi020 hsz20; have KY20 := Aside0.mk hy20; clear hy20; replace q20 := eq_true q20) | (go_at_call 67; (with_reducible refine (qqC.calls _ _ y213 gb211 ((qC l1 x9_1).f0) ((qC l1 x9_1).f1) ((qC l1 x9_1).f2.f0) ((qC l1 x9_1).f2.f1) ((qC l1 x9_1).f2.f2) ((qC l1 x9_1).f2.f3) ((qC l1 x9_1).f2.f4) ((qC l1 x9_1).f2.f5) false _ ?side1 ?side2 ?side3 ?side4 ?side5 ?side6 ?side7 ?side8 ?side9 ?side10 A10.out).mono ?_); (case side1 => repeat (first | exact (Kd.qWA HR216.out HB.out) | (with_reducible refine Kd.qa ?_ _) | (with_reducible refine Kd.qZ ?_ _) | (with_reducible refine Kd.qe ?_))); (case side2 => exact HC216.out); (case side3 => exact (cell_of_row _ gb211 0 _ 57 (0, 0) (by (with_reducible repeat (first | refine qE ?_ _ | refine qF ?_ | refine qD ?_ _)); exact BK211.out)).trans rfl); (case side4 => exact (cell_of_row _ gb211 1 _ 57 (0, 0) (by (with_reducible repeat (first | refine qE ?_ _ | refine qF ?_ | refine qD ?_ _)); exact BK211.out)).trans rfl); (case side5 => exact (cell_of_row _ gb211 2 _ 57 (0, 0) (by (with_reducible repeat (first | refine qE ?_ _ | refine qF ?_ | refine qD ?_ _)); exact BK211.out)).trans rfl); (case side6 => exact (cell_of_row _ gb211 3 _ 57 (0, 0) (by (with_reducible repeat (first | refine qE ?_ _ | refine qF ?_ | refine qD ?_ _)); exact BK211.out)).trans rfl); (case side7 => exact (cell_of_row _ gb211 4 _ 57 (0, 0) (by (with_reducible repeat (first | refine qE ?_ _ | refine qF ?_ | refine qD ?_ _)); exact BK211.out)).trans rfl); (case side8 => exact (cell_of_row _ gb211 5 _ 57 (0, 0) (by (with_reducible repeat (first | refine qE ?_ _ | refine qF ?_ | refine qD ?_ _)); exact BK211.out)).trans rfl); (case side9 => exact (cell_of_row _ gb211 6 _ 57 (0, 0) (by (with_reducible repeat (first | refine qE ?_ _ | refine qF ?_ | refine qD ?_ _)); exact BK211.out)).trans rfl); (case side10 => exact (cell_of_row _ gb211 7 _ 57 (0, 0) (by (with_reducible repeat (first | refine qE ?_ _ | refine qF ?_ | refine qD ?_ _)); exact BK211.out)).trans rfl); rintro e w21 ⟨rfl, hb⟩; have n0_ := Aside0.mk (bb BK211 hb); have n1_ := Aside0.mk (qG bl hb); clear BK211; clear HB; have BK211 := n0_; have HB := n1_; clear n0_ n1_; (try clear hb); (try clear hb2); (try clear hk); (try clear hi)))
         go_roundg k1
         case measure => have := HK1.out; omega
         case rel => exact ⟨(wrap64 (x9_1 + 1)), (by first | rfl | (simp; done) | (simp [*]; done)), H', ⟨by have := HK1.out; omega⟩, ⟨bl⟩⟩
       ·rw [if_neg c9] at H
        exact absurd H (by simp)
      ·replace c7 := Bool.eq_false_iff.mpr c7
       subst c7
       have H1 : (some false) = some r := by rw [if_neg (show ¬ (false = true) by decide)] at H; exact H
       clear H
       have H := H1
       clear H1
       obtain rfl := Option.some.inj H
       have p210 : 0 ≤ (x9_1 : Int) := of_decide_eq_true (by first | (with_reducible assumption) | assumption)
       have q210 : x9_1 < (l1.length : Int) := of_decide_eq_true (by first | (with_reducible assumption) | assumption)
       obtain ⟨ad210, e210, hx210_0, hx210_1, hx210_2, hx210_3, hx210_4, hx210_5, hx210_6, hx210_7⟩ := qgA HR1.out x9_1 p210 q210
       cases e210
       replace hx210_0 := (HB.out.cell (World.block_lt_of_cell? w _ hx210_0)).trans hx210_0
       replace hx210_1 := (HB.out.cell (World.block_lt_of_cell? w _ hx210_1)).trans hx210_1
       replace hx210_2 := (HB.out.cell (World.block_lt_of_cell? w _ hx210_2)).trans hx210_2
       replace hx210_3 := (HB.out.cell (World.block_lt_of_cell? w _ hx210_3)).trans hx210_3
       replace hx210_4 := (HB.out.cell (World.block_lt_of_cell? w _ hx210_4)).trans hx210_4
       replace hx210_5 := (HB.out.cell (World.block_lt_of_cell? w _ hx210_5)).trans hx210_5
       replace hx210_6 := (HB.out.cell (World.block_lt_of_cell? w _ hx210_6)).trans hx210_6
       replace hx210_7 := (HB.out.cell (World.block_lt_of_cell? w _ hx210_7)).trans hx210_7
       replace p210 := eq_true p210
       replace q210 := eq_true q210
       go_wp2_with (first | ((with_reducible refine qg (N := 6) rfl ?_); refine qd ?hg (N := 6) ?hd (cs := #[.int .i64 0, .int .i64 0, .int .i64 0, .int .i64 0, .int .i64 0, .int .i64 0, .int .i64 0, .int .i64 0]) (t := 57) ?hr ?_; (case hd => rfl); (case hg => rfl); (case hr => first | (go_simp; done) | (go_simp; rfl)); intro gb211 hg w22 hbox hb; have n0_ := Aside0.mk (qG bl hb); have n1_ := Aside0.mk (hbox); have n2_ := Aside0.mk ((gg hg)); have n3_ := Aside0.mk ((gg hg)); clear HB; have HB := n0_; have BK211 := n1_; have GW211 := n2_; have GE211 := n3_; clear n0_ n1_ n2_ n3_; clear hb hbox hg; have hcz23_0 := bc BK211 0; have hcz23_1 := bc BK211 1; have hcz23_2 := bc BK211 2; have hcz23_3 := bc BK211 3; have hcz23_4 := bc BK211 4; have hcz23_5 := bc BK211 5; have hcz23_6 := bc BK211 6; have hcz23_7 := bc BK211 7; have hfz23_0 := qA BK211.out 0; have hfz23_1 := qA BK211.out 1; have hfz23_2 := qA BK211.out 2; have hfz23_3 := qA BK211.out 3; have hfz23_4 := qA BK211.out 4; have hfz23_5 := qA BK211.out 5; have hfz23_6 := qA BK211.out 6; have hfz23_7 := qA BK211.out 7) | ((with_reducible refine qL (f := 66) rfl ?_); refine qh (some 16) rfl rfl Tryd.func66 (by kernel_rfl) rfl #[.slice A0 l0.length c0, .agg #[.int .i64 ((qC l1 x9_1).f0), .int .i64 ((qC l1 x9_1).f1), .int .i64 ((qC l1 x9_1).f2.f0), .int .i64 ((qC l1 x9_1).f2.f1), .int .i64 ((qC l1 x9_1).f2.f2), .int .i64 ((qC l1 x9_1).f2.f3), .int .i64 ((qC l1 x9_1).f2.f4), .int .i64 ((qC l1 x9_1).f2.f5)]] rfl (by (try simp only [List.map_toArray, List.map_cons, List.map_nil]); first | done | rfl | (simp only [List.length_drop, List.length_take]; rfl)) ?_; (with_reducible refine (qGB.calls k1 _ _ l0 ((qC l1 x9_1).f0) ((qC l1 x9_1).f1) ((qC l1 x9_1).f2.f0) ((qC l1 x9_1).f2.f1) ((qC l1 x9_1).f2.f2) ((qC l1 x9_1).f2.f3) ((qC l1 x9_1).f2.f4) ((qC l1 x9_1).f2.f5) false _ ?side1 ?side2 A6.out).mono ?_); (case side1 => exact Kd.qWA HR0.out bl); (case side2 => exact HC0.out); rintro e w24 ⟨rfl, hb⟩; refine ⟨_, rfl, ?_⟩; have n0_ := Aside0.mk (qCB (g := gb211) (o := .cells #[.int .i64 ((qC l1 x9_1).f0), .int .i64 ((qC l1 x9_1).f1), .int .i64 ((qC l1 x9_1).f2.f0), .int .i64 ((qC l1 x9_1).f2.f1), .int .i64 ((qC l1 x9_1).f2.f2), .int .i64 ((qC l1 x9_1).f2.f3), .int .i64 ((qC l1 x9_1).f2.f4), .int .i64 ((qC l1 x9_1).f2.f5)] 57 (0, 0)) (by (with_reducible repeat (first | refine qE ?_ _ | refine qF ?_ | refine qD ?_ _)); refine qN (cs := #[.int .i64 ((qC l1 x9_1).f0), .int .i64 ((qC l1 x9_1).f1), .int .i64 ((qC l1 x9_1).f2.f0), .int .i64 ((qC l1 x9_1).f2.f1), .int .i64 ((qC l1 x9_1).f2.f2), .int .i64 ((qC l1 x9_1).f2.f3), .int .i64 ((qC l1 x9_1).f2.f4), .int .i64 0]) ?_ 7 _ rfl; (with_reducible repeat (first | refine qE ?_ _ | refine qF ?_ | refine qD ?_ _)); refine qN (cs := #[.int .i64 ((qC l1 x9_1).f0), .int .i64 ((qC l1 x9_1).f1), .int .i64 ((qC l1 x9_1).f2.f0), .int .i64 ((qC l1 x9_1).f2.f1), .int .i64 ((qC l1 x9_1).f2.f2), .int .i64 ((qC l1 x9_1).f2.f3), .int .i64 0, .int .i64 0]) ?_ 6 _ rfl; (with_reducible repeat (first | refine qE ?_ _ | refine qF ?_ | refine qD ?_ _)); refine qN (cs := #[.int .i64 ((qC l1 x9_1).f0), .int .i64 ((qC l1 x9_1).f1), .int .i64 ((qC l1 x9_1).f2.f0), .int .i64 ((qC l1 x9_1).f2.f1), .int .i64 ((qC l1 x9_1).f2.f2), .int .i64 0, .int .i64 0, .int .i64 0]) ?_ 5 _ rfl; (with_reducible repeat (first | refine qE ?_ _ | refine qF ?_ | refine qD ?_ _)); refine qN (cs := #[.int .i64 ((qC l1 x9_1).f0), .int .i64 ((qC l1 x9_1).f1), .int .i64 ((qC l1 x9_1).f2.f0), .int .i64 ((qC l1 x9_1).f2.f1), .int .i64 0, .int .i64 0, .int .i64 0, .int .i64 0]) ?_ 4 _ rfl; (with_reducible repeat (first | refine qE ?_ _ | refine qF ?_ | refine qD ?_ _)); refine qN (cs := #[.int .i64 ((qC l1 x9_1).f0), .int .i64 ((qC l1 x9_1).f1), .int .i64 ((qC l1 x9_1).f2.f0), .int .i64 0, .int .i64 0, .int .i64 0, .int .i64 0, .int .i64 0]) ?_ 3 _ rfl; (with_reducible repeat (first | refine qE ?_ _ | refine qF ?_ | refine qD ?_ _)); refine qN (cs := #[.int .i64 ((qC l1 x9_1).f0), .int .i64 ((qC l1 x9_1).f1), .int .i64 0, .int .i64 0, .int .i64 0, .int .i64 0, .int .i64 0, .int .i64 0]) ?_ 2 _ rfl; (with_reducible repeat (first | refine qE ?_ _ | refine qF ?_ | refine qD ?_ _)); refine qN (cs := #[.int .i64 ((qC l1 x9_1).f0), .int .i64 0, .int .i64 0, .int .i64 0, .int .i64 0, .int .i64 0, .int .i64 0, .int .i64 0]) ?_ 1 _ rfl; (with_reducible repeat (first | refine qE ?_ _ | refine qF ?_ | refine qD ?_ _)); refine qN (cs := #[.int .i64 0, .int .i64 0, .int .i64 0, .int .i64 0, .int .i64 0, .int .i64 0, .int .i64 0, .int .i64 0]) ?_ 0 _ rfl; (with_reducible repeat (first | refine qE ?_ _ | refine qF ?_ | refine qD ?_ _)); exact BK211.out) hb); have n1_ := Aside0.mk (qG bl hb); clear BK211; clear HB; have BK211 := n0_; have HB := n1_; clear n0_ n1_; (try clear hb); (try clear hb2); (try clear hk); (try clear hi)))
       go_ret
       exact ⟨by first | rfl | (simp [qI, qH] <;> rfl) | (simp [*, qI, qH] <;> rfl), bl⟩
     ·rw [if_neg c5] at H
      exact absurd H (by simp)
    ·rw [if_neg c4] at H
     exact absurd H (by simp)
   ·rw [if_neg c3] at H
    have c3b0 : decide (x9_1 < (l1.length : Int)) = false := decide_eq_false c3
    clear c3
    replace H := Option.bind_eq_some_iff.mp H
    obtain ⟨t209, A250, H⟩ := H
    replace H : (some t209) = some r := H
    have A25 := Aside0.mk A250
    clear A250
    obtain rfl := Option.some.inj H
    go_wp2_with (first | ((with_reducible refine qL (f := 70) rfl ?_); refine qh (some 28) rfl rfl Tryd.func70 (by kernel_rfl) rfl #[.int .i64 (l1.length : Int), .int .i64 1, .int .i64 3] rfl (by (try simp only [List.map_toArray, List.map_cons, List.map_nil]); first | done | rfl | (simp only [List.length_drop, List.length_take]; rfl)) ?_; (with_reducible refine (qwA.calls (l1.length : Int) 1 3 t209 _ A25.out).mono ?_); rintro e w' ⟨rfl, ⟨nd, rfl⟩⟩; refine ⟨_, rfl, ?_⟩))
    go_ret
    exact ⟨by first | rfl | (simp [qI, qH] <;> rfl) | (simp [*, qI, qH] <;> rfl), bl⟩
def qJC.f (a0_0 : Int) (a0_1 : Int) (a0_2 : Int) (a0_3 : Int) (a0_4 : Int) (a0_5 : Int) (a1_0 : Int) (a1_1 : Int) (a1_2 : Int) (a1_3 : Int) (a1_4 : Int) (a1_5 : Int) : Option (Bool) := if a0_0 = a1_0 then (if a0_1 = a1_1 then (if a0_2 = a1_2 then (if a0_3 = a1_3 then (if a0_4 = a1_4 then (if a0_5 = a1_5 then (some true) else (some false)) else (some false)) else (some false)) else (some false)) else (some false)) else (some false)
set_option maxHeartbeats 8000000 in
set_option maxRecDepth 100000 in
theorem qJC.calls (a0_0 : Int) (a0_1 : Int) (a0_2 : Int) (a0_3 : Int) (a0_4 : Int) (a0_5 : Int) (a1_0 : Int) (a1_1 : Int) (a1_2 : Int) (a1_3 : Int) (a1_4 : Int) (a1_5 : Int) (r : Bool) (w : World) (h : qJC.f a0_0 a0_1 a0_2 a0_3 a0_4 a0_5 a1_0 a1_1 a1_2 a1_3 a1_4 a1_5 = some r) :
  Calls Tryd.prog 71 #[.agg #[.int .i64 a0_0, .int .i64 a0_1, .int .i64 a0_2, .int .i64 a0_3, .int .i64 a0_4, .int .i64 a0_5], .agg #[.int .i64 a1_0, .int .i64 a1_1, .int .i64 a1_2, .int .i64 a1_3, .int .i64 a1_4, .int .i64 a1_5]] w fun e w' => e = .returned (.bool r) ∧ Below w.heap.size w w' := by
 have hu55 := Tryd.underlying55
 have HB := Aside0.mk (Below.refl w.heap.size w)
 have H : (if a0_0 = a1_0 then (if a0_1 = a1_1 then (if a0_2 = a1_2 then (if a0_3 = a1_3 then (if a0_4 = a1_4 then (if a0_5 = a1_5 then (some true) else (some false)) else (some false)) else (some false)) else (some false)) else (some false)) else (some false)) = some r := h
 clear h
 by_cases c3 : a0_0 = a1_0
 ·rw [if_pos c3] at H
  have c3b0 : (a0_0 == a1_0) = true := beq_iff_eq.mpr c3
  have c3b1 : (a0_0 != a1_0) = false := bne_eq_false_iff_eq.mpr c3
  clear c3
  by_cases c4 : a0_1 = a1_1
  ·rw [if_pos c4] at H
   have c4b0 : (a0_1 == a1_1) = true := beq_iff_eq.mpr c4
   have c4b1 : (a0_1 != a1_1) = false := bne_eq_false_iff_eq.mpr c4
   clear c4
   by_cases c5 : a0_2 = a1_2
   ·rw [if_pos c5] at H
    have c5b0 : (a0_2 == a1_2) = true := beq_iff_eq.mpr c5
    have c5b1 : (a0_2 != a1_2) = false := bne_eq_false_iff_eq.mpr c5
    clear c5
    by_cases c6 : a0_3 = a1_3
    ·rw [if_pos c6] at H
     have c6b0 : (a0_3 == a1_3) = true := beq_iff_eq.mpr c6
     have c6b1 : (a0_3 != a1_3) = false := bne_eq_false_iff_eq.mpr c6
     clear c6
     by_cases c7 : a0_4 = a1_4
     ·rw [if_pos c7] at H
      have c7b0 : (a0_4 == a1_4) = true := beq_iff_eq.mpr c7
      have c7b1 : (a0_4 != a1_4) = false := bne_eq_false_iff_eq.mpr c7
      clear c7
      by_cases c8 : a0_5 = a1_5
      ·rw [if_pos c8] at H
       have c8b0 : (a0_5 == a1_5) = true := beq_iff_eq.mpr c8
       have c8b1 : (a0_5 != a1_5) = false := bne_eq_false_iff_eq.mpr c8
       clear c8
       obtain rfl := Option.some.inj H
       go_enter Tryd.func71, Tryd.ntmps71
       go_wp2_with (first | ((with_reducible refine qg (N := 2) rfl ?_); refine qd ?hg (N := 2) ?hd (cs := #[.int .i64 a0_0, .int .i64 a0_1, .int .i64 a0_2, .int .i64 a0_3, .int .i64 a0_4, .int .i64 a0_5]) (t := 55) ?hr ?_; (case hd => rfl); (case hg => rfl); (case hr => first | (go_simp; done) | (go_simp; rfl)); intro gb223 hg w9 hbox hb; have n0_ := Aside0.mk (qG bl hb); have n1_ := Aside0.mk (hbox); have n2_ := Aside0.mk ((gg hg)); have n3_ := Aside0.mk ((gg hg)); clear HB; have HB := n0_; have BK223 := n1_; have GW223 := n2_; have GE223 := n3_; clear n0_ n1_ n2_ n3_; clear hb hbox hg) | ((with_reducible refine qg (N := 3) rfl ?_); refine qd ?hg (N := 3) ?hd (cs := #[.int .i64 a1_0, .int .i64 a1_1, .int .i64 a1_2, .int .i64 a1_3, .int .i64 a1_4, .int .i64 a1_5]) (t := 55) ?hr ?_; (case hd => rfl); (case hg => rfl); (case hr => first | (go_simp; done) | (go_simp; rfl)); intro gb224 hg w10 hbox hb; have n0_ := Aside0.mk (bb BK223 hb); have n1_ := Aside0.mk (qG bl hb); have n2_ := Aside0.mk (hbox); have n3_ := Aside0.mk ((gg hg)); have n4_ := Aside0.mk ((gg hg)); have n5_ := Aside0.mk ((nl BK223 hg)); have n6_ := Aside0.mk ((nr BK223 hg)); clear BK223; clear HB; have BK223 := n0_; have HB := n1_; have BK224 := n2_; have GW224 := n3_; have GE224 := n4_; have NB223_224 := n5_; have NB224_223 := n6_; clear n0_ n1_ n2_ n3_ n4_ n5_ n6_; clear hb hbox hg; have hnb11 := NB223_224.out; have hnc11 := NB224_223.out; have hcz12_0 := bc BK223 0; have hcz12_1 := bc BK223 1; have hcz12_2 := bc BK223 2; have hcz12_3 := bc BK223 3; have hcz12_4 := bc BK223 4; have hcz12_5 := bc BK223 5; have hfz12_0 := qA BK223.out 0; have hfz12_1 := qA BK223.out 1; have hfz12_2 := qA BK223.out 2; have hfz12_3 := qA BK223.out 3; have hfz12_4 := qA BK223.out 4; have hfz12_5 := qA BK223.out 5; have hcz13_0 := bc BK224 0; have hcz13_1 := bc BK224 1; have hcz13_2 := bc BK224 2; have hcz13_3 := bc BK224 3; have hcz13_4 := bc BK224 4; have hcz13_5 := bc BK224 5; have hfz13_0 := qA BK224.out 0; have hfz13_1 := qA BK224.out 1; have hfz13_2 := qA BK224.out 2; have hfz13_3 := qA BK224.out 3; have hfz13_4 := qA BK224.out 4; have hfz13_5 := qA BK224.out 5))
       go_ret
       exact ⟨by first | rfl | (simp [qI, qH] <;> rfl) | (simp [*, qI, qH] <;> rfl), bl⟩
      ·rw [if_neg c8] at H
       have c8b0 : (a0_5 == a1_5) = false := beq_eq_false_iff_ne.mpr c8
       have c8b1 : (a0_5 != a1_5) = true := bne_iff_ne.mpr c8
       obtain rfl := Option.some.inj H
       go_enter Tryd.func71, Tryd.ntmps71
       go_wp2_with (first | ((with_reducible refine qg (N := 2) rfl ?_); refine qd ?hg (N := 2) ?hd (cs := #[.int .i64 a0_0, .int .i64 a0_1, .int .i64 a0_2, .int .i64 a0_3, .int .i64 a0_4, .int .i64 a0_5]) (t := 55) ?hr ?_; (case hd => rfl); (case hg => rfl); (case hr => first | (go_simp; done) | (go_simp; rfl)); intro gb223 hg w14 hbox hb; have n0_ := Aside0.mk (qG bl hb); have n1_ := Aside0.mk (hbox); have n2_ := Aside0.mk ((gg hg)); have n3_ := Aside0.mk ((gg hg)); clear HB; have HB := n0_; have BK223 := n1_; have GW223 := n2_; have GE223 := n3_; clear n0_ n1_ n2_ n3_; clear hb hbox hg) | ((with_reducible refine qg (N := 3) rfl ?_); refine qd ?hg (N := 3) ?hd (cs := #[.int .i64 a1_0, .int .i64 a1_1, .int .i64 a1_2, .int .i64 a1_3, .int .i64 a1_4, .int .i64 a1_5]) (t := 55) ?hr ?_; (case hd => rfl); (case hg => rfl); (case hr => first | (go_simp; done) | (go_simp; rfl)); intro gb224 hg w15 hbox hb; have n0_ := Aside0.mk (bb BK223 hb); have n1_ := Aside0.mk (qG bl hb); have n2_ := Aside0.mk (hbox); have n3_ := Aside0.mk ((gg hg)); have n4_ := Aside0.mk ((gg hg)); have n5_ := Aside0.mk ((nl BK223 hg)); have n6_ := Aside0.mk ((nr BK223 hg)); clear BK223; clear HB; have BK223 := n0_; have HB := n1_; have BK224 := n2_; have GW224 := n3_; have GE224 := n4_; have NB223_224 := n5_; have NB224_223 := n6_; clear n0_ n1_ n2_ n3_ n4_ n5_ n6_; clear hb hbox hg; have hnb16 := NB223_224.out; have hnc16 := NB224_223.out; have hcz17_0 := bc BK223 0; have hcz17_1 := bc BK223 1; have hcz17_2 := bc BK223 2; have hcz17_3 := bc BK223 3; have hcz17_4 := bc BK223 4; have hcz17_5 := bc BK223 5; have hfz17_0 := qA BK223.out 0; have hfz17_1 := qA BK223.out 1; have hfz17_2 := qA BK223.out 2; have hfz17_3 := qA BK223.out 3; have hfz17_4 := qA BK223.out 4; have hfz17_5 := qA BK223.out 5; have hcz18_0 := bc BK224 0; have hcz18_1 := bc BK224 1; have hcz18_2 := bc BK224 2; have hcz18_3 := bc BK224 3; have hcz18_4 := bc BK224 4; have hcz18_5 := bc BK224 5; have hfz18_0 := qA BK224.out 0; have hfz18_1 := qA BK224.out 1; have hfz18_2 := qA BK224.out 2; have hfz18_3 := qA BK224.out 3; have hfz18_4 := qA BK224.out 4; have hfz18_5 := qA BK224.out 5))
       go_ret
       exact ⟨by first | rfl | (simp [qI, qH] <;> rfl) | (simp [*, qI, qH] <;> rfl), bl⟩
     ·rw [if_neg c7] at H
      have c7b0 : (a0_4 == a1_4) = false := beq_eq_false_iff_ne.mpr c7
      have c7b1 : (a0_4 != a1_4) = true := bne_iff_ne.mpr c7
      obtain rfl := Option.some.inj H
      go_enter Tryd.func71, Tryd.ntmps71
      go_wp2_with (first | ((with_reducible refine qg (N := 2) rfl ?_); refine qd ?hg (N := 2) ?hd (cs := #[.int .i64 a0_0, .int .i64 a0_1, .int .i64 a0_2, .int .i64 a0_3, .int .i64 a0_4, .int .i64 a0_5]) (t := 55) ?hr ?_; (case hd => rfl); (case hg => rfl); (case hr => first | (go_simp; done) | (go_simp; rfl)); intro gb223 hg w19 hbox hb; have n0_ := Aside0.mk (qG bl hb); have n1_ := Aside0.mk (hbox); have n2_ := Aside0.mk ((gg hg)); have n3_ := Aside0.mk ((gg hg)); clear HB; have HB := n0_; have BK223 := n1_; have GW223 := n2_; have GE223 := n3_; clear n0_ n1_ n2_ n3_; clear hb hbox hg) | ((with_reducible refine qg (N := 3) rfl ?_); refine qd ?hg (N := 3) ?hd (cs := #[.int .i64 a1_0, .int .i64 a1_1, .int .i64 a1_2, .int .i64 a1_3, .int .i64 a1_4, .int .i64 a1_5]) (t := 55) ?hr ?_; (case hd => rfl); (case hg => rfl); (case hr => first | (go_simp; done) | (go_simp; rfl)); intro gb224 hg w20 hbox hb; have n0_ := Aside0.mk (bb BK223 hb); have n1_ := Aside0.mk (qG bl hb); have n2_ := Aside0.mk (hbox); have n3_ := Aside0.mk ((gg hg)); have n4_ := Aside0.mk ((gg hg)); have n5_ := Aside0.mk ((nl BK223 hg)); have n6_ := Aside0.mk ((nr BK223 hg)); clear BK223; clear HB; have BK223 := n0_; have HB := n1_; have BK224 := n2_; have GW224 := n3_; have GE224 := n4_; have NB223_224 := n5_; have NB224_223 := n6_; clear n0_ n1_ n2_ n3_ n4_ n5_ n6_; clear hb hbox hg; have hnb21 := NB223_224.out; have hnc21 := NB224_223.out; have hcz22_0 := bc BK223 0; have hcz22_1 := bc BK223 1; have hcz22_2 := bc BK223 2; have hcz22_3 := bc BK223 3; have hcz22_4 := bc BK223 4; have hcz22_5 := bc BK223 5; have hfz22_0 := qA BK223.out 0; have hfz22_1 := qA BK223.out 1; have hfz22_2 := qA BK223.out 2; have hfz22_3 := qA BK223.out 3; have hfz22_4 := qA BK223.out 4; have hfz22_5 := qA BK223.out 5; have hcz23_0 := bc BK224 0; have hcz23_1 := bc BK224 1; have hcz23_2 := bc BK224 2; have hcz23_3 := bc BK224 3; have hcz23_4 := bc BK224 4; have hcz23_5 := bc BK224 5; have hfz23_0 := qA BK224.out 0; have hfz23_1 := qA BK224.out 1; have hfz23_2 := qA BK224.out 2; have hfz23_3 := qA BK224.out 3; have hfz23_4 := qA BK224.out 4; have hfz23_5 := qA BK224.out 5))
      go_ret
      exact ⟨by first | rfl | (simp [qI, qH] <;> rfl) | (simp [*, qI, qH] <;> rfl), bl⟩
    ·rw [if_neg c6] at H
     have c6b0 : (a0_3 == a1_3) = false := beq_eq_false_iff_ne.mpr c6
     have c6b1 : (a0_3 != a1_3) = true := bne_iff_ne.mpr c6
     obtain rfl := Option.some.inj H
     go_enter Tryd.func71, Tryd.ntmps71
     go_wp2_with (first | ((with_reducible refine qg (N := 2) rfl ?_); refine qd ?hg (N := 2) ?hd (cs := #[.int .i64 a0_0, .int .i64 a0_1, .int .i64 a0_2, .int .i64 a0_3, .int .i64 a0_4, .int .i64 a0_5]) (t := 55) ?hr ?_; (case hd => rfl); (case hg => rfl); (case hr => first | (go_simp; done) | (go_simp; rfl)); intro gb223 hg w24 hbox hb; have n0_ := Aside0.mk (qG bl hb); have n1_ := Aside0.mk (hbox); have n2_ := Aside0.mk ((gg hg)); have n3_ := Aside0.mk ((gg hg)); clear HB; have HB := n0_; have BK223 := n1_; have GW223 := n2_; have GE223 := n3_; clear n0_ n1_ n2_ n3_; clear hb hbox hg) | ((with_reducible refine qg (N := 3) rfl ?_); refine qd ?hg (N := 3) ?hd (cs := #[.int .i64 a1_0, .int .i64 a1_1, .int .i64 a1_2, .int .i64 a1_3, .int .i64 a1_4, .int .i64 a1_5]) (t := 55) ?hr ?_; (case hd => rfl); (case hg => rfl); (case hr => first | (go_simp; done) | (go_simp; rfl)); intro gb224 hg w25 hbox hb; have n0_ := Aside0.mk (bb BK223 hb); have n1_ := Aside0.mk (qG bl hb); have n2_ := Aside0.mk (hbox); have n3_ := Aside0.mk ((gg hg)); have n4_ := Aside0.mk ((gg hg)); have n5_ := Aside0.mk ((nl BK223 hg)); have n6_ := Aside0.mk ((nr BK223 hg)); clear BK223; clear HB; have BK223 := n0_; have HB := n1_; have BK224 := n2_; have GW224 := n3_; have GE224 := n4_; have NB223_224 := n5_; have NB224_223 := n6_; clear n0_ n1_ n2_ n3_ n4_ n5_ n6_; clear hb hbox hg; have hnb26 := NB223_224.out; have hnc26 := NB224_223.out; have hcz27_0 := bc BK223 0; have hcz27_1 := bc BK223 1; have hcz27_2 := bc BK223 2; have hcz27_3 := bc BK223 3; have hcz27_4 := bc BK223 4; have hcz27_5 := bc BK223 5; have hfz27_0 := qA BK223.out 0; have hfz27_1 := qA BK223.out 1; have hfz27_2 := qA BK223.out 2; have hfz27_3 := qA BK223.out 3; have hfz27_4 := qA BK223.out 4; have hfz27_5 := qA BK223.out 5; have hcz28_0 := bc BK224 0; have hcz28_1 := bc BK224 1; have hcz28_2 := bc BK224 2; have hcz28_3 := bc BK224 3; have hcz28_4 := bc BK224 4; have hcz28_5 := bc BK224 5; have hfz28_0 := qA BK224.out 0; have hfz28_1 := qA BK224.out 1; have hfz28_2 := qA BK224.out 2; have hfz28_3 := qA BK224.out 3; have hfz28_4 := qA BK224.out 4; have hfz28_5 := qA BK224.out 5))
     go_ret
     exact ⟨by first | rfl | (simp [qI, qH] <;> rfl) | (simp [*, qI, qH] <;> rfl), bl⟩
   ·rw [if_neg c5] at H
    have c5b0 : (a0_2 == a1_2) = false := beq_eq_false_iff_ne.mpr c5
    have c5b1 : (a0_2 != a1_2) = true := bne_iff_ne.mpr c5
    obtain rfl := Option.some.inj H
    go_enter Tryd.func71, Tryd.ntmps71
    go_wp2_with (first | ((with_reducible refine qg (N := 2) rfl ?_); refine qd ?hg (N := 2) ?hd (cs := #[.int .i64 a0_0, .int .i64 a0_1, .int .i64 a0_2, .int .i64 a0_3, .int .i64 a0_4, .int .i64 a0_5]) (t := 55) ?hr ?_; (case hd => rfl); (case hg => rfl); (case hr => first | (go_simp; done) | (go_simp; rfl)); intro gb223 hg w29 hbox hb; have n0_ := Aside0.mk (qG bl hb); have n1_ := Aside0.mk (hbox); have n2_ := Aside0.mk ((gg hg)); have n3_ := Aside0.mk ((gg hg)); clear HB; have HB := n0_; have BK223 := n1_; have GW223 := n2_; have GE223 := n3_; clear n0_ n1_ n2_ n3_; clear hb hbox hg) | ((with_reducible refine qg (N := 3) rfl ?_); refine qd ?hg (N := 3) ?hd (cs := #[.int .i64 a1_0, .int .i64 a1_1, .int .i64 a1_2, .int .i64 a1_3, .int .i64 a1_4, .int .i64 a1_5]) (t := 55) ?hr ?_; (case hd => rfl); (case hg => rfl); (case hr => first | (go_simp; done) | (go_simp; rfl)); intro gb224 hg w30 hbox hb; have n0_ := Aside0.mk (bb BK223 hb); have n1_ := Aside0.mk (qG bl hb); have n2_ := Aside0.mk (hbox); have n3_ := Aside0.mk ((gg hg)); have n4_ := Aside0.mk ((gg hg)); have n5_ := Aside0.mk ((nl BK223 hg)); have n6_ := Aside0.mk ((nr BK223 hg)); clear BK223; clear HB; have BK223 := n0_; have HB := n1_; have BK224 := n2_; have GW224 := n3_; have GE224 := n4_; have NB223_224 := n5_; have NB224_223 := n6_; clear n0_ n1_ n2_ n3_ n4_ n5_ n6_; clear hb hbox hg; have hnb31 := NB223_224.out; have hnc31 := NB224_223.out; have hcz32_0 := bc BK223 0; have hcz32_1 := bc BK223 1; have hcz32_2 := bc BK223 2; have hcz32_3 := bc BK223 3; have hcz32_4 := bc BK223 4; have hcz32_5 := bc BK223 5; have hfz32_0 := qA BK223.out 0; have hfz32_1 := qA BK223.out 1; have hfz32_2 := qA BK223.out 2; have hfz32_3 := qA BK223.out 3; have hfz32_4 := qA BK223.out 4; have hfz32_5 := qA BK223.out 5; have hcz33_0 := bc BK224 0; have hcz33_1 := bc BK224 1; have hcz33_2 := bc BK224 2; have hcz33_3 := bc BK224 3; have hcz33_4 := bc BK224 4; have hcz33_5 := bc BK224 5; have hfz33_0 := qA BK224.out 0; have hfz33_1 := qA BK224.out 1; have hfz33_2 := qA BK224.out 2; have hfz33_3 := qA BK224.out 3; have hfz33_4 := qA BK224.out 4; have hfz33_5 := qA BK224.out 5))
    go_ret
    exact ⟨by first | rfl | (simp [qI, qH] <;> rfl) | (simp [*, qI, qH] <;> rfl), bl⟩
  ·rw [if_neg c4] at H
   have c4b0 : (a0_1 == a1_1) = false := beq_eq_false_iff_ne.mpr c4
   have c4b1 : (a0_1 != a1_1) = true := bne_iff_ne.mpr c4
   obtain rfl := Option.some.inj H
   go_enter Tryd.func71, Tryd.ntmps71
   go_wp2_with (first | ((with_reducible refine qg (N := 2) rfl ?_); refine qd ?hg (N := 2) ?hd (cs := #[.int .i64 a0_0, .int .i64 a0_1, .int .i64 a0_2, .int .i64 a0_3, .int .i64 a0_4, .int .i64 a0_5]) (t := 55) ?hr ?_; (case hd => rfl); (case hg => rfl); (case hr => first | (go_simp; done) | (go_simp; rfl)); intro gb223 hg w34 hbox hb; have n0_ := Aside0.mk (qG bl hb); have n1_ := Aside0.mk (hbox); have n2_ := Aside0.mk ((gg hg)); have n3_ := Aside0.mk ((gg hg)); clear HB; have HB := n0_; have BK223 := n1_; have GW223 := n2_; have GE223 := n3_; clear n0_ n1_ n2_ n3_; clear hb hbox hg) | ((with_reducible refine qg (N := 3) rfl ?_); refine qd ?hg (N := 3) ?hd (cs := #[.int .i64 a1_0, .int .i64 a1_1, .int .i64 a1_2, .int .i64 a1_3, .int .i64 a1_4, .int .i64 a1_5]) (t := 55) ?hr ?_; (case hd => rfl); (case hg => rfl); (case hr => first | (go_simp; done) | (go_simp; rfl)); intro gb224 hg w35 hbox hb; have n0_ := Aside0.mk (bb BK223 hb); have n1_ := Aside0.mk (qG bl hb); have n2_ := Aside0.mk (hbox); have n3_ := Aside0.mk ((gg hg)); have n4_ := Aside0.mk ((gg hg)); have n5_ := Aside0.mk ((nl BK223 hg)); have n6_ := Aside0.mk ((nr BK223 hg)); clear BK223; clear HB; have BK223 := n0_; have HB := n1_; have BK224 := n2_; have GW224 := n3_; have GE224 := n4_; have NB223_224 := n5_; have NB224_223 := n6_; clear n0_ n1_ n2_ n3_ n4_ n5_ n6_; clear hb hbox hg; have hnb36 := NB223_224.out; have hnc36 := NB224_223.out; have hcz37_0 := bc BK223 0; have hcz37_1 := bc BK223 1; have hcz37_2 := bc BK223 2; have hcz37_3 := bc BK223 3; have hcz37_4 := bc BK223 4; have hcz37_5 := bc BK223 5; have hfz37_0 := qA BK223.out 0; have hfz37_1 := qA BK223.out 1; have hfz37_2 := qA BK223.out 2; have hfz37_3 := qA BK223.out 3; have hfz37_4 := qA BK223.out 4; have hfz37_5 := qA BK223.out 5; have hcz38_0 := bc BK224 0; have hcz38_1 := bc BK224 1; have hcz38_2 := bc BK224 2; have hcz38_3 := bc BK224 3; have hcz38_4 := bc BK224 4; have hcz38_5 := bc BK224 5; have hfz38_0 := qA BK224.out 0; have hfz38_1 := qA BK224.out 1; have hfz38_2 := qA BK224.out 2; have hfz38_3 := qA BK224.out 3; have hfz38_4 := qA BK224.out 4; have hfz38_5 := qA BK224.out 5))
   go_ret
   exact ⟨by first | rfl | (simp [qI, qH] <;> rfl) | (simp [*, qI, qH] <;> rfl), bl⟩
 ·rw [if_neg c3] at H
  have c3b0 : (a0_0 == a1_0) = false := beq_eq_false_iff_ne.mpr c3
  have c3b1 : (a0_0 != a1_0) = true := bne_iff_ne.mpr c3
  obtain rfl := Option.some.inj H
  go_enter Tryd.func71, Tryd.ntmps71
  go_wp2_with (first | ((with_reducible refine qg (N := 2) rfl ?_); refine qd ?hg (N := 2) ?hd (cs := #[.int .i64 a0_0, .int .i64 a0_1, .int .i64 a0_2, .int .i64 a0_3, .int .i64 a0_4, .int .i64 a0_5]) (t := 55) ?hr ?_; (case hd => rfl); (case hg => rfl); (case hr => first | (go_simp; done) | (go_simp; rfl)); intro gb223 hg w39 hbox hb; have n0_ := Aside0.mk (qG bl hb); have n1_ := Aside0.mk (hbox); have n2_ := Aside0.mk ((gg hg)); have n3_ := Aside0.mk ((gg hg)); clear HB; have HB := n0_; have BK223 := n1_; have GW223 := n2_; have GE223 := n3_; clear n0_ n1_ n2_ n3_; clear hb hbox hg) | ((with_reducible refine qg (N := 3) rfl ?_); refine qd ?hg (N := 3) ?hd (cs := #[.int .i64 a1_0, .int .i64 a1_1, .int .i64 a1_2, .int .i64 a1_3, .int .i64 a1_4, .int .i64 a1_5]) (t := 55) ?hr ?_; (case hd => rfl); (case hg => rfl); (case hr => first | (go_simp; done) | (go_simp; rfl)); intro gb224 hg w40 hbox hb; have n0_ := Aside0.mk (bb BK223 hb); have n1_ := Aside0.mk (qG bl hb); have n2_ := Aside0.mk (hbox); have n3_ := Aside0.mk ((gg hg)); have n4_ := Aside0.mk ((gg hg)); have n5_ := Aside0.mk ((nl BK223 hg)); have n6_ := Aside0.mk ((nr BK223 hg)); clear BK223; clear HB; have BK223 := n0_; have HB := n1_; have BK224 := n2_; have GW224 := n3_; have GE224 := n4_; have NB223_224 := n5_; have NB224_223 := n6_; clear n0_ n1_ n2_ n3_ n4_ n5_ n6_; clear hb hbox hg; have hnb41 := NB223_224.out; have hnc41 := NB224_223.out; have hcz42_0 := bc BK223 0; have hcz42_1 := bc BK223 1; have hcz42_2 := bc BK223 2; have hcz42_3 := bc BK223 3; have hcz42_4 := bc BK223 4; have hcz42_5 := bc BK223 5; have hfz42_0 := qA BK223.out 0; have hfz42_1 := qA BK223.out 1; have hfz42_2 := qA BK223.out 2; have hfz42_3 := qA BK223.out 3; have hfz42_4 := qA BK223.out 4; have hfz42_5 := qA BK223.out 5; have hcz43_0 := bc BK224 0; have hcz43_1 := bc BK224 1; have hcz43_2 := bc BK224 2; have hcz43_3 := bc BK224 3; have hcz43_4 := bc BK224 4; have hcz43_5 := bc BK224 5; have hfz43_0 := qA BK224.out 0; have hfz43_1 := qA BK224.out 1; have hfz43_2 := qA BK224.out 2; have hfz43_3 := qA BK224.out 3; have hfz43_4 := qA BK224.out 4; have hfz43_5 := qA BK224.out 5))
  go_ret
  exact ⟨by first | rfl | (simp [qI, qH] <;> rfl) | (simp [*, qI, qH] <;> rfl), bl⟩
def qmB.f (a0_0 : Int) (a0_1 : Int) (a0_2 : Int) (a0_3 : Int) (a0_4 : Int) (a0_5 : Int) (a0_6 : Int) (a0_7 : Int) (a1_0 : Int) (a1_1 : Int) (a1_2 : Int) (a1_3 : Int) (a1_4 : Int) (a1_5 : Int) (a1_6 : Int) (a1_7 : Int) : Option (Bool) := if a0_0 = a1_0 then (if a0_1 = a1_1 then ((qJC.f a0_2 a0_3 a0_4 a0_5 a0_6 a0_7 a1_2 a1_3 a1_4 a1_5 a1_6 a1_7).bind fun t227 => (if t227 = true then (some true) else (some false))) else (some false)) else (some false)
set_option maxHeartbeats 8000000 in
set_option maxRecDepth 100000 in
theorem qmB.calls (a0_0 : Int) (a0_1 : Int) (a0_2 : Int) (a0_3 : Int) (a0_4 : Int) (a0_5 : Int) (a0_6 : Int) (a0_7 : Int) (a1_0 : Int) (a1_1 : Int) (a1_2 : Int) (a1_3 : Int) (a1_4 : Int) (a1_5 : Int) (a1_6 : Int) (a1_7 : Int) (r : Bool) (w : World) (h : qmB.f a0_0 a0_1 a0_2 a0_3 a0_4 a0_5 a0_6 a0_7 a1_0 a1_1 a1_2 a1_3 a1_4 a1_5 a1_6 a1_7 = some r) :
  Calls Tryd.prog 43 #[.agg #[.int .i64 a0_0, .int .i64 a0_1, .int .i64 a0_2, .int .i64 a0_3, .int .i64 a0_4, .int .i64 a0_5, .int .i64 a0_6, .int .i64 a0_7], .agg #[.int .i64 a1_0, .int .i64 a1_1, .int .i64 a1_2, .int .i64 a1_3, .int .i64 a1_4, .int .i64 a1_5, .int .i64 a1_6, .int .i64 a1_7]] w fun e w' => e = .returned (.bool r) ∧ Below w.heap.size w w' := by
 have hu57 := Tryd.underlying57
 have hu55 := Tryd.underlying55
 have HB := Aside0.mk (Below.refl w.heap.size w)
 have H : (if a0_0 = a1_0 then (if a0_1 = a1_1 then ((qJC.f a0_2 a0_3 a0_4 a0_5 a0_6 a0_7 a1_2 a1_3 a1_4 a1_5 a1_6 a1_7).bind fun t227 => (if t227 = true then (some true) else (some false))) else (some false)) else (some false)) = some r := h
 clear h
 by_cases c3 : a0_0 = a1_0
 ·rw [if_pos c3] at H
  have c3b0 : (a0_0 == a1_0) = true := beq_iff_eq.mpr c3
  have c3b1 : (a0_0 != a1_0) = false := bne_eq_false_iff_eq.mpr c3
  clear c3
  by_cases c4 : a0_1 = a1_1
  ·rw [if_pos c4] at H
   have c4b0 : (a0_1 == a1_1) = true := beq_iff_eq.mpr c4
   have c4b1 : (a0_1 != a1_1) = false := bne_eq_false_iff_eq.mpr c4
   clear c4
   replace H := Option.bind_eq_some_iff.mp H
   obtain ⟨t227, A50, H⟩ := H
   replace H : (if t227 = true then (some true) else (some false)) = some r := H
   have A5 := Aside0.mk A50
   clear A50
   by_cases c6 : t227 = true
   ·subst c6
    have H1 : (some true) = some r := by rw [if_pos rfl] at H; exact H
    clear H
    have H := H1
    clear H1
    obtain rfl := Option.some.inj H
    go_enter Tryd.func43, Tryd.ntmps43
    go_wp2_with (first | ((with_reducible refine qg (N := 2) rfl ?_); refine qd ?hg (N := 2) ?hd (cs := #[.int .i64 a0_0, .int .i64 a0_1, .int .i64 a0_2, .int .i64 a0_3, .int .i64 a0_4, .int .i64 a0_5, .int .i64 a0_6, .int .i64 a0_7]) (t := 57) ?hr ?_; (case hd => rfl); (case hg => rfl); (case hr => first | (go_simp; done) | (go_simp; rfl)); intro gb225 hg w7 hbox hb; have n0_ := Aside0.mk (qG bl hb); have n1_ := Aside0.mk (hbox); have n2_ := Aside0.mk ((gg hg)); have n3_ := Aside0.mk ((gg hg)); clear HB; have HB := n0_; have BK225 := n1_; have GW225 := n2_; have GE225 := n3_; clear n0_ n1_ n2_ n3_; clear hb hbox hg) | ((with_reducible refine qg (N := 3) rfl ?_); refine qd ?hg (N := 3) ?hd (cs := #[.int .i64 a1_0, .int .i64 a1_1, .int .i64 a1_2, .int .i64 a1_3, .int .i64 a1_4, .int .i64 a1_5, .int .i64 a1_6, .int .i64 a1_7]) (t := 57) ?hr ?_; (case hd => rfl); (case hg => rfl); (case hr => first | (go_simp; done) | (go_simp; rfl)); intro gb226 hg w8 hbox hb; have n0_ := Aside0.mk (bb BK225 hb); have n1_ := Aside0.mk (qG bl hb); have n2_ := Aside0.mk (hbox); have n3_ := Aside0.mk ((gg hg)); have n4_ := Aside0.mk ((gg hg)); have n5_ := Aside0.mk ((nl BK225 hg)); have n6_ := Aside0.mk ((nr BK225 hg)); clear BK225; clear HB; have BK225 := n0_; have HB := n1_; have BK226 := n2_; have GW226 := n3_; have GE226 := n4_; have NB225_226 := n5_; have NB226_225 := n6_; clear n0_ n1_ n2_ n3_ n4_ n5_ n6_; clear hb hbox hg; have hnb9 := NB225_226.out; have hnc9 := NB226_225.out; have hcz10_0 := bc BK225 0; have hcz10_1 := bc BK225 1; have hcz10_2 := bc BK225 2; have hcz10_3 := bc BK225 3; have hcz10_4 := bc BK225 4; have hcz10_5 := bc BK225 5; have hcz10_6 := bc BK225 6; have hcz10_7 := bc BK225 7; have hfz10_0 := qA BK225.out 0; have hfz10_1 := qA BK225.out 1; have hfz10_2 := qA BK225.out 2; have hfz10_3 := qA BK225.out 3; have hfz10_4 := qA BK225.out 4; have hfz10_5 := qA BK225.out 5; have hfz10_6 := qA BK225.out 6; have hfz10_7 := qA BK225.out 7; have hcz11_0 := bc BK226 0; have hcz11_1 := bc BK226 1; have hcz11_2 := bc BK226 2; have hcz11_3 := bc BK226 3; have hcz11_4 := bc BK226 4; have hcz11_5 := bc BK226 5; have hcz11_6 := bc BK226 6; have hcz11_7 := bc BK226 7; have hfz11_0 := qA BK226.out 0; have hfz11_1 := qA BK226.out 1; have hfz11_2 := qA BK226.out 2; have hfz11_3 := qA BK226.out 3; have hfz11_4 := qA BK226.out 4; have hfz11_5 := qA BK226.out 5; have hfz11_6 := qA BK226.out 6; have hfz11_7 := qA BK226.out 7) | ((with_reducible refine qL (f := 71) rfl ?_); refine qh (some 19) rfl rfl Tryd.func71 (by kernel_rfl) rfl #[.agg #[.int .i64 a0_2, .int .i64 a0_3, .int .i64 a0_4, .int .i64 a0_5, .int .i64 a0_6, .int .i64 a0_7], .agg #[.int .i64 a1_2, .int .i64 a1_3, .int .i64 a1_4, .int .i64 a1_5, .int .i64 a1_6, .int .i64 a1_7]] rfl (by (try simp only [List.map_toArray, List.map_cons, List.map_nil]); first | done | rfl | (simp only [List.length_drop, List.length_take]; rfl)) ?_; (with_reducible refine (qJC.calls a0_2 a0_3 a0_4 a0_5 a0_6 a0_7 a1_2 a1_3 a1_4 a1_5 a1_6 a1_7 true _ A5.out).mono ?_); rintro e w12 ⟨rfl, hb⟩; refine ⟨_, rfl, ?_⟩; have n0_ := Aside0.mk (bb BK225 hb); have n1_ := Aside0.mk (bb BK226 hb); have n2_ := Aside0.mk (qG bl hb); clear BK225; clear BK226; clear HB; have BK225 := n0_; have BK226 := n1_; have HB := n2_; clear n0_ n1_ n2_; (try clear hb); (try clear hb2); (try clear hk); (try clear hi)))
    go_ret
    exact ⟨by first | rfl | (simp [qI, qH] <;> rfl) | (simp [*, qI, qH] <;> rfl), bl⟩
   ·replace c6 := Bool.eq_false_iff.mpr c6
    subst c6
    have H1 : (some false) = some r := by rw [if_neg (show ¬ (false = true) by decide)] at H; exact H
    clear H
    have H := H1
    clear H1
    obtain rfl := Option.some.inj H
    go_enter Tryd.func43, Tryd.ntmps43
    go_wp2_with (first | ((with_reducible refine qg (N := 2) rfl ?_); refine qd ?hg (N := 2) ?hd (cs := #[.int .i64 a0_0, .int .i64 a0_1, .int .i64 a0_2, .int .i64 a0_3, .int .i64 a0_4, .int .i64 a0_5, .int .i64 a0_6, .int .i64 a0_7]) (t := 57) ?hr ?_; (case hd => rfl); (case hg => rfl); (case hr => first | (go_simp; done) | (go_simp; rfl)); intro gb225 hg w13 hbox hb; have n0_ := Aside0.mk (qG bl hb); have n1_ := Aside0.mk (hbox); have n2_ := Aside0.mk ((gg hg)); have n3_ := Aside0.mk ((gg hg)); clear HB; have HB := n0_; have BK225 := n1_; have GW225 := n2_; have GE225 := n3_; clear n0_ n1_ n2_ n3_; clear hb hbox hg) | ((with_reducible refine qg (N := 3) rfl ?_); refine qd ?hg (N := 3) ?hd (cs := #[.int .i64 a1_0, .int .i64 a1_1, .int .i64 a1_2, .int .i64 a1_3, .int .i64 a1_4, .int .i64 a1_5, .int .i64 a1_6, .int .i64 a1_7]) (t := 57) ?hr ?_; (case hd => rfl); (case hg => rfl); (case hr => first | (go_simp; done) | (go_simp; rfl)); intro gb226 hg w14 hbox hb; have n0_ := Aside0.mk (bb BK225 hb); have n1_ := Aside0.mk (qG bl hb); have n2_ := Aside0.mk (hbox); have n3_ := Aside0.mk ((gg hg)); have n4_ := Aside0.mk ((gg hg)); have n5_ := Aside0.mk ((nl BK225 hg)); have n6_ := Aside0.mk ((nr BK225 hg)); clear BK225; clear HB; have BK225 := n0_; have HB := n1_; have BK226 := n2_; have GW226 := n3_; have GE226 := n4_; have NB225_226 := n5_; have NB226_225 := n6_; clear n0_ n1_ n2_ n3_ n4_ n5_ n6_; clear hb hbox hg; have hnb15 := NB225_226.out; have hnc15 := NB226_225.out; have hcz16_0 := bc BK225 0; have hcz16_1 := bc BK225 1; have hcz16_2 := bc BK225 2; have hcz16_3 := bc BK225 3; have hcz16_4 := bc BK225 4; have hcz16_5 := bc BK225 5; have hcz16_6 := bc BK225 6; have hcz16_7 := bc BK225 7; have hfz16_0 := qA BK225.out 0; have hfz16_1 := qA BK225.out 1; have hfz16_2 := qA BK225.out 2; have hfz16_3 := qA BK225.out 3; have hfz16_4 := qA BK225.out 4; have hfz16_5 := qA BK225.out 5; have hfz16_6 := qA BK225.out 6; have hfz16_7 := qA BK225.out 7; have hcz17_0 := bc BK226 0; have hcz17_1 := bc BK226 1; have hcz17_2 := bc BK226 2; have hcz17_3 := bc BK226 3; have hcz17_4 := bc BK226 4; have hcz17_5 := bc BK226 5; have hcz17_6 := bc BK226 6; have hcz17_7 := bc BK226 7; have hfz17_0 := qA BK226.out 0; have hfz17_1 := qA BK226.out 1; have hfz17_2 := qA BK226.out 2; have hfz17_3 := qA BK226.out 3; have hfz17_4 := qA BK226.out 4; have hfz17_5 := qA BK226.out 5; have hfz17_6 := qA BK226.out 6; have hfz17_7 := qA BK226.out 7) | ((with_reducible refine qL (f := 71) rfl ?_); refine qh (some 19) rfl rfl Tryd.func71 (by kernel_rfl) rfl #[.agg #[.int .i64 a0_2, .int .i64 a0_3, .int .i64 a0_4, .int .i64 a0_5, .int .i64 a0_6, .int .i64 a0_7], .agg #[.int .i64 a1_2, .int .i64 a1_3, .int .i64 a1_4, .int .i64 a1_5, .int .i64 a1_6, .int .i64 a1_7]] rfl (by (try simp only [List.map_toArray, List.map_cons, List.map_nil]); first | done | rfl | (simp only [List.length_drop, List.length_take]; rfl)) ?_; (with_reducible refine (qJC.calls a0_2 a0_3 a0_4 a0_5 a0_6 a0_7 a1_2 a1_3 a1_4 a1_5 a1_6 a1_7 false _ A5.out).mono ?_); rintro e w18 ⟨rfl, hb⟩; refine ⟨_, rfl, ?_⟩; have n0_ := Aside0.mk (bb BK225 hb); have n1_ := Aside0.mk (bb BK226 hb); have n2_ := Aside0.mk (qG bl hb); clear BK225; clear BK226; clear HB; have BK225 := n0_; have BK226 := n1_; have HB := n2_; clear n0_ n1_ n2_; (try clear hb); (try clear hb2); (try clear hk); (try clear hi)))
    go_ret
    exact ⟨by first | rfl | (simp [qI, qH] <;> rfl) | (simp [*, qI, qH] <;> rfl), bl⟩
  ·rw [if_neg c4] at H
   have c4b0 : (a0_1 == a1_1) = false := beq_eq_false_iff_ne.mpr c4
   have c4b1 : (a0_1 != a1_1) = true := bne_iff_ne.mpr c4
   obtain rfl := Option.some.inj H
   go_enter Tryd.func43, Tryd.ntmps43
   go_wp2_with (first | ((with_reducible refine qg (N := 2) rfl ?_); refine qd ?hg (N := 2) ?hd (cs := #[.int .i64 a0_0, .int .i64 a0_1, .int .i64 a0_2, .int .i64 a0_3, .int .i64 a0_4, .int .i64 a0_5, .int .i64 a0_6, .int .i64 a0_7]) (t := 57) ?hr ?_; (case hd => rfl); (case hg => rfl); (case hr => first | (go_simp; done) | (go_simp; rfl)); intro gb225 hg w19 hbox hb; have n0_ := Aside0.mk (qG bl hb); have n1_ := Aside0.mk (hbox); have n2_ := Aside0.mk ((gg hg)); have n3_ := Aside0.mk ((gg hg)); clear HB; have HB := n0_; have BK225 := n1_; have GW225 := n2_; have GE225 := n3_; clear n0_ n1_ n2_ n3_; clear hb hbox hg) | ((with_reducible refine qg (N := 3) rfl ?_); refine qd ?hg (N := 3) ?hd (cs := #[.int .i64 a1_0, .int .i64 a1_1, .int .i64 a1_2, .int .i64 a1_3, .int .i64 a1_4, .int .i64 a1_5, .int .i64 a1_6, .int .i64 a1_7]) (t := 57) ?hr ?_; (case hd => rfl); (case hg => rfl); (case hr => first | (go_simp; done) | (go_simp; rfl)); intro gb226 hg w20 hbox hb; have n0_ := Aside0.mk (bb BK225 hb); have n1_ := Aside0.mk (qG bl hb); have n2_ := Aside0.mk (hbox); have n3_ := Aside0.mk ((gg hg)); have n4_ := Aside0.mk ((gg hg)); have n5_ := Aside0.mk ((nl BK225 hg)); have n6_ := Aside0.mk ((nr BK225 hg)); clear BK225; clear HB; have BK225 := n0_; have HB := n1_; have BK226 := n2_; have GW226 := n3_; have GE226 := n4_; have NB225_226 := n5_; have NB226_225 := n6_; clear n0_ n1_ n2_ n3_ n4_ n5_ n6_; clear hb hbox hg; have hnb21 := NB225_226.out; have hnc21 := NB226_225.out; have hcz22_0 := bc BK225 0; have hcz22_1 := bc BK225 1; have hcz22_2 := bc BK225 2; have hcz22_3 := bc BK225 3; have hcz22_4 := bc BK225 4; have hcz22_5 := bc BK225 5; have hcz22_6 := bc BK225 6; have hcz22_7 := bc BK225 7; have hfz22_0 := qA BK225.out 0; have hfz22_1 := qA BK225.out 1; have hfz22_2 := qA BK225.out 2; have hfz22_3 := qA BK225.out 3; have hfz22_4 := qA BK225.out 4; have hfz22_5 := qA BK225.out 5; have hfz22_6 := qA BK225.out 6; have hfz22_7 := qA BK225.out 7; have hcz23_0 := bc BK226 0; have hcz23_1 := bc BK226 1; have hcz23_2 := bc BK226 2; have hcz23_3 := bc BK226 3; have hcz23_4 := bc BK226 4; have hcz23_5 := bc BK226 5; have hcz23_6 := bc BK226 6; have hcz23_7 := bc BK226 7; have hfz23_0 := qA BK226.out 0; have hfz23_1 := qA BK226.out 1; have hfz23_2 := qA BK226.out 2; have hfz23_3 := qA BK226.out 3; have hfz23_4 := qA BK226.out 4; have hfz23_5 := qA BK226.out 5; have hfz23_6 := qA BK226.out 6; have hfz23_7 := qA BK226.out 7))
   go_ret
   exact ⟨by first | rfl | (simp [qI, qH] <;> rfl) | (simp [*, qI, qH] <;> rfl), bl⟩
 ·rw [if_neg c3] at H
  have c3b0 : (a0_0 == a1_0) = false := beq_eq_false_iff_ne.mpr c3
  have c3b1 : (a0_0 != a1_0) = true := bne_iff_ne.mpr c3
  obtain rfl := Option.some.inj H
  go_enter Tryd.func43, Tryd.ntmps43
  go_wp2_with (first | ((with_reducible refine qg (N := 2) rfl ?_); refine qd ?hg (N := 2) ?hd (cs := #[.int .i64 a0_0, .int .i64 a0_1, .int .i64 a0_2, .int .i64 a0_3, .int .i64 a0_4, .int .i64 a0_5, .int .i64 a0_6, .int .i64 a0_7]) (t := 57) ?hr ?_; (case hd => rfl); (case hg => rfl); (case hr => first | (go_simp; done) | (go_simp; rfl)); intro gb225 hg w24 hbox hb; have n0_ := Aside0.mk (qG bl hb); have n1_ := Aside0.mk (hbox); have n2_ := Aside0.mk ((gg hg)); have n3_ := Aside0.mk ((gg hg)); clear HB; have HB := n0_; have BK225 := n1_; have GW225 := n2_; have GE225 := n3_; clear n0_ n1_ n2_ n3_; clear hb hbox hg) | ((with_reducible refine qg (N := 3) rfl ?_); refine qd ?hg (N := 3) ?hd (cs := #[.int .i64 a1_0, .int .i64 a1_1, .int .i64 a1_2, .int .i64 a1_3, .int .i64 a1_4, .int .i64 a1_5, .int .i64 a1_6, .int .i64 a1_7]) (t := 57) ?hr ?_; (case hd => rfl); (case hg => rfl); (case hr => first | (go_simp; done) | (go_simp; rfl)); intro gb226 hg w25 hbox hb; have n0_ := Aside0.mk (bb BK225 hb); have n1_ := Aside0.mk (qG bl hb); have n2_ := Aside0.mk (hbox); have n3_ := Aside0.mk ((gg hg)); have n4_ := Aside0.mk ((gg hg)); have n5_ := Aside0.mk ((nl BK225 hg)); have n6_ := Aside0.mk ((nr BK225 hg)); clear BK225; clear HB; have BK225 := n0_; have HB := n1_; have BK226 := n2_; have GW226 := n3_; have GE226 := n4_; have NB225_226 := n5_; have NB226_225 := n6_; clear n0_ n1_ n2_ n3_ n4_ n5_ n6_; clear hb hbox hg; have hnb26 := NB225_226.out; have hnc26 := NB226_225.out; have hcz27_0 := bc BK225 0; have hcz27_1 := bc BK225 1; have hcz27_2 := bc BK225 2; have hcz27_3 := bc BK225 3; have hcz27_4 := bc BK225 4; have hcz27_5 := bc BK225 5; have hcz27_6 := bc BK225 6; have hcz27_7 := bc BK225 7; have hfz27_0 := qA BK225.out 0; have hfz27_1 := qA BK225.out 1; have hfz27_2 := qA BK225.out 2; have hfz27_3 := qA BK225.out 3; have hfz27_4 := qA BK225.out 4; have hfz27_5 := qA BK225.out 5; have hfz27_6 := qA BK225.out 6; have hfz27_7 := qA BK225.out 7; have hcz28_0 := bc BK226 0; have hcz28_1 := bc BK226 1; have hcz28_2 := bc BK226 2; have hcz28_3 := bc BK226 3; have hcz28_4 := bc BK226 4; have hcz28_5 := bc BK226 5; have hcz28_6 := bc BK226 6; have hcz28_7 := bc BK226 7; have hfz28_0 := qA BK226.out 0; have hfz28_1 := qA BK226.out 1; have hfz28_2 := qA BK226.out 2; have hfz28_3 := qA BK226.out 3; have hfz28_4 := qA BK226.out 4; have hfz28_5 := qA BK226.out 5; have hfz28_6 := qA BK226.out 6; have hfz28_7 := qA BK226.out 7))
  go_ret
  exact ⟨by first | rfl | (simp [qI, qH] <;> rfl) | (simp [*, qI, qH] <;> rfl), bl⟩
def qX.l0 : Nat → List (S57) → List (S57) → Int → Option (Bool)
 | 0, _, _, _ => none
 | k + 1, x0, x1, x5 => if x5 < (x0.length : Int) then (if 0 ≤ x5 then (if x5 < (x1.length : Int) then ((qmB.f ((qC x0 x5).f0) ((qC x0 x5).f1) ((qC x0 x5).f2.f0) ((qC x0 x5).f2.f1) ((qC x0 x5).f2.f2) ((qC x0 x5).f2.f3) ((qC x0 x5).f2.f4) ((qC x0 x5).f2.f5) ((qC x1 x5).f0) ((qC x1 x5).f1) ((qC x1 x5).f2.f0) ((qC x1 x5).f2.f1) ((qC x1 x5).f2.f2) ((qC x1 x5).f2.f3) ((qC x1 x5).f2.f4) ((qC x1 x5).f2.f5)).bind fun t230 => (if t230 = true then (qX.l0 k x0 x1 (wrap64 (x5 + 1))) else (some false))) else (none)) else (none)) else (some true)
def qX.f (k : Nat) (l0 : List (S57)) (l1 : List (S57)) : Option (Bool) := if (l0.length : Int) = (l1.length : Int) then (qX.l0 k l0 l1 0) else (some false)
def qX.T6 : Bool × List (List Nat × List Nat) := (true, [([], []), ([], []), ([0, 1], [0, 1]), ([2], [2]), ([], []), ([], []), ([4, 5], [4, 5]), ([6], [6]), ([3, 7], [3, 7]), ([8], [8])])
def qX.B6 : List Nat := [0, 0, 3, 7, 0, 0, 48, 112, 255, 511]
theorem qX.tab6 : rtab .any (opsOf Tryd.f15 6) = qX.T6 := by kernel_rfl
theorem qX.bits6 : waitsOk qX.T6.2 qX.B6 = true := by kernel_rfl
set_option maxHeartbeats 8000000 in
set_option maxRecDepth 100000 in
theorem qX.calls (k : Nat) (A0 : Option Addr) (c0 : Nat) (l0 : List (S57)) (A1 : Option Addr) (c1 : Nat) (l1 : List (S57)) (r : Bool) (w : World) (hr0 : Kd.C k57 w A0 l0.length l0) (hc0 : l0.length ≤ c0) (hr1 : Kd.C k57 w A1 l1.length l1) (hc1 : l1.length ≤ c1) (h : qX.f k l0 l1 = some r) :
  Calls Tryd.prog 15 #[.slice A0 l0.length c0, .slice A1 l1.length c1] w fun e w' => e = .returned (.bool r) ∧ Below w.heap.size w w' := by
 have hu57 := Tryd.underlying57
 have HR0 := Aside0.mk hr0
 have HC0 := Aside0.mk hc0
 clear hr0 hc0
 have HR1 := Aside0.mk hr1
 have HC1 := Aside0.mk hc1
 clear hr1 hc1
 have HB := Aside0.mk (Below.refl w.heap.size w)
 have H : (if (l0.length : Int) = (l1.length : Int) then (qX.l0 k l0 l1 0) else (some false)) = some r := h
 clear h
 by_cases c3 : (l0.length : Int) = (l1.length : Int)
 ·rw [if_pos c3] at H
  have c3b0 : ((l0.length : Int) == (l1.length : Int)) = true := beq_iff_eq.mpr c3
  have c3b1 : ((l0.length : Int) != (l1.length : Int)) = false := bne_eq_false_iff_eq.mpr c3
  have c3b2 : (l0.length == l1.length) = true := by first | simpa using c3 | (simp at c3 ⊢; omega)
  clear c3
  have H' := Aside0.mk H
  clear H
  go_enter Tryd.func15, Tryd.ntmps15
  go_wp2
  go_loopg [5] k (fun kq v5 w' => ∃ (x5_1 : Int), v5 = .int .i64 x5_1 ∧ Aside0 (qX.l0 kq l0 l1 x5_1 = some r) ∧ Aside0 (kq ≤ k) ∧ Aside0 (Below w.heap.size w w'))
  case atStart => exact ⟨(0), (by first | rfl | (simp; done) | (simp [*]; done)), H', ⟨Nat.le_refl _⟩, ⟨bl⟩⟩
  case round =>
   clear H'
   try clear c1
   try clear p2
   try clear c3
   try clear c3b0
   try clear c3b1
   try clear c3b2
   obtain ⟨x5_1, rfl, HA, HK1, HB⟩ := hrel
   cases gk with
   | zero => exact absurd HA.out (by simp [qX.l0])
   | succ k1 =>
    have H := HA.out
    clear HA
    simp only [qX.l0] at H
    by_cases c4 : x5_1 < (l0.length : Int)
    ·rw [if_pos c4] at H
     have c4b0 : decide (x5_1 < (l0.length : Int)) = true := decide_eq_true c4
     clear c4
     by_cases c5 : 0 ≤ x5_1
     ·rw [if_pos c5] at H
      have c5b0 : decide (0 ≤ x5_1) = true := decide_eq_true c5
      clear c5
      by_cases c6 : x5_1 < (l1.length : Int)
      ·rw [if_pos c6] at H
       have c6b0 : decide (x5_1 < (l1.length : Int)) = true := decide_eq_true c6
       clear c6
       replace H := Option.bind_eq_some_iff.mp H
       obtain ⟨t230, A70, H⟩ := H
       replace H : (if t230 = true then (qX.l0 k1 l0 l1 (wrap64 (x5_1 + 1))) else (some false)) = some r := H
       have A7 := Aside0.mk A70
       clear A70
       by_cases c8 : t230 = true
       ·subst c8
        have H1 : (qX.l0 k1 l0 l1 (wrap64 (x5_1 + 1))) = some r := by rw [if_pos rfl] at H; exact H
        clear H
        have H := H1
        clear H1
        have H' := Aside0.mk H
        clear H
        try go_wp2
        have n0_ := Aside0.mk (qp HB.out)
        clear HB
        have HB := n0_
        clear n0_
        have p228 : 0 ≤ (x5_1 : Int) := of_decide_eq_true (by first | (with_reducible assumption) | assumption)
        have q228 : x5_1 < (l0.length : Int) := of_decide_eq_true (by first | (with_reducible assumption) | assumption)
        obtain ⟨ad228, e228, hx228_0, hx228_1, hx228_2, hx228_3, hx228_4, hx228_5, hx228_6, hx228_7⟩ := qgA HR0.out x5_1 p228 q228
        have hw228_7 := hx228_7
        have hw228_6 := hx228_6
        have hw228_5 := hx228_5
        have hw228_4 := hx228_4
        have hw228_3 := hx228_3
        have hw228_2 := hx228_2
        have hw228_1 := hx228_1
        have hw228_0 := hx228_0
        cases e228
        replace hx228_0 := (HB.out.cell (World.block_lt_of_cell? w _ hx228_0)).trans hx228_0
        replace hx228_1 := (HB.out.cell (World.block_lt_of_cell? w _ hx228_1)).trans hx228_1
        replace hx228_2 := (HB.out.cell (World.block_lt_of_cell? w _ hx228_2)).trans hx228_2
        replace hx228_3 := (HB.out.cell (World.block_lt_of_cell? w _ hx228_3)).trans hx228_3
        replace hx228_4 := (HB.out.cell (World.block_lt_of_cell? w _ hx228_4)).trans hx228_4
        replace hx228_5 := (HB.out.cell (World.block_lt_of_cell? w _ hx228_5)).trans hx228_5
        replace hx228_6 := (HB.out.cell (World.block_lt_of_cell? w _ hx228_6)).trans hx228_6
        replace hx228_7 := (HB.out.cell (World.block_lt_of_cell? w _ hx228_7)).trans hx228_7
        replace p228 := eq_true p228
        replace q228 := eq_true q228
        have p229 : 0 ≤ (x5_1 : Int) := of_decide_eq_true (by first | (with_reducible assumption) | assumption)
        have q229 : x5_1 < (l1.length : Int) := of_decide_eq_true (by first | (with_reducible assumption) | assumption)
        obtain ⟨ad229, e229, hx229_0, hx229_1, hx229_2, hx229_3, hx229_4, hx229_5, hx229_6, hx229_7⟩ := qgA HR1.out x5_1 p229 q229
        have hw229_7 := hx229_7
        have hw229_6 := hx229_6
        have hw229_5 := hx229_5
        have hw229_4 := hx229_4
        have hw229_3 := hx229_3
        have hw229_2 := hx229_2
        have hw229_1 := hx229_1
        have hw229_0 := hx229_0
        cases e229
        replace hx229_0 := (HB.out.cell (World.block_lt_of_cell? w _ hx229_0)).trans hx229_0
        replace hx229_1 := (HB.out.cell (World.block_lt_of_cell? w _ hx229_1)).trans hx229_1
        replace hx229_2 := (HB.out.cell (World.block_lt_of_cell? w _ hx229_2)).trans hx229_2
        replace hx229_3 := (HB.out.cell (World.block_lt_of_cell? w _ hx229_3)).trans hx229_3
        replace hx229_4 := (HB.out.cell (World.block_lt_of_cell? w _ hx229_4)).trans hx229_4
        replace hx229_5 := (HB.out.cell (World.block_lt_of_cell? w _ hx229_5)).trans hx229_5
        replace hx229_6 := (HB.out.cell (World.block_lt_of_cell? w _ hx229_6)).trans hx229_6
        replace hx229_7 := (HB.out.cell (World.block_lt_of_cell? w _ hx229_7)).trans hx229_7
        replace p229 := eq_true p229
        replace q229 := eq_true q229
        refine qDC (n := 10) (S := fun w' => w'.cell? (ad228.add ((x5_1).toNat * 8)) = some (.int .i64 ((qC l0 x5_1).f0)) ∧ w'.cell? ⟨(ad228.add ((x5_1).toNat * 8)).block, (ad228.add ((x5_1).toNat * 8)).off + 1, none⟩ = some (.int .i64 ((qC l0 x5_1).f1)) ∧ w'.cell? ⟨(ad228.add ((x5_1).toNat * 8)).block, (ad228.add ((x5_1).toNat * 8)).off + 2, none⟩ = some (.int .i64 ((qC l0 x5_1).f2.f0)) ∧ w'.cell? ⟨(ad228.add ((x5_1).toNat * 8)).block, (ad228.add ((x5_1).toNat * 8)).off + 3, none⟩ = some (.int .i64 ((qC l0 x5_1).f2.f1)) ∧ w'.cell? ⟨(ad228.add ((x5_1).toNat * 8)).block, (ad228.add ((x5_1).toNat * 8)).off + 4, none⟩ = some (.int .i64 ((qC l0 x5_1).f2.f2)) ∧ w'.cell? ⟨(ad228.add ((x5_1).toNat * 8)).block, (ad228.add ((x5_1).toNat * 8)).off + 5, none⟩ = some (.int .i64 ((qC l0 x5_1).f2.f3)) ∧ w'.cell? ⟨(ad228.add ((x5_1).toNat * 8)).block, (ad228.add ((x5_1).toNat * 8)).off + 6, none⟩ = some (.int .i64 ((qC l0 x5_1).f2.f4)) ∧ w'.cell? ⟨(ad228.add ((x5_1).toNat * 8)).block, (ad228.add ((x5_1).toNat * 8)).off + 7, none⟩ = some (.int .i64 ((qC l0 x5_1).f2.f5)) ∧ w'.cell? (ad229.add ((x5_1).toNat * 8)) = some (.int .i64 ((qC l1 x5_1).f0)) ∧ w'.cell? ⟨(ad229.add ((x5_1).toNat * 8)).block, (ad229.add ((x5_1).toNat * 8)).off + 1, none⟩ = some (.int .i64 ((qC l1 x5_1).f1)) ∧ w'.cell? ⟨(ad229.add ((x5_1).toNat * 8)).block, (ad229.add ((x5_1).toNat * 8)).off + 2, none⟩ = some (.int .i64 ((qC l1 x5_1).f2.f0)) ∧ w'.cell? ⟨(ad229.add ((x5_1).toNat * 8)).block, (ad229.add ((x5_1).toNat * 8)).off + 3, none⟩ = some (.int .i64 ((qC l1 x5_1).f2.f1)) ∧ w'.cell? ⟨(ad229.add ((x5_1).toNat * 8)).block, (ad229.add ((x5_1).toNat * 8)).off + 4, none⟩ = some (.int .i64 ((qC l1 x5_1).f2.f2)) ∧ w'.cell? ⟨(ad229.add ((x5_1).toNat * 8)).block, (ad229.add ((x5_1).toNat * 8)).off + 5, none⟩ = some (.int .i64 ((qC l1 x5_1).f2.f3)) ∧ w'.cell? ⟨(ad229.add ((x5_1).toNat * 8)).block, (ad229.add ((x5_1).toNat * 8)).off + 6, none⟩ = some (.int .i64 ((qC l1 x5_1).f2.f4)) ∧ w'.cell? ⟨(ad229.add ((x5_1).toNat * 8)).block, (ad229.add ((x5_1).toNat * 8)).off + 7, none⟩ = some (.int .i64 ((qC l1 x5_1).f2.f5))) (ds := []) #[false, false, false, false, false, false, false, false, false, false] (by kernel_rfl) rfl rfl ⟨((HB.out.cell (World.block_lt_of_cell? w _ hw228_0)).trans hw228_0), ((HB.out.cell (World.block_lt_of_cell? w _ hw228_1)).trans hw228_1), ((HB.out.cell (World.block_lt_of_cell? w _ hw228_2)).trans hw228_2), ((HB.out.cell (World.block_lt_of_cell? w _ hw228_3)).trans hw228_3), ((HB.out.cell (World.block_lt_of_cell? w _ hw228_4)).trans hw228_4), ((HB.out.cell (World.block_lt_of_cell? w _ hw228_5)).trans hw228_5), ((HB.out.cell (World.block_lt_of_cell? w _ hw228_6)).trans hw228_6), ((HB.out.cell (World.block_lt_of_cell? w _ hw228_7)).trans hw228_7), ((HB.out.cell (World.block_lt_of_cell? w _ hw229_0)).trans hw229_0), ((HB.out.cell (World.block_lt_of_cell? w _ hw229_1)).trans hw229_1), ((HB.out.cell (World.block_lt_of_cell? w _ hw229_2)).trans hw229_2), ((HB.out.cell (World.block_lt_of_cell? w _ hw229_3)).trans hw229_3), ((HB.out.cell (World.block_lt_of_cell? w _ hw229_4)).trans hw229_4), ((HB.out.cell (World.block_lt_of_cell? w _ hw229_5)).trans hw229_5), ((HB.out.cell (World.block_lt_of_cell? w _ hw229_6)).trans hw229_6), ((HB.out.cell (World.block_lt_of_cell? w _ hw229_7)).trans hw229_7)⟩ (fun hHeld => ?_); refine qJB qX.tab6 qX.bits6 (fun HT_ HW_ => ?_)
        generalize wr.drew = w9 at HB hx228_0 hx228_1 hx228_2 hx228_3 hx228_4 hx228_5 hx228_6 hx228_7 hx229_0 hx229_1 hx229_2 hx229_3 hx229_4 hx229_5 hx229_6 hx229_7 hHeld ⊢
        refine pS (i := 0) (N := some 17) #[true, false, false, false, false, false, false, false, false, false] HT_ ?_
        refine pS (i := 1) (N := some 18) #[true, true, false, false, false, false, false, false, false, false] HT_ ?_
        refine pS (i := 2) (N := some 19) #[true, true, true, false, false, false, false, false, false, false] HT_ ?_
        refine pS (i := 4) (N := some 21) #[true, true, true, false, true, false, false, false, false, false] HT_ ?_
        refine pS (i := 5) (N := some 22) #[true, true, true, false, true, true, false, false, false, false] HT_ ?_
        refine pS (i := 6) (N := some 23) #[true, true, true, false, true, true, true, false, false, false] HT_ ?_
        refine tS (i := 3) (N := some 20) #[true, true, true, true, true, true, true, false, false, false] HT_ HW_ hHeld ?_
        refine tS (i := 7) (N := some 24) #[true, true, true, true, true, true, true, true, false, false] HT_ HW_ hHeld ?_
        refine one_ (i := 8) (N := some 25) #[true, true, true, true, true, true, true, true, true, false] rfl rfl (qNB HT_.out (by kernel_rfl)) (by decide) (fun K hK => ?_)
        refine goes_ Tryd.func43 (by kernel_rfl) rfl #[.agg #[.int .i64 ((qC l0 x5_1).f0), .int .i64 ((qC l0 x5_1).f1), .int .i64 ((qC l0 x5_1).f2.f0), .int .i64 ((qC l0 x5_1).f2.f1), .int .i64 ((qC l0 x5_1).f2.f2), .int .i64 ((qC l0 x5_1).f2.f3), .int .i64 ((qC l0 x5_1).f2.f4), .int .i64 ((qC l0 x5_1).f2.f5)], .agg #[.int .i64 ((qC l1 x5_1).f0), .int .i64 ((qC l1 x5_1).f1), .int .i64 ((qC l1 x5_1).f2.f0), .int .i64 ((qC l1 x5_1).f2.f1), .int .i64 ((qC l1 x5_1).f2.f2), .int .i64 ((qC l1 x5_1).f2.f3), .int .i64 ((qC l1 x5_1).f2.f4), .int .i64 ((qC l1 x5_1).f2.f5)]] (by rfl) rfl rfl (by (try simp only [List.map_toArray, List.map_cons, List.map_nil]); first | done | rfl | (simp only [List.length_drop, List.length_take]; rfl)) ?_
        with_reducible refine (qmB.calls ((qC l0 x5_1).f0) ((qC l0 x5_1).f1) ((qC l0 x5_1).f2.f0) ((qC l0 x5_1).f2.f1) ((qC l0 x5_1).f2.f2) ((qC l0 x5_1).f2.f3) ((qC l0 x5_1).f2.f4) ((qC l0 x5_1).f2.f5) ((qC l1 x5_1).f0) ((qC l1 x5_1).f1) ((qC l1 x5_1).f2.f0) ((qC l1 x5_1).f2.f1) ((qC l1 x5_1).f2.f2) ((qC l1 x5_1).f2.f3) ((qC l1 x5_1).f2.f4) ((qC l1 x5_1).f2.f5) true _ A7.out).mono ?_
        rintro e w10 ⟨rfl, hb⟩
        refine ⟨_, rfl, ?_⟩
        have n0_ := Aside0.mk (qG bl hb)
        clear HB
        have HB := n0_
        clear n0_
        (try clear hb)
        (try clear hb2)
        (try clear hk)
        (try clear hi)
        refine hK.out _ _ ⟨((HB.out.cell (World.block_lt_of_cell? w _ hw228_0)).trans hw228_0), ((HB.out.cell (World.block_lt_of_cell? w _ hw228_1)).trans hw228_1), ((HB.out.cell (World.block_lt_of_cell? w _ hw228_2)).trans hw228_2), ((HB.out.cell (World.block_lt_of_cell? w _ hw228_3)).trans hw228_3), ((HB.out.cell (World.block_lt_of_cell? w _ hw228_4)).trans hw228_4), ((HB.out.cell (World.block_lt_of_cell? w _ hw228_5)).trans hw228_5), ((HB.out.cell (World.block_lt_of_cell? w _ hw228_6)).trans hw228_6), ((HB.out.cell (World.block_lt_of_cell? w _ hw228_7)).trans hw228_7), ((HB.out.cell (World.block_lt_of_cell? w _ hw229_0)).trans hw229_0), ((HB.out.cell (World.block_lt_of_cell? w _ hw229_1)).trans hw229_1), ((HB.out.cell (World.block_lt_of_cell? w _ hw229_2)).trans hw229_2), ((HB.out.cell (World.block_lt_of_cell? w _ hw229_3)).trans hw229_3), ((HB.out.cell (World.block_lt_of_cell? w _ hw229_4)).trans hw229_4), ((HB.out.cell (World.block_lt_of_cell? w _ hw229_5)).trans hw229_5), ((HB.out.cell (World.block_lt_of_cell? w _ hw229_6)).trans hw229_6), ((HB.out.cell (World.block_lt_of_cell? w _ hw229_7)).trans hw229_7)⟩ (fun hHeld => ?_)
        clear hK K
        refine norm_ (a' := ?_) ?_ ?_
        rotate_left
        ·show Act.put _ (some 25) _ = _
         simp only [Act.put, List.setIfInBounds_toArray, List.set_cons_zero, List.set_cons_succ, i64_w, i32_w]
         rfl
        refine pS (i := 9) (N := some 26) #[true, true, true, true, true, true, true, true, true, true] HT_ ?_
        refine done_ (qpB HT_.out (by kernel_rfl)) ?_
        try go_wp2
        go_roundg k1
        case measure => have := HK1.out; omega
        case rel => exact ⟨(wrap64 (x5_1 + 1)), (by first | rfl | (simp; done) | (simp [*]; done)), H', ⟨by have := HK1.out; omega⟩, ⟨bl⟩⟩
       ·replace c8 := Bool.eq_false_iff.mpr c8
        subst c8
        have H1 : (some false) = some r := by rw [if_neg (show ¬ (false = true) by decide)] at H; exact H
        clear H
        have H := H1
        clear H1
        obtain rfl := Option.some.inj H
        try go_wp2
        have n0_ := Aside0.mk (qp HB.out)
        clear HB
        have HB := n0_
        clear n0_
        have p228 : 0 ≤ (x5_1 : Int) := of_decide_eq_true (by first | (with_reducible assumption) | assumption)
        have q228 : x5_1 < (l0.length : Int) := of_decide_eq_true (by first | (with_reducible assumption) | assumption)
        obtain ⟨ad228, e228, hx228_0, hx228_1, hx228_2, hx228_3, hx228_4, hx228_5, hx228_6, hx228_7⟩ := qgA HR0.out x5_1 p228 q228
        have hw228_7 := hx228_7
        have hw228_6 := hx228_6
        have hw228_5 := hx228_5
        have hw228_4 := hx228_4
        have hw228_3 := hx228_3
        have hw228_2 := hx228_2
        have hw228_1 := hx228_1
        have hw228_0 := hx228_0
        cases e228
        replace hx228_0 := (HB.out.cell (World.block_lt_of_cell? w _ hx228_0)).trans hx228_0
        replace hx228_1 := (HB.out.cell (World.block_lt_of_cell? w _ hx228_1)).trans hx228_1
        replace hx228_2 := (HB.out.cell (World.block_lt_of_cell? w _ hx228_2)).trans hx228_2
        replace hx228_3 := (HB.out.cell (World.block_lt_of_cell? w _ hx228_3)).trans hx228_3
        replace hx228_4 := (HB.out.cell (World.block_lt_of_cell? w _ hx228_4)).trans hx228_4
        replace hx228_5 := (HB.out.cell (World.block_lt_of_cell? w _ hx228_5)).trans hx228_5
        replace hx228_6 := (HB.out.cell (World.block_lt_of_cell? w _ hx228_6)).trans hx228_6
        replace hx228_7 := (HB.out.cell (World.block_lt_of_cell? w _ hx228_7)).trans hx228_7
        replace p228 := eq_true p228
        replace q228 := eq_true q228
        have p229 : 0 ≤ (x5_1 : Int) := of_decide_eq_true (by first | (with_reducible assumption) | assumption)
        have q229 : x5_1 < (l1.length : Int) := of_decide_eq_true (by first | (with_reducible assumption) | assumption)
        obtain ⟨ad229, e229, hx229_0, hx229_1, hx229_2, hx229_3, hx229_4, hx229_5, hx229_6, hx229_7⟩ := qgA HR1.out x5_1 p229 q229
        have hw229_7 := hx229_7
        have hw229_6 := hx229_6
        have hw229_5 := hx229_5
        have hw229_4 := hx229_4
        have hw229_3 := hx229_3
        have hw229_2 := hx229_2
        have hw229_1 := hx229_1
        have hw229_0 := hx229_0
        cases e229
        replace hx229_0 := (HB.out.cell (World.block_lt_of_cell? w _ hx229_0)).trans hx229_0
        replace hx229_1 := (HB.out.cell (World.block_lt_of_cell? w _ hx229_1)).trans hx229_1
        replace hx229_2 := (HB.out.cell (World.block_lt_of_cell? w _ hx229_2)).trans hx229_2
        replace hx229_3 := (HB.out.cell (World.block_lt_of_cell? w _ hx229_3)).trans hx229_3
        replace hx229_4 := (HB.out.cell (World.block_lt_of_cell? w _ hx229_4)).trans hx229_4
        replace hx229_5 := (HB.out.cell (World.block_lt_of_cell? w _ hx229_5)).trans hx229_5
        replace hx229_6 := (HB.out.cell (World.block_lt_of_cell? w _ hx229_6)).trans hx229_6
        replace hx229_7 := (HB.out.cell (World.block_lt_of_cell? w _ hx229_7)).trans hx229_7
        replace p229 := eq_true p229
        replace q229 := eq_true q229
        refine qDC (n := 10) (S := fun w' => w'.cell? (ad228.add ((x5_1).toNat * 8)) = some (.int .i64 ((qC l0 x5_1).f0)) ∧ w'.cell? ⟨(ad228.add ((x5_1).toNat * 8)).block, (ad228.add ((x5_1).toNat * 8)).off + 1, none⟩ = some (.int .i64 ((qC l0 x5_1).f1)) ∧ w'.cell? ⟨(ad228.add ((x5_1).toNat * 8)).block, (ad228.add ((x5_1).toNat * 8)).off + 2, none⟩ = some (.int .i64 ((qC l0 x5_1).f2.f0)) ∧ w'.cell? ⟨(ad228.add ((x5_1).toNat * 8)).block, (ad228.add ((x5_1).toNat * 8)).off + 3, none⟩ = some (.int .i64 ((qC l0 x5_1).f2.f1)) ∧ w'.cell? ⟨(ad228.add ((x5_1).toNat * 8)).block, (ad228.add ((x5_1).toNat * 8)).off + 4, none⟩ = some (.int .i64 ((qC l0 x5_1).f2.f2)) ∧ w'.cell? ⟨(ad228.add ((x5_1).toNat * 8)).block, (ad228.add ((x5_1).toNat * 8)).off + 5, none⟩ = some (.int .i64 ((qC l0 x5_1).f2.f3)) ∧ w'.cell? ⟨(ad228.add ((x5_1).toNat * 8)).block, (ad228.add ((x5_1).toNat * 8)).off + 6, none⟩ = some (.int .i64 ((qC l0 x5_1).f2.f4)) ∧ w'.cell? ⟨(ad228.add ((x5_1).toNat * 8)).block, (ad228.add ((x5_1).toNat * 8)).off + 7, none⟩ = some (.int .i64 ((qC l0 x5_1).f2.f5)) ∧ w'.cell? (ad229.add ((x5_1).toNat * 8)) = some (.int .i64 ((qC l1 x5_1).f0)) ∧ w'.cell? ⟨(ad229.add ((x5_1).toNat * 8)).block, (ad229.add ((x5_1).toNat * 8)).off + 1, none⟩ = some (.int .i64 ((qC l1 x5_1).f1)) ∧ w'.cell? ⟨(ad229.add ((x5_1).toNat * 8)).block, (ad229.add ((x5_1).toNat * 8)).off + 2, none⟩ = some (.int .i64 ((qC l1 x5_1).f2.f0)) ∧ w'.cell? ⟨(ad229.add ((x5_1).toNat * 8)).block, (ad229.add ((x5_1).toNat * 8)).off + 3, none⟩ = some (.int .i64 ((qC l1 x5_1).f2.f1)) ∧ w'.cell? ⟨(ad229.add ((x5_1).toNat * 8)).block, (ad229.add ((x5_1).toNat * 8)).off + 4, none⟩ = some (.int .i64 ((qC l1 x5_1).f2.f2)) ∧ w'.cell? ⟨(ad229.add ((x5_1).toNat * 8)).block, (ad229.add ((x5_1).toNat * 8)).off + 5, none⟩ = some (.int .i64 ((qC l1 x5_1).f2.f3)) ∧ w'.cell? ⟨(ad229.add ((x5_1).toNat * 8)).block, (ad229.add ((x5_1).toNat * 8)).off + 6, none⟩ = some (.int .i64 ((qC l1 x5_1).f2.f4)) ∧ w'.cell? ⟨(ad229.add ((x5_1).toNat * 8)).block, (ad229.add ((x5_1).toNat * 8)).off + 7, none⟩ = some (.int .i64 ((qC l1 x5_1).f2.f5))) (ds := []) #[false, false, false, false, false, false, false, false, false, false] (by kernel_rfl) rfl rfl ⟨((HB.out.cell (World.block_lt_of_cell? w _ hw228_0)).trans hw228_0), ((HB.out.cell (World.block_lt_of_cell? w _ hw228_1)).trans hw228_1), ((HB.out.cell (World.block_lt_of_cell? w _ hw228_2)).trans hw228_2), ((HB.out.cell (World.block_lt_of_cell? w _ hw228_3)).trans hw228_3), ((HB.out.cell (World.block_lt_of_cell? w _ hw228_4)).trans hw228_4), ((HB.out.cell (World.block_lt_of_cell? w _ hw228_5)).trans hw228_5), ((HB.out.cell (World.block_lt_of_cell? w _ hw228_6)).trans hw228_6), ((HB.out.cell (World.block_lt_of_cell? w _ hw228_7)).trans hw228_7), ((HB.out.cell (World.block_lt_of_cell? w _ hw229_0)).trans hw229_0), ((HB.out.cell (World.block_lt_of_cell? w _ hw229_1)).trans hw229_1), ((HB.out.cell (World.block_lt_of_cell? w _ hw229_2)).trans hw229_2), ((HB.out.cell (World.block_lt_of_cell? w _ hw229_3)).trans hw229_3), ((HB.out.cell (World.block_lt_of_cell? w _ hw229_4)).trans hw229_4), ((HB.out.cell (World.block_lt_of_cell? w _ hw229_5)).trans hw229_5), ((HB.out.cell (World.block_lt_of_cell? w _ hw229_6)).trans hw229_6), ((HB.out.cell (World.block_lt_of_cell? w _ hw229_7)).trans hw229_7)⟩ (fun hHeld => ?_); refine qJB qX.tab6 qX.bits6 (fun HT_ HW_ => ?_)
        generalize wr.drew = w11 at HB hx228_0 hx228_1 hx228_2 hx228_3 hx228_4 hx228_5 hx228_6 hx228_7 hx229_0 hx229_1 hx229_2 hx229_3 hx229_4 hx229_5 hx229_6 hx229_7 hHeld ⊢
        refine pS (i := 0) (N := some 17) #[true, false, false, false, false, false, false, false, false, false] HT_ ?_
        refine pS (i := 1) (N := some 18) #[true, true, false, false, false, false, false, false, false, false] HT_ ?_
        refine pS (i := 2) (N := some 19) #[true, true, true, false, false, false, false, false, false, false] HT_ ?_
        refine pS (i := 4) (N := some 21) #[true, true, true, false, true, false, false, false, false, false] HT_ ?_
        refine pS (i := 5) (N := some 22) #[true, true, true, false, true, true, false, false, false, false] HT_ ?_
        refine pS (i := 6) (N := some 23) #[true, true, true, false, true, true, true, false, false, false] HT_ ?_
        refine tS (i := 3) (N := some 20) #[true, true, true, true, true, true, true, false, false, false] HT_ HW_ hHeld ?_
        refine tS (i := 7) (N := some 24) #[true, true, true, true, true, true, true, true, false, false] HT_ HW_ hHeld ?_
        refine one_ (i := 8) (N := some 25) #[true, true, true, true, true, true, true, true, true, false] rfl rfl (qNB HT_.out (by kernel_rfl)) (by decide) (fun K hK => ?_)
        refine goes_ Tryd.func43 (by kernel_rfl) rfl #[.agg #[.int .i64 ((qC l0 x5_1).f0), .int .i64 ((qC l0 x5_1).f1), .int .i64 ((qC l0 x5_1).f2.f0), .int .i64 ((qC l0 x5_1).f2.f1), .int .i64 ((qC l0 x5_1).f2.f2), .int .i64 ((qC l0 x5_1).f2.f3), .int .i64 ((qC l0 x5_1).f2.f4), .int .i64 ((qC l0 x5_1).f2.f5)], .agg #[.int .i64 ((qC l1 x5_1).f0), .int .i64 ((qC l1 x5_1).f1), .int .i64 ((qC l1 x5_1).f2.f0), .int .i64 ((qC l1 x5_1).f2.f1), .int .i64 ((qC l1 x5_1).f2.f2), .int .i64 ((qC l1 x5_1).f2.f3), .int .i64 ((qC l1 x5_1).f2.f4), .int .i64 ((qC l1 x5_1).f2.f5)]] (by rfl) rfl rfl (by (try simp only [List.map_toArray, List.map_cons, List.map_nil]); first | done | rfl | (simp only [List.length_drop, List.length_take]; rfl)) ?_
        with_reducible refine (qmB.calls ((qC l0 x5_1).f0) ((qC l0 x5_1).f1) ((qC l0 x5_1).f2.f0) ((qC l0 x5_1).f2.f1) ((qC l0 x5_1).f2.f2) ((qC l0 x5_1).f2.f3) ((qC l0 x5_1).f2.f4) ((qC l0 x5_1).f2.f5) ((qC l1 x5_1).f0) ((qC l1 x5_1).f1) ((qC l1 x5_1).f2.f0) ((qC l1 x5_1).f2.f1) ((qC l1 x5_1).f2.f2) ((qC l1 x5_1).f2.f3) ((qC l1 x5_1).f2.f4) ((qC l1 x5_1).f2.f5) false _ A7.out).mono ?_
        rintro e w12 ⟨rfl, hb⟩
        refine ⟨_, rfl, ?_⟩
        have n0_ := Aside0.mk (qG bl hb)
        clear HB
        have HB := n0_
        clear n0_
        (try clear hb)
        (try clear hb2)
        (try clear hk)
        (try clear hi)
        refine hK.out _ _ ⟨((HB.out.cell (World.block_lt_of_cell? w _ hw228_0)).trans hw228_0), ((HB.out.cell (World.block_lt_of_cell? w _ hw228_1)).trans hw228_1), ((HB.out.cell (World.block_lt_of_cell? w _ hw228_2)).trans hw228_2), ((HB.out.cell (World.block_lt_of_cell? w _ hw228_3)).trans hw228_3), ((HB.out.cell (World.block_lt_of_cell? w _ hw228_4)).trans hw228_4), ((HB.out.cell (World.block_lt_of_cell? w _ hw228_5)).trans hw228_5), ((HB.out.cell (World.block_lt_of_cell? w _ hw228_6)).trans hw228_6), ((HB.out.cell (World.block_lt_of_cell? w _ hw228_7)).trans hw228_7), ((HB.out.cell (World.block_lt_of_cell? w _ hw229_0)).trans hw229_0), ((HB.out.cell (World.block_lt_of_cell? w _ hw229_1)).trans hw229_1), ((HB.out.cell (World.block_lt_of_cell? w _ hw229_2)).trans hw229_2), ((HB.out.cell (World.block_lt_of_cell? w _ hw229_3)).trans hw229_3), ((HB.out.cell (World.block_lt_of_cell? w _ hw229_4)).trans hw229_4), ((HB.out.cell (World.block_lt_of_cell? w _ hw229_5)).trans hw229_5), ((HB.out.cell (World.block_lt_of_cell? w _ hw229_6)).trans hw229_6), ((HB.out.cell (World.block_lt_of_cell? w _ hw229_7)).trans hw229_7)⟩ (fun hHeld => ?_)
        clear hK K
        refine norm_ (a' := ?_) ?_ ?_
        rotate_left
        ·show Act.put _ (some 25) _ = _
         simp only [Act.put, List.setIfInBounds_toArray, List.set_cons_zero, List.set_cons_succ, i64_w, i32_w]
         rfl
        refine pS (i := 9) (N := some 26) #[true, true, true, true, true, true, true, true, true, true] HT_ ?_
        refine done_ (qpB HT_.out (by kernel_rfl)) ?_
        try go_wp2
        go_ret
        exact ⟨by first | rfl | (simp [qI, qH] <;> rfl) | (simp [*, qI, qH] <;> rfl), bl⟩
      ·rw [if_neg c6] at H
       exact absurd H (by simp)
     ·rw [if_neg c5] at H
      exact absurd H (by simp)
    ·rw [if_neg c4] at H
     have c4b0 : decide (x5_1 < (l0.length : Int)) = false := decide_eq_false c4
     clear c4
     obtain rfl := Option.some.inj H
     go_wp2
     go_ret
     exact ⟨by first | rfl | (simp [qI, qH] <;> rfl) | (simp [*, qI, qH] <;> rfl), bl⟩
 ·rw [if_neg c3] at H
  have c3b0 : ((l0.length : Int) == (l1.length : Int)) = false := beq_eq_false_iff_ne.mpr c3
  have c3b1 : ((l0.length : Int) != (l1.length : Int)) = true := bne_iff_ne.mpr c3
  have c3b2 : (l0.length == l1.length) = false := by first | simpa using c3 | (simp at c3 ⊢; omega)
  obtain rfl := Option.some.inj H
  go_enter Tryd.func15, Tryd.ntmps15
  go_wp2
  go_ret
  exact ⟨by first | rfl | (simp [qI, qH] <;> rfl) | (simp [*, qI, qH] <;> rfl), bl⟩
end Go.Proofs.YtgjdjnggkmojnaaDoor.P
namespace Go.Proofs.YtgjdjnggkmojnaaDoor
open Go.RowKit Go.Proofs.YtgjdjnggkmojnaaDoor.P Go.Proofs.YtgjdjnggkmojnaaDoorW.PrintWords Go.Proofs.YtgjdjnggkmojnaaDoorW.PrintLast
set_option linter.unusedVariables false
set_option linter.unusedSimpArgs false
theorem qoC (n a b : Int) : qwA.f n a b = some (decide (a ≤ n) && decide (n ≤ b)) := by
 unfold qwA.f
 by_cases h : a ≤ n
 ·rw [if_pos h, decide_eq_true h, Bool.true_and]
 ·rw [if_neg h, decide_eq_false h, Bool.false_and]
theorem quD (l : List ByteArray) (i : Nat) (h : i < l.length) : rdOf ByteArray.empty l (i : Int) = l[i] := by
 unfold rdOf
 rw [Int.toNat_natCast, List.getD_eq_getElem?_getD, List.getElem?_eq_getElem h]; rfl
theorem qWC (s : ByteArray) : s.data.toList.length = s.size := by rw [Array.length_toList]; rfl
theorem gr_bt (s : ByteArray) (i : Nat) (h : i < s.data.toList.length) : bt s (i : Int) = ((s.data.toList[i]).toNat : Int) := by
 have h' : i < s.size := by rw [← qWC]; exact h
 unfold bt
 rw [dif_pos (by simpa using h')]
 simp only [Int.toNat_natCast, Array.getElem_toList]
 rfl
def fitR (C : List UInt8) (w : Nat) (r : List UInt8) : Bool := decide (r.length = w) && r.all (C.contains ·)
def szR (w h : Nat) : Bool := decide (1 ≤ h) && decide (h ≤ 7) && decide (1 ≤ w) && decide (w ≤ 7) && decide (w * h ≤ 36)
theorem rowsOf_loop (C : ByteArray) (hC : C.size < 100) (hA : (C.data.toList.all fun b => decide (b.toNat < 128)) = true) (w : Nat) (hw : w ≤ 4294967281) (L : List ByteArray) (hL : L.length ≤ 4294967281) (hs : ∀ x ∈ L, x.size ≤ 4294967281) (d : Nat) : ∀ i : Nat, i ≤ L.length → L.length - i = d →
  Ev (fun k => quA.l0 k C (w : Int) L (L.length : Int) (i : Int)) (if (L.drop i).all (fun x => fitR C.data.toList w x.data.toList) then (L, szR w L.length) else ([], false)) := by
 induction d with
 | zero =>
  intro i hi hd
  refine Ev.step (f := fun k => _) (fun k => by rw [quA.l0]) ?_
  refine Ev.neg (by omega) (Ev.bindc (qoC _ _ _) ?_)
  rw [List.drop_eq_nil_of_le (by omega), List.all_nil, if_pos rfl]
  by_cases h1 : 1 ≤ L.length ∧ L.length ≤ 7
  ·have e1 : (decide ((1 : Int) ≤ (L.length : Int)) && decide ((L.length : Int) ≤ 7)) = true := by rw [decide_eq_true (by omega), decide_eq_true (by omega)]; rfl
   refine Ev.pos e1 (Ev.bindc (qoC _ _ _) ?_)
   by_cases h2 : 1 ≤ w ∧ w ≤ 7
   ·have e2 : (decide ((1 : Int) ≤ (w : Int)) && decide ((w : Int) ≤ 7)) = true := by rw [decide_eq_true (by omega), decide_eq_true (by omega)]; rfl
    refine Ev.pos e2 (Ev.some_ ?_)
    have hm : w * L.length ≤ 7 * 7 := Nat.mul_le_mul h2.2 h1.2
    have hc : ((w : Int) * (L.length : Int)) = ((w * L.length : Nat) : Int) := by push_cast; rfl
    rw [hc]
    generalize hn : w * L.length = n at *
    have ew : wrap64 (n : Int) = (n : Int) := by unfold wrap64; omega
    rw [ew]
    have : szR w L.length = decide (n ≤ 36) := by
     unfold szR
     rw [hn, decide_eq_true h1.1, decide_eq_true h1.2, decide_eq_true h2.1, decide_eq_true h2.2]; rfl
    rw [this]
    congr 1
    exact decide_eq_decide.2 (by omega)
   ·refine Ev.neg (by simp only [Bool.and_eq_true, decide_eq_true_eq]; omega) (Ev.some_ ?_)
    have : szR w L.length = false := by
     unfold szR
     simp only [Bool.and_eq_false_iff, decide_eq_false_iff_not]; omega
    rw [this]
  ·refine Ev.neg (by simp only [Bool.and_eq_true, decide_eq_true_eq]; omega) (Ev.some_ ?_)
   have : szR w L.length = false := by
    unfold szR
    simp only [Bool.and_eq_false_iff, decide_eq_false_iff_not]; omega
   rw [this]
 | succ d ih =>
  intro i hi hd
  have h : i < L.length := by omega
  refine Ev.step (f := fun k => _) (fun k => by rw [quA.l0]) ?_
  refine Ev.pos (by omega) (Ev.pos (by omega) (Ev.pos (by omega) ?_))
  rw [quD L i h, List.drop_eq_getElem_cons h, List.all_cons, show wrap64 ((i : Int) + 1) = ((i + 1 : Nat) : Int) by unfold wrap64; omega]
  have hsz := hs _ (List.getElem_mem h)
  have ihh := ih (i + 1) (by omega) (by omega)
  generalize L[i] = x at *
  by_cases hx : x.size = w
  ·refine Ev.pos (by omega) (Ev.bindc (show qcB.f x C = some _ from by unfold qcB.f; rw [if_pos ⟨by omega, by omega, hA⟩]) ?_)
   have ht : (⟨(Lib.trimS x.data.toList C.data.toList).toArray⟩ : ByteArray).toList = Lib.trimS x.data.toList C.data.toList := by
    rw [Lib.toList_data]
   by_cases hal : x.data.toList.all (C.data.toList.contains ·) = true
   ·refine Ev.pos (by rw [ht]; exact (trimS_nil _ _).2 hal) ?_
    have : fitR C.data.toList w x.data.toList = true := by
     unfold fitR
     rw [hal, Bool.and_true, decide_eq_true (by rw [qWC]; exact hx)]
    rw [this, Bool.true_and]
    exact ihh
   ·refine Ev.neg (by rw [ht]; exact fun e => hal ((trimS_nil _ _).1 e)) (Ev.some_ ?_)
    have : fitR C.data.toList w x.data.toList = false := by
     unfold fitR
     rw [Bool.eq_false_iff.2 hal, Bool.and_false]
    rw [this]; rfl
  ·refine Ev.neg (by omega) (Ev.some_ ?_)
   have : fitR C.data.toList w x.data.toList = false := by
    unfold fitR
    rw [decide_eq_false (by rw [qWC]; exact hx), Bool.false_and]
   rw [this]; rfl
def rowsT (a : ByteArray) : List ByteArray := Lib.splitB ⟨#[47]⟩ 0 (Lib.countB a ⟨#[47]⟩) a
theorem qfC (a : ByteArray) : (rowsT a).map (·.data.toList) = (sp 47 a.data.toList).1 :: (sp 47 a.data.toList).2 := split_sp a 47
def wideT (a : ByteArray) : Nat := (sp 47 a.data.toList).1.length
def highT (a : ByteArray) : Nat := (sp 47 a.data.toList).2.length + 1
theorem qYC (a : ByteArray) : (rowsT a).length = highT a := by
 have := congrArg List.length (qfC a)
 simpa [highT] using this
def rowsFit (C : List UInt8) (a : ByteArray) : Bool := ((sp 47 a.data.toList).1 :: (sp 47 a.data.toList).2).all (fitR C (wideT a))
theorem sum_le_mem (l : List Nat) : ∀ x ∈ l, x ≤ l.sum := by
 induction l with
 | nil => intro x h; cases h
 | cons b l ih =>
  intro x h
  rw [List.sum_cons]
  rcases List.mem_cons.1 h with rfl | h
  ·omega
  ·have := ih x h; omega
theorem rowsT_size (a : ByteArray) : ∀ x ∈ rowsT a, x.size ≤ a.size := by
 intro x hx
 have h1 : x.data.toList ∈ (rowsT a).map (·.data.toList) := List.mem_map_of_mem hx
 rw [qfC] at h1
 have h2 := qTD 47 a.data.toList
 rw [qWC] at h2
 rw [← qWC x]
 rcases List.mem_cons.1 h1 with h | h
 ·rw [h]; omega
 ·have := sum_le_mem _ _ (List.mem_map_of_mem (f := List.length) h); omega
theorem rowsOf_ev (a C : ByteArray) (ha : a.size ≤ 1048576) (hC : C.size < 100) (hA : (C.data.toList.all fun b => decide (b.toNat < 128)) = true) :
  Ev (fun k => quA.f k a C) (if rowsFit C.data.toList a then (rowsT a, szR (wideT a) (highT a)) else ([], false)) := by
 unfold quA.f
 refine Ev.bindc (show strings_Split.f a ⟨#[47]⟩ = some (rowsT a) from by unfold strings_Split.f; rw [if_pos ⟨by omega, by decide⟩]; rfl) ?_
 have hlen := qYC a
 have hl2 := qTD 47 a.data.toList
 rw [qWC] at hl2
 have hh : highT a ≤ a.size + 1 := by unfold highT; omega
 have h0 : 0 < (rowsT a).length := by rw [hlen]; unfold highT; omega
 refine Ev.pos (by omega) ?_
 have e0 : rdOf ByteArray.empty (rowsT a) 0 = (rowsT a)[0] := quD (rowsT a) 0 h0
 have e1 : ((rowsT a)[0]).size = wideT a := by
  have := qfC a
  have h2 : ((rowsT a).map (·.data.toList))[0]'(by simpa using h0) = (sp 47 a.data.toList).1 := by
   simp only [this, List.getElem_cons_zero]
  rw [List.getElem_map] at h2
  rw [← qWC, h2]; rfl
 rw [e0, e1]
 have hw : wideT a ≤ a.size := by rw [← e1]; exact rowsT_size a _ (List.getElem_mem h0)
 have := rowsOf_loop C hC hA (wideT a) (by omega) (rowsT a) (by omega) (fun x hx => by have := rowsT_size a x hx; omega) (rowsT a).length 0 (by omega) (by omega)
 rw [List.drop_zero] at this
 have e2 : (rowsT a).all (fun x => fitR C.data.toList (wideT a) x.data.toList) = rowsFit C.data.toList a := by
  unfold rowsFit
  rw [← qfC, List.all_map]; rfl
 rw [e2] at this
 rw [← hlen]
 exact this
abbrev RdG := Int × Int × List Int × Bool
def badG : RdG := (0, 0, [], false)
def finG (w h : Nat) (cs : List Int) : RdG := if 7 < w then badG else if 7 < h then badG else if 36 < cs.length then badG else ((w : Int), (h : Int), cs, true)
def runG : List UInt8 → Nat → Nat → Nat → List Int → RdG
 | [], x, w, h, cs => if (0 < h ∧ x ≠ w) ∨ x = 0 then badG else finG x (h + 1) cs
 | c :: r, x, w, h, cs =>
  if c = 47 then (if (0 < h ∧ x ≠ w) ∨ x = 0 then badG else runG r 0 x (h + 1) cs)
  else if c = 46 ∨ c = 35 then runG r (x + 1) w h (cs ++ [(c.toNat : Int)])
  else badG
theorem u8eq (c : UInt8) (n : Nat) (hn : n < 256) : ((c.toNat : Int) = (n : Int)) ↔ c = UInt8.ofNat n := by
 constructor
 ·intro h
  have : c.toNat = n := by omega
  rw [← this]; simp
 ·intro h
  subst h
  simp; omega
theorem bx_end (a : ByteArray) (ha : a.size ≤ 42) (w h : Nat) (cs : List Int) : Ev (fun k => qv.l0 k a 0 ((a.size : Int) + 1) (w : Int) (h : Int) cs) (finG w h cs) := by
 refine Ev.step (f := fun k => _) (fun k => by rw [qv.l0]) ?_
 refine Ev.neg (by omega) ?_
 unfold finG
 by_cases h1 : 7 < w
 ·rw [if_pos h1]; exact Ev.pos (by omega) (Ev.now _)
 rw [if_neg h1]; refine Ev.neg (by omega) ?_
 by_cases h2 : 7 < h
 ·rw [if_pos h2]; exact Ev.pos (by omega) (Ev.now _)
 rw [if_neg h2]; refine Ev.neg (by omega) ?_
 by_cases h3 : 36 < cs.length
 ·rw [if_pos h3]; exact Ev.pos (by omega) (Ev.now _)
 rw [if_neg h3]; exact Ev.neg (by omega) (Ev.now _)
theorem bx_sep (a : ByteArray) (i x w h : Nat) (cs : List Int) (hx : x ≤ 100) (hh : h ≤ 100) (hi : i ≤ 100) (R : RdG)
  (hR : Ev (fun k => qv.l0 k a 0 ((i : Int) + 1) (x : Int) ((h + 1 : Nat) : Int) cs) R) :
  Ev (fun k => qv.j1 k a (x : Int) (i : Int) false (w : Int) (h : Int) cs) (if (0 < h ∧ x ≠ w) ∨ x = 0 then badG else R) := by
 have w1 : wrap64 ((i : Int) + 1) = (i : Int) + 1 := by unfold wrap64; omega
 have w2 : wrap64 ((h : Int) + 1) = ((h + 1 : Nat) : Int) := by unfold wrap64; omega
 refine Ev.step (f := fun k => _) (fun k => by rw [qv.j1]) ?_
 refine Ev.neg (by decide) ?_
 rw [w1, w2]
 by_cases h1 : 0 < h
 ·refine Ev.pos (by omega) ?_
  by_cases h2 : x = w
  ·refine Ev.pos (by omega) ?_
   by_cases h3 : x = 0
   ·rw [if_pos (.inr h3)]; exact Ev.pos (by omega) (Ev.now _)
   ·rw [if_neg (by omega)]; exact Ev.neg (by omega) hR
  ·rw [if_pos (.inl ⟨h1, h2⟩)]; exact Ev.neg (by omega) (Ev.now _)
 ·refine Ev.neg (by omega) ?_
  by_cases h3 : x = 0
  ·rw [if_pos (.inr h3)]; exact Ev.pos (by omega) (Ev.now _)
  ·rw [if_neg (by omega)]; exact Ev.neg (by omega) hR
theorem bx_loop (a : ByteArray) (ha : a.size ≤ 42) (d : Nat) : ∀ (i x w h : Nat) (cs : List Int), i ≤ a.size → a.size - i = d → x ≤ i → h ≤ i → cs.length ≤ i →
  Ev (fun k => qv.l0 k a (x : Int) (i : Int) (w : Int) (h : Int) cs) (runG (a.data.toList.drop i) x w h cs) := by
 have hsz := qWC a
 induction d with
 | zero =>
  intro i x w h cs hi hd hx hh hc
  obtain rfl : i = a.size := by omega
  refine Ev.step (f := fun k => _) (fun k => by rw [qv.l0]) ?_
  refine Ev.pos (by omega) (Ev.neg (by omega) ?_)
  rw [List.drop_eq_nil_of_le (by omega), runG]
  exact bx_sep a a.size x w h cs (by omega) (by omega) (by omega) _ (bx_end a ha x (h + 1) cs)
 | succ d ih =>
  intro i x w h cs hi hd hx hh hc
  have hl : i < a.data.toList.length := by omega
  have e1 : ((i : Int) + 1) = ((i + 1 : Nat) : Int) := by omega
  have w1 : wrap64 ((i : Int) + 1) = ((i + 1 : Nat) : Int) := by unfold wrap64; omega
  have w2 : wrap64 ((x : Int) + 1) = ((x + 1 : Nat) : Int) := by unfold wrap64; omega
  have hdr := List.drop_eq_getElem_cons hl
  obtain ⟨c, hcc, hb⟩ : ∃ c, a.data.toList[i] = c ∧ bt a (i : Int) = (c.toNat : Int) := ⟨_, rfl, gr_bt a i hl⟩
  rw [hcc] at hdr
  clear hcc
  have HB := Lib.hid hb
  have HW1 := Lib.hid w1
  have HW2 := Lib.hid w2
  have HD := Lib.hid hdr
  clear hb w1 w2 hdr
  refine Ev.step (f := fun k => _) (fun k => by rw [qv.l0]) ?_
  refine Ev.pos (by omega) (Ev.pos (by omega) (Ev.pos (by omega) ?_))
  rw [HD.out, HB.out, runG]
  by_cases h47 : c = 47
  ·rw [show ((c.toNat : Int) != 47) = false by subst h47; rfl, if_pos h47]
   clear HB HD h47
   refine bx_sep a i x w h cs (by omega) (by omega) (by omega) _ ?_
   rw [e1]
   exact ih (i + 1) 0 x (h + 1) cs (by omega) (by omega) (by omega) (by omega) (by omega)
  ·rw [show ((c.toNat : Int) != 47) = true by
    rw [bne_iff_ne]; intro e; exact h47 ((u8eq c 47 (by decide)).1 e), if_neg h47]
   have go1 := ih (i + 1) (x + 1) w h (cs ++ [(c.toNat : Int)]) (by omega) (by omega) (by omega) (by omega) (by simp; omega)
   have step : ∀ R, Ev (fun k => qv.l0 k a ((x + 1 : Nat) : Int) ((i + 1 : Nat) : Int) (w : Int) (h : Int) (cs ++ [(c.toNat : Int)])) R →
     Ev (fun k => qv.j2 k a (x : Int) (i : Int) false (w : Int) (h : Int) cs) R := fun R hR => by
    refine Ev.step (f := fun k => _) (fun k => by rw [qv.j2]) ?_
    refine Ev.neg (by decide) (Ev.pos (by omega) (Ev.pos (by omega) (Ev.pos (by omega) ?_)))
    rw [HW1.out, HW2.out, HB.out]
    exact hR
   refine Ev.step (f := fun k => _) (fun k => by rw [qv.j1]) ?_
   refine Ev.pos rfl (Ev.pos (by omega) (Ev.pos (by omega) ?_))
   rw [HB.out]
   by_cases h46 : c = 46
   ·rw [if_pos (.inl h46)]
    exact Ev.pos (by subst h46; rfl) (step _ go1)
   ·refine Ev.neg (fun e => h46 ((u8eq c 46 (by decide)).1 e)) ?_
    by_cases h35 : c = 35
    ·rw [if_pos (.inr h35), show ((c.toNat : Int) != 35) = false by subst h35; rfl]
     exact step _ go1
    ·rw [if_neg (by simp [h46, h35]), show ((c.toNat : Int) != 35) = true by
       rw [bne_iff_ne]; intro e; exact h35 ((u8eq c 35 (by decide)).1 e)]
     refine Ev.step (f := fun k => _) (fun k => by rw [qv.j2]) ?_
     exact Ev.pos rfl (Ev.now _)
def cB : List UInt8 := [46, 35]
def numsOf (l : List UInt8) : List Int := l.map fun c => (c.toNat : Int)
def flatT (l : List UInt8) : List UInt8 := (sp 47 l).1 ++ (sp 47 l).2.flatten
theorem runG_eq (l : List UInt8) : ∀ (x w h : Nat) (cs : List Int), runG l x w h cs =
  if (l.all (fun b => b == 47 || cB.contains b)) = true ∧ x + (sp 47 l).1.length ≠ 0 ∧ (0 < h → x + (sp 47 l).1.length = w) ∧ (∀ r ∈ (sp 47 l).2, r.length = x + (sp 47 l).1.length)
  then finG (x + (sp 47 l).1.length) (h + ((sp 47 l).2.length + 1)) (cs ++ numsOf (flatT l)) else badG := by
 induction l with
 | nil =>
  intro x w h cs
  rw [runG]
  simp only [sp, List.all_nil, List.length_nil, Nat.add_zero, flatT, List.flatten_nil, List.append_nil, numsOf, List.map_nil, Nat.zero_add]
  by_cases hb : (0 < h ∧ x ≠ w) ∨ x = 0
  ·rw [if_pos hb, if_neg (by rintro ⟨_, h1, h2, _⟩; exact hb.elim (fun h34 => h34.2 (h2 h34.1)) h1)]
  ·rw [if_neg hb, if_pos ⟨trivial, fun e => hb (.inr e), fun h3 => Classical.byContradiction fun h4 => hb (.inl ⟨h3, h4⟩), by simp⟩]
 | cons c r ih =>
  intro x w h cs
  rw [runG]
  by_cases h47 : c = 47
  ·subst h47
   rw [if_pos rfl]
   simp only [sp, if_true, List.all_cons, beq_self_eq_true, Bool.true_or, Bool.true_and, List.length_nil, Nat.add_zero, flatT, List.nil_append, List.flatten_cons, List.length_cons]
   by_cases hb : (0 < h ∧ x ≠ w) ∨ x = 0
   ·rw [if_pos hb, if_neg (by rintro ⟨_, h1, h2, _⟩; exact hb.elim (fun h34 => h34.2 (h2 h34.1)) h1)]
   ·rw [if_neg hb, ih]
    have hx0 : x ≠ 0 := fun e => hb (.inr e)
    have hxw : 0 < h → x = w := fun h3 => Classical.byContradiction fun h4 => hb (.inl ⟨h3, h4⟩)
    by_cases hg : (r.all (fun b => b == 47 || cB.contains b)) = true ∧ ∀ q ∈ (sp 47 r).1 :: (sp 47 r).2, q.length = x
    ·have hf : (sp 47 r).1.length = x := hg.2 _ (List.mem_cons_self)
     rw [if_pos ⟨hg.1, by omega, fun _ => by omega, fun q hq => by have := hg.2 q (List.mem_cons_of_mem _ hq); omega⟩, if_pos ⟨hg.1, hx0, hxw, hg.2⟩]
     congr 1
     ·omega
     ·omega
    ·rw [if_neg, if_neg]
     ·rintro ⟨h1, _, _, h4⟩; exact hg ⟨h1, h4⟩
     ·rintro ⟨h1, _, h3, h4⟩
      have h5 := h3 (by omega)
      refine hg ⟨h1, fun q hq => ?_⟩
      rcases List.mem_cons.1 hq with rfl | hq
      ·omega
      ·have := h4 q hq; omega
  ·rw [if_neg h47]
   have e47 : (c == 47) = false := by simpa using h47
   simp only [sp, if_neg h47, List.all_cons, e47, Bool.false_or, List.length_cons]
   have hsh : x + ((sp 47 r).1.length + 1) = x + 1 + (sp 47 r).1.length := by omega
   by_cases h3 : c = 46 ∨ c = 35
   ·have hc : cB.contains c = true := by rcases h3 with rfl | rfl <;> decide
    rw [if_pos h3, ih, hc, Bool.true_and, hsh]
    simp only [flatT, sp, if_neg h47, numsOf, List.cons_append, List.map_cons, List.append_assoc, List.nil_append]
   ·rw [if_neg h3, if_neg]
    rintro ⟨h1, _⟩
    have : cB.contains c = false := by
     simp only [cB, List.contains_cons, List.contains_nil, Bool.or_false, Bool.or_eq_false_iff, beq_eq_false_iff_ne]
     exact ⟨fun e => h3 (.inl e), fun e => h3 (.inr e)⟩
    rw [this] at h1; simp at h1
theorem qdD (f : Nat) : ∀ (L : List (List UInt8)), (∀ r ∈ L, r.length = f) → L.flatten.length = f * L.length ∧ (L.map List.length).sum = f * L.length
 | [], _ => by simp
 | a :: L, h => by
  obtain ⟨h1, h2⟩ := qdD f L (fun r hr => h r (List.mem_cons_of_mem _ hr))
  have h3 := h a List.mem_cons_self
  simp only [List.flatten_cons, List.length_append, List.map_cons, List.sum_cons, List.length_cons, h1, h2, h3, Nat.mul_add, Nat.mul_one]
  omega
def boardB (a : ByteArray) : Bool := rowsFit cB a && szR (wideT a) (highT a)
theorem qnC (a : ByteArray) : rowsFit cB a = true ↔ (a.data.toList.all (fun b => b == 47 || cB.contains b)) = true ∧ ∀ r ∈ (sp 47 a.data.toList).2, r.length = wideT a := by
 have hs := sp_all 47 (cB.contains ·) a.data.toList (by decide)
 unfold rowsFit
 rw [← hs, List.all_cons]
 unfold fitR wideT
 simp only [Bool.and_eq_true, decide_eq_true_eq, List.all_eq_true, true_and]
 constructor
 ·rintro ⟨h1, h2⟩
  exact ⟨⟨h1, fun r hr => (h2 r hr).2⟩, fun r hr => (h2 r hr).1⟩
 ·rintro ⟨⟨h1, h2⟩, h3⟩
  exact ⟨h1, fun r hr => ⟨h3 r hr, h2 r hr⟩⟩
theorem boRead_ev (a : ByteArray) : Ev (fun k => qv.f k a) (if boardB a then ((wideT a : Int), (highT a : Int), numsOf (flatT a.data.toList), true) else badG) := by
 have hl := qTD 47 a.data.toList
 rw [qWC] at hl
 unfold qv.f
 by_cases h42 : a.size ≤ 42
 ·refine Ev.neg (by omega) ?_
  have := bx_loop a h42 a.size 0 0 0 0 [] (by omega) (by omega) (by omega) (by omega) (by simp)
  rw [List.drop_zero, runG_eq] at this
  simp only [Nat.zero_add, List.nil_append, Nat.lt_irrefl, false_implies, true_and] at this
  have e : (if (a.data.toList.all (fun b => b == 47 || cB.contains b)) = true ∧ (sp 47 a.data.toList).1.length ≠ 0 ∧ (∀ r ∈ (sp 47 a.data.toList).2, r.length = (sp 47 a.data.toList).1.length) then finG (sp 47 a.data.toList).1.length ((sp 47 a.data.toList).2.length + 1) (numsOf (flatT a.data.toList)) else badG) = (if boardB a then ((wideT a : Int), (highT a : Int), numsOf (flatT a.data.toList), true) else badG) := by
   have hw : (sp 47 a.data.toList).1.length = wideT a := rfl
   have hh : (sp 47 a.data.toList).2.length + 1 = highT a := rfl
   rw [hw, hh]
   unfold boardB
   by_cases hr : rowsFit cB a = true
   ·obtain ⟨h1, h2⟩ := (qnC a).1 hr
    obtain ⟨f1, f2⟩ := qdD (wideT a) (sp 47 a.data.toList).2 h2
    have hfl : (numsOf (flatT a.data.toList)).length = wideT a * highT a := by
     simp only [numsOf, List.length_map, flatT, List.length_append, f1, hw, ← hh, Nat.mul_add, Nat.mul_one]; omega
    rw [hr, Bool.true_and]
    by_cases h0 : wideT a ≠ 0
    ·rw [if_pos ⟨h1, h0, h2⟩]
     unfold finG szR
     rw [hfl]
     have hh1 : 1 ≤ highT a := by omega
     rw [decide_eq_true hh1, Bool.true_and, decide_eq_true (show 1 ≤ wideT a by omega)]
     by_cases a1 : 7 < wideT a
     ·rw [if_pos a1, decide_eq_false (show ¬ wideT a ≤ 7 by omega)]; simp
     rw [if_neg a1, decide_eq_true (show wideT a ≤ 7 by omega)]
     by_cases a2 : 7 < highT a
     ·rw [if_pos a2, decide_eq_false (show ¬ highT a ≤ 7 by omega)]; simp
     rw [if_neg a2, decide_eq_true (show highT a ≤ 7 by omega)]
     by_cases a3 : 36 < wideT a * highT a
     ·rw [if_pos a3, decide_eq_false (show ¬ wideT a * highT a ≤ 36 by omega)]; simp
     ·rw [if_neg a3, decide_eq_true (show wideT a * highT a ≤ 36 by omega)]; simp
    ·rw [if_neg (fun h => h0 h.2.1)]
     have : szR (wideT a) (highT a) = false := by
      unfold szR
      simp only [Bool.and_eq_false_iff, decide_eq_false_iff_not]; omega
     rw [this]; simp
   ·rw [if_neg (fun h => hr ((qnC a).2 ⟨h.1, h.2.2⟩)), Bool.eq_false_iff.2 hr]; simp
  rw [e] at this
  exact this
 ·refine Ev.pos (by omega) (Ev.some_ ?_)
  have : boardB a = false := by
   cases hg : boardB a with
   | false => rfl
   | true =>
    unfold boardB szR at hg
    simp only [Bool.and_eq_true, decide_eq_true_eq] at hg
    obtain ⟨hr, ⟨⟨⟨g1, g2⟩, g3⟩, g4⟩, g5⟩ := hg
    obtain ⟨h1, h2⟩ := (qnC a).1 hr
    obtain ⟨f1, f2⟩ := qdD (wideT a) (sp 47 a.data.toList).2 h2
    rw [f2] at hl
    have hw : (sp 47 a.data.toList).1.length = wideT a := rfl
    have hh : (sp 47 a.data.toList).2.length + 1 = highT a := rfl
    have : wideT a * highT a = wideT a + wideT a * (sp 47 a.data.toList).2.length := by rw [← hh, Nat.mul_add, Nat.mul_one]; omega
    omega
  rw [this]; rfl
theorem board_ev (a : ByteArray) (ha : a.size ≤ 1048576) : ∃ rows : List ByteArray, Ev (fun k => qTB.f k a) (rows, boardB a) ∧ (boardB a = true → rows = rowsT a) := by
 have h := rowsOf_ev a ⟨#[46, 35]⟩ ha (by decide) (by decide)
 have hc : (⟨#[46, 35]⟩ : ByteArray).data.toList = cB := rfl
 rw [hc] at h
 unfold qTB.f
 unfold boardB
 cases hr : rowsFit cB a with
 | false =>
  rw [hr, if_neg (by decide)] at h
  exact ⟨[], Ev.bind h (Ev.now _), fun e => by cases e⟩
 | true =>
  rw [hr, if_pos rfl] at h
  rw [Bool.true_and]
  exact ⟨rowsT a, Ev.bind h (Ev.now _), fun _ => rfl⟩
theorem qKD (n a b : Int) : qqA.f n a b = some (decide (a ≤ n) && decide (n ≤ b)) := by
 unfold qqA.f
 by_cases h : n ≥ a
 ·rw [if_pos h, decide_eq_true (show a ≤ n from h), Bool.true_and]
 ·rw [if_neg h, decide_eq_false (show ¬ a ≤ n from h), Bool.false_and]
def rowsL (a : ByteArray) : List (List UInt8) := (sp 47 a.data.toList).1 :: (sp 47 a.data.toList).2
theorem flat_get (w : Nat) : ∀ (L : List (List UInt8)) (i j : Nat), (∀ r ∈ L, r.length = w) → i < L.length → j < w → L.flatten[i * w + j]? = (L[i]?.bind fun r => r[j]?)
 | [], i, j, _, hi, _ => by simp at hi
 | r :: L, 0, j, h, _, hj => by
  have := h r List.mem_cons_self
  simp only [List.flatten_cons, Nat.zero_mul, Nat.zero_add, List.getElem?_cons_zero, Option.bind_some]
  rw [List.getElem?_append_left (by omega)]
 | r :: L, i + 1, j, h, hi, hj => by
  have h1 := h r List.mem_cons_self
  have ih := flat_get w L i j (fun q hq => h q (List.mem_cons_of_mem _ hq)) (by simpa using hi) hj
  simp only [List.flatten_cons, List.getElem?_cons_succ]
  have e : (i + 1) * w + j = r.length + (i * w + j) := by rw [Nat.add_mul, h1]; omega
  rw [e, List.getElem?_append_right (by omega), Nat.add_sub_cancel_left]
  exact ih
structure Gnd (a : ByteArray) : Prop where
 w1 : 1 ≤ wideT a
 w7 : wideT a ≤ 7
 h1 : 1 ≤ highT a
 h7 : highT a ≤ 7
 rows : ∀ r ∈ rowsL a, r.length = wideT a
theorem qMD {a : ByteArray} (h : boardB a = true) : Gnd a := by
 unfold boardB szR at h
 simp only [Bool.and_eq_true, decide_eq_true_eq] at h
 obtain ⟨hr, ⟨⟨⟨g1, g2⟩, g3⟩, g4⟩, g5⟩ := h
 obtain ⟨_, h2⟩ := (qnC a).1 hr
 exact ⟨g3, g4, g1, g2, fun r hr => by
  rcases List.mem_cons.1 hr with rfl | hr
  ·rfl
  ·exact h2 r hr⟩
theorem qsC (a : ByteArray) : (rowsL a).length = highT a := rfl
theorem rowsT_get (a : ByteArray) (i : Nat) (h : i < (rowsT a).length) (h' : i < (rowsL a).length) : ((rowsT a)[i]).data.toList = (rowsL a)[i] := by
 have := qfC a
 have e : ((rowsT a).map (·.data.toList))[i]'(by simpa using h) = (rowsL a)[i] := by
  simp only [this]; rfl
 rwa [List.getElem_map] at e
theorem flatT_eq (a : ByteArray) : flatT a.data.toList = (rowsL a).flatten := rfl
def hasB (a : ByteArray) (x y : Int) : Bool := decide (0 ≤ y) && decide (y ≤ (highT a : Int) - 1) && (decide (0 ≤ x) && decide (x ≤ (wideT a : Int) - 1))
def cellU (a : ByteArray) (x y : Int) : UInt8 := ((rowsL a).getD y.toNat []).getD x.toNat 0
def cellN (a : ByteArray) (x y : Int) : Int := ((cellU a x y).toNat : Int)
theorem qcD (a : ByteArray) (x y : Int) : hasB a x y = true ↔ (0 ≤ y ∧ y < (highT a : Int)) ∧ (0 ≤ x ∧ x < (wideT a : Int)) := by
 unfold hasB
 simp only [Bool.and_eq_true, decide_eq_true_eq]
 omega
theorem gr_size {a : ByteArray} (g : Gnd a) (i : Nat) (h : i < (rowsT a).length) : ((rowsT a)[i]).size = wideT a := by
 have h' : i < (rowsL a).length := by rw [qsC, ← qYC]; exact h
 rw [← qWC, rowsT_get a i h h']
 exact g.rows _ (List.getElem_mem h')
theorem has_eq {a : ByteArray} (g : Gnd a) (x y : Int) : qWB.f (rowsT a) x y = some (hasB a x y) := by
 have hl := qYC a
 have h0 : 0 < (rowsT a).length := by rw [hl]; exact g.h1
 have e0 : rdOf ByteArray.empty (rowsT a) 0 = (rowsT a)[0] := quD (rowsT a) 0 h0
 have e1 := gr_size g 0 h0
 have g1 := g.h7
 have g2 := g.w7
 unfold qWB.f
 rw [qoC, hl, e0, e1]
 have w1 : wrap64 ((highT a : Int) - 1) = (highT a : Int) - 1 := by unfold wrap64; omega
 have w2 : wrap64 ((wideT a : Int) - 1) = (wideT a : Int) - 1 := by unfold wrap64; omega
 rw [w1, w2]
 simp only [Option.bind_some]
 have g0 := g.h1
 unfold hasB
 by_cases h : (decide (0 ≤ y) && decide (y ≤ (highT a : Int) - 1)) = true
 ·rw [if_pos h, if_pos (by omega), qoC, h, Bool.true_and]; rfl
 ·rw [if_neg h, Bool.eq_false_iff.2 h, Bool.false_and]
theorem at_eq {a : ByteArray} (g : Gnd a) (x y : Int) (h : hasB a x y = true) : qrA.f (rowsT a) x y = some (cellN a x y) := by
 obtain ⟨⟨h1, h2⟩, h3, h4⟩ := (qcD a x y).1 h
 obtain ⟨i, rfl⟩ := Int.eq_ofNat_of_zero_le h1
 obtain ⟨j, rfl⟩ := Int.eq_ofNat_of_zero_le h3
 have hl := qYC a
 have hi : i < (rowsT a).length := by omega
 have hi' : i < (rowsL a).length := by rw [qsC]; omega
 have hs := gr_size g i hi
 have hr := rowsT_get a i hi hi'
 have hw := g.rows _ (List.getElem_mem hi')
 unfold qrA.f
 rw [has_eq g, h, quD (rowsT a) i hi]
 simp only [Option.bind_some, if_true]
 rw [if_pos (by omega), if_pos (by omega), if_pos (by omega), if_pos (by rw [hs]; omega)]
 have hj : j < ((rowsT a)[i]).data.toList.length := by rw [qWC, hs]; omega
 rw [gr_bt _ j hj]
 congr 1
 unfold cellN cellU
 have e : (rowsL a).getD i [] = (rowsL a)[i] := by rw [List.getD_eq_getElem?_getD, List.getElem?_eq_getElem hi']; rfl
 have e2 : ((rowsT a)[i]).data.toList[j] = ((rowsL a)[i])[j]'(by rw [← hr]; exact hj) := by simp only [hr]
 rw [e2, Int.toNat_natCast, Int.toNat_natCast, e, List.getD_eq_getElem?_getD, List.getElem?_eq_getElem (by rw [← hr]; exact hj)]
 rfl
theorem boCell_eq {a : ByteArray} (g : Gnd a) (cs : List Int) (x y : Int) : qlB.f (wideT a : Int) (highT a : Int) cs x y = some (hasB a x y) := by
 have g1 := g.h7
 have g2 := g.w7
 unfold qlB.f
 have w1 : wrap64 ((highT a : Int) - 1) = (highT a : Int) - 1 := by unfold wrap64; omega
 have w2 : wrap64 ((wideT a : Int) - 1) = (wideT a : Int) - 1 := by unfold wrap64; omega
 rw [w1, w2, qKD, qKD]
 simp only [Option.bind_some]
 unfold hasB
 by_cases h : (decide (0 ≤ x) && decide (x ≤ (wideT a : Int) - 1)) = true
 ·rw [if_pos h, h, Bool.and_true]
 ·rw [if_neg h, Bool.eq_false_iff.2 h, Bool.and_false]
theorem spec_at {a : ByteArray} (g : Gnd a) (x y : Int) (h : hasB a x y = true) :
  0 ≤ wrap64 (wrap64 (y * (wideT a : Int)) + x) ∧ wrap64 (wrap64 (y * (wideT a : Int)) + x) < ((numsOf (flatT a.data.toList)).length : Int) ∧ rd (numsOf (flatT a.data.toList)) (wrap64 (wrap64 (y * (wideT a : Int)) + x)) = cellN a x y := by
 obtain ⟨⟨h1, h2⟩, h3, h4⟩ := (qcD a x y).1 h
 obtain ⟨i, rfl⟩ := Int.eq_ofNat_of_zero_le h1
 obtain ⟨j, rfl⟩ := Int.eq_ofNat_of_zero_le h3
 have g1 := g.h7
 have g2 := g.w7
 have hi' : i < (rowsL a).length := by rw [qsC]; omega
 have hf := flat_get (wideT a) (rowsL a) i j g.rows hi' (by omega)
 have hw := g.rows _ (List.getElem_mem hi')
 have hj : j < ((rowsL a)[i]).length := by omega
 rw [List.getElem?_eq_getElem hi', Option.bind_some, List.getElem?_eq_getElem hj] at hf
 have hm : i * wideT a ≤ 7 * 7 := Nat.mul_le_mul (by omega) g2
 have ec : ((i : Int) * (wideT a : Int)) = ((i * wideT a : Nat) : Int) := by push_cast; rfl
 rw [ec]
 have e : wrap64 (wrap64 ((i * wideT a : Nat) : Int) + (j : Int)) = ((i * wideT a + j : Nat) : Int) := by
  generalize i * wideT a = m at *
  unfold wrap64; omega
 rw [e, flatT_eq]
 obtain ⟨hlt, hv⟩ := List.getElem?_eq_some_iff.1 hf
 refine ⟨by omega, ?_, ?_⟩
 ·unfold numsOf
  rw [List.length_map]; omega
 ·unfold rd numsOf cellN cellU
  rw [Int.toNat_natCast, List.getD_eq_getElem?_getD, List.getElem?_map, hf, Int.toNat_natCast, Int.toNat_natCast, List.getD_eq_getElem?_getD (l := rowsL a), List.getElem?_eq_getElem hi']
  simp only [Option.map_some, Option.getD_some]
  rw [List.getD_eq_getElem?_getD, List.getElem?_eq_getElem hj]
  rfl
theorem at_all {a : ByteArray} (g : Gnd a) (x y : Int) : qrA.f (rowsT a) x y = some (if hasB a x y = true then cellN a x y else 0) := by
 cases h : hasB a x y with
 | true => rw [at_eq g x y h]; rfl
 | false =>
  unfold qrA.f
  rw [has_eq g, h]; rfl
def floorB (a : ByteArray) (x y : Int) : Bool := hasB a x y && (cellN a x y == 46)
theorem at_floor {a : ByteArray} (g : Gnd a) (x y : Int) : ∃ c, qrA.f (rowsT a) x y = some c ∧ decide (c = 46) = floorB a x y := by
 refine ⟨_, at_all g x y, ?_⟩
 unfold floorB
 cases h : hasB a x y with
 | true => rw [if_pos rfl, Bool.true_and]; rfl
 | false => rw [if_neg (by decide)]; rfl
def inFace (n : Int) : Bool := decide (0 ≤ n) && decide (n ≤ 9)
def dieB (a b c d e f : Int) : Bool := [a, b, c, d, e, f].all inFace
theorem rdn (l : List Int) (i : Nat) (h : i < l.length) : rd l (i : Int) = l[i] := by
 unfold rd
 rw [Int.toNat_natCast, List.getD_eq_getElem?_getD, List.getElem?_eq_getElem h]; rfl
theorem spec_l1In_eq (n a b : Int) : qqA.f n a b = some (decide (a ≤ n) && decide (n ≤ b)) := by
 unfold qqA.f
 by_cases h : n ≥ a
 ·rw [if_pos h, decide_eq_true (show a ≤ n from h), Bool.true_and]
 ·rw [if_neg h, decide_eq_false (show ¬ a ≤ n from h), Bool.false_and]
theorem impl_in_eq (n a b : Int) : qwA.f n a b = some (decide (a ≤ n) && decide (n ≤ b)) := by
 unfold qwA.f
 by_cases h : a ≤ n
 ·rw [if_pos h, decide_eq_true h, Bool.true_and]
 ·rw [if_neg h, decide_eq_false h, Bool.false_and]
theorem l1All_loop (l : List Int) (a b : Int) (hl : l.length ≤ 140737488355328) (d : Nat) : ∀ i : Nat, i ≤ l.length → l.length - i = d →
  Ev (fun k => qxA.l0 k a b l (l.length : Int) (i : Int)) ((l.drop i).all fun n => decide (a ≤ n) && decide (n ≤ b)) := by
 induction d with
 | zero =>
  intro i hi hd
  refine Ev.step (f := fun k => _) (fun k => by rw [qxA.l0]) (Ev.neg (by omega) (Ev.some_ ?_))
  rw [List.drop_eq_nil_of_le (by omega)]; rfl
 | succ d ih =>
  intro i hi hd
  have h : i < l.length := by omega
  refine Ev.step (f := fun k => _) (fun k => by rw [qxA.l0]) (Ev.pos (by omega) (Ev.pos (by omega) (Ev.pos (by omega) (Ev.bindc (spec_l1In_eq _ _ _) ?_))))
  rw [rdn l i h, List.drop_eq_getElem_cons h, List.all_cons, show wrap64 ((i : Int) + 1) = ((i + 1 : Nat) : Int) by unfold wrap64; omega]
  cases hb : (decide (a ≤ l[i]) && decide (l[i] ≤ b)) with
  | true => exact Ev.pos rfl (ih (i + 1) (by omega) (by omega))
  | false => exact Ev.neg (by decide) (Ev.some_ rfl)
theorem spec_l1All_ev (l : List Int) (a b : Int) (hl : l.length ≤ 140737488355328) : Ev (fun k => qxA.f k l a b) (l.all fun n => decide (a ≤ n) && decide (n ≤ b)) := by
 have := l1All_loop l a b hl l.length 0 (by omega) (by omega)
 simpa [qxA.f] using this
theorem spec_diGood_ev (a b c d e f : Int) : Ev (fun k => qeB.f k a b c d e f) (dieB a b c d e f) := by
 unfold qeB.f
 exact Ev.bindc rfl (Ev.bind (spec_l1All_ev [a, b, c, d, e, f] 0 9 (by simp)) (Ev.some_ rfl))
theorem isDie1_eq (n : Int) : qnB.f n = some (!inFace n) := by
 unfold qnB.f
 rw [impl_in_eq]; rfl
theorem idxDie_loop (l : List Int) (hl : l.length ≤ 140737488355328) (d : Nat) : ∀ i : Nat, i ≤ l.length → l.length - i = d →
  ∃ r : Int, Ev (fun k => qf.l0 k l (l.length : Int) (i : Int)) r ∧ decide (r ≥ 0) = !((l.drop i).all inFace) := by
 induction d with
 | zero =>
  intro i hi hd
  refine ⟨-1, Ev.step (f := fun k => _) (fun k => by rw [qf.l0]) (Ev.neg (by omega) (Ev.some_ rfl)), ?_⟩
  rw [List.drop_eq_nil_of_le (by omega)]; rfl
 | succ d ih =>
  intro i hi hd
  have h : i < l.length := by omega
  rw [List.drop_eq_getElem_cons h, List.all_cons]
  cases hb : inFace l[i] with
  | true =>
   obtain ⟨r, h1, h2⟩ := ih (i + 1) (by omega) (by omega)
   refine ⟨r, Ev.step (f := fun k => _) (fun k => by rw [qf.l0]) (Ev.pos (by omega) (Ev.pos (by omega) (Ev.pos (by omega) (Ev.bindc (isDie1_eq _) ?_)))), by rw [Bool.true_and]; exact h2⟩
   rw [rdn l i h, hb, show wrap64 ((i : Int) + 1) = ((i + 1 : Nat) : Int) by unfold wrap64; omega]
   exact Ev.neg (by decide) h1
  | false =>
   refine ⟨(i : Int), Ev.step (f := fun k => _) (fun k => by rw [qf.l0]) (Ev.pos (by omega) (Ev.pos (by omega) (Ev.pos (by omega) (Ev.bindc (isDie1_eq _) ?_)))), ?_⟩
   ·rw [rdn l i h, hb]
    exact Ev.pos rfl (Ev.now _)
   ·rw [Bool.false_and]; exact decide_eq_true (by omega)
theorem impl_IsDie_ev (a b c d e f : Int) : Ev (fun k => qBC.f k a b c d e f) (dieB a b c d e f) := by
 obtain ⟨r, h1, h2⟩ := idxDie_loop [a, b, c, d, e, f] (by simp) 6 0 (by simp) (by simp)
 unfold qBC.f qTA.f qf.f
 refine Ev.bindc rfl (Ev.bind (a := decide (r ≥ 0)) (Ev.bind h1 (Ev.now _)) (Ev.some_ ?_))
 rw [h2]
 simp [dieB]
abbrev XS := S57
theorem rdXS (l : List XS) (i : Nat) (h : i < l.length) : qC l (i : Int) = l[i] := by
 unfold qC
 rw [Int.toNat_natCast, List.getD_eq_getElem?_getD, List.getElem?_eq_getElem h]; rfl
theorem rdXS_set (l : List XS) (i : Nat) (v : XS) (h : i < l.length) : qC (l.set i v) (i : Int) = v := by
 rw [rdXS _ i (by rw [List.length_set]; exact h), List.getElem_set_self]
theorem eqState_rfl (a b c d e f g h : Int) : qmB.f a b c d e f g h a b c d e f g h = some true := by
 unfold qmB.f qJC.f
 simp
theorem eqStateS_loop (a : List XS) (ha : a.length ≤ 140737488355328) (d : Nat) : ∀ i : Nat, i ≤ a.length → a.length - i = d → Ev (fun k => qX.l0 k a a (i : Int)) true := by
 induction d with
 | zero =>
  intro i hi hd
  exact Ev.step (f := fun k => _) (fun k => by rw [qX.l0]) (Ev.neg (by omega) (Ev.now _))
 | succ d ih =>
  intro i hi hd
  refine Ev.step (f := fun k => _) (fun k => by rw [qX.l0]) (Ev.pos (by omega) (Ev.pos (by omega) (Ev.pos (by omega) (Ev.bindc (eqState_rfl _ _ _ _ _ _ _ _) (Ev.pos rfl ?_)))))
  rw [show wrap64 ((i : Int) + 1) = ((i + 1 : Nat) : Int) by unfold wrap64; omega]
  exact ih (i + 1) (by omega) (by omega)
theorem qAB (a : List XS) (ha : a.length ≤ 140737488355328) : Ev (fun k => qX.f k a a) true := by
 unfold qX.f
 exact Ev.pos rfl (eqStateS_loop a ha a.length 0 (by omega) (by omega))
abbrev LS := S61
def convS (x : LS) : XS := ⟨x.f0, x.f1, ⟨x.f2.f0, x.f2.f1, x.f2.f2, x.f2.f3, x.f2.f4, x.f2.f5⟩⟩
theorem rdLS (l : List LS) (i : Nat) (h : i < l.length) : qMB l (i : Int) = l[i] := by
 unfold qMB
 rw [Int.toNat_natCast, List.getD_eq_getElem?_getD, List.getElem?_eq_getElem h]; rfl
theorem toStateS_loop (l : List LS) (ha : l.length ≤ 2000000) (d : Nat) : ∀ (i : Nat) (t : List XS), i ≤ l.length → l.length - i = d → t.length = l.length - i →
  Ev (fun k => qS.l0 k l (i : Int) ((l.take i).map convS ++ t)) (l.map convS) := by
 induction d with
 | zero =>
  intro i t hi hd ht
  obtain rfl : i = l.length := by omega
  obtain rfl : t = [] := List.eq_nil_of_length_eq_zero (by omega)
  exact Ev.step (f := fun k => _) (fun k => by rw [qS.l0]) (Ev.neg (by omega) (Ev.some_ (by simp)))
 | succ d ih =>
  intro i t hi hd ht
  have h : i < l.length := by omega
  cases t with
  | nil => simp at ht; omega
  | cons t0 t =>
   refine Ev.step (f := fun k => _) (fun k => by rw [qS.l0]) (Ev.pos (by omega) (Ev.pos (by omega) (Ev.bindc (show qLC.f _ _ _ _ _ _ _ _ = some _ from rfl) (Ev.pos ?_ ?_))))
   ·simp; omega
   ·rw [show wrap64 ((i : Int) + 1) = ((i + 1 : Nat) : Int) by unfold wrap64; omega, rdLS l i h]
    have := ih (i + 1) t (by omega) (by omega) (by simp at ht; omega)
    rw [List.take_succ_eq_append_getElem h, List.map_append, List.append_assoc] at this
    have e : ((l.take i).map convS ++ t0 :: t).set ((i : Int).toNat) (convS l[i]) = (l.take i).map convS ++ ([l[i]].map convS ++ t) := by
     rw [Int.toNat_natCast, List.set_append_right _ _ (by simp; omega)]
     simp [show i - min i l.length = 0 by omega]
    rw [← e] at this
    exact this
theorem qwB (l : List LS) (ha : l.length ≤ 2000000) : Ev (fun k => qS.f k l) (l.map convS) := by
 unfold qS.f
 refine Ev.pos (by omega) (Ev.pos (by omega) ?_)
 have := toStateS_loop l ha l.length 0 (List.replicate l.length z57) (by omega) (by omega) (by simp)
 simpa using this
theorem qxB (l : List LS) (h : l.length * 64 ≤ 140737488351232) : qSA.f l 1048576 = some (if l.length ≤ 1048576 then 1048576 - (l.length : Int) else -1) := by
 unfold qSA.f
 have w : wrap64 (1048576 - (l.length : Int)) = 1048576 - (l.length : Int) := by unfold wrap64; omega
 rw [w]
 by_cases h : l.length ≤ 1048576
 ·rw [if_neg (by omega), if_pos h]
 ·rw [if_pos (by omega), if_neg h]
end Go.Proofs.YtgjdjnggkmojnaaDoor
namespace Go.Proofs.YtgjdjnggkmojnaaDoor.P
open Go.RowKit Go.Proofs.YtgjdjnggkmojnaaDoorW.PrintWords Go.Proofs.YtgjdjnggkmojnaaDoorW.PrintLast Go.Proofs.YtgjdjnggkmojnaaDoorW.PrintMore
attribute [local go_sem] qLA qJA qVA qUA qy qx qKA qIA
set_option linter.unusedVariables false
set_option linter.unusedSimpArgs false
def qZA.f (k : Nat) (a0 : ByteArray) (l1 : List (S57)) : Option (List ByteArray × Bool) := (qTB.f k a0).bind fun bt264 => (if bt264.2 = true then ((qHA.f k bt264.1 l1).bind fun t268 => (some (bt264.1, t268))) else (some (bt264.1, false)))
set_option maxHeartbeats 8000000 in
set_option maxRecDepth 100000 in
theorem qZA.calls (k : Nat) (a0 : ByteArray) (A1 : Option Addr) (c1 : Nat) (l1 : List (S57)) (r1 : List ByteArray) (r2 : Bool) (w : World) (hr1 : Kd.C k57 w A1 l1.length l1) (hc1 : l1.length ≤ c1) (hL : Laid w) (h : qZA.f k a0 l1 = some (r1, r2)) :
  Calls Tryd.prog 45 #[.string a0, .slice A1 l1.length c1] w fun e w' => ∃ v0_ : Value, e = .returned (.tuple #[v0_, .bool r2]) ∧ Kd.R Kd.string 9 w' w.heap.size (fun _ => True) v0_ r1 ∧ Below w.heap.size w w' := by
 have HR1 := Aside0.mk hr1
 have HC1 := Aside0.mk hc1
 clear hr1 hc1
 have HLD := Aside0.mk hL
 clear hL
 have HB := Aside0.mk (Below.refl w.heap.size w)
 have H : ((qTB.f k a0).bind fun bt264 => (if bt264.2 = true then ((qHA.f k bt264.1 l1).bind fun t268 => (some (bt264.1, t268))) else (some (bt264.1, false)))) = some (r1, r2) := h
 clear h
 replace H := Option.bind_eq_some_iff.mp H
 obtain ⟨⟨t264, t265⟩, A30, H⟩ := H
 replace H : (if t265 = true then ((qHA.f k t264 l1).bind fun t268 => (some (t264, t268))) else (some (t264, false))) = some (r1, r2) := H
 have A3 := Aside0.mk A30
 clear A30
 by_cases c4 : t265 = true
 ·subst c4
  have H1 : ((qHA.f k t264 l1).bind fun t268 => (some (t264, t268))) = some (r1, r2) := by rw [if_pos rfl] at H; exact H
  clear H
  have H := H1
  clear H1
  replace H := Option.bind_eq_some_iff.mp H
  obtain ⟨t268, A50, H⟩ := H
  replace H : (some (t264, t268)) = some (r1, r2) := H
  have A5 := Aside0.mk A50
  clear A50
  simp only [Option.some.injEq, Prod.mk.injEq] at H
  obtain ⟨rfl, rfl⟩ := H
  go_enter Tryd.func45, Tryd.ntmps45
  go_wp2_with (first | ((with_reducible refine qL (f := 41) rfl ?_); refine qh (some 10) rfl rfl Tryd.func41 (by kernel_rfl) rfl #[.string a0] rfl (by (try simp only [List.map_toArray, List.map_cons, List.map_nil]); first | done | rfl | (simp only [List.length_drop, List.length_take]; rfl)) ?_; (with_reducible refine (qTB.calls k a0 t264 true _ ?side1 A3.out).mono ?_); (case side1 => first | exact HLD.out | exact Laid.below HLD.out (by repeat (first | (with_reducible first | exact HB.out | apply qAA | apply qo | apply qp | refine qMA ?_ (Aside0.out (by with_reducible assumption))) | exact HB.out))); rintro e w6 ⟨v266, rfl, ho0, hb⟩; refine ⟨_, rfl, ?_⟩; have n0_ := Aside0.mk (Kd.qDA ho0 (qb bl)); have n1_ := Aside0.mk (qG bl hb); clear HB; have HO267 := n0_; have HB := n1_; clear n0_ n1_; (try clear hb); (try clear hb2); (try clear hk); (try clear hi); (try clear ho0); obtain ⟨Ao7, co7, eo7⟩ := Kd.qt HO267.out; subst eo7) | (go_at_call 42; (with_reducible refine (qHA.calls k _ _ t264 _ _ l1 t268 _ ?side1 ?side2 ?side3 ?side4 A5.out).mono ?_); (case side1 => repeat (first | exact (Kd.qM HO267.out).2.2 | (with_reducible refine Kd.qa ?_ _) | (with_reducible refine Kd.qZ ?_ _) | (with_reducible refine Kd.qe ?_))); (case side2 => exact (Kd.qM HO267.out).2.1); (case side3 => repeat (first | exact (Kd.qWA HR1.out HB.out) | (with_reducible refine Kd.qa ?_ _) | (with_reducible refine Kd.qZ ?_ _) | (with_reducible refine Kd.qe ?_))); (case side4 => exact HC1.out); rintro e w8 ⟨rfl, hb⟩; have n0_ := Aside0.mk (Kd.qc (by (with_reducible repeat (first | apply Kd.qK | apply Kd.qJ | apply Kd.qO)); exact HO267.out) hb); have n1_ := Aside0.mk (qG bl hb); clear HO267; clear HB; have HO267 := n0_; have HB := n1_; clear n0_ n1_; (try clear hb); (try clear hb2); (try clear hk); (try clear hi)))
  go_ret2
  exact ⟨_, by first | rfl | (simp [qI, qH] <;> rfl) | (simp [*, qI, qH] <;> rfl), by (with_reducible repeat (first | apply Kd.qK | apply Kd.qJ | apply Kd.qO)); exact HO267.out, bl⟩
 ·replace c4 := Bool.eq_false_iff.mpr c4
  subst c4
  have H1 : (some (t264, false)) = some (r1, r2) := by rw [if_neg (show ¬ (false = true) by decide)] at H; exact H
  clear H
  have H := H1
  clear H1
  simp only [Option.some.injEq, Prod.mk.injEq] at H
  obtain ⟨rfl, rfl⟩ := H
  go_enter Tryd.func45, Tryd.ntmps45
  go_wp2_with (first | ((with_reducible refine qL (f := 41) rfl ?_); refine qh (some 10) rfl rfl Tryd.func41 (by kernel_rfl) rfl #[.string a0] rfl (by (try simp only [List.map_toArray, List.map_cons, List.map_nil]); first | done | rfl | (simp only [List.length_drop, List.length_take]; rfl)) ?_; (with_reducible refine (qTB.calls k a0 t264 false _ ?side1 A3.out).mono ?_); (case side1 => first | exact HLD.out | exact Laid.below HLD.out (by repeat (first | (with_reducible first | exact HB.out | apply qAA | apply qo | apply qp | refine qMA ?_ (Aside0.out (by with_reducible assumption))) | exact HB.out))); rintro e w9 ⟨v266, rfl, ho0, hb⟩; refine ⟨_, rfl, ?_⟩; have n0_ := Aside0.mk (Kd.qDA ho0 (qb bl)); have n1_ := Aside0.mk (qG bl hb); clear HB; have HO267 := n0_; have HB := n1_; clear n0_ n1_; (try clear hb); (try clear hb2); (try clear hk); (try clear hi); (try clear ho0)))
  go_ret2
  exact ⟨_, by first | rfl | (simp [qI, qH] <;> rfl) | (simp [*, qI, qH] <;> rfl), by (with_reducible repeat (first | apply Kd.qK | apply Kd.qJ | apply Kd.qO)); exact HO267.out, bl⟩
def qRA.f (k : Nat) (a0 : ByteArray) (l1 : List (S57)) : Option (Int × Int × List Int × Bool) := (qv.f k a0).bind fun bt247 => (if bt247.2.2.2 = true then ((qPA.f k bt247.1 bt247.2.1 bt247.2.2.1 l1).bind fun t254 => (some (bt247.1, bt247.2.1, bt247.2.2.1, t254))) else (some (bt247.1, bt247.2.1, bt247.2.2.1, false)))
def qRA.T2 : Bool × List (List Nat × List Nat) := (true, [([], []), ([], []), ([1], [1]), ([2], [2]), ([2], [2]), ([3, 4, 2, 2], [2, 3, 4]), ([2, 5], [2, 5]), ([0, 5, 0], [0]), ([6, 7, 0, 1, 2, 3, 4, 5, 6, 7], [6])])
def qRA.B2 : List Nat := [0, 0, 2, 6, 6, 30, 62, 63, 255]
theorem qRA.tab2 : rtab .any (opsOf Tryd.f44 2) = qRA.T2 := by kernel_rfl
theorem qRA.bits2 : waitsOk qRA.T2.2 qRA.B2 = true := by kernel_rfl
set_option maxHeartbeats 8000000 in
set_option maxRecDepth 100000 in
theorem qRA.calls (k : Nat) (a0 : ByteArray) (A1 : Option Addr) (c1 : Nat) (l1 : List (S57)) (r1 : Int) (r2 : Int) (r3 : List Int) (r4 : Bool) (w : World) (hr1 : Kd.C k57 w A1 l1.length l1) (hc1 : l1.length ≤ c1) (h : qRA.f k a0 l1 = some (r1, r2, r3, r4)) :
  Calls Tryd.prog 44 #[.string a0, .slice A1 l1.length c1] w fun e w' => ∃ v2_ : Value, e = .returned (.tuple #[.agg #[.int .i64 r1, .int .i64 r2, v2_], .bool r4]) ∧ Kd.R (Kd.int .u8) 5 w' w.heap.size (fun _ => True) v2_ r3 ∧ Below w.heap.size w w' := by
 have hu50 := Tryd.underlying50
 have HR1 := Aside0.mk hr1
 have HC1 := Aside0.mk hc1
 clear hr1 hc1
 have HB := Aside0.mk (Below.refl w.heap.size w)
 have H : ((qv.f k a0).bind fun bt247 => (if bt247.2.2.2 = true then ((qPA.f k bt247.1 bt247.2.1 bt247.2.2.1 l1).bind fun t254 => (some (bt247.1, bt247.2.1, bt247.2.2.1, t254))) else (some (bt247.1, bt247.2.1, bt247.2.2.1, false)))) = some (r1, r2, r3, r4) := h
 clear h
 replace H := Option.bind_eq_some_iff.mp H
 obtain ⟨⟨t247, t248, t249, t252⟩, A30, H⟩ := H
 replace H : (if t252 = true then ((qPA.f k t247 t248 t249 l1).bind fun t254 => (some (t247, t248, t249, t254))) else (some (t247, t248, t249, false))) = some (r1, r2, r3, r4) := H
 have A3 := Aside0.mk A30
 clear A30
 by_cases c4 : t252 = true
 ·subst c4
  have H1 : ((qPA.f k t247 t248 t249 l1).bind fun t254 => (some (t247, t248, t249, t254))) = some (r1, r2, r3, r4) := by rw [if_pos rfl] at H; exact H
  clear H
  have H := H1
  clear H1
  replace H := Option.bind_eq_some_iff.mp H
  obtain ⟨t254, A50, H⟩ := H
  replace H : (some (t247, t248, t249, t254)) = some (r1, r2, r3, r4) := H
  have A5 := Aside0.mk A50
  clear A50
  simp only [Option.some.injEq, Prod.mk.injEq] at H
  obtain ⟨rfl, rfl, rfl, rfl⟩ := H
  go_enter Tryd.func44, Tryd.ntmps44
  try go_wp2_with (first | ((with_reducible refine qg (N := 4) rfl ?_); refine qd ?hg (N := 4) ?hd (cs := #[.int .i64 0, .int .i64 0, .slice none 0 0]) (t := 50) ?hr ?_; (case hd => rfl); (case hg => rfl); (case hr => first | (go_simp; done) | (go_simp; rfl)); intro gb246 hg w6 hbox hb; have n0_ := Aside0.mk (qG bl hb); have n1_ := Aside0.mk (hbox); have n2_ := Aside0.mk ((gg hg)); have n3_ := Aside0.mk ((gg hg)); clear HB; have HB := n0_; have BK246 := n1_; have GW246 := n2_; have GE246 := n3_; clear n0_ n1_ n2_ n3_; clear hb hbox hg) | ((with_reducible refine qL (f := 38) rfl ?_); refine qh (some 10) rfl rfl Tryd.func38 (by kernel_rfl) rfl #[.string a0] rfl (by (try simp only [List.map_toArray, List.map_cons, List.map_nil]); first | done | rfl | (simp only [List.length_drop, List.length_take]; rfl)) ?_; (with_reducible refine (qv.calls k a0 t247 t248 t249 true _ A3.out).mono ?_); rintro e w7 ⟨v250, rfl, ho0, hb⟩; refine ⟨_, rfl, ?_⟩; have n0_ := Aside0.mk (Kd.qDA ho0 (qb bl)); have n1_ := Aside0.mk (bb BK246 hb); have n2_ := Aside0.mk (qG bl hb); clear BK246; clear HB; have HO251 := n0_; have BK246 := n1_; have HB := n2_; clear n0_ n1_ n2_; (try clear hb); (try clear hb2); (try clear hk); (try clear hi); (try clear ho0)) | ((with_reducible refine qg (N := 6) rfl ?_); refine qd ?hg (N := 6) ?hd (cs := #[.int .i64 0, .int .i64 0, .slice none 0 0]) (t := 50) ?hr ?_; (case hd => rfl); (case hg => rfl); (case hr => first | (go_simp; done) | (go_simp; rfl)); intro gb253 hg w8 hbox hb; have n0_ := Aside0.mk (Kd.qc (by (with_reducible repeat (first | apply Kd.qK | apply Kd.qJ | apply Kd.qO)); exact HO251.out) hb); have n1_ := Aside0.mk (bb BK246 hb); have n2_ := Aside0.mk (qG bl hb); have n3_ := Aside0.mk (hbox); have n4_ := Aside0.mk ((gg hg)); have n5_ := Aside0.mk ((gg hg)); have n6_ := Aside0.mk ((nl BK246 hg)); have n7_ := Aside0.mk ((nr BK246 hg)); clear HO251; clear BK246; clear HB; have HO251 := n0_; have BK246 := n1_; have HB := n2_; have BK253 := n3_; have GW253 := n4_; have GE253 := n5_; have NB246_253 := n6_; have NB253_246 := n7_; clear n0_ n1_ n2_ n3_ n4_ n5_ n6_ n7_; clear hb hbox hg; have hnb9 := NB253_246.out; have hnc9 := NB246_253.out; have hcz10_0 := bc BK253 0; have hcz10_1 := bc BK253 1; have hcz10_2 := bc BK253 2; have hfz10_0 := qA BK253.out 0; have hfz10_1 := qA BK253.out 1; have hfz10_2 := qA BK253.out 2; obtain ⟨Ao11, co11, eo11⟩ := Kd.qt HO251.out; subst eo11))
  have n0_ : Aside0 (Kd.R (Kd.int .u8) 5 (((w8.setCell ⟨gb253, 0, none⟩ (.int .i64 t247)).setCell ⟨gb253, 1, none⟩ (.int .i64 t248)).setCell ⟨gb253, 2, none⟩ (.slice Ao11 t249.length co11)) w.heap.size (fun _ => True) (.slice Ao11 t249.length co11) t249) := ⟨by (with_reducible repeat (first | apply Kd.qK | apply Kd.qJ | apply Kd.qO)); exact Kd.qGA (Kd.R_far (p := ⟨gb253, 2, none⟩) (Kd.R_far (p := ⟨gb253, 1, none⟩) (Kd.R_far (p := ⟨gb253, 0, none⟩) (Kd.qvA HO251.out BK253.out (by decide)) (fun _ hk => hk.2) (.int .i64 t247)) (fun _ hk => hk.2) (.int .i64 t248)) (fun _ hk => hk.2) (.slice Ao11 t249.length co11)) (fun _ hk => trivial)⟩
  have n1_ : Aside0 ((((w8.setCell ⟨gb253, 0, none⟩ (.int .i64 t247)).setCell ⟨gb253, 1, none⟩ (.int .i64 t248)).setCell ⟨gb253, 2, none⟩ (.slice Ao11 t249.length co11)).heap[gb246]? = some (.cells #[.int .i64 0, .int .i64 0, .slice none 0 0] 50 (0, 0))) := ⟨by (with_reducible repeat (first | refine qE ?_ _ | refine qF ?_ | refine qD ?_ _)); refine qV ?_ NB246_253.out _; (with_reducible repeat (first | refine qE ?_ _ | refine qF ?_ | refine qD ?_ _)); refine qV ?_ NB246_253.out _; (with_reducible repeat (first | refine qE ?_ _ | refine qF ?_ | refine qD ?_ _)); refine qV ?_ NB246_253.out _; (with_reducible repeat (first | refine qE ?_ _ | refine qF ?_ | refine qD ?_ _)); exact BK246.out⟩
  have n2_ : Aside0 ((((w8.setCell ⟨gb253, 0, none⟩ (.int .i64 t247)).setCell ⟨gb253, 1, none⟩ (.int .i64 t248)).setCell ⟨gb253, 2, none⟩ (.slice Ao11 t249.length co11)).heap[gb253]? = some (.cells #[.int .i64 t247, .int .i64 t248, .slice Ao11 t249.length co11] 50 (0, 0))) := ⟨by (with_reducible repeat (first | refine qE ?_ _ | refine qF ?_ | refine qD ?_ _)); refine qN (cs := #[.int .i64 t247, .int .i64 t248, .slice none 0 0]) ?_ 2 _ rfl; (with_reducible repeat (first | refine qE ?_ _ | refine qF ?_ | refine qD ?_ _)); refine qN (cs := #[.int .i64 t247, .int .i64 0, .slice none 0 0]) ?_ 1 _ rfl; (with_reducible repeat (first | refine qE ?_ _ | refine qF ?_ | refine qD ?_ _)); refine qN (cs := #[.int .i64 0, .int .i64 0, .slice none 0 0]) ?_ 0 _ rfl; (with_reducible repeat (first | refine qE ?_ _ | refine qF ?_ | refine qD ?_ _)); exact BK253.out⟩
  have n3_ : Aside0 (Below w.heap.size w (((w8.setCell ⟨gb253, 0, none⟩ (.int .i64 t247)).setCell ⟨gb253, 1, none⟩ (.int .i64 t248)).setCell ⟨gb253, 2, none⟩ (.slice Ao11 t249.length co11))) := ⟨bl⟩
  (try clear HO251)
  (try clear BK246)
  (try clear BK253)
  (try clear HB)
  generalize (((w8.setCell ⟨gb253, 0, none⟩ (.int .i64 t247)).setCell ⟨gb253, 1, none⟩ (.int .i64 t248)).setCell ⟨gb253, 2, none⟩ (.slice Ao11 t249.length co11)) = w12 at n0_ n1_ n2_ n3_ ⊢
  have HO251 := n0_
  have BK246 := n1_
  have BK253 := n2_
  have HB := n3_
  clear n0_ n1_ n2_ n3_
  have n0_ := Aside0.mk (Kd.qO HO251.out)
  have n1_ := Aside0.mk (qF BK246.out)
  have n2_ := Aside0.mk (qF BK253.out)
  have n3_ := Aside0.mk (qp HB.out)
  clear HO251
  clear BK246
  clear BK253
  clear HB
  have HO251 := n0_
  have BK246 := n1_
  have BK253 := n2_
  have HB := n3_
  clear n0_ n1_ n2_ n3_
  refine qDC (n := 9) (S := fun w' => w'.cell? ⟨gb253, 0, none⟩ = some (.int .i64 t247) ∧ w'.cell? ⟨gb253, 1, none⟩ = some (.int .i64 t248) ∧ w'.cell? ⟨gb253, 2, none⟩ = some (.slice Ao11 t249.length co11)) (ds := []) #[false, false, false, false, false, false, false, false, false] (by kernel_rfl) rfl rfl ⟨(qY BK253.out 0).trans rfl, (qY BK253.out 1).trans rfl, (qY BK253.out 2).trans rfl⟩ (fun hHeld => ?_); refine qJB qRA.tab2 qRA.bits2 (fun HT_ HW_ => ?_)
  generalize w12.drew = w13 at HO251 BK246 BK253 HB hHeld ⊢
  refine pS (i := 1) (N := some 14) #[false, true, false, false, false, false, false, false, false] HT_ ?_
  refine pS (i := 2) (N := some 15) #[false, true, true, false, false, false, false, false, false] HT_ ?_
  refine pS (i := 4) (N := some 17) #[false, true, true, false, true, false, false, false, false] HT_ ?_
  refine tS (i := 0) (N := some 13) #[true, true, true, false, true, false, false, false, false] HT_ HW_ hHeld ?_
  refine tS (i := 3) (N := some 16) #[true, true, true, true, true, false, false, false, false] HT_ HW_ hHeld ?_
  refine one_ (i := 5) (N := some 18) #[true, true, true, true, true, true, false, false, false] rfl rfl (qNB HT_.out (by kernel_rfl)) (by decide) (fun K hK => ?_)
  refine goes_ Tryd.func39 (by kernel_rfl) rfl #[.agg #[.int .i64 t247, .int .i64 t248, .slice Ao11 t249.length co11], .slice A1 l1.length c1] (by rfl) rfl rfl (by (try simp only [List.map_toArray, List.map_cons, List.map_nil]); first | done | rfl | (simp only [List.length_drop, List.length_take]; rfl)) ?_
  with_reducible refine (qPA.calls k t247 t248 _ _ t249 _ _ l1 t254 _ ?side1 ?side2 ?side3 ?side4 A5.out).mono ?_
  (case side1 => repeat (first | exact (Kd.qM HO251.out).2.2 | (with_reducible refine Kd.qa ?_ _) | (with_reducible refine Kd.qZ ?_ _) | (with_reducible refine Kd.qe ?_)))
  (case side2 => exact (Kd.qM HO251.out).2.1)
  (case side3 => repeat (first | exact (Kd.qWA HR1.out HB.out) | (with_reducible refine Kd.qa ?_ _) | (with_reducible refine Kd.qZ ?_ _) | (with_reducible refine Kd.qe ?_)))
  (case side4 => exact HC1.out)
  rintro e w14 ⟨rfl, hb⟩
  refine ⟨_, rfl, ?_⟩
  have n0_ := Aside0.mk (Kd.qc (by (with_reducible repeat (first | apply Kd.qK | apply Kd.qJ | apply Kd.qO)); exact HO251.out) hb)
  have n1_ := Aside0.mk (bb BK246 hb)
  have n2_ := Aside0.mk (bb BK253 hb)
  have n3_ := Aside0.mk (qG bl hb)
  clear HO251
  clear BK246
  clear BK253
  clear HB
  have HO251 := n0_
  have BK246 := n1_
  have BK253 := n2_
  have HB := n3_
  clear n0_ n1_ n2_ n3_
  (try clear hb)
  (try clear hb2)
  (try clear hk)
  (try clear hi)
  refine hK.out _ _ ⟨(qY BK253.out 0).trans rfl, (qY BK253.out 1).trans rfl, (qY BK253.out 2).trans rfl⟩ (fun hHeld => ?_)
  clear hK K
  refine norm_ (a' := ?_) ?_ ?_
  rotate_left
  ·show Act.put _ (some 18) _ = _
   simp only [Act.put, List.setIfInBounds_toArray, List.set_cons_zero, List.set_cons_succ, i64_w, i32_w]
   rfl
  refine pS (i := 6) (N := some 19) #[true, true, true, true, true, true, true, false, false] HT_ ?_
  refine one_ (i := 7) (N := none) #[true, true, true, true, true, true, true, true, false] rfl rfl (qNB HT_.out (by kernel_rfl)) (by decide) (fun K hK => ?_)
  have hs15 : w14.cell? ⟨gb246, 0, none⟩ = some (.int .i64 0) := (qY BK246.out 0).trans rfl
  have hfs15 := qA BK246.out 0
  have hns15_1 := NB253_246.out
  have hms15_1 := NB246_253.out
  have hs16 : w14.cell? ⟨gb246, 1, none⟩ = some (.int .i64 0) := (qY BK246.out 1).trans rfl
  have hfs16 := qA BK246.out 1
  have hns16_1 := NB253_246.out
  have hms16_1 := NB246_253.out
  have hs17 : w14.cell? ⟨gb246, 2, none⟩ = some (.slice none 0 0) := (qY BK246.out 2).trans rfl
  have hfs17 := qA BK246.out 2
  have hns17_1 := NB253_246.out
  have hms17_1 := NB246_253.out
  refine skip_ (w1 := ?_) (by rfl) rfl ?_ ?_
  rotate_left
  ·go_simp
   rfl
  refine hK.out _ _ ⟨((qR (p := ⟨gb246, _, none⟩) NB253_246.out _).trans (((qR (p := ⟨gb246, _, none⟩) NB253_246.out _).trans (((qR (p := ⟨gb246, _, none⟩) NB253_246.out _).trans (hHeld.1)))))), ((qR (p := ⟨gb246, _, none⟩) NB253_246.out _).trans (((qR (p := ⟨gb246, _, none⟩) NB253_246.out _).trans (((qR (p := ⟨gb246, _, none⟩) NB253_246.out _).trans (hHeld.2.1)))))), ((qR (p := ⟨gb246, _, none⟩) NB253_246.out _).trans (((qR (p := ⟨gb246, _, none⟩) NB253_246.out _).trans (((qR (p := ⟨gb246, _, none⟩) NB253_246.out _).trans (hHeld.2.2))))))⟩ (fun hHeld => ?_)
  clear hK K
  refine pS (i := 8) (N := some 5) #[true, true, true, true, true, true, true, true, true] HT_ ?_
  refine done_ (qpB HT_.out (by kernel_rfl)) ?_
  try go_wp2
  refine bodyPost_ret (qLB rfl _ _ gb246 50 #[.int .i64 t247, .int .i64 t248, .slice Ao11 t249.length co11] (0, 0) _ rfl (by (with_reducible repeat (first | refine qE ?_ _ | refine qF ?_ | refine qD ?_ _)); refine qN (cs := #[.int .i64 t247, .int .i64 t248, .slice none 0 0]) ?_ 2 _ rfl; (with_reducible repeat (first | refine qE ?_ _ | refine qF ?_ | refine qD ?_ _)); refine qN (cs := #[.int .i64 t247, .int .i64 0, .slice none 0 0]) ?_ 1 _ rfl; (with_reducible repeat (first | refine qE ?_ _ | refine qF ?_ | refine qD ?_ _)); refine qN (cs := #[.int .i64 0, .int .i64 0, .slice none 0 0]) ?_ 0 _ rfl; (with_reducible repeat (first | refine qE ?_ _ | refine qF ?_ | refine qD ?_ _)); exact BK246.out) Tryd.underlying50 rfl (by kernel_rfl)) rfl ?_
  exact ⟨_, by first | rfl | (simp [qI, qH] <;> rfl) | (simp [*, qI, qH] <;> rfl), by (with_reducible repeat (first | apply Kd.qK | apply Kd.qJ | apply Kd.qO)); exact Kd.qGA (Kd.R_far (p := ⟨gb246, 2, none⟩) (Kd.R_far (p := ⟨gb246, 1, none⟩) (Kd.R_far (p := ⟨gb246, 0, none⟩) (Kd.qvA HO251.out BK246.out (by decide)) (fun _ hk => hk.2) (.int .i64 t247)) (fun _ hk => hk.2) (.int .i64 t248)) (fun _ hk => hk.2) (.slice Ao11 t249.length co11)) (fun _ hk => trivial), bl⟩
 ·replace c4 := Bool.eq_false_iff.mpr c4
  subst c4
  have H1 : (some (t247, t248, t249, false)) = some (r1, r2, r3, r4) := by rw [if_neg (show ¬ (false = true) by decide)] at H; exact H
  clear H
  have H := H1
  clear H1
  simp only [Option.some.injEq, Prod.mk.injEq] at H
  obtain ⟨rfl, rfl, rfl, rfl⟩ := H
  go_enter Tryd.func44, Tryd.ntmps44
  try go_wp2_with (first | ((with_reducible refine qg (N := 4) rfl ?_); refine qd ?hg (N := 4) ?hd (cs := #[.int .i64 0, .int .i64 0, .slice none 0 0]) (t := 50) ?hr ?_; (case hd => rfl); (case hg => rfl); (case hr => first | (go_simp; done) | (go_simp; rfl)); intro gb246 hg w18 hbox hb; have n0_ := Aside0.mk (qG bl hb); have n1_ := Aside0.mk (hbox); have n2_ := Aside0.mk ((gg hg)); have n3_ := Aside0.mk ((gg hg)); clear HB; have HB := n0_; have BK246 := n1_; have GW246 := n2_; have GE246 := n3_; clear n0_ n1_ n2_ n3_; clear hb hbox hg) | ((with_reducible refine qL (f := 38) rfl ?_); refine qh (some 10) rfl rfl Tryd.func38 (by kernel_rfl) rfl #[.string a0] rfl (by (try simp only [List.map_toArray, List.map_cons, List.map_nil]); first | done | rfl | (simp only [List.length_drop, List.length_take]; rfl)) ?_; (with_reducible refine (qv.calls k a0 t247 t248 t249 false _ A3.out).mono ?_); rintro e w19 ⟨v250, rfl, ho0, hb⟩; refine ⟨_, rfl, ?_⟩; have n0_ := Aside0.mk (Kd.qDA ho0 (qb bl)); have n1_ := Aside0.mk (bb BK246 hb); have n2_ := Aside0.mk (qG bl hb); clear BK246; clear HB; have HO251 := n0_; have BK246 := n1_; have HB := n2_; clear n0_ n1_ n2_; (try clear hb); (try clear hb2); (try clear hk); (try clear hi); (try clear ho0)) | ((with_reducible refine qg (N := 6) rfl ?_); refine qd ?hg (N := 6) ?hd (cs := #[.int .i64 0, .int .i64 0, .slice none 0 0]) (t := 50) ?hr ?_; (case hd => rfl); (case hg => rfl); (case hr => first | (go_simp; done) | (go_simp; rfl)); intro gb253 hg w20 hbox hb; have n0_ := Aside0.mk (Kd.qc (by (with_reducible repeat (first | apply Kd.qK | apply Kd.qJ | apply Kd.qO)); exact HO251.out) hb); have n1_ := Aside0.mk (bb BK246 hb); have n2_ := Aside0.mk (qG bl hb); have n3_ := Aside0.mk (hbox); have n4_ := Aside0.mk ((gg hg)); have n5_ := Aside0.mk ((gg hg)); have n6_ := Aside0.mk ((nl BK246 hg)); have n7_ := Aside0.mk ((nr BK246 hg)); clear HO251; clear BK246; clear HB; have HO251 := n0_; have BK246 := n1_; have HB := n2_; have BK253 := n3_; have GW253 := n4_; have GE253 := n5_; have NB246_253 := n6_; have NB253_246 := n7_; clear n0_ n1_ n2_ n3_ n4_ n5_ n6_ n7_; clear hb hbox hg; have hnb21 := NB253_246.out; have hnc21 := NB246_253.out; have hcz22_0 := bc BK253 0; have hcz22_1 := bc BK253 1; have hcz22_2 := bc BK253 2; have hfz22_0 := qA BK253.out 0; have hfz22_1 := qA BK253.out 1; have hfz22_2 := qA BK253.out 2; obtain ⟨Ao23, co23, eo23⟩ := Kd.qt HO251.out; subst eo23))
  have n0_ : Aside0 (Kd.R (Kd.int .u8) 5 (((w20.setCell ⟨gb253, 0, none⟩ (.int .i64 t247)).setCell ⟨gb253, 1, none⟩ (.int .i64 t248)).setCell ⟨gb253, 2, none⟩ (.slice Ao23 t249.length co23)) w.heap.size (fun _ => True) (.slice Ao23 t249.length co23) t249) := ⟨by (with_reducible repeat (first | apply Kd.qK | apply Kd.qJ | apply Kd.qO)); exact Kd.qGA (Kd.R_far (p := ⟨gb253, 2, none⟩) (Kd.R_far (p := ⟨gb253, 1, none⟩) (Kd.R_far (p := ⟨gb253, 0, none⟩) (Kd.qvA HO251.out BK253.out (by decide)) (fun _ hk => hk.2) (.int .i64 t247)) (fun _ hk => hk.2) (.int .i64 t248)) (fun _ hk => hk.2) (.slice Ao23 t249.length co23)) (fun _ hk => trivial)⟩
  have n1_ : Aside0 ((((w20.setCell ⟨gb253, 0, none⟩ (.int .i64 t247)).setCell ⟨gb253, 1, none⟩ (.int .i64 t248)).setCell ⟨gb253, 2, none⟩ (.slice Ao23 t249.length co23)).heap[gb246]? = some (.cells #[.int .i64 0, .int .i64 0, .slice none 0 0] 50 (0, 0))) := ⟨by (with_reducible repeat (first | refine qE ?_ _ | refine qF ?_ | refine qD ?_ _)); refine qV ?_ NB246_253.out _; (with_reducible repeat (first | refine qE ?_ _ | refine qF ?_ | refine qD ?_ _)); refine qV ?_ NB246_253.out _; (with_reducible repeat (first | refine qE ?_ _ | refine qF ?_ | refine qD ?_ _)); refine qV ?_ NB246_253.out _; (with_reducible repeat (first | refine qE ?_ _ | refine qF ?_ | refine qD ?_ _)); exact BK246.out⟩
  have n2_ : Aside0 ((((w20.setCell ⟨gb253, 0, none⟩ (.int .i64 t247)).setCell ⟨gb253, 1, none⟩ (.int .i64 t248)).setCell ⟨gb253, 2, none⟩ (.slice Ao23 t249.length co23)).heap[gb253]? = some (.cells #[.int .i64 t247, .int .i64 t248, .slice Ao23 t249.length co23] 50 (0, 0))) := ⟨by (with_reducible repeat (first | refine qE ?_ _ | refine qF ?_ | refine qD ?_ _)); refine qN (cs := #[.int .i64 t247, .int .i64 t248, .slice none 0 0]) ?_ 2 _ rfl; (with_reducible repeat (first | refine qE ?_ _ | refine qF ?_ | refine qD ?_ _)); refine qN (cs := #[.int .i64 t247, .int .i64 0, .slice none 0 0]) ?_ 1 _ rfl; (with_reducible repeat (first | refine qE ?_ _ | refine qF ?_ | refine qD ?_ _)); refine qN (cs := #[.int .i64 0, .int .i64 0, .slice none 0 0]) ?_ 0 _ rfl; (with_reducible repeat (first | refine qE ?_ _ | refine qF ?_ | refine qD ?_ _)); exact BK253.out⟩
  have n3_ : Aside0 (Below w.heap.size w (((w20.setCell ⟨gb253, 0, none⟩ (.int .i64 t247)).setCell ⟨gb253, 1, none⟩ (.int .i64 t248)).setCell ⟨gb253, 2, none⟩ (.slice Ao23 t249.length co23))) := ⟨bl⟩
  (try clear HO251)
  (try clear BK246)
  (try clear BK253)
  (try clear HB)
  generalize (((w20.setCell ⟨gb253, 0, none⟩ (.int .i64 t247)).setCell ⟨gb253, 1, none⟩ (.int .i64 t248)).setCell ⟨gb253, 2, none⟩ (.slice Ao23 t249.length co23)) = w24 at n0_ n1_ n2_ n3_ ⊢
  have HO251 := n0_
  have BK246 := n1_
  have BK253 := n2_
  have HB := n3_
  clear n0_ n1_ n2_ n3_
  have n0_ := Aside0.mk (Kd.qO HO251.out)
  have n1_ := Aside0.mk (qF BK246.out)
  have n2_ := Aside0.mk (qF BK253.out)
  have n3_ := Aside0.mk (qp HB.out)
  clear HO251
  clear BK246
  clear BK253
  clear HB
  have HO251 := n0_
  have BK246 := n1_
  have BK253 := n2_
  have HB := n3_
  clear n0_ n1_ n2_ n3_
  refine qDC (n := 9) (S := fun w' => w'.cell? ⟨gb253, 0, none⟩ = some (.int .i64 t247) ∧ w'.cell? ⟨gb253, 1, none⟩ = some (.int .i64 t248) ∧ w'.cell? ⟨gb253, 2, none⟩ = some (.slice Ao23 t249.length co23)) (ds := []) #[false, false, false, false, false, false, false, false, false] (by kernel_rfl) rfl rfl ⟨(qY BK253.out 0).trans rfl, (qY BK253.out 1).trans rfl, (qY BK253.out 2).trans rfl⟩ (fun hHeld => ?_); refine qJB qRA.tab2 qRA.bits2 (fun HT_ HW_ => ?_)
  generalize w24.drew = w25 at HO251 BK246 BK253 HB hHeld ⊢
  refine pS (i := 1) (N := some 14) #[false, true, false, false, false, false, false, false, false] HT_ ?_
  refine pS (i := 2) (N := some 15) #[false, true, true, false, false, false, false, false, false] HT_ ?_
  refine pure_ (i := 3) (N := some 16) (v := undef) (a' := ?_) #[false, true, true, true, false, false, false, false, false] rfl rfl (qHB HT_.out (by kernel_rfl)) (fun _ _ _ h => h) (Or.inr ⟨by rfl, rfl⟩) ?_ ?_
  rotate_left
  ·simp only [Act.put, List.setIfInBounds_toArray, List.set_cons_zero, List.set_cons_succ, i64_w, i32_w]
   rfl
  refine pure_ (i := 4) (N := some 17) (v := undef) (a' := ?_) #[false, true, true, true, true, false, false, false, false] rfl rfl (qHB HT_.out (by kernel_rfl)) (fun _ _ _ h => h) (Or.inr ⟨by rfl, rfl⟩) ?_ ?_
  rotate_left
  ·simp only [Act.put, List.setIfInBounds_toArray, List.set_cons_zero, List.set_cons_succ, i64_w, i32_w]
   rfl
  refine pure_ (i := 5) (N := some 18) (v := undef) (a' := ?_) #[false, true, true, true, true, true, false, false, false] rfl rfl (qHB HT_.out (by kernel_rfl)) (fun _ _ _ h => h) (Or.inr ⟨by rfl, rfl⟩) ?_ ?_
  rotate_left
  ·simp only [Act.put, List.setIfInBounds_toArray, List.set_cons_zero, List.set_cons_succ, i64_w, i32_w]
   rfl
  refine pS (i := 6) (N := some 19) #[false, true, true, true, true, true, true, false, false] HT_ ?_
  refine tS (i := 0) (N := some 13) #[true, true, true, true, true, true, true, false, false] HT_ HW_ hHeld ?_
  refine one_ (i := 7) (N := none) #[true, true, true, true, true, true, true, true, false] rfl rfl (qNB HT_.out (by kernel_rfl)) (by decide) (fun K hK => ?_)
  have hs26 : w25.cell? ⟨gb246, 0, none⟩ = some (.int .i64 0) := (qY BK246.out 0).trans rfl
  have hfs26 := qA BK246.out 0
  have hns26_1 := NB253_246.out
  have hms26_1 := NB246_253.out
  have hs27 : w25.cell? ⟨gb246, 1, none⟩ = some (.int .i64 0) := (qY BK246.out 1).trans rfl
  have hfs27 := qA BK246.out 1
  have hns27_1 := NB253_246.out
  have hms27_1 := NB246_253.out
  have hs28 : w25.cell? ⟨gb246, 2, none⟩ = some (.slice none 0 0) := (qY BK246.out 2).trans rfl
  have hfs28 := qA BK246.out 2
  have hns28_1 := NB253_246.out
  have hms28_1 := NB246_253.out
  refine skip_ (w1 := ?_) (by rfl) rfl ?_ ?_
  rotate_left
  ·go_simp
   rfl
  refine hK.out _ _ ⟨((qR (p := ⟨gb246, _, none⟩) NB253_246.out _).trans (((qR (p := ⟨gb246, _, none⟩) NB253_246.out _).trans (((qR (p := ⟨gb246, _, none⟩) NB253_246.out _).trans (hHeld.1)))))), ((qR (p := ⟨gb246, _, none⟩) NB253_246.out _).trans (((qR (p := ⟨gb246, _, none⟩) NB253_246.out _).trans (((qR (p := ⟨gb246, _, none⟩) NB253_246.out _).trans (hHeld.2.1)))))), ((qR (p := ⟨gb246, _, none⟩) NB253_246.out _).trans (((qR (p := ⟨gb246, _, none⟩) NB253_246.out _).trans (((qR (p := ⟨gb246, _, none⟩) NB253_246.out _).trans (hHeld.2.2))))))⟩ (fun hHeld => ?_)
  clear hK K
  refine pS (i := 8) (N := some 5) #[true, true, true, true, true, true, true, true, true] HT_ ?_
  refine done_ (qpB HT_.out (by kernel_rfl)) ?_
  try go_wp2
  refine bodyPost_ret (qLB rfl _ _ gb246 50 #[.int .i64 t247, .int .i64 t248, .slice Ao23 t249.length co23] (0, 0) _ rfl (by (with_reducible repeat (first | refine qE ?_ _ | refine qF ?_ | refine qD ?_ _)); refine qN (cs := #[.int .i64 t247, .int .i64 t248, .slice none 0 0]) ?_ 2 _ rfl; (with_reducible repeat (first | refine qE ?_ _ | refine qF ?_ | refine qD ?_ _)); refine qN (cs := #[.int .i64 t247, .int .i64 0, .slice none 0 0]) ?_ 1 _ rfl; (with_reducible repeat (first | refine qE ?_ _ | refine qF ?_ | refine qD ?_ _)); refine qN (cs := #[.int .i64 0, .int .i64 0, .slice none 0 0]) ?_ 0 _ rfl; (with_reducible repeat (first | refine qE ?_ _ | refine qF ?_ | refine qD ?_ _)); exact BK246.out) Tryd.underlying50 rfl (by kernel_rfl)) rfl ?_
  exact ⟨_, by first | rfl | (simp [qI, qH] <;> rfl) | (simp [*, qI, qH] <;> rfl), by (with_reducible repeat (first | apply Kd.qK | apply Kd.qJ | apply Kd.qO)); exact Kd.qGA (Kd.R_far (p := ⟨gb246, 2, none⟩) (Kd.R_far (p := ⟨gb246, 1, none⟩) (Kd.R_far (p := ⟨gb246, 0, none⟩) (Kd.qvA HO251.out BK246.out (by decide)) (fun _ hk => hk.2) (.int .i64 t247)) (fun _ hk => hk.2) (.int .i64 t248)) (fun _ hk => hk.2) (.slice Ao23 t249.length co23)) (fun _ hk => trivial), bl⟩
end Go.Proofs.YtgjdjnggkmojnaaDoor.P
namespace Go.Proofs.YtgjdjnggkmojnaaDoor
open Go.RowKit Go.Proofs.YtgjdjnggkmojnaaDoor.P Go.Proofs.YtgjdjnggkmojnaaDoorW.PrintWords Go.Proofs.YtgjdjnggkmojnaaDoorW.PrintLast
set_option linter.unusedVariables false
set_option linter.unusedSimpArgs false
def stateB (a : ByteArray) (s : XS) : Bool := floorB a s.f0 s.f1 && dieB s.f2.f0 s.f2.f1 s.f2.f2 s.f2.f3 s.f2.f4 s.f2.f5
def atCell (x y : Int) (t : XS) : Bool := decide (t.f0 = x) && decide (t.f1 = y)
abbrev csOf (a : ByteArray) : List Int := numsOf (flatT a.data.toList)
theorem boFloor_eq {a : ByteArray} (g : Gnd a) (x y : Int) : qDB.f (wideT a : Int) (highT a : Int) (csOf a) x y = some (floorB a x y) := by
 unfold qDB.f floorB
 rw [boCell_eq g, Option.bind_some]
 cases h : hasB a x y with
 | false => rw [if_neg (by decide)]; rfl
 | true =>
  obtain ⟨h1, h2, h3⟩ := spec_at g x y h
  rw [if_pos rfl, if_pos h1, if_pos h2, h3]; rfl
theorem isState_ev {a : ByteArray} (g : Gnd a) (s : XS) : Ev (fun k => qGB.f k (rowsT a) s.f0 s.f1 s.f2.f0 s.f2.f1 s.f2.f2 s.f2.f3 s.f2.f4 s.f2.f5) (stateB a s) := by
 unfold qGB.f stateB
 refine Ev.bind (impl_IsDie_ev _ _ _ _ _ _) ?_
 obtain ⟨c, h1, h2⟩ := at_floor g s.f0 s.f1
 cases hd : dieB s.f2.f0 s.f2.f1 s.f2.f2 s.f2.f3 s.f2.f4 s.f2.f5 with
 | false =>
  rw [Bool.and_false]
  exact Ev.neg (by decide) (Ev.now _)
 | true =>
  rw [Bool.and_true, ← h2]
  exact Ev.pos rfl (Ev.bindc h1 (Ev.some_ rfl))
theorem boState_ev {a : ByteArray} (g : Gnd a) (s : XS) : Ev (fun k => qdB.f k (wideT a : Int) (highT a : Int) (csOf a) s.f0 s.f1 s.f2.f0 s.f2.f1 s.f2.f2 s.f2.f3 s.f2.f4 s.f2.f5) (stateB a s) := by
 unfold qdB.f stateB
 refine Ev.bindc (boFloor_eq g _ _) ?_
 cases hd : floorB a s.f0 s.f1 with
 | false => exact Ev.neg (by decide) (Ev.now _)
 | true => exact Ev.pos rfl (Ev.bind (spec_diGood_ev _ _ _ _ _ _) (Ev.now _))
theorem myAt_loop (l : List XS) (hl : l.length ≤ 140737488355328) (x y : Int) (d : Nat) : ∀ i : Nat, i ≤ l.length → l.length - i = d →
  ∃ r : Int, Ev (fun k => qpA.l0 k x y l (l.length : Int) (i : Int)) r ∧ decide (r ≥ 0) = (l.drop i).any (atCell x y) := by
 induction d with
 | zero =>
  intro i hi hd
  refine ⟨-1, Ev.step (f := fun k => _) (fun k => by rw [qpA.l0]) (Ev.neg (by omega) (Ev.now _)), ?_⟩
  rw [List.drop_eq_nil_of_le (by omega)]; rfl
 | succ d ih =>
  intro i hi hd
  have h : i < l.length := by omega
  have w : wrap64 ((i : Int) + 1) = ((i + 1 : Nat) : Int) := by unfold wrap64; omega
  obtain ⟨r, h1, h2⟩ := ih (i + 1) (by omega) (by omega)
  rw [List.drop_eq_getElem_cons h, List.any_cons]
  by_cases hx : l[i].f0 = x
  ·by_cases hy : l[i].f1 = y
   ·refine ⟨(i : Int), Ev.step (f := fun k => _) (fun k => by rw [qpA.l0]) (Ev.pos (by omega) (Ev.pos (by omega) (Ev.pos (by omega) ?_))), ?_⟩
    ·rw [rdXS l i h]
     exact Ev.pos hx (Ev.pos hy (Ev.now _))
    ·rw [decide_eq_true (by omega)]
     unfold atCell
     rw [decide_eq_true hx, decide_eq_true hy]; rfl
   ·refine ⟨r, Ev.step (f := fun k => _) (fun k => by rw [qpA.l0]) (Ev.pos (by omega) (Ev.pos (by omega) (Ev.pos (by omega) ?_))), ?_⟩
    ·rw [rdXS l i h, w]
     exact Ev.pos hx (Ev.neg hy h1)
    ·rw [h2]
     unfold atCell
     rw [decide_eq_false hy, Bool.and_false, Bool.false_or]
  ·refine ⟨r, Ev.step (f := fun k => _) (fun k => by rw [qpA.l0]) (Ev.pos (by omega) (Ev.pos (by omega) (Ev.pos (by omega) ?_))), ?_⟩
   ·rw [rdXS l i h, w]
    exact Ev.neg hx h1
   ·rw [h2]
    unfold atCell
    rw [decide_eq_false hx, Bool.false_and, Bool.false_or]
theorem myAt_ev (l : List XS) (hl : l.length ≤ 140737488355328) (x y : Int) : ∃ r : Int, Ev (fun k => qpA.f k l x y) r ∧ decide (r ≥ 0) = l.any (atCell x y) := by
 have := myAt_loop l hl x y l.length 0 (by omega) (by omega)
 simpa [qpA.f] using this
def goodL (a : ByteArray) : List XS → List XS → Bool
 | _, [] => true
 | e, s :: r => stateB a s && !(e.any (atCell s.f0 s.f1)) && goodL a (e ++ [s]) r
def in3 (n : Nat) : Bool := decide ((1 : Int) ≤ (n : Int)) && decide ((n : Int) ≤ 3)
def goodB (a : ByteArray) (l : List XS) : Bool := in3 l.length && goodL a [] l
theorem qbC {l : List XS} {i : Nat} (h : i < l.length) : l.take (i + 1) = l.take i ++ [l[i]] := by
 rw [List.take_succ_eq_append_getElem h]
theorem areDice_loop {a : ByteArray} (g : Gnd a) (l : List XS) (hl : l.length ≤ 2000000) (d : Nat) : ∀ i : Nat, i ≤ l.length → l.length - i = d →
  Ev (fun k => qHA.l0 k (rowsT a) l l (l.length : Int) (i : Int)) (goodL a (l.take i) (l.drop i) && in3 l.length) := by
 induction d with
 | zero =>
  intro i hi hd
  refine Ev.step (f := fun k => _) (fun k => by rw [qHA.l0]) (Ev.neg (by omega) (Ev.bindc (qoC _ _ _) (Ev.some_ ?_)))
  rw [List.drop_eq_nil_of_le (by omega)]; rfl
 | succ d ih =>
  intro i hi hd
  have h : i < l.length := by omega
  have w : wrap64 ((i : Int) + 1) = ((i + 1 : Nat) : Int) := by unfold wrap64; omega
  have hs := isState_ev g l[i]
  have hn := ih (i + 1) (by omega) (by omega)
  rw [qbC h] at hn
  rw [List.drop_eq_getElem_cons h]
  refine Ev.step (f := fun k => _) (fun k => by rw [qHA.l0]) (Ev.pos (by omega) (Ev.pos (by omega) (Ev.pos (by omega) ?_)))
  rw [rdXS l i h, w]
  refine Ev.bind hs ?_
  unfold goodL
  cases hb : stateB a l[i] with
  | false => exact Ev.neg (by decide) (Ev.now _)
  | true =>
   refine Ev.pos rfl (Ev.pos (by omega) (Ev.bindc (show qqC.f _ _ _ _ _ _ _ _ _ = some _ from rfl) ?_))
   rw [Int.toNat_natCast]
   show Ev (fun k => if (l.take i).any (atCell l[i].f0 l[i].f1) = true then _ else _) _
   cases hq : (l.take i).any (atCell l[i].f0 l[i].f1) with
   | true => exact Ev.pos rfl (Ev.now _)
   | false =>
    refine Ev.neg (by decide) ?_
    simpa using hn
theorem areDice_ev {a : ByteArray} (g : Gnd a) (l : List XS) (hl : l.length ≤ 2000000) : Ev (fun k => qHA.f k (rowsT a) l) (goodB a l) := by
 have := areDice_loop g l hl l.length 0 (by omega) (by omega)
 rw [Bool.and_comm] at this
 exact this
theorem myGood_loop {a : ByteArray} (g : Gnd a) (l : List XS) (hl : l.length ≤ 2000000) (d : Nat) : ∀ i : Nat, i ≤ l.length → l.length - i = d →
  Ev (fun k => qPA.l0 k l l (l.length : Int) (i : Int) (wideT a : Int) (highT a : Int) (csOf a)) (goodL a (l.take i) (l.drop i)) := by
 induction d with
 | zero =>
  intro i hi hd
  refine Ev.step (f := fun k => _) (fun k => by rw [qPA.l0]) (Ev.neg (by omega) (Ev.some_ ?_))
  rw [List.drop_eq_nil_of_le (by omega)]; rfl
 | succ d ih =>
  intro i hi hd
  have h : i < l.length := by omega
  have w : wrap64 ((i : Int) + 1) = ((i + 1 : Nat) : Int) := by unfold wrap64; omega
  have hs := boState_ev g l[i]
  have hn := ih (i + 1) (by omega) (by omega)
  rw [qbC h] at hn
  rw [List.drop_eq_getElem_cons h]
  refine Ev.step (f := fun k => _) (fun k => by rw [qPA.l0]) (Ev.pos (by omega) (Ev.pos (by omega) (Ev.pos (by omega) ?_)))
  rw [rdXS l i h, w]
  refine Ev.bind hs ?_
  unfold goodL
  cases hb : stateB a l[i] with
  | false => exact Ev.neg (by decide) (Ev.now _)
  | true =>
   obtain ⟨r, h1, h2⟩ := myAt_ev (l.take i) (by rw [List.length_take]; omega) l[i].f0 l[i].f1
   refine Ev.pos rfl (Ev.pos (by omega) ?_)
   rw [Int.toNat_natCast]
   refine Ev.bind h1 ?_
   rw [← h2]
   by_cases hq : r ≥ 0
   ·rw [decide_eq_true hq]
    exact Ev.pos hq (Ev.now _)
   ·rw [decide_eq_false hq]
    refine Ev.neg hq ?_
    simpa using hn
theorem myGood_ev {a : ByteArray} (g : Gnd a) (l : List XS) (hl : l.length ≤ 2000000) : Ev (fun k => qPA.f k (wideT a : Int) (highT a : Int) (csOf a) l) (goodB a l) := by
 unfold qPA.f goodB in3
 refine Ev.bindc (qKD _ _ _) ?_
 cases hb : (decide ((1 : Int) ≤ (l.length : Int)) && decide ((l.length : Int) ≤ 3)) with
 | false => exact Ev.neg (by decide) (Ev.now _)
 | true =>
  refine Ev.pos rfl ?_
  rw [Bool.true_and]
  exact myGood_loop g l hl l.length 0 (by omega) (by omega)
def askD (a : ByteArray) (l : List XS) : Bool := boardB a && goodB a l
theorem qiC {a : ByteArray} {l : List XS} (h : askD a l = true) : boardB a = true := by
 unfold askD at h
 rw [Bool.and_eq_true] at h
 exact h.1
theorem qfD {a : ByteArray} {l : List XS} (h : askD a l = true) : 1 ≤ l.length ∧ l.length ≤ 3 := by
 unfold askD goodB in3 at h
 simp only [Bool.and_eq_true, decide_eq_true_eq] at h
 omega
theorem goodL_state {a : ByteArray} : ∀ {e l : List XS}, goodL a e l = true → ∀ s ∈ l, stateB a s = true
 | _, [], _, s, hs => by cases hs
 | e, t :: r, h, s, hs => by
  unfold goodL at h
  simp only [Bool.and_eq_true] at h
  rcases List.mem_cons.1 hs with rfl | hs
  ·exact h.1.1
  ·exact goodL_state h.2 s hs
theorem askD_state {a : ByteArray} {l : List XS} (h : askD a l = true) : ∀ s ∈ l, stateB a s = true := by
 unfold askD goodB at h
 simp only [Bool.and_eq_true] at h
 exact goodL_state h.2.2
theorem qGC (a : ByteArray) (l : List XS) (ha : a.size ≤ 1048576) (hl : l.length ≤ 2000000) : ∃ rows : List ByteArray, Ev (fun k => qZA.f k a l) (rows, askD a l) ∧ (askD a l = true → rows = rowsT a) := by
 obtain ⟨rows, h1, hr⟩ := board_ev a ha
 unfold qZA.f askD
 cases hg : boardB a with
 | false =>
  rw [hg] at h1
  exact ⟨rows, Ev.bind h1 (Ev.neg (by simp) (Ev.now _)), fun h => by cases h⟩
 | true =>
  have g := qMD hg
  have e := hr hg
  subst e
  rw [hg] at h1
  exact ⟨rowsT a, Ev.bind h1 (Ev.pos rfl (Ev.bind (areDice_ev g l hl) (Ev.now _))), fun _ => rfl⟩
theorem qRC (a : ByteArray) (l : List XS) (hl : l.length ≤ 2000000) : ∃ (w h : Int) (cs : List Int), Ev (fun k => qRA.f k a l) (w, h, cs, askD a l) ∧ (askD a l = true → w = (wideT a : Int) ∧ h = (highT a : Int) ∧ cs = csOf a) := by
 have h2 := boRead_ev a
 unfold qRA.f askD
 cases hg : boardB a with
 | false =>
  rw [hg, if_neg (by decide)] at h2
  exact ⟨_, _, _, Ev.bind h2 (Ev.neg (by simp [badG]) (Ev.now _)), fun h => by cases h⟩
 | true =>
  have g := qMD hg
  rw [hg, if_pos rfl] at h2
  exact ⟨_, _, _, Ev.bind h2 (Ev.pos rfl (Ev.bind (myGood_ev g l hl) (Ev.now _))), fun _ => ⟨rfl, rfl, rfl⟩⟩
end Go.Proofs.YtgjdjnggkmojnaaDoor
