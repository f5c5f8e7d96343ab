/- The program's TouchingPairs returns what the reference's returns, for all texts and dice (the law lets longer texts and lists by). No further condition. -/
import Derived.Test.YtgjdjnggkmojnaaDoorKC1

namespace Go.Proofs.YtgjdjnggkmojnaaDoor.P
open Go.RowKit Go.Proofs.YtgjdjnggkmojnaaDoorW.PrintWords Go.Proofs.YtgjdjnggkmojnaaDoorW.PrintLast Go.Proofs.YtgjdjnggkmojnaaDoorW.PrintMore
attribute [local go_sem] qLA qJA qVA qUA qy qx qKA qIA
set_option linter.unusedVariables false
set_option linter.unusedSimpArgs false
mutual
def qk.l0 : Nat → List (S57) → Int → List (S57) → Int → Int → Option (Int × Bool)
 | 0, _, _, _, _, _ => none
 | k + 1, x1, x8, x21, x22, x23 => if x23 < x22 then (if 0 ≤ x23 then (if x23 < (x21.length : Int) then (qk.l1 k x1 x8 x21 x22 x23 x1 (x1.length : Int) 0 ((qC x21 x23).f0) ((qC x21 x23).f1) ((qC x21 x23).f2.f0) ((qC x21 x23).f2.f1) ((qC x21 x23).f2.f2) ((qC x21 x23).f2.f3) ((qC x21 x23).f2.f4) ((qC x21 x23).f2.f5)) else (none)) else (none)) else (some (x8, true))
def qk.l1 : Nat → List (S57) → Int → List (S57) → Int → Int → List (S57) → Int → Int → Int → Int → Int → Int → Int → Int → Int → Int → Option (Int × Bool)
 | 0, _, _, _, _, _, _, _, _, _, _, _, _, _, _, _, _ => none
 | k + 1, x1, x8, x21, x22, x23, x27, x28, x29, x299000, x299001, x299002, x299003, x299004, x299005, x299006, x299007 => if x29 < x28 then (if 0 ≤ x29 then (if x29 < (x27.length : Int) then (if ((qC x27 x29).f0) = (wrap64 (x299000 + 1)) then (if ((qC x27 x29).f1) = x299001 then (if x299004 = ((qC x27 x29).f2.f4) then (qk.l1 k x1 (wrap64 (x8 + 1)) x21 x22 x23 x27 x28 (wrap64 (x29 + 1)) x299000 x299001 x299002 x299003 x299004 x299005 x299006 x299007) else (if ((qC x27 x29).f0) = x299000 then (if ((qC x27 x29).f1) = (wrap64 (x299001 + 1)) then (if x299005 = ((qC x27 x29).f2.f1) then (qk.l1 k x1 (wrap64 (x8 + 1)) x21 x22 x23 x27 x28 (wrap64 (x29 + 1)) x299000 x299001 x299002 x299003 x299004 x299005 x299006 x299007) else (qk.l1 k x1 x8 x21 x22 x23 x27 x28 (wrap64 (x29 + 1)) x299000 x299001 x299002 x299003 x299004 x299005 x299006 x299007)) else (qk.l1 k x1 x8 x21 x22 x23 x27 x28 (wrap64 (x29 + 1)) x299000 x299001 x299002 x299003 x299004 x299005 x299006 x299007)) else (qk.l1 k x1 x8 x21 x22 x23 x27 x28 (wrap64 (x29 + 1)) x299000 x299001 x299002 x299003 x299004 x299005 x299006 x299007))) else (if ((qC x27 x29).f0) = x299000 then (if ((qC x27 x29).f1) = (wrap64 (x299001 + 1)) then (if x299005 = ((qC x27 x29).f2.f1) then (qk.l1 k x1 (wrap64 (x8 + 1)) x21 x22 x23 x27 x28 (wrap64 (x29 + 1)) x299000 x299001 x299002 x299003 x299004 x299005 x299006 x299007) else (qk.l1 k x1 x8 x21 x22 x23 x27 x28 (wrap64 (x29 + 1)) x299000 x299001 x299002 x299003 x299004 x299005 x299006 x299007)) else (qk.l1 k x1 x8 x21 x22 x23 x27 x28 (wrap64 (x29 + 1)) x299000 x299001 x299002 x299003 x299004 x299005 x299006 x299007)) else (qk.l1 k x1 x8 x21 x22 x23 x27 x28 (wrap64 (x29 + 1)) x299000 x299001 x299002 x299003 x299004 x299005 x299006 x299007))) else (if ((qC x27 x29).f0) = x299000 then (if ((qC x27 x29).f1) = (wrap64 (x299001 + 1)) then (if x299005 = ((qC x27 x29).f2.f1) then (qk.l1 k x1 (wrap64 (x8 + 1)) x21 x22 x23 x27 x28 (wrap64 (x29 + 1)) x299000 x299001 x299002 x299003 x299004 x299005 x299006 x299007) else (qk.l1 k x1 x8 x21 x22 x23 x27 x28 (wrap64 (x29 + 1)) x299000 x299001 x299002 x299003 x299004 x299005 x299006 x299007)) else (qk.l1 k x1 x8 x21 x22 x23 x27 x28 (wrap64 (x29 + 1)) x299000 x299001 x299002 x299003 x299004 x299005 x299006 x299007)) else (qk.l1 k x1 x8 x21 x22 x23 x27 x28 (wrap64 (x29 + 1)) x299000 x299001 x299002 x299003 x299004 x299005 x299006 x299007))) else (none)) else (none)) else (qk.l0 k x1 x8 x21 x22 (wrap64 (x23 + 1)))
end
def qk.f (k : Nat) (a0 : ByteArray) (l1 : List (S57)) : Option (Int × Bool) := (qRA.f k a0 l1).bind fun bt290 => (if bt290.2.2.2 = true then (qk.l0 k l1 0 l1 (l1.length : Int) 0) else (some (0, false)))
set_option maxHeartbeats 8000000 in
set_option maxRecDepth 100000 in
theorem qk.calls (k : Nat) (a0 : ByteArray) (A1 : Option Addr) (c1 : Nat) (l1 : List (S57)) (r1 : Int) (r2 : Bool) (w : World) (hr1 : Kd.C k57 w A1 l1.length l1) (hc1 : l1.length ≤ c1) (h : qk.f k a0 l1 = some (r1, r2)) :
  Calls Tryd.prog 18 #[.string a0, .slice A1 l1.length c1] w fun e w' => e = .returned (.tuple #[.int .i64 r1, .bool r2]) ∧ Below w.heap.size w w' := by
 have hu50 := Tryd.underlying50
 have hu57 := Tryd.underlying57
 have HR1 := Aside0.mk hr1
 have HC1 := Aside0.mk hc1
 clear hr1 hc1
 have HB := Aside0.mk (Below.refl w.heap.size w)
 have H : ((qRA.f k a0 l1).bind fun bt290 => (if bt290.2.2.2 = true then (qk.l0 k l1 0 l1 (l1.length : Int) 0) else (some (0, false)))) = some (r1, r2) := h
 clear h
 replace H := Option.bind_eq_some_iff.mp H
 obtain ⟨⟨t290, t291, t292, t295⟩, A30, H⟩ := H
 replace H : (if t295 = true then (qk.l0 k l1 0 l1 (l1.length : Int) 0) else (some (0, false))) = some (r1, r2) := H
 have A3 := Aside0.mk A30
 clear A30
 by_cases c4 : t295 = true
 ·subst c4
  have H1 : (qk.l0 k l1 0 l1 (l1.length : Int) 0) = some (r1, r2) := by rw [if_pos rfl] at H; exact H
  clear H
  have H := H1
  clear H1
  have H' := Aside0.mk H
  clear H
  go_enter Tryd.func18, Tryd.ntmps18
  go_wp2_with (first | ((with_reducible refine qL (f := 44) rfl ?_); refine qh (some 16) rfl rfl Tryd.func44 (by kernel_rfl) rfl #[.string a0, .slice A1 l1.length c1] rfl (by (try simp only [List.map_toArray, List.map_cons, List.map_nil]); first | done | rfl | (simp only [List.length_drop, List.length_take]; rfl)) ?_; (with_reducible refine (qRA.calls k a0 _ _ l1 t290 t291 t292 true _ ?side1 ?side2 A3.out).mono ?_); (case side1 => repeat (first | exact HR1.out | (with_reducible refine Kd.qa ?_ _) | (with_reducible refine Kd.qZ ?_ _) | (with_reducible refine Kd.qe ?_))); (case side2 => exact HC1.out); rintro e w5 ⟨v293, rfl, ho0, hb⟩; refine ⟨_, rfl, ?_⟩; have n0_ := Aside0.mk (Kd.qDA ho0 (qb bl)); have n1_ := Aside0.mk (qG bl hb); clear HB; have HO294 := n0_; have HB := n1_; clear n0_ n1_; (try clear hb); (try clear hb2); (try clear hk); (try clear hi); (try clear ho0)) | ((with_reducible refine qg (N := 6) rfl ?_); refine qd ?hg (N := 6) ?hd (cs := #[.int .i64 0, .int .i64 0, .slice none 0 0]) (t := 50) ?hr ?_; (case hd => rfl); (case hg => rfl); (case hr => first | (go_simp; done) | (go_simp; rfl)); intro gb296 hg w6 hbox hb; have n0_ := Aside0.mk (Kd.qc (by (with_reducible repeat (first | apply Kd.qK | apply Kd.qJ | apply Kd.qO)); exact HO294.out) hb); have n1_ := Aside0.mk (qG bl hb); have n2_ := Aside0.mk (hbox); have n3_ := Aside0.mk ((gg hg)); have n4_ := Aside0.mk ((gg hg)); clear HO294; clear HB; have HO294 := n0_; have HB := n1_; have BK296 := n2_; have GW296 := n3_; have GE296 := n4_; clear n0_ n1_ n2_ n3_ n4_; clear hb hbox hg; have hcz7_0 := bc BK296 0; have hcz7_1 := bc BK296 1; have hcz7_2 := bc BK296 2; have hfz7_0 := qA BK296.out 0; have hfz7_1 := qA BK296.out 1; have hfz7_2 := qA BK296.out 2; obtain ⟨Ao8, co8, eo8⟩ := Kd.qt HO294.out; subst eo8))
  go_loopg [8, 23] k (fun kq v8 v23 w' => ∃ (x8_1 : Int) (x23_1 : Int), v8 = .int .i64 x8_1 ∧ v23 = .int .i64 x23_1 ∧ Aside0 (qk.l0 kq l1 x8_1 l1 (l1.length : Int) x23_1 = some (r1, r2)) ∧ Aside0 (kq ≤ k) ∧ Aside0 (Kd.R (Kd.int .u8) 5 w' w.heap.size (fun _ => True) (.slice Ao8 t292.length co8) t292) ∧ Aside0 (w'.heap[gb296]? = some (.cells #[.int .i64 t290, .int .i64 t291, (.slice Ao8 t292.length co8)] 50 (0, 0))) ∧ Aside0 (Below w.heap.size w w'))
  case atStart => exact ⟨(0), (0), (by first | rfl | (simp; done) | (simp [*]; done)), (by first | rfl | (simp; done) | (simp [*]; done)), H', ⟨Nat.le_refl _⟩, ⟨by (with_reducible repeat (first | apply Kd.qK | apply Kd.qJ | apply Kd.qO)); exact Kd.qGA (Kd.R_far (p := ⟨gb296, 2, none⟩) (Kd.R_far (p := ⟨gb296, 1, none⟩) (Kd.R_far (p := ⟨gb296, 0, none⟩) (Kd.qvA HO294.out BK296.out (by decide)) (fun _ hk => hk.2) (.int .i64 t290)) (fun _ hk => hk.2) (.int .i64 t291)) (fun _ hk => hk.2) (.slice Ao8 t292.length co8)) (fun _ hk => trivial)⟩, ⟨by (with_reducible repeat (first | refine qE ?_ _ | refine qF ?_ | refine qD ?_ _)); refine qN (cs := #[.int .i64 t290, .int .i64 t291, .slice none 0 0]) ?_ 2 _ rfl; (with_reducible repeat (first | refine qE ?_ _ | refine qF ?_ | refine qD ?_ _)); refine qN (cs := #[.int .i64 t290, .int .i64 0, .slice none 0 0]) ?_ 1 _ rfl; (with_reducible repeat (first | refine qE ?_ _ | refine qF ?_ | refine qD ?_ _)); refine qN (cs := #[.int .i64 0, .int .i64 0, .slice none 0 0]) ?_ 0 _ rfl; (with_reducible repeat (first | refine qE ?_ _ | refine qF ?_ | refine qD ?_ _)); exact BK296.out⟩, ⟨bl⟩⟩
  case round =>
   clear H'
   try clear c1
   try clear p2
   try clear c4
   try clear hcz7_0
   try clear hcz7_1
   try clear hcz7_2
   try clear hfz7_0
   try clear hfz7_1
   try clear hfz7_2
   obtain ⟨x8_1, x23_1, rfl, rfl, HA, HK1, HO_297002, BK296, HB⟩ := hrel
   cases gk with
   | zero => exact absurd HA.out (by simp [qk.l0])
   | succ k1 =>
    have H := HA.out
    clear HA
    simp only [qk.l0] at H
    by_cases c9 : x23_1 < (l1.length : Int)
    ·rw [if_pos c9] at H
     have c9b0 : decide (x23_1 < (l1.length : Int)) = true := decide_eq_true c9
     clear c9
     by_cases c10 : 0 ≤ x23_1
     ·rw [if_pos c10] at H
      have c10b0 : decide (0 ≤ x23_1) = true := decide_eq_true c10
      clear c10
      by_cases c11 : x23_1 < (l1.length : Int)
      ·rw [if_pos c11] at H
       have c11b0 : decide (x23_1 < (l1.length : Int)) = true := decide_eq_true c11
       clear c11
       have H' := Aside0.mk H
       clear H
       have p297 : 0 ≤ (x23_1 : Int) := of_decide_eq_true (by first | (with_reducible assumption) | assumption)
       have q297 : x23_1 < (l1.length : Int) := of_decide_eq_true (by first | (with_reducible assumption) | assumption)
       obtain ⟨ad297, e297, hx297_0, hx297_1, hx297_2, hx297_3, hx297_4, hx297_5, hx297_6, hx297_7⟩ := qgA HR1.out x23_1 p297 q297
       cases e297
       replace hx297_0 := (HB.out.cell (World.block_lt_of_cell? w _ hx297_0)).trans hx297_0
       replace hx297_1 := (HB.out.cell (World.block_lt_of_cell? w _ hx297_1)).trans hx297_1
       replace hx297_2 := (HB.out.cell (World.block_lt_of_cell? w _ hx297_2)).trans hx297_2
       replace hx297_3 := (HB.out.cell (World.block_lt_of_cell? w _ hx297_3)).trans hx297_3
       replace hx297_4 := (HB.out.cell (World.block_lt_of_cell? w _ hx297_4)).trans hx297_4
       replace hx297_5 := (HB.out.cell (World.block_lt_of_cell? w _ hx297_5)).trans hx297_5
       replace hx297_6 := (HB.out.cell (World.block_lt_of_cell? w _ hx297_6)).trans hx297_6
       replace hx297_7 := (HB.out.cell (World.block_lt_of_cell? w _ hx297_7)).trans hx297_7
       replace p297 := eq_true p297
       replace q297 := eq_true q297
       go_wp2_with (first | ((with_reducible refine qg (N := 10) rfl ?_); refine qd ?hg (N := 10) ?hd (cs := #[.int .i64 0, .int .i64 0, .int .i64 0, .int .i64 0, .int .i64 0, .int .i64 0, .int .i64 0, .int .i64 0]) (t := 57) ?hr ?_; (case hd => rfl); (case hg => rfl); (case hr => first | (go_simp; done) | (go_simp; rfl)); intro gb298 hg w12 hbox hb; have n0_ := Aside0.mk (Kd.qc (by (with_reducible repeat (first | apply Kd.qK | apply Kd.qJ | apply Kd.qO)); exact HO_297002.out) hb); have n1_ := Aside0.mk (bb BK296 hb); have n2_ := Aside0.mk (qG bl hb); have n3_ := Aside0.mk (hbox); have n4_ := Aside0.mk ((gg hg)); have n5_ := Aside0.mk ((gg hg)); have n6_ := Aside0.mk ((nl BK296 hg)); have n7_ := Aside0.mk ((nr BK296 hg)); clear HO_297002; clear BK296; clear HB; have HO_297002 := n0_; have BK296 := n1_; have HB := n2_; have BK298 := n3_; have GW298 := n4_; have GE298 := n5_; have NB296_298 := n6_; have NB298_296 := n7_; clear n0_ n1_ n2_ n3_ n4_ n5_ n6_ n7_; clear hb hbox hg; have hnb13 := NB298_296.out; have hnc13 := NB296_298.out; have hcz14_0 := bc BK298 0; have hcz14_1 := bc BK298 1; have hcz14_2 := bc BK298 2; have hcz14_3 := bc BK298 3; have hcz14_4 := bc BK298 4; have hcz14_5 := bc BK298 5; have hcz14_6 := bc BK298 6; have hcz14_7 := bc BK298 7; have hfz14_0 := qA BK298.out 0; have hfz14_1 := qA BK298.out 1; have hfz14_2 := qA BK298.out 2; have hfz14_3 := qA BK298.out 3; have hfz14_4 := qA BK298.out 4; have hfz14_5 := qA BK298.out 5; have hfz14_6 := qA BK298.out 6; have hfz14_7 := qA BK298.out 7))
       go_loopg [8, 29] k1 (fun kq v8 v29 w' => ∃ (x8_2 : Int) (x29_2 : Int), v8 = .int .i64 x8_2 ∧ v29 = .int .i64 x29_2 ∧ Aside0 (qk.l1 kq l1 x8_2 l1 (l1.length : Int) x23_1 l1 (l1.length : Int) x29_2 ((qC l1 x23_1).f0) ((qC l1 x23_1).f1) ((qC l1 x23_1).f2.f0) ((qC l1 x23_1).f2.f1) ((qC l1 x23_1).f2.f2) ((qC l1 x23_1).f2.f3) ((qC l1 x23_1).f2.f4) ((qC l1 x23_1).f2.f5) = some (r1, r2)) ∧ Aside0 (kq ≤ k1) ∧ Aside0 (Kd.R (Kd.int .u8) 5 w' w.heap.size (fun _ => True) (.slice Ao8 t292.length co8) t292) ∧ Aside0 (w'.heap[gb296]? = some (.cells #[.int .i64 t290, .int .i64 t291, (.slice Ao8 t292.length co8)] 50 (0, 0))) ∧ Aside0 (w'.heap[gb298]? = some (.cells #[.int .i64 ((qC l1 x23_1).f0), .int .i64 ((qC l1 x23_1).f1), .int .i64 ((qC l1 x23_1).f2.f0), .int .i64 ((qC l1 x23_1).f2.f1), .int .i64 ((qC l1 x23_1).f2.f2), .int .i64 ((qC l1 x23_1).f2.f3), .int .i64 ((qC l1 x23_1).f2.f4), .int .i64 ((qC l1 x23_1).f2.f5)] 57 (0, 0))) ∧ Aside0 (Below w.heap.size w w'))
       case atStart => exact ⟨(x8_1), (0), (by first | rfl | (simp; done) | (simp [*]; done)), (by first | rfl | (simp; done) | (simp [*]; done)), H', ⟨Nat.le_refl _⟩, ⟨by (with_reducible repeat (first | apply Kd.qK | apply Kd.qJ | apply Kd.qO)); exact Kd.qGA (Kd.R_far (p := ⟨gb298, 7, none⟩) (Kd.R_far (p := ⟨gb298, 6, none⟩) (Kd.R_far (p := ⟨gb298, 5, none⟩) (Kd.R_far (p := ⟨gb298, 4, none⟩) (Kd.R_far (p := ⟨gb298, 3, none⟩) (Kd.R_far (p := ⟨gb298, 2, none⟩) (Kd.R_far (p := ⟨gb298, 1, none⟩) (Kd.R_far (p := ⟨gb298, 0, none⟩) (Kd.qvA HO_297002.out BK298.out (by decide)) (fun _ hk => hk.2) (.int .i64 ((qC l1 x23_1).f0))) (fun _ hk => hk.2) (.int .i64 ((qC l1 x23_1).f1))) (fun _ hk => hk.2) (.int .i64 ((qC l1 x23_1).f2.f0))) (fun _ hk => hk.2) (.int .i64 ((qC l1 x23_1).f2.f1))) (fun _ hk => hk.2) (.int .i64 ((qC l1 x23_1).f2.f2))) (fun _ hk => hk.2) (.int .i64 ((qC l1 x23_1).f2.f3))) (fun _ hk => hk.2) (.int .i64 ((qC l1 x23_1).f2.f4))) (fun _ hk => hk.2) (.int .i64 ((qC l1 x23_1).f2.f5))) (fun _ hk => trivial)⟩, ⟨by (with_reducible repeat (first | refine qE ?_ _ | refine qF ?_ | refine qD ?_ _)); refine qV ?_ NB296_298.out _; (with_reducible repeat (first | refine qE ?_ _ | refine qF ?_ | refine qD ?_ _)); refine qV ?_ NB296_298.out _; (with_reducible repeat (first | refine qE ?_ _ | refine qF ?_ | refine qD ?_ _)); refine qV ?_ NB296_298.out _; (with_reducible repeat (first | refine qE ?_ _ | refine qF ?_ | refine qD ?_ _)); refine qV ?_ NB296_298.out _; (with_reducible repeat (first | refine qE ?_ _ | refine qF ?_ | refine qD ?_ _)); refine qV ?_ NB296_298.out _; (with_reducible repeat (first | refine qE ?_ _ | refine qF ?_ | refine qD ?_ _)); refine qV ?_ NB296_298.out _; (with_reducible repeat (first | refine qE ?_ _ | refine qF ?_ | refine qD ?_ _)); refine qV ?_ NB296_298.out _; (with_reducible repeat (first | refine qE ?_ _ | refine qF ?_ | refine qD ?_ _)); refine qV ?_ NB296_298.out _; (with_reducible repeat (first | refine qE ?_ _ | refine qF ?_ | refine qD ?_ _)); exact BK296.out⟩, ⟨by (with_reducible repeat (first | refine qE ?_ _ | refine qF ?_ | refine qD ?_ _)); refine qN (cs := #[.int .i64 ((qC l1 x23_1).f0), .int .i64 ((qC l1 x23_1).f1), .int .i64 ((qC l1 x23_1).f2.f0), .int .i64 ((qC l1 x23_1).f2.f1), .int .i64 ((qC l1 x23_1).f2.f2), .int .i64 ((qC l1 x23_1).f2.f3), .int .i64 ((qC l1 x23_1).f2.f4), .int .i64 0]) ?_ 7 _ rfl; (with_reducible repeat (first | refine qE ?_ _ | refine qF ?_ | refine qD ?_ _)); refine qN (cs := #[.int .i64 ((qC l1 x23_1).f0), .int .i64 ((qC l1 x23_1).f1), .int .i64 ((qC l1 x23_1).f2.f0), .int .i64 ((qC l1 x23_1).f2.f1), .int .i64 ((qC l1 x23_1).f2.f2), .int .i64 ((qC l1 x23_1).f2.f3), .int .i64 0, .int .i64 0]) ?_ 6 _ rfl; (with_reducible repeat (first | refine qE ?_ _ | refine qF ?_ | refine qD ?_ _)); refine qN (cs := #[.int .i64 ((qC l1 x23_1).f0), .int .i64 ((qC l1 x23_1).f1), .int .i64 ((qC l1 x23_1).f2.f0), .int .i64 ((qC l1 x23_1).f2.f1), .int .i64 ((qC l1 x23_1).f2.f2), .int .i64 0, .int .i64 0, .int .i64 0]) ?_ 5 _ rfl; (with_reducible repeat (first | refine qE ?_ _ | refine qF ?_ | refine qD ?_ _)); refine qN (cs := #[.int .i64 ((qC l1 x23_1).f0), .int .i64 ((qC l1 x23_1).f1), .int .i64 ((qC l1 x23_1).f2.f0), .int .i64 ((qC l1 x23_1).f2.f1), .int .i64 0, .int .i64 0, .int .i64 0, .int .i64 0]) ?_ 4 _ rfl; (with_reducible repeat (first | refine qE ?_ _ | refine qF ?_ | refine qD ?_ _)); refine qN (cs := #[.int .i64 ((qC l1 x23_1).f0), .int .i64 ((qC l1 x23_1).f1), .int .i64 ((qC l1 x23_1).f2.f0), .int .i64 0, .int .i64 0, .int .i64 0, .int .i64 0, .int .i64 0]) ?_ 3 _ rfl; (with_reducible repeat (first | refine qE ?_ _ | refine qF ?_ | refine qD ?_ _)); refine qN (cs := #[.int .i64 ((qC l1 x23_1).f0), .int .i64 ((qC l1 x23_1).f1), .int .i64 0, .int .i64 0, .int .i64 0, .int .i64 0, .int .i64 0, .int .i64 0]) ?_ 2 _ rfl; (with_reducible repeat (first | refine qE ?_ _ | refine qF ?_ | refine qD ?_ _)); refine qN (cs := #[.int .i64 ((qC l1 x23_1).f0), .int .i64 0, .int .i64 0, .int .i64 0, .int .i64 0, .int .i64 0, .int .i64 0, .int .i64 0]) ?_ 1 _ rfl; (with_reducible repeat (first | refine qE ?_ _ | refine qF ?_ | refine qD ?_ _)); refine qN (cs := #[.int .i64 0, .int .i64 0, .int .i64 0, .int .i64 0, .int .i64 0, .int .i64 0, .int .i64 0, .int .i64 0]) ?_ 0 _ rfl; (with_reducible repeat (first | refine qE ?_ _ | refine qF ?_ | refine qD ?_ _)); exact BK298.out⟩, ⟨bl⟩⟩
       case round =>
        clear H'
        try clear c1
        try clear p2
        try clear q2
        try clear hx2
        try clear c4
        try clear c9
        try clear c9b0
        try clear c10
        try clear c10b0
        try clear c11
        try clear c11b0
        try clear c13
        try clear hcz14_0
        try clear hcz14_1
        try clear hcz14_2
        try clear hcz14_3
        try clear hcz14_4
        try clear hcz14_5
        try clear hcz14_6
        try clear hcz14_7
        try clear hcz7_0
        try clear hcz7_1
        try clear hcz7_2
        try clear hfz14_0
        try clear hfz14_1
        try clear hfz14_2
        try clear hfz14_3
        try clear hfz14_4
        try clear hfz14_5
        try clear hfz14_6
        try clear hfz14_7
        try clear hfz7_0
        try clear hfz7_1
        try clear hfz7_2
        try clear hx297_0
        try clear hx297_1
        try clear hx297_2
        try clear hx297_3
        try clear hx297_4
        try clear hx297_5
        try clear hx297_6
        try clear hx297_7
        try clear p2
        try clear p297
        try clear q297
        obtain ⟨x8_2, x29_2, rfl, rfl, HA, HK2, HO_297002, BK296, BK298, HB⟩ := hrel
        cases gk with
        | zero => exact absurd HA.out (by simp [qk.l1])
        | succ k2 =>
         have H := HA.out
         clear HA
         simp only [qk.l1] at H
         by_cases c15 : x29_2 < (l1.length : Int)
         ·rw [if_pos c15] at H
          have c15b0 : decide (x29_2 < (l1.length : Int)) = true := decide_eq_true c15
          clear c15
          by_cases c16 : 0 ≤ x29_2
          ·rw [if_pos c16] at H
           have c16b0 : decide (0 ≤ x29_2) = true := decide_eq_true c16
           clear c16
           by_cases c17 : x29_2 < (l1.length : Int)
           ·rw [if_pos c17] at H
            have c17b0 : decide (x29_2 < (l1.length : Int)) = true := decide_eq_true c17
            clear c17
            by_cases c18 : ((qC l1 x29_2).f0) = (wrap64 (((qC l1 x23_1).f0) + 1))
            ·rw [if_pos c18] at H
             have c18b0 : (((qC l1 x29_2).f0) == (wrap64 (((qC l1 x23_1).f0) + 1))) = true := beq_iff_eq.mpr c18
             have c18b1 : (((qC l1 x29_2).f0) != (wrap64 (((qC l1 x23_1).f0) + 1))) = false := bne_eq_false_iff_eq.mpr c18
             clear c18
             by_cases c19 : ((qC l1 x29_2).f1) = ((qC l1 x23_1).f1)
             ·rw [if_pos c19] at H
              have c19b0 : (((qC l1 x29_2).f1) == ((qC l1 x23_1).f1)) = true := beq_iff_eq.mpr c19
              have c19b1 : (((qC l1 x29_2).f1) != ((qC l1 x23_1).f1)) = false := bne_eq_false_iff_eq.mpr c19
              clear c19
              by_cases c20 : ((qC l1 x23_1).f2.f2) = ((qC l1 x29_2).f2.f4)
              ·rw [if_pos c20] at H
               have c20b0 : (((qC l1 x23_1).f2.f2) == ((qC l1 x29_2).f2.f4)) = true := beq_iff_eq.mpr c20
               have c20b1 : (((qC l1 x23_1).f2.f2) != ((qC l1 x29_2).f2.f4)) = false := bne_eq_false_iff_eq.mpr c20
               clear c20
               have H' := Aside0.mk H
               clear H
               have p299 : 0 ≤ (x29_2 : Int) := of_decide_eq_true (by first | (with_reducible assumption) | assumption)
               have q299 : x29_2 < (l1.length : Int) := of_decide_eq_true (by first | (with_reducible assumption) | assumption)
               obtain ⟨ad299, e299, hx299_0, hx299_1, hx299_2, hx299_3, hx299_4, hx299_5, hx299_6, hx299_7⟩ := qgA HR1.out x29_2 p299 q299
               obtain rfl : ad297 = ad299 := (by injection e299)
               replace hx299_0 := (HB.out.cell (World.block_lt_of_cell? w _ hx299_0)).trans hx299_0
               replace hx299_1 := (HB.out.cell (World.block_lt_of_cell? w _ hx299_1)).trans hx299_1
               replace hx299_2 := (HB.out.cell (World.block_lt_of_cell? w _ hx299_2)).trans hx299_2
               replace hx299_3 := (HB.out.cell (World.block_lt_of_cell? w _ hx299_3)).trans hx299_3
               replace hx299_4 := (HB.out.cell (World.block_lt_of_cell? w _ hx299_4)).trans hx299_4
               replace hx299_5 := (HB.out.cell (World.block_lt_of_cell? w _ hx299_5)).trans hx299_5
               replace hx299_6 := (HB.out.cell (World.block_lt_of_cell? w _ hx299_6)).trans hx299_6
               replace hx299_7 := (HB.out.cell (World.block_lt_of_cell? w _ hx299_7)).trans hx299_7
               replace p299 := eq_true p299
               replace q299 := eq_true q299
               go_wp2_with (first | ((with_reducible refine qg (N := 12) rfl ?_); refine qd ?hg (N := 12) ?hd (cs := #[.int .i64 0, .int .i64 0, .int .i64 0, .int .i64 0, .int .i64 0, .int .i64 0, .int .i64 0, .int .i64 0]) (t := 57) ?hr ?_; (case hd => rfl); (case hg => rfl); (case hr => first | (go_simp; done) | (go_simp; rfl)); intro gb300 hg w21 hbox hb; have n0_ := Aside0.mk (Kd.qc (by (with_reducible repeat (first | apply Kd.qK | apply Kd.qJ | apply Kd.qO)); exact HO_297002.out) hb); have n1_ := Aside0.mk (bb BK296 hb); have n2_ := Aside0.mk (bb BK298 hb); have n3_ := Aside0.mk (qG bl hb); have n4_ := Aside0.mk (hbox); have n5_ := Aside0.mk ((gg hg)); have n6_ := Aside0.mk ((gg hg)); have n7_ := Aside0.mk ((nl BK296 hg)); have n8_ := Aside0.mk ((nr BK296 hg)); have n9_ := Aside0.mk ((nl BK298 hg)); have n10_ := Aside0.mk ((nr BK298 hg)); clear HO_297002; clear BK296; clear BK298; clear HB; have HO_297002 := n0_; have BK296 := n1_; have BK298 := n2_; have HB := n3_; have BK300 := n4_; have GW300 := n5_; have GE300 := n6_; have NB296_300 := n7_; have NB300_296 := n8_; have NB298_300 := n9_; have NB300_298 := n10_; clear n0_ n1_ n2_ n3_ n4_ n5_ n6_ n7_ n8_ n9_ n10_; clear hb hbox hg; have hnb22 := NB300_296.out; have hnc22 := NB296_300.out; have hnb23 := NB300_298.out; have hnc23 := NB298_300.out; have hcz24_0 := bc BK300 0; have hcz24_1 := bc BK300 1; have hcz24_2 := bc BK300 2; have hcz24_3 := bc BK300 3; have hcz24_4 := bc BK300 4; have hcz24_5 := bc BK300 5; have hcz24_6 := bc BK300 6; have hcz24_7 := bc BK300 7; have hfz24_0 := qA BK300.out 0; have hfz24_1 := qA BK300.out 1; have hfz24_2 := qA BK300.out 2; have hfz24_3 := qA BK300.out 3; have hfz24_4 := qA BK300.out 4; have hfz24_5 := qA BK300.out 5; have hfz24_6 := qA BK300.out 6; have hfz24_7 := qA BK300.out 7; have hnb25 := NB298_296.out; have hnc25 := NB296_298.out; have hcz26_0 := bc BK298 0; have hcz26_1 := bc BK298 1; have hcz26_2 := bc BK298 2; have hcz26_3 := bc BK298 3; have hcz26_4 := bc BK298 4; have hcz26_5 := bc BK298 5; have hcz26_6 := bc BK298 6; have hcz26_7 := bc BK298 7; have hfz26_0 := qA BK298.out 0; have hfz26_1 := qA BK298.out 1; have hfz26_2 := qA BK298.out 2; have hfz26_3 := qA BK298.out 3; have hfz26_4 := qA BK298.out 4; have hfz26_5 := qA BK298.out 5; have hfz26_6 := qA BK298.out 6; have hfz26_7 := qA BK298.out 7))
               go_roundg k2
               case measure => have := HK1.out; have := HK2.out; omega
               case rel => exact ⟨(wrap64 (x8_2 + 1)), (wrap64 (x29_2 + 1)), (by first | rfl | (simp; done) | (simp [*]; done)), (by first | rfl | (simp; done) | (simp [*]; done)), H', ⟨by have := HK1.out; have := HK2.out; omega⟩, ⟨by (with_reducible repeat (first | apply Kd.qK | apply Kd.qJ | apply Kd.qO)); exact Kd.qGA (Kd.R_far (p := ⟨gb300, 7, none⟩) (Kd.R_far (p := ⟨gb300, 6, none⟩) (Kd.R_far (p := ⟨gb300, 5, none⟩) (Kd.R_far (p := ⟨gb300, 4, none⟩) (Kd.R_far (p := ⟨gb300, 3, none⟩) (Kd.R_far (p := ⟨gb300, 2, none⟩) (Kd.R_far (p := ⟨gb300, 1, none⟩) (Kd.R_far (p := ⟨gb300, 0, none⟩) (Kd.qvA HO_297002.out BK300.out (by decide)) (fun _ hk => hk.2) (.int .i64 ((qC l1 x29_2).f0))) (fun _ hk => hk.2) (.int .i64 ((qC l1 x29_2).f1))) (fun _ hk => hk.2) (.int .i64 ((qC l1 x29_2).f2.f0))) (fun _ hk => hk.2) (.int .i64 ((qC l1 x29_2).f2.f1))) (fun _ hk => hk.2) (.int .i64 ((qC l1 x29_2).f2.f2))) (fun _ hk => hk.2) (.int .i64 ((qC l1 x29_2).f2.f3))) (fun _ hk => hk.2) (.int .i64 ((qC l1 x29_2).f2.f4))) (fun _ hk => hk.2) (.int .i64 ((qC l1 x29_2).f2.f5))) (fun _ hk => trivial)⟩, ⟨by (with_reducible repeat (first | refine qE ?_ _ | refine qF ?_ | refine qD ?_ _)); refine qV ?_ NB296_300.out _; (with_reducible repeat (first | refine qE ?_ _ | refine qF ?_ | refine qD ?_ _)); refine qV ?_ NB296_300.out _; (with_reducible repeat (first | refine qE ?_ _ | refine qF ?_ | refine qD ?_ _)); refine qV ?_ NB296_300.out _; (with_reducible repeat (first | refine qE ?_ _ | refine qF ?_ | refine qD ?_ _)); refine qV ?_ NB296_300.out _; (with_reducible repeat (first | refine qE ?_ _ | refine qF ?_ | refine qD ?_ _)); refine qV ?_ NB296_300.out _; (with_reducible repeat (first | refine qE ?_ _ | refine qF ?_ | refine qD ?_ _)); refine qV ?_ NB296_300.out _; (with_reducible repeat (first | refine qE ?_ _ | refine qF ?_ | refine qD ?_ _)); refine qV ?_ NB296_300.out _; (with_reducible repeat (first | refine qE ?_ _ | refine qF ?_ | refine qD ?_ _)); refine qV ?_ NB296_300.out _; (with_reducible repeat (first | refine qE ?_ _ | refine qF ?_ | refine qD ?_ _)); exact BK296.out⟩, ⟨by (with_reducible repeat (first | refine qE ?_ _ | refine qF ?_ | refine qD ?_ _)); refine qV ?_ NB298_300.out _; (with_reducible repeat (first | refine qE ?_ _ | refine qF ?_ | refine qD ?_ _)); refine qV ?_ NB298_300.out _; (with_reducible repeat (first | refine qE ?_ _ | refine qF ?_ | refine qD ?_ _)); refine qV ?_ NB298_300.out _; (with_reducible repeat (first | refine qE ?_ _ | refine qF ?_ | refine qD ?_ _)); refine qV ?_ NB298_300.out _; (with_reducible repeat (first | refine qE ?_ _ | refine qF ?_ | refine qD ?_ _)); refine qV ?_ NB298_300.out _; (with_reducible repeat (first | refine qE ?_ _ | refine qF ?_ | refine qD ?_ _)); refine qV ?_ NB298_300.out _; (with_reducible repeat (first | refine qE ?_ _ | refine qF ?_ | refine qD ?_ _)); refine qV ?_ NB298_300.out _; (with_reducible repeat (first | refine qE ?_ _ | refine qF ?_ | refine qD ?_ _)); refine qV ?_ NB298_300.out _; (with_reducible repeat (first | refine qE ?_ _ | refine qF ?_ | refine qD ?_ _)); exact BK298.out⟩, ⟨bl⟩⟩
              ·rw [if_neg c20] at H
               have c20b0 : (((qC l1 x23_1).f2.f2) == ((qC l1 x29_2).f2.f4)) = false := beq_eq_false_iff_ne.mpr c20
               have c20b1 : (((qC l1 x23_1).f2.f2) != ((qC l1 x29_2).f2.f4)) = true := bne_iff_ne.mpr c20
               by_cases c27 : ((qC l1 x29_2).f0) = ((qC l1 x23_1).f0)
               ·rw [if_pos c27] at H
                have c27b0 : (((qC l1 x29_2).f0) == ((qC l1 x23_1).f0)) = true := beq_iff_eq.mpr c27
                have c27b1 : (((qC l1 x29_2).f0) != ((qC l1 x23_1).f0)) = false := bne_eq_false_iff_eq.mpr c27
                clear c27
                by_cases c28 : ((qC l1 x29_2).f1) = (wrap64 (((qC l1 x23_1).f1) + 1))
                ·rw [if_pos c28] at H
                 have c28b0 : (((qC l1 x29_2).f1) == (wrap64 (((qC l1 x23_1).f1) + 1))) = true := beq_iff_eq.mpr c28
                 have c28b1 : (((qC l1 x29_2).f1) != (wrap64 (((qC l1 x23_1).f1) + 1))) = false := bne_eq_false_iff_eq.mpr c28
                 clear c28
                 by_cases c29 : ((qC l1 x23_1).f2.f3) = ((qC l1 x29_2).f2.f1)
                 ·rw [if_pos c29] at H
                  have c29b0 : (((qC l1 x23_1).f2.f3) == ((qC l1 x29_2).f2.f1)) = true := beq_iff_eq.mpr c29
                  have c29b1 : (((qC l1 x23_1).f2.f3) != ((qC l1 x29_2).f2.f1)) = false := bne_eq_false_iff_eq.mpr c29
                  clear c29
                  have H' := Aside0.mk H
                  clear H
                  have p299 : 0 ≤ (x29_2 : Int) := of_decide_eq_true (by first | (with_reducible assumption) | assumption)
                  have q299 : x29_2 < (l1.length : Int) := of_decide_eq_true (by first | (with_reducible assumption) | assumption)
                  obtain ⟨ad299, e299, hx299_0, hx299_1, hx299_2, hx299_3, hx299_4, hx299_5, hx299_6, hx299_7⟩ := qgA HR1.out x29_2 p299 q299
                  obtain rfl : ad297 = ad299 := (by injection e299)
                  replace hx299_0 := (HB.out.cell (World.block_lt_of_cell? w _ hx299_0)).trans hx299_0
                  replace hx299_1 := (HB.out.cell (World.block_lt_of_cell? w _ hx299_1)).trans hx299_1
                  replace hx299_2 := (HB.out.cell (World.block_lt_of_cell? w _ hx299_2)).trans hx299_2
                  replace hx299_3 := (HB.out.cell (World.block_lt_of_cell? w _ hx299_3)).trans hx299_3
                  replace hx299_4 := (HB.out.cell (World.block_lt_of_cell? w _ hx299_4)).trans hx299_4
                  replace hx299_5 := (HB.out.cell (World.block_lt_of_cell? w _ hx299_5)).trans hx299_5
                  replace hx299_6 := (HB.out.cell (World.block_lt_of_cell? w _ hx299_6)).trans hx299_6
                  replace hx299_7 := (HB.out.cell (World.block_lt_of_cell? w _ hx299_7)).trans hx299_7
                  replace p299 := eq_true p299
                  replace q299 := eq_true q299
                  go_wp2_with (first | ((with_reducible refine qg (N := 12) rfl ?_); refine qd ?hg (N := 12) ?hd (cs := #[.int .i64 0, .int .i64 0, .int .i64 0, .int .i64 0, .int .i64 0, .int .i64 0, .int .i64 0, .int .i64 0]) (t := 57) ?hr ?_; (case hd => rfl); (case hg => rfl); (case hr => first | (go_simp; done) | (go_simp; rfl)); intro gb300 hg w30 hbox hb; have n0_ := Aside0.mk (Kd.qc (by (with_reducible repeat (first | apply Kd.qK | apply Kd.qJ | apply Kd.qO)); exact HO_297002.out) hb); have n1_ := Aside0.mk (bb BK296 hb); have n2_ := Aside0.mk (bb BK298 hb); have n3_ := Aside0.mk (qG bl hb); have n4_ := Aside0.mk (hbox); have n5_ := Aside0.mk ((gg hg)); have n6_ := Aside0.mk ((gg hg)); have n7_ := Aside0.mk ((nl BK296 hg)); have n8_ := Aside0.mk ((nr BK296 hg)); have n9_ := Aside0.mk ((nl BK298 hg)); have n10_ := Aside0.mk ((nr BK298 hg)); clear HO_297002; clear BK296; clear BK298; clear HB; have HO_297002 := n0_; have BK296 := n1_; have BK298 := n2_; have HB := n3_; have BK300 := n4_; have GW300 := n5_; have GE300 := n6_; have NB296_300 := n7_; have NB300_296 := n8_; have NB298_300 := n9_; have NB300_298 := n10_; clear n0_ n1_ n2_ n3_ n4_ n5_ n6_ n7_ n8_ n9_ n10_; clear hb hbox hg; have hnb31 := NB300_296.out; have hnc31 := NB296_300.out; have hnb32 := NB300_298.out; have hnc32 := NB298_300.out; have hcz33_0 := bc BK300 0; have hcz33_1 := bc BK300 1; have hcz33_2 := bc BK300 2; have hcz33_3 := bc BK300 3; have hcz33_4 := bc BK300 4; have hcz33_5 := bc BK300 5; have hcz33_6 := bc BK300 6; have hcz33_7 := bc BK300 7; have hfz33_0 := qA BK300.out 0; have hfz33_1 := qA BK300.out 1; have hfz33_2 := qA BK300.out 2; have hfz33_3 := qA BK300.out 3; have hfz33_4 := qA BK300.out 4; have hfz33_5 := qA BK300.out 5; have hfz33_6 := qA BK300.out 6; have hfz33_7 := qA BK300.out 7; have hnb34 := NB298_296.out; have hnc34 := NB296_298.out; have hcz35_0 := bc BK298 0; have hcz35_1 := bc BK298 1; have hcz35_2 := bc BK298 2; have hcz35_3 := bc BK298 3; have hcz35_4 := bc BK298 4; have hcz35_5 := bc BK298 5; have hcz35_6 := bc BK298 6; have hcz35_7 := bc BK298 7; have hfz35_0 := qA BK298.out 0; have hfz35_1 := qA BK298.out 1; have hfz35_2 := qA BK298.out 2; have hfz35_3 := qA BK298.out 3; have hfz35_4 := qA BK298.out 4; have hfz35_5 := qA BK298.out 5; have hfz35_6 := qA BK298.out 6; have hfz35_7 := qA BK298.out 7))
                  go_roundg k2
                  case measure => have := HK1.out; have := HK2.out; omega
                  case rel => exact ⟨(wrap64 (x8_2 + 1)), (wrap64 (x29_2 + 1)), (by first | rfl | (simp; done) | (simp [*]; done)), (by first | rfl | (simp; done) | (simp [*]; done)), H', ⟨by have := HK1.out; have := HK2.out; omega⟩, ⟨by (with_reducible repeat (first | apply Kd.qK | apply Kd.qJ | apply Kd.qO)); exact Kd.qGA (Kd.R_far (p := ⟨gb300, 7, none⟩) (Kd.R_far (p := ⟨gb300, 6, none⟩) (Kd.R_far (p := ⟨gb300, 5, none⟩) (Kd.R_far (p := ⟨gb300, 4, none⟩) (Kd.R_far (p := ⟨gb300, 3, none⟩) (Kd.R_far (p := ⟨gb300, 2, none⟩) (Kd.R_far (p := ⟨gb300, 1, none⟩) (Kd.R_far (p := ⟨gb300, 0, none⟩) (Kd.qvA HO_297002.out BK300.out (by decide)) (fun _ hk => hk.2) (.int .i64 ((qC l1 x29_2).f0))) (fun _ hk => hk.2) (.int .i64 ((qC l1 x29_2).f1))) (fun _ hk => hk.2) (.int .i64 ((qC l1 x29_2).f2.f0))) (fun _ hk => hk.2) (.int .i64 ((qC l1 x29_2).f2.f1))) (fun _ hk => hk.2) (.int .i64 ((qC l1 x29_2).f2.f2))) (fun _ hk => hk.2) (.int .i64 ((qC l1 x29_2).f2.f3))) (fun _ hk => hk.2) (.int .i64 ((qC l1 x29_2).f2.f4))) (fun _ hk => hk.2) (.int .i64 ((qC l1 x29_2).f2.f5))) (fun _ hk => trivial)⟩, ⟨by (with_reducible repeat (first | refine qE ?_ _ | refine qF ?_ | refine qD ?_ _)); refine qV ?_ NB296_300.out _; (with_reducible repeat (first | refine qE ?_ _ | refine qF ?_ | refine qD ?_ _)); refine qV ?_ NB296_300.out _; (with_reducible repeat (first | refine qE ?_ _ | refine qF ?_ | refine qD ?_ _)); refine qV ?_ NB296_300.out _; (with_reducible repeat (first | refine qE ?_ _ | refine qF ?_ | refine qD ?_ _)); refine qV ?_ NB296_300.out _; (with_reducible repeat (first | refine qE ?_ _ | refine qF ?_ | refine qD ?_ _)); refine qV ?_ NB296_300.out _; (with_reducible repeat (first | refine qE ?_ _ | refine qF ?_ | refine qD ?_ _)); refine qV ?_ NB296_300.out _; (with_reducible repeat (first | refine qE ?_ _ | refine qF ?_ | refine qD ?_ _)); refine qV ?_ NB296_300.out _; (with_reducible repeat (first | refine qE ?_ _ | refine qF ?_ | refine qD ?_ _)); refine qV ?_ NB296_300.out _; (with_reducible repeat (first | refine qE ?_ _ | refine qF ?_ | refine qD ?_ _)); exact BK296.out⟩, ⟨by (with_reducible repeat (first | refine qE ?_ _ | refine qF ?_ | refine qD ?_ _)); refine qV ?_ NB298_300.out _; (with_reducible repeat (first | refine qE ?_ _ | refine qF ?_ | refine qD ?_ _)); refine qV ?_ NB298_300.out _; (with_reducible repeat (first | refine qE ?_ _ | refine qF ?_ | refine qD ?_ _)); refine qV ?_ NB298_300.out _; (with_reducible repeat (first | refine qE ?_ _ | refine qF ?_ | refine qD ?_ _)); refine qV ?_ NB298_300.out _; (with_reducible repeat (first | refine qE ?_ _ | refine qF ?_ | refine qD ?_ _)); refine qV ?_ NB298_300.out _; (with_reducible repeat (first | refine qE ?_ _ | refine qF ?_ | refine qD ?_ _)); refine qV ?_ NB298_300.out _; (with_reducible repeat (first | refine qE ?_ _ | refine qF ?_ | refine qD ?_ _)); refine qV ?_ NB298_300.out _; (with_reducible repeat (first | refine qE ?_ _ | refine qF ?_ | refine qD ?_ _)); refine qV ?_ NB298_300.out _; (with_reducible repeat (first | refine qE ?_ _ | refine qF ?_ | refine qD ?_ _)); exact BK298.out⟩, ⟨bl⟩⟩
                 ·rw [if_neg c29] at H
                  have c29b0 : (((qC l1 x23_1).f2.f3) == ((qC l1 x29_2).f2.f1)) = false := beq_eq_false_iff_ne.mpr c29
                  have c29b1 : (((qC l1 x23_1).f2.f3) != ((qC l1 x29_2).f2.f1)) = true := bne_iff_ne.mpr c29
                  have H' := Aside0.mk H
                  clear H
                  have p299 : 0 ≤ (x29_2 : Int) := of_decide_eq_true (by first | (with_reducible assumption) | assumption)
                  have q299 : x29_2 < (l1.length : Int) := of_decide_eq_true (by first | (with_reducible assumption) | assumption)
                  obtain ⟨ad299, e299, hx299_0, hx299_1, hx299_2, hx299_3, hx299_4, hx299_5, hx299_6, hx299_7⟩ := qgA HR1.out x29_2 p299 q299
                  obtain rfl : ad297 = ad299 := (by injection e299)
                  replace hx299_0 := (HB.out.cell (World.block_lt_of_cell? w _ hx299_0)).trans hx299_0
                  replace hx299_1 := (HB.out.cell (World.block_lt_of_cell? w _ hx299_1)).trans hx299_1
                  replace hx299_2 := (HB.out.cell (World.block_lt_of_cell? w _ hx299_2)).trans hx299_2
                  replace hx299_3 := (HB.out.cell (World.block_lt_of_cell? w _ hx299_3)).trans hx299_3
                  replace hx299_4 := (HB.out.cell (World.block_lt_of_cell? w _ hx299_4)).trans hx299_4
                  replace hx299_5 := (HB.out.cell (World.block_lt_of_cell? w _ hx299_5)).trans hx299_5
                  replace hx299_6 := (HB.out.cell (World.block_lt_of_cell? w _ hx299_6)).trans hx299_6
                  replace hx299_7 := (HB.out.cell (World.block_lt_of_cell? w _ hx299_7)).trans hx299_7
                  replace p299 := eq_true p299
                  replace q299 := eq_true q299
                  go_wp2_with (first | ((with_reducible refine qg (N := 12) rfl ?_); refine qd ?hg (N := 12) ?hd (cs := #[.int .i64 0, .int .i64 0, .int .i64 0, .int .i64 0, .int .i64 0, .int .i64 0, .int .i64 0, .int .i64 0]) (t := 57) ?hr ?_; (case hd => rfl); (case hg => rfl); (case hr => first | (go_simp; done) | (go_simp; rfl)); intro gb300 hg w36 hbox hb; have n0_ := Aside0.mk (Kd.qc (by (with_reducible repeat (first | apply Kd.qK | apply Kd.qJ | apply Kd.qO)); exact HO_297002.out) hb); have n1_ := Aside0.mk (bb BK296 hb); have n2_ := Aside0.mk (bb BK298 hb); have n3_ := Aside0.mk (qG bl hb); have n4_ := Aside0.mk (hbox); have n5_ := Aside0.mk ((gg hg)); have n6_ := Aside0.mk ((gg hg)); have n7_ := Aside0.mk ((nl BK296 hg)); have n8_ := Aside0.mk ((nr BK296 hg)); have n9_ := Aside0.mk ((nl BK298 hg)); have n10_ := Aside0.mk ((nr BK298 hg)); clear HO_297002; clear BK296; clear BK298; clear HB; have HO_297002 := n0_; have BK296 := n1_; have BK298 := n2_; have HB := n3_; have BK300 := n4_; have GW300 := n5_; have GE300 := n6_; have NB296_300 := n7_; have NB300_296 := n8_; have NB298_300 := n9_; have NB300_298 := n10_; clear n0_ n1_ n2_ n3_ n4_ n5_ n6_ n7_ n8_ n9_ n10_; clear hb hbox hg; have hnb37 := NB300_296.out; have hnc37 := NB296_300.out; have hnb38 := NB300_298.out; have hnc38 := NB298_300.out; have hcz39_0 := bc BK300 0; have hcz39_1 := bc BK300 1; have hcz39_2 := bc BK300 2; have hcz39_3 := bc BK300 3; have hcz39_4 := bc BK300 4; have hcz39_5 := bc BK300 5; have hcz39_6 := bc BK300 6; have hcz39_7 := bc BK300 7; have hfz39_0 := qA BK300.out 0; have hfz39_1 := qA BK300.out 1; have hfz39_2 := qA BK300.out 2; have hfz39_3 := qA BK300.out 3; have hfz39_4 := qA BK300.out 4; have hfz39_5 := qA BK300.out 5; have hfz39_6 := qA BK300.out 6; have hfz39_7 := qA BK300.out 7; have hnb40 := NB298_296.out; have hnc40 := NB296_298.out; have hcz41_0 := bc BK298 0; have hcz41_1 := bc BK298 1; have hcz41_2 := bc BK298 2; have hcz41_3 := bc BK298 3; have hcz41_4 := bc BK298 4; have hcz41_5 := bc BK298 5; have hcz41_6 := bc BK298 6; have hcz41_7 := bc BK298 7; have hfz41_0 := qA BK298.out 0; have hfz41_1 := qA BK298.out 1; have hfz41_2 := qA BK298.out 2; have hfz41_3 := qA BK298.out 3; have hfz41_4 := qA BK298.out 4; have hfz41_5 := qA BK298.out 5; have hfz41_6 := qA BK298.out 6; have hfz41_7 := qA BK298.out 7))
                  go_roundg k2
                  case measure => have := HK1.out; have := HK2.out; omega
                  case rel => exact ⟨(x8_2), (wrap64 (x29_2 + 1)), (by first | rfl | (simp; done) | (simp [*]; done)), (by first | rfl | (simp; done) | (simp [*]; done)), H', ⟨by have := HK1.out; have := HK2.out; omega⟩, ⟨by (with_reducible repeat (first | apply Kd.qK | apply Kd.qJ | apply Kd.qO)); exact Kd.qGA (Kd.R_far (p := ⟨gb300, 7, none⟩) (Kd.R_far (p := ⟨gb300, 6, none⟩) (Kd.R_far (p := ⟨gb300, 5, none⟩) (Kd.R_far (p := ⟨gb300, 4, none⟩) (Kd.R_far (p := ⟨gb300, 3, none⟩) (Kd.R_far (p := ⟨gb300, 2, none⟩) (Kd.R_far (p := ⟨gb300, 1, none⟩) (Kd.R_far (p := ⟨gb300, 0, none⟩) (Kd.qvA HO_297002.out BK300.out (by decide)) (fun _ hk => hk.2) (.int .i64 ((qC l1 x29_2).f0))) (fun _ hk => hk.2) (.int .i64 ((qC l1 x29_2).f1))) (fun _ hk => hk.2) (.int .i64 ((qC l1 x29_2).f2.f0))) (fun _ hk => hk.2) (.int .i64 ((qC l1 x29_2).f2.f1))) (fun _ hk => hk.2) (.int .i64 ((qC l1 x29_2).f2.f2))) (fun _ hk => hk.2) (.int .i64 ((qC l1 x29_2).f2.f3))) (fun _ hk => hk.2) (.int .i64 ((qC l1 x29_2).f2.f4))) (fun _ hk => hk.2) (.int .i64 ((qC l1 x29_2).f2.f5))) (fun _ hk => trivial)⟩, ⟨by (with_reducible repeat (first | refine qE ?_ _ | refine qF ?_ | refine qD ?_ _)); refine qV ?_ NB296_300.out _; (with_reducible repeat (first | refine qE ?_ _ | refine qF ?_ | refine qD ?_ _)); refine qV ?_ NB296_300.out _; (with_reducible repeat (first | refine qE ?_ _ | refine qF ?_ | refine qD ?_ _)); refine qV ?_ NB296_300.out _; (with_reducible repeat (first | refine qE ?_ _ | refine qF ?_ | refine qD ?_ _)); refine qV ?_ NB296_300.out _; (with_reducible repeat (first | refine qE ?_ _ | refine qF ?_ | refine qD ?_ _)); refine qV ?_ NB296_300.out _; (with_reducible repeat (first | refine qE ?_ _ | refine qF ?_ | refine qD ?_ _)); refine qV ?_ NB296_300.out _; (with_reducible repeat (first | refine qE ?_ _ | refine qF ?_ | refine qD ?_ _)); refine qV ?_ NB296_300.out _; (with_reducible repeat (first | refine qE ?_ _ | refine qF ?_ | refine qD ?_ _)); refine qV ?_ NB296_300.out _; (with_reducible repeat (first | refine qE ?_ _ | refine qF ?_ | refine qD ?_ _)); exact BK296.out⟩, ⟨by (with_reducible repeat (first | refine qE ?_ _ | refine qF ?_ | refine qD ?_ _)); refine qV ?_ NB298_300.out _; (with_reducible repeat (first | refine qE ?_ _ | refine qF ?_ | refine qD ?_ _)); refine qV ?_ NB298_300.out _; (with_reducible repeat (first | refine qE ?_ _ | refine qF ?_ | refine qD ?_ _)); refine qV ?_ NB298_300.out _; (with_reducible repeat (first | refine qE ?_ _ | refine qF ?_ | refine qD ?_ _)); refine qV ?_ NB298_300.out _; (with_reducible repeat (first | refine qE ?_ _ | refine qF ?_ | refine qD ?_ _)); refine qV ?_ NB298_300.out _; (with_reducible repeat (first | refine qE ?_ _ | refine qF ?_ | refine qD ?_ _)); refine qV ?_ NB298_300.out _; (with_reducible repeat (first | refine qE ?_ _ | refine qF ?_ | refine qD ?_ _)); refine qV ?_ NB298_300.out _; (with_reducible repeat (first | refine qE ?_ _ | refine qF ?_ | refine qD ?_ _)); refine qV ?_ NB298_300.out _; (with_reducible repeat (first | refine qE ?_ _ | refine qF ?_ | refine qD ?_ _)); exact BK298.out⟩, ⟨bl⟩⟩
                ·rw [if_neg c28] at H
                 have c28b0 : (((qC l1 x29_2).f1) == (wrap64 (((qC l1 x23_1).f1) + 1))) = false := beq_eq_false_iff_ne.mpr c28
                 have c28b1 : (((qC l1 x29_2).f1) != (wrap64 (((qC l1 x23_1).f1) + 1))) = true := bne_iff_ne.mpr c28
                 have H' := Aside0.mk H
                 clear H
                 have p299 : 0 ≤ (x29_2 : Int) := of_decide_eq_true (by first | (with_reducible assumption) | assumption)
                 have q299 : x29_2 < (l1.length : Int) := of_decide_eq_true (by first | (with_reducible assumption) | assumption)
                 obtain ⟨ad299, e299, hx299_0, hx299_1, hx299_2, hx299_3, hx299_4, hx299_5, hx299_6, hx299_7⟩ := qgA HR1.out x29_2 p299 q299
                 obtain rfl : ad297 = ad299 := (by injection e299)
                 replace hx299_0 := (HB.out.cell (World.block_lt_of_cell? w _ hx299_0)).trans hx299_0
                 replace hx299_1 := (HB.out.cell (World.block_lt_of_cell? w _ hx299_1)).trans hx299_1
                 replace hx299_2 := (HB.out.cell (World.block_lt_of_cell? w _ hx299_2)).trans hx299_2
                 replace hx299_3 := (HB.out.cell (World.block_lt_of_cell? w _ hx299_3)).trans hx299_3
                 replace hx299_4 := (HB.out.cell (World.block_lt_of_cell? w _ hx299_4)).trans hx299_4
                 replace hx299_5 := (HB.out.cell (World.block_lt_of_cell? w _ hx299_5)).trans hx299_5
                 replace hx299_6 := (HB.out.cell (World.block_lt_of_cell? w _ hx299_6)).trans hx299_6
                 replace hx299_7 := (HB.out.cell (World.block_lt_of_cell? w _ hx299_7)).trans hx299_7
                 replace p299 := eq_true p299
                 replace q299 := eq_true q299
                 go_wp2_with (first | ((with_reducible refine qg (N := 12) rfl ?_); refine qd ?hg (N := 12) ?hd (cs := #[.int .i64 0, .int .i64 0, .int .i64 0, .int .i64 0, .int .i64 0, .int .i64 0, .int .i64 0, .int .i64 0]) (t := 57) ?hr ?_; (case hd => rfl); (case hg => rfl); (case hr => first | (go_simp; done) | (go_simp; rfl)); intro gb300 hg w42 hbox hb; have n0_ := Aside0.mk (Kd.qc (by (with_reducible repeat (first | apply Kd.qK | apply Kd.qJ | apply Kd.qO)); exact HO_297002.out) hb); have n1_ := Aside0.mk (bb BK296 hb); have n2_ := Aside0.mk (bb BK298 hb); have n3_ := Aside0.mk (qG bl hb); have n4_ := Aside0.mk (hbox); have n5_ := Aside0.mk ((gg hg)); have n6_ := Aside0.mk ((gg hg)); have n7_ := Aside0.mk ((nl BK296 hg)); have n8_ := Aside0.mk ((nr BK296 hg)); have n9_ := Aside0.mk ((nl BK298 hg)); have n10_ := Aside0.mk ((nr BK298 hg)); clear HO_297002; clear BK296; clear BK298; clear HB; have HO_297002 := n0_; have BK296 := n1_; have BK298 := n2_; have HB := n3_; have BK300 := n4_; have GW300 := n5_; have GE300 := n6_; have NB296_300 := n7_; have NB300_296 := n8_; have NB298_300 := n9_; have NB300_298 := n10_; clear n0_ n1_ n2_ n3_ n4_ n5_ n6_ n7_ n8_ n9_ n10_; clear hb hbox hg; have hnb43 := NB300_296.out; have hnc43 := NB296_300.out; have hnb44 := NB300_298.out; have hnc44 := NB298_300.out; have hcz45_0 := bc BK300 0; have hcz45_1 := bc BK300 1; have hcz45_2 := bc BK300 2; have hcz45_3 := bc BK300 3; have hcz45_4 := bc BK300 4; have hcz45_5 := bc BK300 5; have hcz45_6 := bc BK300 6; have hcz45_7 := bc BK300 7; have hfz45_0 := qA BK300.out 0; have hfz45_1 := qA BK300.out 1; have hfz45_2 := qA BK300.out 2; have hfz45_3 := qA BK300.out 3; have hfz45_4 := qA BK300.out 4; have hfz45_5 := qA BK300.out 5; have hfz45_6 := qA BK300.out 6; have hfz45_7 := qA BK300.out 7; have hnb46 := NB298_296.out; have hnc46 := NB296_298.out; have hcz47_0 := bc BK298 0; have hcz47_1 := bc BK298 1; have hcz47_2 := bc BK298 2; have hcz47_3 := bc BK298 3; have hcz47_4 := bc BK298 4; have hcz47_5 := bc BK298 5; have hcz47_6 := bc BK298 6; have hcz47_7 := bc BK298 7; have hfz47_0 := qA BK298.out 0; have hfz47_1 := qA BK298.out 1; have hfz47_2 := qA BK298.out 2; have hfz47_3 := qA BK298.out 3; have hfz47_4 := qA BK298.out 4; have hfz47_5 := qA BK298.out 5; have hfz47_6 := qA BK298.out 6; have hfz47_7 := qA BK298.out 7))
                 go_roundg k2
                 case measure => have := HK1.out; have := HK2.out; omega
                 case rel => exact ⟨(x8_2), (wrap64 (x29_2 + 1)), (by first | rfl | (simp; done) | (simp [*]; done)), (by first | rfl | (simp; done) | (simp [*]; done)), H', ⟨by have := HK1.out; have := HK2.out; omega⟩, ⟨by (with_reducible repeat (first | apply Kd.qK | apply Kd.qJ | apply Kd.qO)); exact Kd.qGA (Kd.R_far (p := ⟨gb300, 7, none⟩) (Kd.R_far (p := ⟨gb300, 6, none⟩) (Kd.R_far (p := ⟨gb300, 5, none⟩) (Kd.R_far (p := ⟨gb300, 4, none⟩) (Kd.R_far (p := ⟨gb300, 3, none⟩) (Kd.R_far (p := ⟨gb300, 2, none⟩) (Kd.R_far (p := ⟨gb300, 1, none⟩) (Kd.R_far (p := ⟨gb300, 0, none⟩) (Kd.qvA HO_297002.out BK300.out (by decide)) (fun _ hk => hk.2) (.int .i64 ((qC l1 x29_2).f0))) (fun _ hk => hk.2) (.int .i64 ((qC l1 x29_2).f1))) (fun _ hk => hk.2) (.int .i64 ((qC l1 x29_2).f2.f0))) (fun _ hk => hk.2) (.int .i64 ((qC l1 x29_2).f2.f1))) (fun _ hk => hk.2) (.int .i64 ((qC l1 x29_2).f2.f2))) (fun _ hk => hk.2) (.int .i64 ((qC l1 x29_2).f2.f3))) (fun _ hk => hk.2) (.int .i64 ((qC l1 x29_2).f2.f4))) (fun _ hk => hk.2) (.int .i64 ((qC l1 x29_2).f2.f5))) (fun _ hk => trivial)⟩, ⟨by (with_reducible repeat (first | refine qE ?_ _ | refine qF ?_ | refine qD ?_ _)); refine qV ?_ NB296_300.out _; (with_reducible repeat (first | refine qE ?_ _ | refine qF ?_ | refine qD ?_ _)); refine qV ?_ NB296_300.out _; (with_reducible repeat (first | refine qE ?_ _ | refine qF ?_ | refine qD ?_ _)); refine qV ?_ NB296_300.out _; (with_reducible repeat (first | refine qE ?_ _ | refine qF ?_ | refine qD ?_ _)); refine qV ?_ NB296_300.out _; (with_reducible repeat (first | refine qE ?_ _ | refine qF ?_ | refine qD ?_ _)); refine qV ?_ NB296_300.out _; (with_reducible repeat (first | refine qE ?_ _ | refine qF ?_ | refine qD ?_ _)); refine qV ?_ NB296_300.out _; (with_reducible repeat (first | refine qE ?_ _ | refine qF ?_ | refine qD ?_ _)); refine qV ?_ NB296_300.out _; (with_reducible repeat (first | refine qE ?_ _ | refine qF ?_ | refine qD ?_ _)); refine qV ?_ NB296_300.out _; (with_reducible repeat (first | refine qE ?_ _ | refine qF ?_ | refine qD ?_ _)); exact BK296.out⟩, ⟨by (with_reducible repeat (first | refine qE ?_ _ | refine qF ?_ | refine qD ?_ _)); refine qV ?_ NB298_300.out _; (with_reducible repeat (first | refine qE ?_ _ | refine qF ?_ | refine qD ?_ _)); refine qV ?_ NB298_300.out _; (with_reducible repeat (first | refine qE ?_ _ | refine qF ?_ | refine qD ?_ _)); refine qV ?_ NB298_300.out _; (with_reducible repeat (first | refine qE ?_ _ | refine qF ?_ | refine qD ?_ _)); refine qV ?_ NB298_300.out _; (with_reducible repeat (first | refine qE ?_ _ | refine qF ?_ | refine qD ?_ _)); refine qV ?_ NB298_300.out _; (with_reducible repeat (first | refine qE ?_ _ | refine qF ?_ | refine qD ?_ _)); refine qV ?_ NB298_300.out _; (with_reducible repeat (first | refine qE ?_ _ | refine qF ?_ | refine qD ?_ _)); refine qV ?_ NB298_300.out _; (with_reducible repeat (first | refine qE ?_ _ | refine qF ?_ | refine qD ?_ _)); refine qV ?_ NB298_300.out _; (with_reducible repeat (first | refine qE ?_ _ | refine qF ?_ | refine qD ?_ _)); exact BK298.out⟩, ⟨bl⟩⟩
               ·rw [if_neg c27] at H
                have c27b0 : (((qC l1 x29_2).f0) == ((qC l1 x23_1).f0)) = false := beq_eq_false_iff_ne.mpr c27
                have c27b1 : (((qC l1 x29_2).f0) != ((qC l1 x23_1).f0)) = true := bne_iff_ne.mpr c27
                have H' := Aside0.mk H
                clear H
                have p299 : 0 ≤ (x29_2 : Int) := of_decide_eq_true (by first | (with_reducible assumption) | assumption)
                have q299 : x29_2 < (l1.length : Int) := of_decide_eq_true (by first | (with_reducible assumption) | assumption)
                obtain ⟨ad299, e299, hx299_0, hx299_1, hx299_2, hx299_3, hx299_4, hx299_5, hx299_6, hx299_7⟩ := qgA HR1.out x29_2 p299 q299
                obtain rfl : ad297 = ad299 := (by injection e299)
                replace hx299_0 := (HB.out.cell (World.block_lt_of_cell? w _ hx299_0)).trans hx299_0
                replace hx299_1 := (HB.out.cell (World.block_lt_of_cell? w _ hx299_1)).trans hx299_1
                replace hx299_2 := (HB.out.cell (World.block_lt_of_cell? w _ hx299_2)).trans hx299_2
                replace hx299_3 := (HB.out.cell (World.block_lt_of_cell? w _ hx299_3)).trans hx299_3
                replace hx299_4 := (HB.out.cell (World.block_lt_of_cell? w _ hx299_4)).trans hx299_4
                replace hx299_5 := (HB.out.cell (World.block_lt_of_cell? w _ hx299_5)).trans hx299_5
                replace hx299_6 := (HB.out.cell (World.block_lt_of_cell? w _ hx299_6)).trans hx299_6
                replace hx299_7 := (HB.out.cell (World.block_lt_of_cell? w _ hx299_7)).trans hx299_7
                replace p299 := eq_true p299
                replace q299 := eq_true q299
                go_wp2_with (first | ((with_reducible refine qg (N := 12) rfl ?_); refine qd ?hg (N := 12) ?hd (cs := #[.int .i64 0, .int .i64 0, .int .i64 0, .int .i64 0, .int .i64 0, .int .i64 0, .int .i64 0, .int .i64 0]) (t := 57) ?hr ?_; (case hd => rfl); (case hg => rfl); (case hr => first | (go_simp; done) | (go_simp; rfl)); intro gb300 hg w48 hbox hb; have n0_ := Aside0.mk (Kd.qc (by (with_reducible repeat (first | apply Kd.qK | apply Kd.qJ | apply Kd.qO)); exact HO_297002.out) hb); have n1_ := Aside0.mk (bb BK296 hb); have n2_ := Aside0.mk (bb BK298 hb); have n3_ := Aside0.mk (qG bl hb); have n4_ := Aside0.mk (hbox); have n5_ := Aside0.mk ((gg hg)); have n6_ := Aside0.mk ((gg hg)); have n7_ := Aside0.mk ((nl BK296 hg)); have n8_ := Aside0.mk ((nr BK296 hg)); have n9_ := Aside0.mk ((nl BK298 hg)); have n10_ := Aside0.mk ((nr BK298 hg)); clear HO_297002; clear BK296; clear BK298; clear HB; have HO_297002 := n0_; have BK296 := n1_; have BK298 := n2_; have HB := n3_; have BK300 := n4_; have GW300 := n5_; have GE300 := n6_; have NB296_300 := n7_; have NB300_296 := n8_; have NB298_300 := n9_; have NB300_298 := n10_; clear n0_ n1_ n2_ n3_ n4_ n5_ n6_ n7_ n8_ n9_ n10_; clear hb hbox hg; have hnb49 := NB300_296.out; have hnc49 := NB296_300.out; have hnb50 := NB300_298.out; have hnc50 := NB298_300.out; have hcz51_0 := bc BK300 0; have hcz51_1 := bc BK300 1; have hcz51_2 := bc BK300 2; have hcz51_3 := bc BK300 3; have hcz51_4 := bc BK300 4; have hcz51_5 := bc BK300 5; have hcz51_6 := bc BK300 6; have hcz51_7 := bc BK300 7; have hfz51_0 := qA BK300.out 0; have hfz51_1 := qA BK300.out 1; have hfz51_2 := qA BK300.out 2; have hfz51_3 := qA BK300.out 3; have hfz51_4 := qA BK300.out 4; have hfz51_5 := qA BK300.out 5; have hfz51_6 := qA BK300.out 6; have hfz51_7 := qA BK300.out 7; have hnb52 := NB298_296.out; have hnc52 := NB296_298.out; have hcz53_0 := bc BK298 0; have hcz53_1 := bc BK298 1; have hcz53_2 := bc BK298 2; have hcz53_3 := bc BK298 3; have hcz53_4 := bc BK298 4; have hcz53_5 := bc BK298 5; have hcz53_6 := bc BK298 6; have hcz53_7 := bc BK298 7; have hfz53_0 := qA BK298.out 0; have hfz53_1 := qA BK298.out 1; have hfz53_2 := qA BK298.out 2; have hfz53_3 := qA BK298.out 3; have hfz53_4 := qA BK298.out 4; have hfz53_5 := qA BK298.out 5; have hfz53_6 := qA BK298.out 6; have hfz53_7 := qA BK298.out 7))
                go_roundg k2
                case measure => have := HK1.out; have := HK2.out; omega
                case rel => exact ⟨(x8_2), (wrap64 (x29_2 + 1)), (by first | rfl | (simp; done) | (simp [*]; done)), (by first | rfl | (simp; done) | (simp [*]; done)), H', ⟨by have := HK1.out; have := HK2.out; omega⟩, ⟨by (with_reducible repeat (first | apply Kd.qK | apply Kd.qJ | apply Kd.qO)); exact Kd.qGA (Kd.R_far (p := ⟨gb300, 7, none⟩) (Kd.R_far (p := ⟨gb300, 6, none⟩) (Kd.R_far (p := ⟨gb300, 5, none⟩) (Kd.R_far (p := ⟨gb300, 4, none⟩) (Kd.R_far (p := ⟨gb300, 3, none⟩) (Kd.R_far (p := ⟨gb300, 2, none⟩) (Kd.R_far (p := ⟨gb300, 1, none⟩) (Kd.R_far (p := ⟨gb300, 0, none⟩) (Kd.qvA HO_297002.out BK300.out (by decide)) (fun _ hk => hk.2) (.int .i64 ((qC l1 x29_2).f0))) (fun _ hk => hk.2) (.int .i64 ((qC l1 x29_2).f1))) (fun _ hk => hk.2) (.int .i64 ((qC l1 x29_2).f2.f0))) (fun _ hk => hk.2) (.int .i64 ((qC l1 x29_2).f2.f1))) (fun _ hk => hk.2) (.int .i64 ((qC l1 x29_2).f2.f2))) (fun _ hk => hk.2) (.int .i64 ((qC l1 x29_2).f2.f3))) (fun _ hk => hk.2) (.int .i64 ((qC l1 x29_2).f2.f4))) (fun _ hk => hk.2) (.int .i64 ((qC l1 x29_2).f2.f5))) (fun _ hk => trivial)⟩, ⟨by (with_reducible repeat (first | refine qE ?_ _ | refine qF ?_ | refine qD ?_ _)); refine qV ?_ NB296_300.out _; (with_reducible repeat (first | refine qE ?_ _ | refine qF ?_ | refine qD ?_ _)); refine qV ?_ NB296_300.out _; (with_reducible repeat (first | refine qE ?_ _ | refine qF ?_ | refine qD ?_ _)); refine qV ?_ NB296_300.out _; (with_reducible repeat (first | refine qE ?_ _ | refine qF ?_ | refine qD ?_ _)); refine qV ?_ NB296_300.out _; (with_reducible repeat (first | refine qE ?_ _ | refine qF ?_ | refine qD ?_ _)); refine qV ?_ NB296_300.out _; (with_reducible repeat (first | refine qE ?_ _ | refine qF ?_ | refine qD ?_ _)); refine qV ?_ NB296_300.out _; (with_reducible repeat (first | refine qE ?_ _ | refine qF ?_ | refine qD ?_ _)); refine qV ?_ NB296_300.out _; (with_reducible repeat (first | refine qE ?_ _ | refine qF ?_ | refine qD ?_ _)); refine qV ?_ NB296_300.out _; (with_reducible repeat (first | refine qE ?_ _ | refine qF ?_ | refine qD ?_ _)); exact BK296.out⟩, ⟨by (with_reducible repeat (first | refine qE ?_ _ | refine qF ?_ | refine qD ?_ _)); refine qV ?_ NB298_300.out _; (with_reducible repeat (first | refine qE ?_ _ | refine qF ?_ | refine qD ?_ _)); refine qV ?_ NB298_300.out _; (with_reducible repeat (first | refine qE ?_ _ | refine qF ?_ | refine qD ?_ _)); refine qV ?_ NB298_300.out _; (with_reducible repeat (first | refine qE ?_ _ | refine qF ?_ | refine qD ?_ _)); refine qV ?_ NB298_300.out _; (with_reducible repeat (first | refine qE ?_ _ | refine qF ?_ | refine qD ?_ _)); refine qV ?_ NB298_300.out _; (with_reducible repeat (first | refine qE ?_ _ | refine qF ?_ | refine qD ?_ _)); refine qV ?_ NB298_300.out _; (with_reducible repeat (first | refine qE ?_ _ | refine qF ?_ | refine qD ?_ _)); refine qV ?_ NB298_300.out _; (with_reducible repeat (first | refine qE ?_ _ | refine qF ?_ | refine qD ?_ _)); refine qV ?_ NB298_300.out _; (with_reducible repeat (first | refine qE ?_ _ | refine qF ?_ | refine qD ?_ _)); exact BK298.out⟩, ⟨bl⟩⟩
             ·rw [if_neg c19] at H
              have c19b0 : (((qC l1 x29_2).f1) == ((qC l1 x23_1).f1)) = false := beq_eq_false_iff_ne.mpr c19
              have c19b1 : (((qC l1 x29_2).f1) != ((qC l1 x23_1).f1)) = true := bne_iff_ne.mpr c19
              by_cases c54 : ((qC l1 x29_2).f0) = ((qC l1 x23_1).f0)
              ·rw [if_pos c54] at H
               have c54b0 : (((qC l1 x29_2).f0) == ((qC l1 x23_1).f0)) = true := beq_iff_eq.mpr c54
               have c54b1 : (((qC l1 x29_2).f0) != ((qC l1 x23_1).f0)) = false := bne_eq_false_iff_eq.mpr c54
               clear c54
               by_cases c55 : ((qC l1 x29_2).f1) = (wrap64 (((qC l1 x23_1).f1) + 1))
               ·rw [if_pos c55] at H
                have c55b0 : (((qC l1 x29_2).f1) == (wrap64 (((qC l1 x23_1).f1) + 1))) = true := beq_iff_eq.mpr c55
                have c55b1 : (((qC l1 x29_2).f1) != (wrap64 (((qC l1 x23_1).f1) + 1))) = false := bne_eq_false_iff_eq.mpr c55
                clear c55
                by_cases c56 : ((qC l1 x23_1).f2.f3) = ((qC l1 x29_2).f2.f1)
                ·rw [if_pos c56] at H
                 have c56b0 : (((qC l1 x23_1).f2.f3) == ((qC l1 x29_2).f2.f1)) = true := beq_iff_eq.mpr c56
                 have c56b1 : (((qC l1 x23_1).f2.f3) != ((qC l1 x29_2).f2.f1)) = false := bne_eq_false_iff_eq.mpr c56
                 clear c56
                 have H' := Aside0.mk H
                 clear H
                 have p299 : 0 ≤ (x29_2 : Int) := of_decide_eq_true (by first | (with_reducible assumption) | assumption)
                 have q299 : x29_2 < (l1.length : Int) := of_decide_eq_true (by first | (with_reducible assumption) | assumption)
                 obtain ⟨ad299, e299, hx299_0, hx299_1, hx299_2, hx299_3, hx299_4, hx299_5, hx299_6, hx299_7⟩ := qgA HR1.out x29_2 p299 q299
                 obtain rfl : ad297 = ad299 := (by injection e299)
                 replace hx299_0 := (HB.out.cell (World.block_lt_of_cell? w _ hx299_0)).trans hx299_0
                 replace hx299_1 := (HB.out.cell (World.block_lt_of_cell? w _ hx299_1)).trans hx299_1
                 replace hx299_2 := (HB.out.cell (World.block_lt_of_cell? w _ hx299_2)).trans hx299_2
                 replace hx299_3 := (HB.out.cell (World.block_lt_of_cell? w _ hx299_3)).trans hx299_3
                 replace hx299_4 := (HB.out.cell (World.block_lt_of_cell? w _ hx299_4)).trans hx299_4
                 replace hx299_5 := (HB.out.cell (World.block_lt_of_cell? w _ hx299_5)).trans hx299_5
                 replace hx299_6 := (HB.out.cell (World.block_lt_of_cell? w _ hx299_6)).trans hx299_6
                 replace hx299_7 := (HB.out.cell (World.block_lt_of_cell? w _ hx299_7)).trans hx299_7
                 replace p299 := eq_true p299
                 replace q299 := eq_true q299
                 go_wp2_with (first | ((with_reducible refine qg (N := 12) rfl ?_); refine qd ?hg (N := 12) ?hd (cs := #[.int .i64 0, .int .i64 0, .int .i64 0, .int .i64 0, .int .i64 0, .int .i64 0, .int .i64 0, .int .i64 0]) (t := 57) ?hr ?_; (case hd => rfl); (case hg => rfl); (case hr => first | (go_simp; done) | (go_simp; rfl)); intro gb300 hg w57 hbox hb; have n0_ := Aside0.mk (Kd.qc (by (with_reducible repeat (first | apply Kd.qK | apply Kd.qJ | apply Kd.qO)); exact HO_297002.out) hb); have n1_ := Aside0.mk (bb BK296 hb); have n2_ := Aside0.mk (bb BK298 hb); have n3_ := Aside0.mk (qG bl hb); have n4_ := Aside0.mk (hbox); have n5_ := Aside0.mk ((gg hg)); have n6_ := Aside0.mk ((gg hg)); have n7_ := Aside0.mk ((nl BK296 hg)); have n8_ := Aside0.mk ((nr BK296 hg)); have n9_ := Aside0.mk ((nl BK298 hg)); have n10_ := Aside0.mk ((nr BK298 hg)); clear HO_297002; clear BK296; clear BK298; clear HB; have HO_297002 := n0_; have BK296 := n1_; have BK298 := n2_; have HB := n3_; have BK300 := n4_; have GW300 := n5_; have GE300 := n6_; have NB296_300 := n7_; have NB300_296 := n8_; have NB298_300 := n9_; have NB300_298 := n10_; clear n0_ n1_ n2_ n3_ n4_ n5_ n6_ n7_ n8_ n9_ n10_; clear hb hbox hg; have hnb58 := NB300_296.out; have hnc58 := NB296_300.out; have hnb59 := NB300_298.out; have hnc59 := NB298_300.out; have hcz60_0 := bc BK300 0; have hcz60_1 := bc BK300 1; have hcz60_2 := bc BK300 2; have hcz60_3 := bc BK300 3; have hcz60_4 := bc BK300 4; have hcz60_5 := bc BK300 5; have hcz60_6 := bc BK300 6; have hcz60_7 := bc BK300 7; have hfz60_0 := qA BK300.out 0; have hfz60_1 := qA BK300.out 1; have hfz60_2 := qA BK300.out 2; have hfz60_3 := qA BK300.out 3; have hfz60_4 := qA BK300.out 4; have hfz60_5 := qA BK300.out 5; have hfz60_6 := qA BK300.out 6; have hfz60_7 := qA BK300.out 7; have hnb61 := NB298_296.out; have hnc61 := NB296_298.out; have hcz62_0 := bc BK298 0; have hcz62_1 := bc BK298 1; have hcz62_2 := bc BK298 2; have hcz62_3 := bc BK298 3; have hcz62_4 := bc BK298 4; have hcz62_5 := bc BK298 5; have hcz62_6 := bc BK298 6; have hcz62_7 := bc BK298 7; have hfz62_0 := qA BK298.out 0; have hfz62_1 := qA BK298.out 1; have hfz62_2 := qA BK298.out 2; have hfz62_3 := qA BK298.out 3; have hfz62_4 := qA BK298.out 4; have hfz62_5 := qA BK298.out 5; have hfz62_6 := qA BK298.out 6; have hfz62_7 := qA BK298.out 7))
                 go_roundg k2
                 case measure => have := HK1.out; have := HK2.out; omega
                 case rel => exact ⟨(wrap64 (x8_2 + 1)), (wrap64 (x29_2 + 1)), (by first | rfl | (simp; done) | (simp [*]; done)), (by first | rfl | (simp; done) | (simp [*]; done)), H', ⟨by have := HK1.out; have := HK2.out; omega⟩, ⟨by (with_reducible repeat (first | apply Kd.qK | apply Kd.qJ | apply Kd.qO)); exact Kd.qGA (Kd.R_far (p := ⟨gb300, 7, none⟩) (Kd.R_far (p := ⟨gb300, 6, none⟩) (Kd.R_far (p := ⟨gb300, 5, none⟩) (Kd.R_far (p := ⟨gb300, 4, none⟩) (Kd.R_far (p := ⟨gb300, 3, none⟩) (Kd.R_far (p := ⟨gb300, 2, none⟩) (Kd.R_far (p := ⟨gb300, 1, none⟩) (Kd.R_far (p := ⟨gb300, 0, none⟩) (Kd.qvA HO_297002.out BK300.out (by decide)) (fun _ hk => hk.2) (.int .i64 ((qC l1 x29_2).f0))) (fun _ hk => hk.2) (.int .i64 ((qC l1 x29_2).f1))) (fun _ hk => hk.2) (.int .i64 ((qC l1 x29_2).f2.f0))) (fun _ hk => hk.2) (.int .i64 ((qC l1 x29_2).f2.f1))) (fun _ hk => hk.2) (.int .i64 ((qC l1 x29_2).f2.f2))) (fun _ hk => hk.2) (.int .i64 ((qC l1 x29_2).f2.f3))) (fun _ hk => hk.2) (.int .i64 ((qC l1 x29_2).f2.f4))) (fun _ hk => hk.2) (.int .i64 ((qC l1 x29_2).f2.f5))) (fun _ hk => trivial)⟩, ⟨by (with_reducible repeat (first | refine qE ?_ _ | refine qF ?_ | refine qD ?_ _)); refine qV ?_ NB296_300.out _; (with_reducible repeat (first | refine qE ?_ _ | refine qF ?_ | refine qD ?_ _)); refine qV ?_ NB296_300.out _; (with_reducible repeat (first | refine qE ?_ _ | refine qF ?_ | refine qD ?_ _)); refine qV ?_ NB296_300.out _; (with_reducible repeat (first | refine qE ?_ _ | refine qF ?_ | refine qD ?_ _)); refine qV ?_ NB296_300.out _; (with_reducible repeat (first | refine qE ?_ _ | refine qF ?_ | refine qD ?_ _)); refine qV ?_ NB296_300.out _; (with_reducible repeat (first | refine qE ?_ _ | refine qF ?_ | refine qD ?_ _)); refine qV ?_ NB296_300.out _; (with_reducible repeat (first | refine qE ?_ _ | refine qF ?_ | refine qD ?_ _)); refine qV ?_ NB296_300.out _; (with_reducible repeat (first | refine qE ?_ _ | refine qF ?_ | refine qD ?_ _)); refine qV ?_ NB296_300.out _; (with_reducible repeat (first | refine qE ?_ _ | refine qF ?_ | refine qD ?_ _)); exact BK296.out⟩, ⟨by (with_reducible repeat (first | refine qE ?_ _ | refine qF ?_ | refine qD ?_ _)); refine qV ?_ NB298_300.out _; (with_reducible repeat (first | refine qE ?_ _ | refine qF ?_ | refine qD ?_ _)); refine qV ?_ NB298_300.out _; (with_reducible repeat (first | refine qE ?_ _ | refine qF ?_ | refine qD ?_ _)); refine qV ?_ NB298_300.out _; (with_reducible repeat (first | refine qE ?_ _ | refine qF ?_ | refine qD ?_ _)); refine qV ?_ NB298_300.out _; (with_reducible repeat (first | refine qE ?_ _ | refine qF ?_ | refine qD ?_ _)); refine qV ?_ NB298_300.out _; (with_reducible repeat (first | refine qE ?_ _ | refine qF ?_ | refine qD ?_ _)); refine qV ?_ NB298_300.out _; (with_reducible repeat (first | refine qE ?_ _ | refine qF ?_ | refine qD ?_ _)); refine qV ?_ NB298_300.out _; (with_reducible repeat (first | refine qE ?_ _ | refine qF ?_ | refine qD ?_ _)); refine qV ?_ NB298_300.out _; (with_reducible repeat (first | refine qE ?_ _ | refine qF ?_ | refine qD ?_ _)); exact BK298.out⟩, ⟨bl⟩⟩
                ·rw [if_neg c56] at H
                 have c56b0 : (((qC l1 x23_1).f2.f3) == ((qC l1 x29_2).f2.f1)) = false := beq_eq_false_iff_ne.mpr c56
                 have c56b1 : (((qC l1 x23_1).f2.f3) != ((qC l1 x29_2).f2.f1)) = true := bne_iff_ne.mpr c56
                 have H' := Aside0.mk H
                 clear H
                 have p299 : 0 ≤ (x29_2 : Int) := of_decide_eq_true (by first | (with_reducible assumption) | assumption)
                 have q299 : x29_2 < (l1.length : Int) := of_decide_eq_true (by first | (with_reducible assumption) | assumption)
                 obtain ⟨ad299, e299, hx299_0, hx299_1, hx299_2, hx299_3, hx299_4, hx299_5, hx299_6, hx299_7⟩ := qgA HR1.out x29_2 p299 q299
                 obtain rfl : ad297 = ad299 := (by injection e299)
                 replace hx299_0 := (HB.out.cell (World.block_lt_of_cell? w _ hx299_0)).trans hx299_0
                 replace hx299_1 := (HB.out.cell (World.block_lt_of_cell? w _ hx299_1)).trans hx299_1
                 replace hx299_2 := (HB.out.cell (World.block_lt_of_cell? w _ hx299_2)).trans hx299_2
                 replace hx299_3 := (HB.out.cell (World.block_lt_of_cell? w _ hx299_3)).trans hx299_3
                 replace hx299_4 := (HB.out.cell (World.block_lt_of_cell? w _ hx299_4)).trans hx299_4
                 replace hx299_5 := (HB.out.cell (World.block_lt_of_cell? w _ hx299_5)).trans hx299_5
                 replace hx299_6 := (HB.out.cell (World.block_lt_of_cell? w _ hx299_6)).trans hx299_6
                 replace hx299_7 := (HB.out.cell (World.block_lt_of_cell? w _ hx299_7)).trans hx299_7
                 replace p299 := eq_true p299
                 replace q299 := eq_true q299
                 go_wp2_with (first | ((with_reducible refine qg (N := 12) rfl ?_); refine qd ?hg (N := 12) ?hd (cs := #[.int .i64 0, .int .i64 0, .int .i64 0, .int .i64 0, .int .i64 0, .int .i64 0, .int .i64 0, .int .i64 0]) (t := 57) ?hr ?_; (case hd => rfl); (case hg => rfl); (case hr => first | (go_simp; done) | (go_simp; rfl)); intro gb300 hg w63 hbox hb; have n0_ := Aside0.mk (Kd.qc (by (with_reducible repeat (first | apply Kd.qK | apply Kd.qJ | apply Kd.qO)); exact HO_297002.out) hb); have n1_ := Aside0.mk (bb BK296 hb); have n2_ := Aside0.mk (bb BK298 hb); have n3_ := Aside0.mk (qG bl hb); have n4_ := Aside0.mk (hbox); have n5_ := Aside0.mk ((gg hg)); have n6_ := Aside0.mk ((gg hg)); have n7_ := Aside0.mk ((nl BK296 hg)); have n8_ := Aside0.mk ((nr BK296 hg)); have n9_ := Aside0.mk ((nl BK298 hg)); have n10_ := Aside0.mk ((nr BK298 hg)); clear HO_297002; clear BK296; clear BK298; clear HB; have HO_297002 := n0_; have BK296 := n1_; have BK298 := n2_; have HB := n3_; have BK300 := n4_; have GW300 := n5_; have GE300 := n6_; have NB296_300 := n7_; have NB300_296 := n8_; have NB298_300 := n9_; have NB300_298 := n10_; clear n0_ n1_ n2_ n3_ n4_ n5_ n6_ n7_ n8_ n9_ n10_; clear hb hbox hg; have hnb64 := NB300_296.out; have hnc64 := NB296_300.out; have hnb65 := NB300_298.out; have hnc65 := NB298_300.out; have hcz66_0 := bc BK300 0; have hcz66_1 := bc BK300 1; have hcz66_2 := bc BK300 2; have hcz66_3 := bc BK300 3; have hcz66_4 := bc BK300 4; have hcz66_5 := bc BK300 5; have hcz66_6 := bc BK300 6; have hcz66_7 := bc BK300 7; have hfz66_0 := qA BK300.out 0; have hfz66_1 := qA BK300.out 1; have hfz66_2 := qA BK300.out 2; have hfz66_3 := qA BK300.out 3; have hfz66_4 := qA BK300.out 4; have hfz66_5 := qA BK300.out 5; have hfz66_6 := qA BK300.out 6; have hfz66_7 := qA BK300.out 7; have hnb67 := NB298_296.out; have hnc67 := NB296_298.out; have hcz68_0 := bc BK298 0; have hcz68_1 := bc BK298 1; have hcz68_2 := bc BK298 2; have hcz68_3 := bc BK298 3; have hcz68_4 := bc BK298 4; have hcz68_5 := bc BK298 5; have hcz68_6 := bc BK298 6; have hcz68_7 := bc BK298 7; have hfz68_0 := qA BK298.out 0; have hfz68_1 := qA BK298.out 1; have hfz68_2 := qA BK298.out 2; have hfz68_3 := qA BK298.out 3; have hfz68_4 := qA BK298.out 4; have hfz68_5 := qA BK298.out 5; have hfz68_6 := qA BK298.out 6; have hfz68_7 := qA BK298.out 7))
                 go_roundg k2
                 case measure => have := HK1.out; have := HK2.out; omega
                 case rel => exact ⟨(x8_2), (wrap64 (x29_2 + 1)), (by first | rfl | (simp; done) | (simp [*]; done)), (by first | rfl | (simp; done) | (simp [*]; done)), H', ⟨by have := HK1.out; have := HK2.out; omega⟩, ⟨by (with_reducible repeat (first | apply Kd.qK | apply Kd.qJ | apply Kd.qO)); exact Kd.qGA (Kd.R_far (p := ⟨gb300, 7, none⟩) (Kd.R_far (p := ⟨gb300, 6, none⟩) (Kd.R_far (p := ⟨gb300, 5, none⟩) (Kd.R_far (p := ⟨gb300, 4, none⟩) (Kd.R_far (p := ⟨gb300, 3, none⟩) (Kd.R_far (p := ⟨gb300, 2, none⟩) (Kd.R_far (p := ⟨gb300, 1, none⟩) (Kd.R_far (p := ⟨gb300, 0, none⟩) (Kd.qvA HO_297002.out BK300.out (by decide)) (fun _ hk => hk.2) (.int .i64 ((qC l1 x29_2).f0))) (fun _ hk => hk.2) (.int .i64 ((qC l1 x29_2).f1))) (fun _ hk => hk.2) (.int .i64 ((qC l1 x29_2).f2.f0))) (fun _ hk => hk.2) (.int .i64 ((qC l1 x29_2).f2.f1))) (fun _ hk => hk.2) (.int .i64 ((qC l1 x29_2).f2.f2))) (fun _ hk => hk.2) (.int .i64 ((qC l1 x29_2).f2.f3))) (fun _ hk => hk.2) (.int .i64 ((qC l1 x29_2).f2.f4))) (fun _ hk => hk.2) (.int .i64 ((qC l1 x29_2).f2.f5))) (fun _ hk => trivial)⟩, ⟨by (with_reducible repeat (first | refine qE ?_ _ | refine qF ?_ | refine qD ?_ _)); refine qV ?_ NB296_300.out _; (with_reducible repeat (first | refine qE ?_ _ | refine qF ?_ | refine qD ?_ _)); refine qV ?_ NB296_300.out _; (with_reducible repeat (first | refine qE ?_ _ | refine qF ?_ | refine qD ?_ _)); refine qV ?_ NB296_300.out _; (with_reducible repeat (first | refine qE ?_ _ | refine qF ?_ | refine qD ?_ _)); refine qV ?_ NB296_300.out _; (with_reducible repeat (first | refine qE ?_ _ | refine qF ?_ | refine qD ?_ _)); refine qV ?_ NB296_300.out _; (with_reducible repeat (first | refine qE ?_ _ | refine qF ?_ | refine qD ?_ _)); refine qV ?_ NB296_300.out _; (with_reducible repeat (first | refine qE ?_ _ | refine qF ?_ | refine qD ?_ _)); refine qV ?_ NB296_300.out _; (with_reducible repeat (first | refine qE ?_ _ | refine qF ?_ | refine qD ?_ _)); refine qV ?_ NB296_300.out _; (with_reducible repeat (first | refine qE ?_ _ | refine qF ?_ | refine qD ?_ _)); exact BK296.out⟩, ⟨by (with_reducible repeat (first | refine qE ?_ _ | refine qF ?_ | refine qD ?_ _)); refine qV ?_ NB298_300.out _; (with_reducible repeat (first | refine qE ?_ _ | refine qF ?_ | refine qD ?_ _)); refine qV ?_ NB298_300.out _; (with_reducible repeat (first | refine qE ?_ _ | refine qF ?_ | refine qD ?_ _)); refine qV ?_ NB298_300.out _; (with_reducible repeat (first | refine qE ?_ _ | refine qF ?_ | refine qD ?_ _)); refine qV ?_ NB298_300.out _; (with_reducible repeat (first | refine qE ?_ _ | refine qF ?_ | refine qD ?_ _)); refine qV ?_ NB298_300.out _; (with_reducible repeat (first | refine qE ?_ _ | refine qF ?_ | refine qD ?_ _)); refine qV ?_ NB298_300.out _; (with_reducible repeat (first | refine qE ?_ _ | refine qF ?_ | refine qD ?_ _)); refine qV ?_ NB298_300.out _; (with_reducible repeat (first | refine qE ?_ _ | refine qF ?_ | refine qD ?_ _)); refine qV ?_ NB298_300.out _; (with_reducible repeat (first | refine qE ?_ _ | refine qF ?_ | refine qD ?_ _)); exact BK298.out⟩, ⟨bl⟩⟩
               ·rw [if_neg c55] at H
                have c55b0 : (((qC l1 x29_2).f1) == (wrap64 (((qC l1 x23_1).f1) + 1))) = false := beq_eq_false_iff_ne.mpr c55
                have c55b1 : (((qC l1 x29_2).f1) != (wrap64 (((qC l1 x23_1).f1) + 1))) = true := bne_iff_ne.mpr c55
                have H' := Aside0.mk H
                clear H
                have p299 : 0 ≤ (x29_2 : Int) := of_decide_eq_true (by first | (with_reducible assumption) | assumption)
                have q299 : x29_2 < (l1.length : Int) := of_decide_eq_true (by first | (with_reducible assumption) | assumption)
                obtain ⟨ad299, e299, hx299_0, hx299_1, hx299_2, hx299_3, hx299_4, hx299_5, hx299_6, hx299_7⟩ := qgA HR1.out x29_2 p299 q299
                obtain rfl : ad297 = ad299 := (by injection e299)
                replace hx299_0 := (HB.out.cell (World.block_lt_of_cell? w _ hx299_0)).trans hx299_0
                replace hx299_1 := (HB.out.cell (World.block_lt_of_cell? w _ hx299_1)).trans hx299_1
                replace hx299_2 := (HB.out.cell (World.block_lt_of_cell? w _ hx299_2)).trans hx299_2
                replace hx299_3 := (HB.out.cell (World.block_lt_of_cell? w _ hx299_3)).trans hx299_3
                replace hx299_4 := (HB.out.cell (World.block_lt_of_cell? w _ hx299_4)).trans hx299_4
                replace hx299_5 := (HB.out.cell (World.block_lt_of_cell? w _ hx299_5)).trans hx299_5
                replace hx299_6 := (HB.out.cell (World.block_lt_of_cell? w _ hx299_6)).trans hx299_6
                replace hx299_7 := (HB.out.cell (World.block_lt_of_cell? w _ hx299_7)).trans hx299_7
                replace p299 := eq_true p299
                replace q299 := eq_true q299
                go_wp2_with (first | ((with_reducible refine qg (N := 12) rfl ?_); refine qd ?hg (N := 12) ?hd (cs := #[.int .i64 0, .int .i64 0, .int .i64 0, .int .i64 0, .int .i64 0, .int .i64 0, .int .i64 0, .int .i64 0]) (t := 57) ?hr ?_; (case hd => rfl); (case hg => rfl); (case hr => first | (go_simp; done) | (go_simp; rfl)); intro gb300 hg w69 hbox hb; have n0_ := Aside0.mk (Kd.qc (by (with_reducible repeat (first | apply Kd.qK | apply Kd.qJ | apply Kd.qO)); exact HO_297002.out) hb); have n1_ := Aside0.mk (bb BK296 hb); have n2_ := Aside0.mk (bb BK298 hb); have n3_ := Aside0.mk (qG bl hb); have n4_ := Aside0.mk (hbox); have n5_ := Aside0.mk ((gg hg)); have n6_ := Aside0.mk ((gg hg)); have n7_ := Aside0.mk ((nl BK296 hg)); have n8_ := Aside0.mk ((nr BK296 hg)); have n9_ := Aside0.mk ((nl BK298 hg)); have n10_ := Aside0.mk ((nr BK298 hg)); clear HO_297002; clear BK296; clear BK298; clear HB; have HO_297002 := n0_; have BK296 := n1_; have BK298 := n2_; have HB := n3_; have BK300 := n4_; have GW300 := n5_; have GE300 := n6_; have NB296_300 := n7_; have NB300_296 := n8_; have NB298_300 := n9_; have NB300_298 := n10_; clear n0_ n1_ n2_ n3_ n4_ n5_ n6_ n7_ n8_ n9_ n10_; clear hb hbox hg; have hnb70 := NB300_296.out; have hnc70 := NB296_300.out; have hnb71 := NB300_298.out; have hnc71 := NB298_300.out; have hcz72_0 := bc BK300 0; have hcz72_1 := bc BK300 1; have hcz72_2 := bc BK300 2; have hcz72_3 := bc BK300 3; have hcz72_4 := bc BK300 4; have hcz72_5 := bc BK300 5; have hcz72_6 := bc BK300 6; have hcz72_7 := bc BK300 7; have hfz72_0 := qA BK300.out 0; have hfz72_1 := qA BK300.out 1; have hfz72_2 := qA BK300.out 2; have hfz72_3 := qA BK300.out 3; have hfz72_4 := qA BK300.out 4; have hfz72_5 := qA BK300.out 5; have hfz72_6 := qA BK300.out 6; have hfz72_7 := qA BK300.out 7; have hnb73 := NB298_296.out; have hnc73 := NB296_298.out; have hcz74_0 := bc BK298 0; have hcz74_1 := bc BK298 1; have hcz74_2 := bc BK298 2; have hcz74_3 := bc BK298 3; have hcz74_4 := bc BK298 4; have hcz74_5 := bc BK298 5; have hcz74_6 := bc BK298 6; have hcz74_7 := bc BK298 7; have hfz74_0 := qA BK298.out 0; have hfz74_1 := qA BK298.out 1; have hfz74_2 := qA BK298.out 2; have hfz74_3 := qA BK298.out 3; have hfz74_4 := qA BK298.out 4; have hfz74_5 := qA BK298.out 5; have hfz74_6 := qA BK298.out 6; have hfz74_7 := qA BK298.out 7))
                go_roundg k2
                case measure => have := HK1.out; have := HK2.out; omega
                case rel => exact ⟨(x8_2), (wrap64 (x29_2 + 1)), (by first | rfl | (simp; done) | (simp [*]; done)), (by first | rfl | (simp; done) | (simp [*]; done)), H', ⟨by have := HK1.out; have := HK2.out; omega⟩, ⟨by (with_reducible repeat (first | apply Kd.qK | apply Kd.qJ | apply Kd.qO)); exact Kd.qGA (Kd.R_far (p := ⟨gb300, 7, none⟩) (Kd.R_far (p := ⟨gb300, 6, none⟩) (Kd.R_far (p := ⟨gb300, 5, none⟩) (Kd.R_far (p := ⟨gb300, 4, none⟩) (Kd.R_far (p := ⟨gb300, 3, none⟩) (Kd.R_far (p := ⟨gb300, 2, none⟩) (Kd.R_far (p := ⟨gb300, 1, none⟩) (Kd.R_far (p := ⟨gb300, 0, none⟩) (Kd.qvA HO_297002.out BK300.out (by decide)) (fun _ hk => hk.2) (.int .i64 ((qC l1 x29_2).f0))) (fun _ hk => hk.2) (.int .i64 ((qC l1 x29_2).f1))) (fun _ hk => hk.2) (.int .i64 ((qC l1 x29_2).f2.f0))) (fun _ hk => hk.2) (.int .i64 ((qC l1 x29_2).f2.f1))) (fun _ hk => hk.2) (.int .i64 ((qC l1 x29_2).f2.f2))) (fun _ hk => hk.2) (.int .i64 ((qC l1 x29_2).f2.f3))) (fun _ hk => hk.2) (.int .i64 ((qC l1 x29_2).f2.f4))) (fun _ hk => hk.2) (.int .i64 ((qC l1 x29_2).f2.f5))) (fun _ hk => trivial)⟩, ⟨by (with_reducible repeat (first | refine qE ?_ _ | refine qF ?_ | refine qD ?_ _)); refine qV ?_ NB296_300.out _; (with_reducible repeat (first | refine qE ?_ _ | refine qF ?_ | refine qD ?_ _)); refine qV ?_ NB296_300.out _; (with_reducible repeat (first | refine qE ?_ _ | refine qF ?_ | refine qD ?_ _)); refine qV ?_ NB296_300.out _; (with_reducible repeat (first | refine qE ?_ _ | refine qF ?_ | refine qD ?_ _)); refine qV ?_ NB296_300.out _; (with_reducible repeat (first | refine qE ?_ _ | refine qF ?_ | refine qD ?_ _)); refine qV ?_ NB296_300.out _; (with_reducible repeat (first | refine qE ?_ _ | refine qF ?_ | refine qD ?_ _)); refine qV ?_ NB296_300.out _; (with_reducible repeat (first | refine qE ?_ _ | refine qF ?_ | refine qD ?_ _)); refine qV ?_ NB296_300.out _; (with_reducible repeat (first | refine qE ?_ _ | refine qF ?_ | refine qD ?_ _)); refine qV ?_ NB296_300.out _; (with_reducible repeat (first | refine qE ?_ _ | refine qF ?_ | refine qD ?_ _)); exact BK296.out⟩, ⟨by (with_reducible repeat (first | refine qE ?_ _ | refine qF ?_ | refine qD ?_ _)); refine qV ?_ NB298_300.out _; (with_reducible repeat (first | refine qE ?_ _ | refine qF ?_ | refine qD ?_ _)); refine qV ?_ NB298_300.out _; (with_reducible repeat (first | refine qE ?_ _ | refine qF ?_ | refine qD ?_ _)); refine qV ?_ NB298_300.out _; (with_reducible repeat (first | refine qE ?_ _ | refine qF ?_ | refine qD ?_ _)); refine qV ?_ NB298_300.out _; (with_reducible repeat (first | refine qE ?_ _ | refine qF ?_ | refine qD ?_ _)); refine qV ?_ NB298_300.out _; (with_reducible repeat (first | refine qE ?_ _ | refine qF ?_ | refine qD ?_ _)); refine qV ?_ NB298_300.out _; (with_reducible repeat (first | refine qE ?_ _ | refine qF ?_ | refine qD ?_ _)); refine qV ?_ NB298_300.out _; (with_reducible repeat (first | refine qE ?_ _ | refine qF ?_ | refine qD ?_ _)); refine qV ?_ NB298_300.out _; (with_reducible repeat (first | refine qE ?_ _ | refine qF ?_ | refine qD ?_ _)); exact BK298.out⟩, ⟨bl⟩⟩
              ·rw [if_neg c54] at H
               have c54b0 : (((qC l1 x29_2).f0) == ((qC l1 x23_1).f0)) = false := beq_eq_false_iff_ne.mpr c54
               have c54b1 : (((qC l1 x29_2).f0) != ((qC l1 x23_1).f0)) = true := bne_iff_ne.mpr c54
               have H' := Aside0.mk H
               clear H
               have p299 : 0 ≤ (x29_2 : Int) := of_decide_eq_true (by first | (with_reducible assumption) | assumption)
               have q299 : x29_2 < (l1.length : Int) := of_decide_eq_true (by first | (with_reducible assumption) | assumption)
               obtain ⟨ad299, e299, hx299_0, hx299_1, hx299_2, hx299_3, hx299_4, hx299_5, hx299_6, hx299_7⟩ := qgA HR1.out x29_2 p299 q299
               obtain rfl : ad297 = ad299 := (by injection e299)
               replace hx299_0 := (HB.out.cell (World.block_lt_of_cell? w _ hx299_0)).trans hx299_0
               replace hx299_1 := (HB.out.cell (World.block_lt_of_cell? w _ hx299_1)).trans hx299_1
               replace hx299_2 := (HB.out.cell (World.block_lt_of_cell? w _ hx299_2)).trans hx299_2
               replace hx299_3 := (HB.out.cell (World.block_lt_of_cell? w _ hx299_3)).trans hx299_3
               replace hx299_4 := (HB.out.cell (World.block_lt_of_cell? w _ hx299_4)).trans hx299_4
               replace hx299_5 := (HB.out.cell (World.block_lt_of_cell? w _ hx299_5)).trans hx299_5
               replace hx299_6 := (HB.out.cell (World.block_lt_of_cell? w _ hx299_6)).trans hx299_6
               replace hx299_7 := (HB.out.cell (World.block_lt_of_cell? w _ hx299_7)).trans hx299_7
               replace p299 := eq_true p299
               replace q299 := eq_true q299
               go_wp2_with (first | ((with_reducible refine qg (N := 12) rfl ?_); refine qd ?hg (N := 12) ?hd (cs := #[.int .i64 0, .int .i64 0, .int .i64 0, .int .i64 0, .int .i64 0, .int .i64 0, .int .i64 0, .int .i64 0]) (t := 57) ?hr ?_; (case hd => rfl); (case hg => rfl); (case hr => first | (go_simp; done) | (go_simp; rfl)); intro gb300 hg w75 hbox hb; have n0_ := Aside0.mk (Kd.qc (by (with_reducible repeat (first | apply Kd.qK | apply Kd.qJ | apply Kd.qO)); exact HO_297002.out) hb); have n1_ := Aside0.mk (bb BK296 hb); have n2_ := Aside0.mk (bb BK298 hb); have n3_ := Aside0.mk (qG bl hb); have n4_ := Aside0.mk (hbox); have n5_ := Aside0.mk ((gg hg)); have n6_ := Aside0.mk ((gg hg)); have n7_ := Aside0.mk ((nl BK296 hg)); have n8_ := Aside0.mk ((nr BK296 hg)); have n9_ := Aside0.mk ((nl BK298 hg)); have n10_ := Aside0.mk ((nr BK298 hg)); clear HO_297002; clear BK296; clear BK298; clear HB; have HO_297002 := n0_; have BK296 := n1_; have BK298 := n2_; have HB := n3_; have BK300 := n4_; have GW300 := n5_; have GE300 := n6_; have NB296_300 := n7_; have NB300_296 := n8_; have NB298_300 := n9_; have NB300_298 := n10_; clear n0_ n1_ n2_ n3_ n4_ n5_ n6_ n7_ n8_ n9_ n10_; clear hb hbox hg; have hnb76 := NB300_296.out; have hnc76 := NB296_300.out; have hnb77 := NB300_298.out; have hnc77 := NB298_300.out; have hcz78_0 := bc BK300 0; have hcz78_1 := bc BK300 1; have hcz78_2 := bc BK300 2; have hcz78_3 := bc BK300 3; have hcz78_4 := bc BK300 4; have hcz78_5 := bc BK300 5; have hcz78_6 := bc BK300 6; have hcz78_7 := bc BK300 7; have hfz78_0 := qA BK300.out 0; have hfz78_1 := qA BK300.out 1; have hfz78_2 := qA BK300.out 2; have hfz78_3 := qA BK300.out 3; have hfz78_4 := qA BK300.out 4; have hfz78_5 := qA BK300.out 5; have hfz78_6 := qA BK300.out 6; have hfz78_7 := qA BK300.out 7; have hnb79 := NB298_296.out; have hnc79 := NB296_298.out; have hcz80_0 := bc BK298 0; have hcz80_1 := bc BK298 1; have hcz80_2 := bc BK298 2; have hcz80_3 := bc BK298 3; have hcz80_4 := bc BK298 4; have hcz80_5 := bc BK298 5; have hcz80_6 := bc BK298 6; have hcz80_7 := bc BK298 7; have hfz80_0 := qA BK298.out 0; have hfz80_1 := qA BK298.out 1; have hfz80_2 := qA BK298.out 2; have hfz80_3 := qA BK298.out 3; have hfz80_4 := qA BK298.out 4; have hfz80_5 := qA BK298.out 5; have hfz80_6 := qA BK298.out 6; have hfz80_7 := qA BK298.out 7))
               go_roundg k2
               case measure => have := HK1.out; have := HK2.out; omega
               case rel => exact ⟨(x8_2), (wrap64 (x29_2 + 1)), (by first | rfl | (simp; done) | (simp [*]; done)), (by first | rfl | (simp; done) | (simp [*]; done)), H', ⟨by have := HK1.out; have := HK2.out; omega⟩, ⟨by (with_reducible repeat (first | apply Kd.qK | apply Kd.qJ | apply Kd.qO)); exact Kd.qGA (Kd.R_far (p := ⟨gb300, 7, none⟩) (Kd.R_far (p := ⟨gb300, 6, none⟩) (Kd.R_far (p := ⟨gb300, 5, none⟩) (Kd.R_far (p := ⟨gb300, 4, none⟩) (Kd.R_far (p := ⟨gb300, 3, none⟩) (Kd.R_far (p := ⟨gb300, 2, none⟩) (Kd.R_far (p := ⟨gb300, 1, none⟩) (Kd.R_far (p := ⟨gb300, 0, none⟩) (Kd.qvA HO_297002.out BK300.out (by decide)) (fun _ hk => hk.2) (.int .i64 ((qC l1 x29_2).f0))) (fun _ hk => hk.2) (.int .i64 ((qC l1 x29_2).f1))) (fun _ hk => hk.2) (.int .i64 ((qC l1 x29_2).f2.f0))) (fun _ hk => hk.2) (.int .i64 ((qC l1 x29_2).f2.f1))) (fun _ hk => hk.2) (.int .i64 ((qC l1 x29_2).f2.f2))) (fun _ hk => hk.2) (.int .i64 ((qC l1 x29_2).f2.f3))) (fun _ hk => hk.2) (.int .i64 ((qC l1 x29_2).f2.f4))) (fun _ hk => hk.2) (.int .i64 ((qC l1 x29_2).f2.f5))) (fun _ hk => trivial)⟩, ⟨by (with_reducible repeat (first | refine qE ?_ _ | refine qF ?_ | refine qD ?_ _)); refine qV ?_ NB296_300.out _; (with_reducible repeat (first | refine qE ?_ _ | refine qF ?_ | refine qD ?_ _)); refine qV ?_ NB296_300.out _; (with_reducible repeat (first | refine qE ?_ _ | refine qF ?_ | refine qD ?_ _)); refine qV ?_ NB296_300.out _; (with_reducible repeat (first | refine qE ?_ _ | refine qF ?_ | refine qD ?_ _)); refine qV ?_ NB296_300.out _; (with_reducible repeat (first | refine qE ?_ _ | refine qF ?_ | refine qD ?_ _)); refine qV ?_ NB296_300.out _; (with_reducible repeat (first | refine qE ?_ _ | refine qF ?_ | refine qD ?_ _)); refine qV ?_ NB296_300.out _; (with_reducible repeat (first | refine qE ?_ _ | refine qF ?_ | refine qD ?_ _)); refine qV ?_ NB296_300.out _; (with_reducible repeat (first | refine qE ?_ _ | refine qF ?_ | refine qD ?_ _)); refine qV ?_ NB296_300.out _; (with_reducible repeat (first | refine qE ?_ _ | refine qF ?_ | refine qD ?_ _)); exact BK296.out⟩, ⟨by (with_reducible repeat (first | refine qE ?_ _ | refine qF ?_ | refine qD ?_ _)); refine qV ?_ NB298_300.out _; (with_reducible repeat (first | refine qE ?_ _ | refine qF ?_ | refine qD ?_ _)); refine qV ?_ NB298_300.out _; (with_reducible repeat (first | refine qE ?_ _ | refine qF ?_ | refine qD ?_ _)); refine qV ?_ NB298_300.out _; (with_reducible repeat (first | refine qE ?_ _ | refine qF ?_ | refine qD ?_ _)); refine qV ?_ NB298_300.out _; (with_reducible repeat (first | refine qE ?_ _ | refine qF ?_ | refine qD ?_ _)); refine qV ?_ NB298_300.out _; (with_reducible repeat (first | refine qE ?_ _ | refine qF ?_ | refine qD ?_ _)); refine qV ?_ NB298_300.out _; (with_reducible repeat (first | refine qE ?_ _ | refine qF ?_ | refine qD ?_ _)); refine qV ?_ NB298_300.out _; (with_reducible repeat (first | refine qE ?_ _ | refine qF ?_ | refine qD ?_ _)); refine qV ?_ NB298_300.out _; (with_reducible repeat (first | refine qE ?_ _ | refine qF ?_ | refine qD ?_ _)); exact BK298.out⟩, ⟨bl⟩⟩
            ·rw [if_neg c18] at H
             have c18b0 : (((qC l1 x29_2).f0) == (wrap64 (((qC l1 x23_1).f0) + 1))) = false := beq_eq_false_iff_ne.mpr c18
             have c18b1 : (((qC l1 x29_2).f0) != (wrap64 (((qC l1 x23_1).f0) + 1))) = true := bne_iff_ne.mpr c18
             by_cases c81 : ((qC l1 x29_2).f0) = ((qC l1 x23_1).f0)
             ·rw [if_pos c81] at H
              have c81b0 : (((qC l1 x29_2).f0) == ((qC l1 x23_1).f0)) = true := beq_iff_eq.mpr c81
              have c81b1 : (((qC l1 x29_2).f0) != ((qC l1 x23_1).f0)) = false := bne_eq_false_iff_eq.mpr c81
              clear c81
              by_cases c82 : ((qC l1 x29_2).f1) = (wrap64 (((qC l1 x23_1).f1) + 1))
              ·rw [if_pos c82] at H
               have c82b0 : (((qC l1 x29_2).f1) == (wrap64 (((qC l1 x23_1).f1) + 1))) = true := beq_iff_eq.mpr c82
               have c82b1 : (((qC l1 x29_2).f1) != (wrap64 (((qC l1 x23_1).f1) + 1))) = false := bne_eq_false_iff_eq.mpr c82
               clear c82
               by_cases c83 : ((qC l1 x23_1).f2.f3) = ((qC l1 x29_2).f2.f1)
               ·rw [if_pos c83] at H
                have c83b0 : (((qC l1 x23_1).f2.f3) == ((qC l1 x29_2).f2.f1)) = true := beq_iff_eq.mpr c83
                have c83b1 : (((qC l1 x23_1).f2.f3) != ((qC l1 x29_2).f2.f1)) = false := bne_eq_false_iff_eq.mpr c83
                clear c83
                have H' := Aside0.mk H
                clear H
                have p299 : 0 ≤ (x29_2 : Int) := of_decide_eq_true (by first | (with_reducible assumption) | assumption)
                have q299 : x29_2 < (l1.length : Int) := of_decide_eq_true (by first | (with_reducible assumption) | assumption)
                obtain ⟨ad299, e299, hx299_0, hx299_1, hx299_2, hx299_3, hx299_4, hx299_5, hx299_6, hx299_7⟩ := qgA HR1.out x29_2 p299 q299
                obtain rfl : ad297 = ad299 := (by injection e299)
                replace hx299_0 := (HB.out.cell (World.block_lt_of_cell? w _ hx299_0)).trans hx299_0
                replace hx299_1 := (HB.out.cell (World.block_lt_of_cell? w _ hx299_1)).trans hx299_1
                replace hx299_2 := (HB.out.cell (World.block_lt_of_cell? w _ hx299_2)).trans hx299_2
                replace hx299_3 := (HB.out.cell (World.block_lt_of_cell? w _ hx299_3)).trans hx299_3
                replace hx299_4 := (HB.out.cell (World.block_lt_of_cell? w _ hx299_4)).trans hx299_4
                replace hx299_5 := (HB.out.cell (World.block_lt_of_cell? w _ hx299_5)).trans hx299_5
                replace hx299_6 := (HB.out.cell (World.block_lt_of_cell? w _ hx299_6)).trans hx299_6
                replace hx299_7 := (HB.out.cell (World.block_lt_of_cell? w _ hx299_7)).trans hx299_7
                replace p299 := eq_true p299
                replace q299 := eq_true q299
                go_wp2_with (first | ((with_reducible refine qg (N := 12) rfl ?_); refine qd ?hg (N := 12) ?hd (cs := #[.int .i64 0, .int .i64 0, .int .i64 0, .int .i64 0, .int .i64 0, .int .i64 0, .int .i64 0, .int .i64 0]) (t := 57) ?hr ?_; (case hd => rfl); (case hg => rfl); (case hr => first | (go_simp; done) | (go_simp; rfl)); intro gb300 hg w84 hbox hb; have n0_ := Aside0.mk (Kd.qc (by (with_reducible repeat (first | apply Kd.qK | apply Kd.qJ | apply Kd.qO)); exact HO_297002.out) hb); have n1_ := Aside0.mk (bb BK296 hb); have n2_ := Aside0.mk (bb BK298 hb); have n3_ := Aside0.mk (qG bl hb); have n4_ := Aside0.mk (hbox); have n5_ := Aside0.mk ((gg hg)); have n6_ := Aside0.mk ((gg hg)); have n7_ := Aside0.mk ((nl BK296 hg)); have n8_ := Aside0.mk ((nr BK296 hg)); have n9_ := Aside0.mk ((nl BK298 hg)); have n10_ := Aside0.mk ((nr BK298 hg)); clear HO_297002; clear BK296; clear BK298; clear HB; have HO_297002 := n0_; have BK296 := n1_; have BK298 := n2_; have HB := n3_; have BK300 := n4_; have GW300 := n5_; have GE300 := n6_; have NB296_300 := n7_; have NB300_296 := n8_; have NB298_300 := n9_; have NB300_298 := n10_; clear n0_ n1_ n2_ n3_ n4_ n5_ n6_ n7_ n8_ n9_ n10_; clear hb hbox hg; have hnb85 := NB300_296.out; have hnc85 := NB296_300.out; have hnb86 := NB300_298.out; have hnc86 := NB298_300.out; have hcz87_0 := bc BK300 0; have hcz87_1 := bc BK300 1; have hcz87_2 := bc BK300 2; have hcz87_3 := bc BK300 3; have hcz87_4 := bc BK300 4; have hcz87_5 := bc BK300 5; have hcz87_6 := bc BK300 6; have hcz87_7 := bc BK300 7; have hfz87_0 := qA BK300.out 0; have hfz87_1 := qA BK300.out 1; have hfz87_2 := qA BK300.out 2; have hfz87_3 := qA BK300.out 3; have hfz87_4 := qA BK300.out 4; have hfz87_5 := qA BK300.out 5; have hfz87_6 := qA BK300.out 6; have hfz87_7 := qA BK300.out 7; have hnb88 := NB298_296.out; have hnc88 := NB296_298.out; have hcz89_0 := bc BK298 0; have hcz89_1 := bc BK298 1; have hcz89_2 := bc BK298 2; have hcz89_3 := bc BK298 3; have hcz89_4 := bc BK298 4; have hcz89_5 := bc BK298 5; have hcz89_6 := bc BK298 6; have hcz89_7 := bc BK298 7; have hfz89_0 := qA BK298.out 0; have hfz89_1 := qA BK298.out 1; have hfz89_2 := qA BK298.out 2; have hfz89_3 := qA BK298.out 3; have hfz89_4 := qA BK298.out 4; have hfz89_5 := qA BK298.out 5; have hfz89_6 := qA BK298.out 6; have hfz89_7 := qA BK298.out 7))
                go_roundg k2
                case measure => have := HK1.out; have := HK2.out; omega
                case rel => exact ⟨(wrap64 (x8_2 + 1)), (wrap64 (x29_2 + 1)), (by first | rfl | (simp; done) | (simp [*]; done)), (by first | rfl | (simp; done) | (simp [*]; done)), H', ⟨by have := HK1.out; have := HK2.out; omega⟩, ⟨by (with_reducible repeat (first | apply Kd.qK | apply Kd.qJ | apply Kd.qO)); exact Kd.qGA (Kd.R_far (p := ⟨gb300, 7, none⟩) (Kd.R_far (p := ⟨gb300, 6, none⟩) (Kd.R_far (p := ⟨gb300, 5, none⟩) (Kd.R_far (p := ⟨gb300, 4, none⟩) (Kd.R_far (p := ⟨gb300, 3, none⟩) (Kd.R_far (p := ⟨gb300, 2, none⟩) (Kd.R_far (p := ⟨gb300, 1, none⟩) (Kd.R_far (p := ⟨gb300, 0, none⟩) (Kd.qvA HO_297002.out BK300.out (by decide)) (fun _ hk => hk.2) (.int .i64 ((qC l1 x29_2).f0))) (fun _ hk => hk.2) (.int .i64 ((qC l1 x29_2).f1))) (fun _ hk => hk.2) (.int .i64 ((qC l1 x29_2).f2.f0))) (fun _ hk => hk.2) (.int .i64 ((qC l1 x29_2).f2.f1))) (fun _ hk => hk.2) (.int .i64 ((qC l1 x29_2).f2.f2))) (fun _ hk => hk.2) (.int .i64 ((qC l1 x29_2).f2.f3))) (fun _ hk => hk.2) (.int .i64 ((qC l1 x29_2).f2.f4))) (fun _ hk => hk.2) (.int .i64 ((qC l1 x29_2).f2.f5))) (fun _ hk => trivial)⟩, ⟨by (with_reducible repeat (first | refine qE ?_ _ | refine qF ?_ | refine qD ?_ _)); refine qV ?_ NB296_300.out _; (with_reducible repeat (first | refine qE ?_ _ | refine qF ?_ | refine qD ?_ _)); refine qV ?_ NB296_300.out _; (with_reducible repeat (first | refine qE ?_ _ | refine qF ?_ | refine qD ?_ _)); refine qV ?_ NB296_300.out _; (with_reducible repeat (first | refine qE ?_ _ | refine qF ?_ | refine qD ?_ _)); refine qV ?_ NB296_300.out _; (with_reducible repeat (first | refine qE ?_ _ | refine qF ?_ | refine qD ?_ _)); refine qV ?_ NB296_300.out _; (with_reducible repeat (first | refine qE ?_ _ | refine qF ?_ | refine qD ?_ _)); refine qV ?_ NB296_300.out _; (with_reducible repeat (first | refine qE ?_ _ | refine qF ?_ | refine qD ?_ _)); refine qV ?_ NB296_300.out _; (with_reducible repeat (first | refine qE ?_ _ | refine qF ?_ | refine qD ?_ _)); refine qV ?_ NB296_300.out _; (with_reducible repeat (first | refine qE ?_ _ | refine qF ?_ | refine qD ?_ _)); exact BK296.out⟩, ⟨by (with_reducible repeat (first | refine qE ?_ _ | refine qF ?_ | refine qD ?_ _)); refine qV ?_ NB298_300.out _; (with_reducible repeat (first | refine qE ?_ _ | refine qF ?_ | refine qD ?_ _)); refine qV ?_ NB298_300.out _; (with_reducible repeat (first | refine qE ?_ _ | refine qF ?_ | refine qD ?_ _)); refine qV ?_ NB298_300.out _; (with_reducible repeat (first | refine qE ?_ _ | refine qF ?_ | refine qD ?_ _)); refine qV ?_ NB298_300.out _; (with_reducible repeat (first | refine qE ?_ _ | refine qF ?_ | refine qD ?_ _)); refine qV ?_ NB298_300.out _; (with_reducible repeat (first | refine qE ?_ _ | refine qF ?_ | refine qD ?_ _)); refine qV ?_ NB298_300.out _; (with_reducible repeat (first | refine qE ?_ _ | refine qF ?_ | refine qD ?_ _)); refine qV ?_ NB298_300.out _; (with_reducible repeat (first | refine qE ?_ _ | refine qF ?_ | refine qD ?_ _)); refine qV ?_ NB298_300.out _; (with_reducible repeat (first | refine qE ?_ _ | refine qF ?_ | refine qD ?_ _)); exact BK298.out⟩, ⟨bl⟩⟩
               ·rw [if_neg c83] at H
                have c83b0 : (((qC l1 x23_1).f2.f3) == ((qC l1 x29_2).f2.f1)) = false := beq_eq_false_iff_ne.mpr c83
                have c83b1 : (((qC l1 x23_1).f2.f3) != ((qC l1 x29_2).f2.f1)) = true := bne_iff_ne.mpr c83
                have H' := Aside0.mk H
                clear H
                have p299 : 0 ≤ (x29_2 : Int) := of_decide_eq_true (by first | (with_reducible assumption) | assumption)
                have q299 : x29_2 < (l1.length : Int) := of_decide_eq_true (by first | (with_reducible assumption) | assumption)
                obtain ⟨ad299, e299, hx299_0, hx299_1, hx299_2, hx299_3, hx299_4, hx299_5, hx299_6, hx299_7⟩ := qgA HR1.out x29_2 p299 q299
                obtain rfl : ad297 = ad299 := (by injection e299)
                replace hx299_0 := (HB.out.cell (World.block_lt_of_cell? w _ hx299_0)).trans hx299_0
                replace hx299_1 := (HB.out.cell (World.block_lt_of_cell? w _ hx299_1)).trans hx299_1
                replace hx299_2 := (HB.out.cell (World.block_lt_of_cell? w _ hx299_2)).trans hx299_2
                replace hx299_3 := (HB.out.cell (World.block_lt_of_cell? w _ hx299_3)).trans hx299_3
                replace hx299_4 := (HB.out.cell (World.block_lt_of_cell? w _ hx299_4)).trans hx299_4
                replace hx299_5 := (HB.out.cell (World.block_lt_of_cell? w _ hx299_5)).trans hx299_5
                replace hx299_6 := (HB.out.cell (World.block_lt_of_cell? w _ hx299_6)).trans hx299_6
                replace hx299_7 := (HB.out.cell (World.block_lt_of_cell? w _ hx299_7)).trans hx299_7
                replace p299 := eq_true p299
                replace q299 := eq_true q299
                go_wp2_with (first | ((with_reducible refine qg (N := 12) rfl ?_); refine qd ?hg (N := 12) ?hd (cs := #[.int .i64 0, .int .i64 0, .int .i64 0, .int .i64 0, .int .i64 0, .int .i64 0, .int .i64 0, .int .i64 0]) (t := 57) ?hr ?_; (case hd => rfl); (case hg => rfl); (case hr => first | (go_simp; done) | (go_simp; rfl)); intro gb300 hg w90 hbox hb; have n0_ := Aside0.mk (Kd.qc (by (with_reducible repeat (first | apply Kd.qK | apply Kd.qJ | apply Kd.qO)); exact HO_297002.out) hb); have n1_ := Aside0.mk (bb BK296 hb); have n2_ := Aside0.mk (bb BK298 hb); have n3_ := Aside0.mk (qG bl hb); have n4_ := Aside0.mk (hbox); have n5_ := Aside0.mk ((gg hg)); have n6_ := Aside0.mk ((gg hg)); have n7_ := Aside0.mk ((nl BK296 hg)); have n8_ := Aside0.mk ((nr BK296 hg)); have n9_ := Aside0.mk ((nl BK298 hg)); have n10_ := Aside0.mk ((nr BK298 hg)); clear HO_297002; clear BK296; clear BK298; clear HB; have HO_297002 := n0_; have BK296 := n1_; have BK298 := n2_; have HB := n3_; have BK300 := n4_; have GW300 := n5_; have GE300 := n6_; have NB296_300 := n7_; have NB300_296 := n8_; have NB298_300 := n9_; have NB300_298 := n10_; clear n0_ n1_ n2_ n3_ n4_ n5_ n6_ n7_ n8_ n9_ n10_; clear hb hbox hg; have hnb91 := NB300_296.out; have hnc91 := NB296_300.out; have hnb92 := NB300_298.out; have hnc92 := NB298_300.out; have hcz93_0 := bc BK300 0; have hcz93_1 := bc BK300 1; have hcz93_2 := bc BK300 2; have hcz93_3 := bc BK300 3; have hcz93_4 := bc BK300 4; have hcz93_5 := bc BK300 5; have hcz93_6 := bc BK300 6; have hcz93_7 := bc BK300 7; have hfz93_0 := qA BK300.out 0; have hfz93_1 := qA BK300.out 1; have hfz93_2 := qA BK300.out 2; have hfz93_3 := qA BK300.out 3; have hfz93_4 := qA BK300.out 4; have hfz93_5 := qA BK300.out 5; have hfz93_6 := qA BK300.out 6; have hfz93_7 := qA BK300.out 7; have hnb94 := NB298_296.out; have hnc94 := NB296_298.out; have hcz95_0 := bc BK298 0; have hcz95_1 := bc BK298 1; have hcz95_2 := bc BK298 2; have hcz95_3 := bc BK298 3; have hcz95_4 := bc BK298 4; have hcz95_5 := bc BK298 5; have hcz95_6 := bc BK298 6; have hcz95_7 := bc BK298 7; have hfz95_0 := qA BK298.out 0; have hfz95_1 := qA BK298.out 1; have hfz95_2 := qA BK298.out 2; have hfz95_3 := qA BK298.out 3; have hfz95_4 := qA BK298.out 4; have hfz95_5 := qA BK298.out 5; have hfz95_6 := qA BK298.out 6; have hfz95_7 := qA BK298.out 7))
                go_roundg k2
                case measure => have := HK1.out; have := HK2.out; omega
                case rel => exact ⟨(x8_2), (wrap64 (x29_2 + 1)), (by first | rfl | (simp; done) | (simp [*]; done)), (by first | rfl | (simp; done) | (simp [*]; done)), H', ⟨by have := HK1.out; have := HK2.out; omega⟩, ⟨by (with_reducible repeat (first | apply Kd.qK | apply Kd.qJ | apply Kd.qO)); exact Kd.qGA (Kd.R_far (p := ⟨gb300, 7, none⟩) (Kd.R_far (p := ⟨gb300, 6, none⟩) (Kd.R_far (p := ⟨gb300, 5, none⟩) (Kd.R_far (p := ⟨gb300, 4, none⟩) (Kd.R_far (p := ⟨gb300, 3, none⟩) (Kd.R_far (p := ⟨gb300, 2, none⟩) (Kd.R_far (p := ⟨gb300, 1, none⟩) (Kd.R_far (p := ⟨gb300, 0, none⟩) (Kd.qvA HO_297002.out BK300.out (by decide)) (fun _ hk => hk.2) (.int .i64 ((qC l1 x29_2).f0))) (fun _ hk => hk.2) (.int .i64 ((qC l1 x29_2).f1))) (fun _ hk => hk.2) (.int .i64 ((qC l1 x29_2).f2.f0))) (fun _ hk => hk.2) (.int .i64 ((qC l1 x29_2).f2.f1))) (fun _ hk => hk.2) (.int .i64 ((qC l1 x29_2).f2.f2))) (fun _ hk => hk.2) (.int .i64 ((qC l1 x29_2).f2.f3))) (fun _ hk => hk.2) (.int .i64 ((qC l1 x29_2).f2.f4))) (fun _ hk => hk.2) (.int .i64 ((qC l1 x29_2).f2.f5))) (fun _ hk => trivial)⟩, ⟨by (with_reducible repeat (first | refine qE ?_ _ | refine qF ?_ | refine qD ?_ _)); refine qV ?_ NB296_300.out _; (with_reducible repeat (first | refine qE ?_ _ | refine qF ?_ | refine qD ?_ _)); refine qV ?_ NB296_300.out _; (with_reducible repeat (first | refine qE ?_ _ | refine qF ?_ | refine qD ?_ _)); refine qV ?_ NB296_300.out _; (with_reducible repeat (first | refine qE ?_ _ | refine qF ?_ | refine qD ?_ _)); refine qV ?_ NB296_300.out _; (with_reducible repeat (first | refine qE ?_ _ | refine qF ?_ | refine qD ?_ _)); refine qV ?_ NB296_300.out _; (with_reducible repeat (first | refine qE ?_ _ | refine qF ?_ | refine qD ?_ _)); refine qV ?_ NB296_300.out _; (with_reducible repeat (first | refine qE ?_ _ | refine qF ?_ | refine qD ?_ _)); refine qV ?_ NB296_300.out _; (with_reducible repeat (first | refine qE ?_ _ | refine qF ?_ | refine qD ?_ _)); refine qV ?_ NB296_300.out _; (with_reducible repeat (first | refine qE ?_ _ | refine qF ?_ | refine qD ?_ _)); exact BK296.out⟩, ⟨by (with_reducible repeat (first | refine qE ?_ _ | refine qF ?_ | refine qD ?_ _)); refine qV ?_ NB298_300.out _; (with_reducible repeat (first | refine qE ?_ _ | refine qF ?_ | refine qD ?_ _)); refine qV ?_ NB298_300.out _; (with_reducible repeat (first | refine qE ?_ _ | refine qF ?_ | refine qD ?_ _)); refine qV ?_ NB298_300.out _; (with_reducible repeat (first | refine qE ?_ _ | refine qF ?_ | refine qD ?_ _)); refine qV ?_ NB298_300.out _; (with_reducible repeat (first | refine qE ?_ _ | refine qF ?_ | refine qD ?_ _)); refine qV ?_ NB298_300.out _; (with_reducible repeat (first | refine qE ?_ _ | refine qF ?_ | refine qD ?_ _)); refine qV ?_ NB298_300.out _; (with_reducible repeat (first | refine qE ?_ _ | refine qF ?_ | refine qD ?_ _)); refine qV ?_ NB298_300.out _; (with_reducible repeat (first | refine qE ?_ _ | refine qF ?_ | refine qD ?_ _)); refine qV ?_ NB298_300.out _; (with_reducible repeat (first | refine qE ?_ _ | refine qF ?_ | refine qD ?_ _)); exact BK298.out⟩, ⟨bl⟩⟩
              ·rw [if_neg c82] at H
               have c82b0 : (((qC l1 x29_2).f1) == (wrap64 (((qC l1 x23_1).f1) + 1))) = false := beq_eq_false_iff_ne.mpr c82
               have c82b1 : (((qC l1 x29_2).f1) != (wrap64 (((qC l1 x23_1).f1) + 1))) = true := bne_iff_ne.mpr c82
               have H' := Aside0.mk H
               clear H
               have p299 : 0 ≤ (x29_2 : Int) := of_decide_eq_true (by first | (with_reducible assumption) | assumption)
               have q299 : x29_2 < (l1.length : Int) := of_decide_eq_true (by first | (with_reducible assumption) | assumption)
               obtain ⟨ad299, e299, hx299_0, hx299_1, hx299_2, hx299_3, hx299_4, hx299_5, hx299_6, hx299_7⟩ := qgA HR1.out x29_2 p299 q299
               obtain rfl : ad297 = ad299 := (by injection e299)
               replace hx299_0 := (HB.out.cell (World.block_lt_of_cell? w _ hx299_0)).trans hx299_0
               replace hx299_1 := (HB.out.cell (World.block_lt_of_cell? w _ hx299_1)).trans hx299_1
               replace hx299_2 := (HB.out.cell (World.block_lt_of_cell? w _ hx299_2)).trans hx299_2
               replace hx299_3 := (HB.out.cell (World.block_lt_of_cell? w _ hx299_3)).trans hx299_3
               replace hx299_4 := (HB.out.cell (World.block_lt_of_cell? w _ hx299_4)).trans hx299_4
               replace hx299_5 := (HB.out.cell (World.block_lt_of_cell? w _ hx299_5)).trans hx299_5
               replace hx299_6 := (HB.out.cell (World.block_lt_of_cell? w _ hx299_6)).trans hx299_6
               replace hx299_7 := (HB.out.cell (World.block_lt_of_cell? w _ hx299_7)).trans hx299_7
               replace p299 := eq_true p299
               replace q299 := eq_true q299
               go_wp2_with (first | ((with_reducible refine qg (N := 12) rfl ?_); refine qd ?hg (N := 12) ?hd (cs := #[.int .i64 0, .int .i64 0, .int .i64 0, .int .i64 0, .int .i64 0, .int .i64 0, .int .i64 0, .int .i64 0]) (t := 57) ?hr ?_; (case hd => rfl); (case hg => rfl); (case hr => first | (go_simp; done) | (go_simp; rfl)); intro gb300 hg w96 hbox hb; have n0_ := Aside0.mk (Kd.qc (by (with_reducible repeat (first | apply Kd.qK | apply Kd.qJ | apply Kd.qO)); exact HO_297002.out) hb); have n1_ := Aside0.mk (bb BK296 hb); have n2_ := Aside0.mk (bb BK298 hb); have n3_ := Aside0.mk (qG bl hb); have n4_ := Aside0.mk (hbox); have n5_ := Aside0.mk ((gg hg)); have n6_ := Aside0.mk ((gg hg)); have n7_ := Aside0.mk ((nl BK296 hg)); have n8_ := Aside0.mk ((nr BK296 hg)); have n9_ := Aside0.mk ((nl BK298 hg)); have n10_ := Aside0.mk ((nr BK298 hg)); clear HO_297002; clear BK296; clear BK298; clear HB; have HO_297002 := n0_; have BK296 := n1_; have BK298 := n2_; have HB := n3_; have BK300 := n4_; have GW300 := n5_; have GE300 := n6_; have NB296_300 := n7_; have NB300_296 := n8_; have NB298_300 := n9_; have NB300_298 := n10_; clear n0_ n1_ n2_ n3_ n4_ n5_ n6_ n7_ n8_ n9_ n10_; clear hb hbox hg; have hnb97 := NB300_296.out; have hnc97 := NB296_300.out; have hnb98 := NB300_298.out; have hnc98 := NB298_300.out; have hcz99_0 := bc BK300 0; have hcz99_1 := bc BK300 1; have hcz99_2 := bc BK300 2; have hcz99_3 := bc BK300 3; have hcz99_4 := bc BK300 4; have hcz99_5 := bc BK300 5; have hcz99_6 := bc BK300 6; have hcz99_7 := bc BK300 7; have hfz99_0 := qA BK300.out 0; have hfz99_1 := qA BK300.out 1; have hfz99_2 := qA BK300.out 2; have hfz99_3 := qA BK300.out 3; have hfz99_4 := qA BK300.out 4; have hfz99_5 := qA BK300.out 5; have hfz99_6 := qA BK300.out 6; have hfz99_7 := qA BK300.out 7; have hnb100 := NB298_296.out; have hnc100 := NB296_298.out; have hcz101_0 := bc BK298 0; have hcz101_1 := bc BK298 1; have hcz101_2 := bc BK298 2; have hcz101_3 := bc BK298 3; have hcz101_4 := bc BK298 4; have hcz101_5 := bc BK298 5; have hcz101_6 := bc BK298 6; have hcz101_7 := bc BK298 7; have hfz101_0 := qA BK298.out 0; have hfz101_1 := qA BK298.out 1; have hfz101_2 := qA BK298.out 2; have hfz101_3 := qA BK298.out 3; have hfz101_4 := qA BK298.out 4; have hfz101_5 := qA BK298.out 5; have hfz101_6 := qA BK298.out 6; have hfz101_7 := qA BK298.out 7))
               go_roundg k2
               case measure => have := HK1.out; have := HK2.out; omega
               case rel => exact ⟨(x8_2), (wrap64 (x29_2 + 1)), (by first | rfl | (simp; done) | (simp [*]; done)), (by first | rfl | (simp; done) | (simp [*]; done)), H', ⟨by have := HK1.out; have := HK2.out; omega⟩, ⟨by (with_reducible repeat (first | apply Kd.qK | apply Kd.qJ | apply Kd.qO)); exact Kd.qGA (Kd.R_far (p := ⟨gb300, 7, none⟩) (Kd.R_far (p := ⟨gb300, 6, none⟩) (Kd.R_far (p := ⟨gb300, 5, none⟩) (Kd.R_far (p := ⟨gb300, 4, none⟩) (Kd.R_far (p := ⟨gb300, 3, none⟩) (Kd.R_far (p := ⟨gb300, 2, none⟩) (Kd.R_far (p := ⟨gb300, 1, none⟩) (Kd.R_far (p := ⟨gb300, 0, none⟩) (Kd.qvA HO_297002.out BK300.out (by decide)) (fun _ hk => hk.2) (.int .i64 ((qC l1 x29_2).f0))) (fun _ hk => hk.2) (.int .i64 ((qC l1 x29_2).f1))) (fun _ hk => hk.2) (.int .i64 ((qC l1 x29_2).f2.f0))) (fun _ hk => hk.2) (.int .i64 ((qC l1 x29_2).f2.f1))) (fun _ hk => hk.2) (.int .i64 ((qC l1 x29_2).f2.f2))) (fun _ hk => hk.2) (.int .i64 ((qC l1 x29_2).f2.f3))) (fun _ hk => hk.2) (.int .i64 ((qC l1 x29_2).f2.f4))) (fun _ hk => hk.2) (.int .i64 ((qC l1 x29_2).f2.f5))) (fun _ hk => trivial)⟩, ⟨by (with_reducible repeat (first | refine qE ?_ _ | refine qF ?_ | refine qD ?_ _)); refine qV ?_ NB296_300.out _; (with_reducible repeat (first | refine qE ?_ _ | refine qF ?_ | refine qD ?_ _)); refine qV ?_ NB296_300.out _; (with_reducible repeat (first | refine qE ?_ _ | refine qF ?_ | refine qD ?_ _)); refine qV ?_ NB296_300.out _; (with_reducible repeat (first | refine qE ?_ _ | refine qF ?_ | refine qD ?_ _)); refine qV ?_ NB296_300.out _; (with_reducible repeat (first | refine qE ?_ _ | refine qF ?_ | refine qD ?_ _)); refine qV ?_ NB296_300.out _; (with_reducible repeat (first | refine qE ?_ _ | refine qF ?_ | refine qD ?_ _)); refine qV ?_ NB296_300.out _; (with_reducible repeat (first | refine qE ?_ _ | refine qF ?_ | refine qD ?_ _)); refine qV ?_ NB296_300.out _; (with_reducible repeat (first | refine qE ?_ _ | refine qF ?_ | refine qD ?_ _)); refine qV ?_ NB296_300.out _; (with_reducible repeat (first | refine qE ?_ _ | refine qF ?_ | refine qD ?_ _)); exact BK296.out⟩, ⟨by (with_reducible repeat (first | refine qE ?_ _ | refine qF ?_ | refine qD ?_ _)); refine qV ?_ NB298_300.out _; (with_reducible repeat (first | refine qE ?_ _ | refine qF ?_ | refine qD ?_ _)); refine qV ?_ NB298_300.out _; (with_reducible repeat (first | refine qE ?_ _ | refine qF ?_ | refine qD ?_ _)); refine qV ?_ NB298_300.out _; (with_reducible repeat (first | refine qE ?_ _ | refine qF ?_ | refine qD ?_ _)); refine qV ?_ NB298_300.out _; (with_reducible repeat (first | refine qE ?_ _ | refine qF ?_ | refine qD ?_ _)); refine qV ?_ NB298_300.out _; (with_reducible repeat (first | refine qE ?_ _ | refine qF ?_ | refine qD ?_ _)); refine qV ?_ NB298_300.out _; (with_reducible repeat (first | refine qE ?_ _ | refine qF ?_ | refine qD ?_ _)); refine qV ?_ NB298_300.out _; (with_reducible repeat (first | refine qE ?_ _ | refine qF ?_ | refine qD ?_ _)); refine qV ?_ NB298_300.out _; (with_reducible repeat (first | refine qE ?_ _ | refine qF ?_ | refine qD ?_ _)); exact BK298.out⟩, ⟨bl⟩⟩
             ·rw [if_neg c81] at H
              have c81b0 : (((qC l1 x29_2).f0) == ((qC l1 x23_1).f0)) = false := beq_eq_false_iff_ne.mpr c81
              have c81b1 : (((qC l1 x29_2).f0) != ((qC l1 x23_1).f0)) = true := bne_iff_ne.mpr c81
              have H' := Aside0.mk H
              clear H
              have p299 : 0 ≤ (x29_2 : Int) := of_decide_eq_true (by first | (with_reducible assumption) | assumption)
              have q299 : x29_2 < (l1.length : Int) := of_decide_eq_true (by first | (with_reducible assumption) | assumption)
              obtain ⟨ad299, e299, hx299_0, hx299_1, hx299_2, hx299_3, hx299_4, hx299_5, hx299_6, hx299_7⟩ := qgA HR1.out x29_2 p299 q299
              obtain rfl : ad297 = ad299 := (by injection e299)
              replace hx299_0 := (HB.out.cell (World.block_lt_of_cell? w _ hx299_0)).trans hx299_0
              replace hx299_1 := (HB.out.cell (World.block_lt_of_cell? w _ hx299_1)).trans hx299_1
              replace hx299_2 := (HB.out.cell (World.block_lt_of_cell? w _ hx299_2)).trans hx299_2
              replace hx299_3 := (HB.out.cell (World.block_lt_of_cell? w _ hx299_3)).trans hx299_3
              replace hx299_4 := (HB.out.cell (World.block_lt_of_cell? w _ hx299_4)).trans hx299_4
              replace hx299_5 := (HB.out.cell (World.block_lt_of_cell? w _ hx299_5)).trans hx299_5
              replace hx299_6 := (HB.out.cell (World.block_lt_of_cell? w _ hx299_6)).trans hx299_6
              replace hx299_7 := (HB.out.cell (World.block_lt_of_cell? w _ hx299_7)).trans hx299_7
              replace p299 := eq_true p299
              replace q299 := eq_true q299
              go_wp2_with (first | ((with_reducible refine qg (N := 12) rfl ?_); refine qd ?hg (N := 12) ?hd (cs := #[.int .i64 0, .int .i64 0, .int .i64 0, .int .i64 0, .int .i64 0, .int .i64 0, .int .i64 0, .int .i64 0]) (t := 57) ?hr ?_; (case hd => rfl); (case hg => rfl); (case hr => first | (go_simp; done) | (go_simp; rfl)); intro gb300 hg w102 hbox hb; have n0_ := Aside0.mk (Kd.qc (by (with_reducible repeat (first | apply Kd.qK | apply Kd.qJ | apply Kd.qO)); exact HO_297002.out) hb); have n1_ := Aside0.mk (bb BK296 hb); have n2_ := Aside0.mk (bb BK298 hb); have n3_ := Aside0.mk (qG bl hb); have n4_ := Aside0.mk (hbox); have n5_ := Aside0.mk ((gg hg)); have n6_ := Aside0.mk ((gg hg)); have n7_ := Aside0.mk ((nl BK296 hg)); have n8_ := Aside0.mk ((nr BK296 hg)); have n9_ := Aside0.mk ((nl BK298 hg)); have n10_ := Aside0.mk ((nr BK298 hg)); clear HO_297002; clear BK296; clear BK298; clear HB; have HO_297002 := n0_; have BK296 := n1_; have BK298 := n2_; have HB := n3_; have BK300 := n4_; have GW300 := n5_; have GE300 := n6_; have NB296_300 := n7_; have NB300_296 := n8_; have NB298_300 := n9_; have NB300_298 := n10_; clear n0_ n1_ n2_ n3_ n4_ n5_ n6_ n7_ n8_ n9_ n10_; clear hb hbox hg; have hnb103 := NB300_296.out; have hnc103 := NB296_300.out; have hnb104 := NB300_298.out; have hnc104 := NB298_300.out; have hcz105_0 := bc BK300 0; have hcz105_1 := bc BK300 1; have hcz105_2 := bc BK300 2; have hcz105_3 := bc BK300 3; have hcz105_4 := bc BK300 4; have hcz105_5 := bc BK300 5; have hcz105_6 := bc BK300 6; have hcz105_7 := bc BK300 7; have hfz105_0 := qA BK300.out 0; have hfz105_1 := qA BK300.out 1; have hfz105_2 := qA BK300.out 2; have hfz105_3 := qA BK300.out 3; have hfz105_4 := qA BK300.out 4; have hfz105_5 := qA BK300.out 5; have hfz105_6 := qA BK300.out 6; have hfz105_7 := qA BK300.out 7; have hnb106 := NB298_296.out; have hnc106 := NB296_298.out; have hcz107_0 := bc BK298 0; have hcz107_1 := bc BK298 1; have hcz107_2 := bc BK298 2; have hcz107_3 := bc BK298 3; have hcz107_4 := bc BK298 4; have hcz107_5 := bc BK298 5; have hcz107_6 := bc BK298 6; have hcz107_7 := bc BK298 7; have hfz107_0 := qA BK298.out 0; have hfz107_1 := qA BK298.out 1; have hfz107_2 := qA BK298.out 2; have hfz107_3 := qA BK298.out 3; have hfz107_4 := qA BK298.out 4; have hfz107_5 := qA BK298.out 5; have hfz107_6 := qA BK298.out 6; have hfz107_7 := qA BK298.out 7))
              go_roundg k2
              case measure => have := HK1.out; have := HK2.out; omega
              case rel => exact ⟨(x8_2), (wrap64 (x29_2 + 1)), (by first | rfl | (simp; done) | (simp [*]; done)), (by first | rfl | (simp; done) | (simp [*]; done)), H', ⟨by have := HK1.out; have := HK2.out; omega⟩, ⟨by (with_reducible repeat (first | apply Kd.qK | apply Kd.qJ | apply Kd.qO)); exact Kd.qGA (Kd.R_far (p := ⟨gb300, 7, none⟩) (Kd.R_far (p := ⟨gb300, 6, none⟩) (Kd.R_far (p := ⟨gb300, 5, none⟩) (Kd.R_far (p := ⟨gb300, 4, none⟩) (Kd.R_far (p := ⟨gb300, 3, none⟩) (Kd.R_far (p := ⟨gb300, 2, none⟩) (Kd.R_far (p := ⟨gb300, 1, none⟩) (Kd.R_far (p := ⟨gb300, 0, none⟩) (Kd.qvA HO_297002.out BK300.out (by decide)) (fun _ hk => hk.2) (.int .i64 ((qC l1 x29_2).f0))) (fun _ hk => hk.2) (.int .i64 ((qC l1 x29_2).f1))) (fun _ hk => hk.2) (.int .i64 ((qC l1 x29_2).f2.f0))) (fun _ hk => hk.2) (.int .i64 ((qC l1 x29_2).f2.f1))) (fun _ hk => hk.2) (.int .i64 ((qC l1 x29_2).f2.f2))) (fun _ hk => hk.2) (.int .i64 ((qC l1 x29_2).f2.f3))) (fun _ hk => hk.2) (.int .i64 ((qC l1 x29_2).f2.f4))) (fun _ hk => hk.2) (.int .i64 ((qC l1 x29_2).f2.f5))) (fun _ hk => trivial)⟩, ⟨by (with_reducible repeat (first | refine qE ?_ _ | refine qF ?_ | refine qD ?_ _)); refine qV ?_ NB296_300.out _; (with_reducible repeat (first | refine qE ?_ _ | refine qF ?_ | refine qD ?_ _)); refine qV ?_ NB296_300.out _; (with_reducible repeat (first | refine qE ?_ _ | refine qF ?_ | refine qD ?_ _)); refine qV ?_ NB296_300.out _; (with_reducible repeat (first | refine qE ?_ _ | refine qF ?_ | refine qD ?_ _)); refine qV ?_ NB296_300.out _; (with_reducible repeat (first | refine qE ?_ _ | refine qF ?_ | refine qD ?_ _)); refine qV ?_ NB296_300.out _; (with_reducible repeat (first | refine qE ?_ _ | refine qF ?_ | refine qD ?_ _)); refine qV ?_ NB296_300.out _; (with_reducible repeat (first | refine qE ?_ _ | refine qF ?_ | refine qD ?_ _)); refine qV ?_ NB296_300.out _; (with_reducible repeat (first | refine qE ?_ _ | refine qF ?_ | refine qD ?_ _)); refine qV ?_ NB296_300.out _; (with_reducible repeat (first | refine qE ?_ _ | refine qF ?_ | refine qD ?_ _)); exact BK296.out⟩, ⟨by (with_reducible repeat (first | refine qE ?_ _ | refine qF ?_ | refine qD ?_ _)); refine qV ?_ NB298_300.out _; (with_reducible repeat (first | refine qE ?_ _ | refine qF ?_ | refine qD ?_ _)); refine qV ?_ NB298_300.out _; (with_reducible repeat (first | refine qE ?_ _ | refine qF ?_ | refine qD ?_ _)); refine qV ?_ NB298_300.out _; (with_reducible repeat (first | refine qE ?_ _ | refine qF ?_ | refine qD ?_ _)); refine qV ?_ NB298_300.out _; (with_reducible repeat (first | refine qE ?_ _ | refine qF ?_ | refine qD ?_ _)); refine qV ?_ NB298_300.out _; (with_reducible repeat (first | refine qE ?_ _ | refine qF ?_ | refine qD ?_ _)); refine qV ?_ NB298_300.out _; (with_reducible repeat (first | refine qE ?_ _ | refine qF ?_ | refine qD ?_ _)); refine qV ?_ NB298_300.out _; (with_reducible repeat (first | refine qE ?_ _ | refine qF ?_ | refine qD ?_ _)); refine qV ?_ NB298_300.out _; (with_reducible repeat (first | refine qE ?_ _ | refine qF ?_ | refine qD ?_ _)); exact BK298.out⟩, ⟨bl⟩⟩
           ·rw [if_neg c17] at H
            exact absurd H (by simp)
          ·rw [if_neg c16] at H
           exact absurd H (by simp)
         ·rw [if_neg c15] at H
          have c15b0 : decide (x29_2 < (l1.length : Int)) = false := decide_eq_false c15
          clear c15
          have H' := Aside0.mk H
          clear H
          go_wp2
          go_roundg k2
          case measure => have := HK1.out; have := HK2.out; omega
          case rel => exact ⟨(x8_2), (wrap64 (x23_1 + 1)), (by first | rfl | (simp; done) | (simp [*]; done)), (by first | rfl | (simp; done) | (simp [*]; done)), H', ⟨by have := HK1.out; have := HK2.out; omega⟩, ⟨by (with_reducible repeat (first | apply Kd.qK | apply Kd.qJ | apply Kd.qO)); exact HO_297002.out⟩, ⟨by (with_reducible repeat (first | refine qE ?_ _ | refine qF ?_ | refine qD ?_ _)); exact BK296.out⟩, ⟨bl⟩⟩
      ·rw [if_neg c11] at H
       exact absurd H (by simp)
     ·rw [if_neg c10] at H
      exact absurd H (by simp)
    ·rw [if_neg c9] at H
     have c9b0 : decide (x23_1 < (l1.length : Int)) = false := decide_eq_false c9
     clear c9
     simp only [Option.some.injEq, Prod.mk.injEq] at H
     obtain ⟨rfl, rfl⟩ := H
     go_wp2
     go_ret2
     exact ⟨by first | rfl | (simp [qI, qH] <;> rfl) | (simp [*, qI, qH] <;> rfl), bl⟩
 ·replace c4 := Bool.eq_false_iff.mpr c4
  subst c4
  have H1 : (some (0, false)) = some (r1, r2) := by rw [if_neg (show ¬ (false = true) by decide)] at H; exact H
  clear H
  have H := H1
  clear H1
  simp only [Option.some.injEq, Prod.mk.injEq] at H
  obtain ⟨rfl, rfl⟩ := H
  go_enter Tryd.func18, Tryd.ntmps18
  go_wp2_with (first | ((with_reducible refine qL (f := 44) rfl ?_); refine qh (some 16) rfl rfl Tryd.func44 (by kernel_rfl) rfl #[.string a0, .slice A1 l1.length c1] rfl (by (try simp only [List.map_toArray, List.map_cons, List.map_nil]); first | done | rfl | (simp only [List.length_drop, List.length_take]; rfl)) ?_; (with_reducible refine (qRA.calls k a0 _ _ l1 t290 t291 t292 false _ ?side1 ?side2 A3.out).mono ?_); (case side1 => repeat (first | exact HR1.out | (with_reducible refine Kd.qa ?_ _) | (with_reducible refine Kd.qZ ?_ _) | (with_reducible refine Kd.qe ?_))); (case side2 => exact HC1.out); rintro e w108 ⟨v293, rfl, ho0, hb⟩; refine ⟨_, rfl, ?_⟩; have n0_ := Aside0.mk (Kd.qDA ho0 (qb bl)); have n1_ := Aside0.mk (qG bl hb); clear HB; have HO294 := n0_; have HB := n1_; clear n0_ n1_; (try clear hb); (try clear hb2); (try clear hk); (try clear hi); (try clear ho0)) | ((with_reducible refine qg (N := 6) rfl ?_); refine qd ?hg (N := 6) ?hd (cs := #[.int .i64 0, .int .i64 0, .slice none 0 0]) (t := 50) ?hr ?_; (case hd => rfl); (case hg => rfl); (case hr => first | (go_simp; done) | (go_simp; rfl)); intro gb296 hg w109 hbox hb; have n0_ := Aside0.mk (Kd.qc (by (with_reducible repeat (first | apply Kd.qK | apply Kd.qJ | apply Kd.qO)); exact HO294.out) hb); have n1_ := Aside0.mk (qG bl hb); have n2_ := Aside0.mk (hbox); have n3_ := Aside0.mk ((gg hg)); have n4_ := Aside0.mk ((gg hg)); clear HO294; clear HB; have HO294 := n0_; have HB := n1_; have BK296 := n2_; have GW296 := n3_; have GE296 := n4_; clear n0_ n1_ n2_ n3_ n4_; clear hb hbox hg; have hcz110_0 := bc BK296 0; have hcz110_1 := bc BK296 1; have hcz110_2 := bc BK296 2; have hfz110_0 := qA BK296.out 0; have hfz110_1 := qA BK296.out 1; have hfz110_2 := qA BK296.out 2; obtain ⟨Ao111, co111, eo111⟩ := Kd.qt HO294.out; subst eo111))
  go_ret2
  exact ⟨by first | rfl | (simp [qI, qH] <;> rfl) | (simp [*, qI, qH] <;> rfl), bl⟩
def qoA.f (a0_0 : Int) (a0_1 : Int) (a0_2 : Int) (a0_3 : Int) (a0_4 : Int) (a0_5 : Int) (a0_6 : Int) (a0_7 : Int) (a1_0 : Int) (a1_1 : Int) (a1_2 : Int) (a1_3 : Int) (a1_4 : Int) (a1_5 : Int) (a1_6 : Int) (a1_7 : Int) : Option (Bool) := (qOA.f a1_0 a1_1 a1_2 a1_3 a1_4 a1_5 a1_6 a1_7 (wrap64 (a0_0 + 1)) a0_1).bind fun t304 => (if t304 = true then (if a0_4 = a1_6 then (some true) else ((qOA.f a1_0 a1_1 a1_2 a1_3 a1_4 a1_5 a1_6 a1_7 a0_0 (wrap64 (a0_1 + 1))).bind fun t305 => (if t305 = true then (some (a0_5 == a1_3)) else (some false)))) else ((qOA.f a1_0 a1_1 a1_2 a1_3 a1_4 a1_5 a1_6 a1_7 a0_0 (wrap64 (a0_1 + 1))).bind fun t306 => (if t306 = true then (some (a0_5 == a1_3)) else (some false))))
set_option maxHeartbeats 8000000 in
set_option maxRecDepth 100000 in
theorem qoA.calls (a0_0 : Int) (a0_1 : Int) (a0_2 : Int) (a0_3 : Int) (a0_4 : Int) (a0_5 : Int) (a0_6 : Int) (a0_7 : Int) (a1_0 : Int) (a1_1 : Int) (a1_2 : Int) (a1_3 : Int) (a1_4 : Int) (a1_5 : Int) (a1_6 : Int) (a1_7 : Int) (r : Bool) (w : World) (h : qoA.f a0_0 a0_1 a0_2 a0_3 a0_4 a0_5 a0_6 a0_7 a1_0 a1_1 a1_2 a1_3 a1_4 a1_5 a1_6 a1_7 = some r) :
  Calls Tryd.prog 46 #[.agg #[.int .i64 a0_0, .int .i64 a0_1, .int .i64 a0_2, .int .i64 a0_3, .int .i64 a0_4, .int .i64 a0_5, .int .i64 a0_6, .int .i64 a0_7], .agg #[.int .i64 a1_0, .int .i64 a1_1, .int .i64 a1_2, .int .i64 a1_3, .int .i64 a1_4, .int .i64 a1_5, .int .i64 a1_6, .int .i64 a1_7]] w fun e w' => e = .returned (.bool r) ∧ Below w.heap.size w w' := by
 have hu57 := Tryd.underlying57
 have HB := Aside0.mk (Below.refl w.heap.size w)
 have H : ((qOA.f a1_0 a1_1 a1_2 a1_3 a1_4 a1_5 a1_6 a1_7 (wrap64 (a0_0 + 1)) a0_1).bind fun t304 => (if t304 = true then (if a0_4 = a1_6 then (some true) else ((qOA.f a1_0 a1_1 a1_2 a1_3 a1_4 a1_5 a1_6 a1_7 a0_0 (wrap64 (a0_1 + 1))).bind fun t305 => (if t305 = true then (some (a0_5 == a1_3)) else (some false)))) else ((qOA.f a1_0 a1_1 a1_2 a1_3 a1_4 a1_5 a1_6 a1_7 a0_0 (wrap64 (a0_1 + 1))).bind fun t306 => (if t306 = true then (some (a0_5 == a1_3)) else (some false))))) = some r := h
 clear h
 replace H := Option.bind_eq_some_iff.mp H
 obtain ⟨t304, A30, H⟩ := H
 replace H : (if t304 = true then (if a0_4 = a1_6 then (some true) else ((qOA.f a1_0 a1_1 a1_2 a1_3 a1_4 a1_5 a1_6 a1_7 a0_0 (wrap64 (a0_1 + 1))).bind fun t305 => (if t305 = true then (some (a0_5 == a1_3)) else (some false)))) else ((qOA.f a1_0 a1_1 a1_2 a1_3 a1_4 a1_5 a1_6 a1_7 a0_0 (wrap64 (a0_1 + 1))).bind fun t306 => (if t306 = true then (some (a0_5 == a1_3)) else (some false)))) = some r := H
 have A3 := Aside0.mk A30
 clear A30
 by_cases c4 : t304 = true
 ·subst c4
  have H1 : (if a0_4 = a1_6 then (some true) else ((qOA.f a1_0 a1_1 a1_2 a1_3 a1_4 a1_5 a1_6 a1_7 a0_0 (wrap64 (a0_1 + 1))).bind fun t305 => (if t305 = true then (some (a0_5 == a1_3)) else (some false)))) = some r := by rw [if_pos rfl] at H; exact H
  clear H
  have H := H1
  clear H1
  by_cases c5 : a0_4 = a1_6
  ·rw [if_pos c5] at H
   have c5b0 : (a0_4 == a1_6) = true := beq_iff_eq.mpr c5
   have c5b1 : (a0_4 != a1_6) = false := bne_eq_false_iff_eq.mpr c5
   clear c5
   obtain rfl := Option.some.inj H
   go_enter Tryd.func46, Tryd.ntmps46
   go_wp2_with (first | ((with_reducible refine qg (N := 2) rfl ?_); refine qd ?hg (N := 2) ?hd (cs := #[.int .i64 a0_0, .int .i64 a0_1, .int .i64 a0_2, .int .i64 a0_3, .int .i64 a0_4, .int .i64 a0_5, .int .i64 a0_6, .int .i64 a0_7]) (t := 57) ?hr ?_; (case hd => rfl); (case hg => rfl); (case hr => first | (go_simp; done) | (go_simp; rfl)); intro gb302 hg w6 hbox hb; have n0_ := Aside0.mk (qG bl hb); have n1_ := Aside0.mk (hbox); have n2_ := Aside0.mk ((gg hg)); have n3_ := Aside0.mk ((gg hg)); clear HB; have HB := n0_; have BK302 := n1_; have GW302 := n2_; have GE302 := n3_; clear n0_ n1_ n2_ n3_; clear hb hbox hg) | ((with_reducible refine qg (N := 3) rfl ?_); refine qd ?hg (N := 3) ?hd (cs := #[.int .i64 a1_0, .int .i64 a1_1, .int .i64 a1_2, .int .i64 a1_3, .int .i64 a1_4, .int .i64 a1_5, .int .i64 a1_6, .int .i64 a1_7]) (t := 57) ?hr ?_; (case hd => rfl); (case hg => rfl); (case hr => first | (go_simp; done) | (go_simp; rfl)); intro gb303 hg w7 hbox hb; have n0_ := Aside0.mk (bb BK302 hb); have n1_ := Aside0.mk (qG bl hb); have n2_ := Aside0.mk (hbox); have n3_ := Aside0.mk ((gg hg)); have n4_ := Aside0.mk ((gg hg)); have n5_ := Aside0.mk ((nl BK302 hg)); have n6_ := Aside0.mk ((nr BK302 hg)); clear BK302; clear HB; have BK302 := n0_; have HB := n1_; have BK303 := n2_; have GW303 := n3_; have GE303 := n4_; have NB302_303 := n5_; have NB303_302 := n6_; clear n0_ n1_ n2_ n3_ n4_ n5_ n6_; clear hb hbox hg; have hnb8 := NB303_302.out; have hnc8 := NB302_303.out; have hcz9_0 := bc BK303 0; have hcz9_1 := bc BK303 1; have hcz9_2 := bc BK303 2; have hcz9_3 := bc BK303 3; have hcz9_4 := bc BK303 4; have hcz9_5 := bc BK303 5; have hcz9_6 := bc BK303 6; have hcz9_7 := bc BK303 7; have hfz9_0 := qA BK303.out 0; have hfz9_1 := qA BK303.out 1; have hfz9_2 := qA BK303.out 2; have hfz9_3 := qA BK303.out 3; have hfz9_4 := qA BK303.out 4; have hfz9_5 := qA BK303.out 5; have hfz9_6 := qA BK303.out 6; have hfz9_7 := qA BK303.out 7; have hcz10_0 := bc BK302 0; have hcz10_1 := bc BK302 1; have hcz10_2 := bc BK302 2; have hcz10_3 := bc BK302 3; have hcz10_4 := bc BK302 4; have hcz10_5 := bc BK302 5; have hcz10_6 := bc BK302 6; have hcz10_7 := bc BK302 7; have hfz10_0 := qA BK302.out 0; have hfz10_1 := qA BK302.out 1; have hfz10_2 := qA BK302.out 2; have hfz10_3 := qA BK302.out 3; have hfz10_4 := qA BK302.out 4; have hfz10_5 := qA BK302.out 5; have hfz10_6 := qA BK302.out 6; have hfz10_7 := qA BK302.out 7) | ((with_reducible refine qL (f := 69) rfl ?_); refine qh (some 11) rfl rfl Tryd.func69 (by kernel_rfl) rfl #[.agg #[.int .i64 a1_0, .int .i64 a1_1, .int .i64 a1_2, .int .i64 a1_3, .int .i64 a1_4, .int .i64 a1_5, .int .i64 a1_6, .int .i64 a1_7], .int .i64 (wrap64 (a0_0 + 1)), .int .i64 a0_1] rfl (by (try simp only [List.map_toArray, List.map_cons, List.map_nil]); first | done | rfl | (simp only [List.length_drop, List.length_take]; rfl)) ?_; (with_reducible refine (qOA.calls a1_0 a1_1 a1_2 a1_3 a1_4 a1_5 a1_6 a1_7 (wrap64 (a0_0 + 1)) a0_1 true _ A3.out).mono ?_); rintro e w11 ⟨rfl, hb⟩; refine ⟨_, rfl, ?_⟩; have n0_ := Aside0.mk (bb BK302 hb); have n1_ := Aside0.mk (bb BK303 hb); have n2_ := Aside0.mk (qG bl hb); clear BK302; clear BK303; clear HB; have BK302 := n0_; have BK303 := n1_; have HB := n2_; clear n0_ n1_ n2_; (try clear hb); (try clear hb2); (try clear hk); (try clear hi); have hcz12_0 := bc BK302 0; have hcz12_1 := bc BK302 1; have hcz12_2 := bc BK302 2; have hcz12_3 := bc BK302 3; have hcz12_4 := bc BK302 4; have hcz12_5 := bc BK302 5; have hcz12_6 := bc BK302 6; have hcz12_7 := bc BK302 7; have hfz12_0 := qA BK302.out 0; have hfz12_1 := qA BK302.out 1; have hfz12_2 := qA BK302.out 2; have hfz12_3 := qA BK302.out 3; have hfz12_4 := qA BK302.out 4; have hfz12_5 := qA BK302.out 5; have hfz12_6 := qA BK302.out 6; have hfz12_7 := qA BK302.out 7; have hcz13_0 := bc BK303 0; have hcz13_1 := bc BK303 1; have hcz13_2 := bc BK303 2; have hcz13_3 := bc BK303 3; have hcz13_4 := bc BK303 4; have hcz13_5 := bc BK303 5; have hcz13_6 := bc BK303 6; have hcz13_7 := bc BK303 7; have hfz13_0 := qA BK303.out 0; have hfz13_1 := qA BK303.out 1; have hfz13_2 := qA BK303.out 2; have hfz13_3 := qA BK303.out 3; have hfz13_4 := qA BK303.out 4; have hfz13_5 := qA BK303.out 5; have hfz13_6 := qA BK303.out 6; have hfz13_7 := qA BK303.out 7))
   go_ret
   exact ⟨by first | rfl | (simp [qI, qH] <;> rfl) | (simp [*, qI, qH] <;> rfl), bl⟩
  ·rw [if_neg c5] at H
   have c5b0 : (a0_4 == a1_6) = false := beq_eq_false_iff_ne.mpr c5
   have c5b1 : (a0_4 != a1_6) = true := bne_iff_ne.mpr c5
   replace H := Option.bind_eq_some_iff.mp H
   obtain ⟨t305, A140, H⟩ := H
   replace H : (if t305 = true then (some (a0_5 == a1_3)) else (some false)) = some r := H
   have A14 := Aside0.mk A140
   clear A140
   by_cases c15 : t305 = true
   ·subst c15
    have H1 : (some (a0_5 == a1_3)) = some r := by rw [if_pos rfl] at H; exact H
    clear H
    have H := H1
    clear H1
    obtain rfl := Option.some.inj H
    go_enter Tryd.func46, Tryd.ntmps46
    go_wp2_with (first | ((with_reducible refine qg (N := 2) rfl ?_); refine qd ?hg (N := 2) ?hd (cs := #[.int .i64 a0_0, .int .i64 a0_1, .int .i64 a0_2, .int .i64 a0_3, .int .i64 a0_4, .int .i64 a0_5, .int .i64 a0_6, .int .i64 a0_7]) (t := 57) ?hr ?_; (case hd => rfl); (case hg => rfl); (case hr => first | (go_simp; done) | (go_simp; rfl)); intro gb302 hg w16 hbox hb; have n0_ := Aside0.mk (qG bl hb); have n1_ := Aside0.mk (hbox); have n2_ := Aside0.mk ((gg hg)); have n3_ := Aside0.mk ((gg hg)); clear HB; have HB := n0_; have BK302 := n1_; have GW302 := n2_; have GE302 := n3_; clear n0_ n1_ n2_ n3_; clear hb hbox hg) | ((with_reducible refine qg (N := 3) rfl ?_); refine qd ?hg (N := 3) ?hd (cs := #[.int .i64 a1_0, .int .i64 a1_1, .int .i64 a1_2, .int .i64 a1_3, .int .i64 a1_4, .int .i64 a1_5, .int .i64 a1_6, .int .i64 a1_7]) (t := 57) ?hr ?_; (case hd => rfl); (case hg => rfl); (case hr => first | (go_simp; done) | (go_simp; rfl)); intro gb303 hg w17 hbox hb; have n0_ := Aside0.mk (bb BK302 hb); have n1_ := Aside0.mk (qG bl hb); have n2_ := Aside0.mk (hbox); have n3_ := Aside0.mk ((gg hg)); have n4_ := Aside0.mk ((gg hg)); have n5_ := Aside0.mk ((nl BK302 hg)); have n6_ := Aside0.mk ((nr BK302 hg)); clear BK302; clear HB; have BK302 := n0_; have HB := n1_; have BK303 := n2_; have GW303 := n3_; have GE303 := n4_; have NB302_303 := n5_; have NB303_302 := n6_; clear n0_ n1_ n2_ n3_ n4_ n5_ n6_; clear hb hbox hg; have hnb18 := NB303_302.out; have hnc18 := NB302_303.out; have hcz19_0 := bc BK303 0; have hcz19_1 := bc BK303 1; have hcz19_2 := bc BK303 2; have hcz19_3 := bc BK303 3; have hcz19_4 := bc BK303 4; have hcz19_5 := bc BK303 5; have hcz19_6 := bc BK303 6; have hcz19_7 := bc BK303 7; have hfz19_0 := qA BK303.out 0; have hfz19_1 := qA BK303.out 1; have hfz19_2 := qA BK303.out 2; have hfz19_3 := qA BK303.out 3; have hfz19_4 := qA BK303.out 4; have hfz19_5 := qA BK303.out 5; have hfz19_6 := qA BK303.out 6; have hfz19_7 := qA BK303.out 7; have hcz20_0 := bc BK302 0; have hcz20_1 := bc BK302 1; have hcz20_2 := bc BK302 2; have hcz20_3 := bc BK302 3; have hcz20_4 := bc BK302 4; have hcz20_5 := bc BK302 5; have hcz20_6 := bc BK302 6; have hcz20_7 := bc BK302 7; have hfz20_0 := qA BK302.out 0; have hfz20_1 := qA BK302.out 1; have hfz20_2 := qA BK302.out 2; have hfz20_3 := qA BK302.out 3; have hfz20_4 := qA BK302.out 4; have hfz20_5 := qA BK302.out 5; have hfz20_6 := qA BK302.out 6; have hfz20_7 := qA BK302.out 7) | ((with_reducible refine qL (f := 69) rfl ?_); refine qh (some 11) rfl rfl Tryd.func69 (by kernel_rfl) rfl #[.agg #[.int .i64 a1_0, .int .i64 a1_1, .int .i64 a1_2, .int .i64 a1_3, .int .i64 a1_4, .int .i64 a1_5, .int .i64 a1_6, .int .i64 a1_7], .int .i64 (wrap64 (a0_0 + 1)), .int .i64 a0_1] rfl (by (try simp only [List.map_toArray, List.map_cons, List.map_nil]); first | done | rfl | (simp only [List.length_drop, List.length_take]; rfl)) ?_; (with_reducible refine (qOA.calls a1_0 a1_1 a1_2 a1_3 a1_4 a1_5 a1_6 a1_7 (wrap64 (a0_0 + 1)) a0_1 true _ A3.out).mono ?_); rintro e w21 ⟨rfl, hb⟩; refine ⟨_, rfl, ?_⟩; have n0_ := Aside0.mk (bb BK302 hb); have n1_ := Aside0.mk (bb BK303 hb); have n2_ := Aside0.mk (qG bl hb); clear BK302; clear BK303; clear HB; have BK302 := n0_; have BK303 := n1_; have HB := n2_; clear n0_ n1_ n2_; (try clear hb); (try clear hb2); (try clear hk); (try clear hi); have hcz22_0 := bc BK302 0; have hcz22_1 := bc BK302 1; have hcz22_2 := bc BK302 2; have hcz22_3 := bc BK302 3; have hcz22_4 := bc BK302 4; have hcz22_5 := bc BK302 5; have hcz22_6 := bc BK302 6; have hcz22_7 := bc BK302 7; have hfz22_0 := qA BK302.out 0; have hfz22_1 := qA BK302.out 1; have hfz22_2 := qA BK302.out 2; have hfz22_3 := qA BK302.out 3; have hfz22_4 := qA BK302.out 4; have hfz22_5 := qA BK302.out 5; have hfz22_6 := qA BK302.out 6; have hfz22_7 := qA BK302.out 7; have hcz23_0 := bc BK303 0; have hcz23_1 := bc BK303 1; have hcz23_2 := bc BK303 2; have hcz23_3 := bc BK303 3; have hcz23_4 := bc BK303 4; have hcz23_5 := bc BK303 5; have hcz23_6 := bc BK303 6; have hcz23_7 := bc BK303 7; have hfz23_0 := qA BK303.out 0; have hfz23_1 := qA BK303.out 1; have hfz23_2 := qA BK303.out 2; have hfz23_3 := qA BK303.out 3; have hfz23_4 := qA BK303.out 4; have hfz23_5 := qA BK303.out 5; have hfz23_6 := qA BK303.out 6; have hfz23_7 := qA BK303.out 7) | (go_at_call 69; (with_reducible refine (qOA.calls a1_0 a1_1 a1_2 a1_3 a1_4 a1_5 a1_6 a1_7 a0_0 (wrap64 (a0_1 + 1)) true _ A14.out).mono ?_); rintro e w24 ⟨rfl, hb⟩; have n0_ := Aside0.mk (bb BK302 hb); have n1_ := Aside0.mk (bb BK303 hb); have n2_ := Aside0.mk (qG bl hb); clear BK302; clear BK303; clear HB; have BK302 := n0_; have BK303 := n1_; have HB := n2_; clear n0_ n1_ n2_; (try clear hb); (try clear hb2); (try clear hk); (try clear hi); have hcz25_0 := bc BK302 0; have hcz25_1 := bc BK302 1; have hcz25_2 := bc BK302 2; have hcz25_3 := bc BK302 3; have hcz25_4 := bc BK302 4; have hcz25_5 := bc BK302 5; have hcz25_6 := bc BK302 6; have hcz25_7 := bc BK302 7; have hfz25_0 := qA BK302.out 0; have hfz25_1 := qA BK302.out 1; have hfz25_2 := qA BK302.out 2; have hfz25_3 := qA BK302.out 3; have hfz25_4 := qA BK302.out 4; have hfz25_5 := qA BK302.out 5; have hfz25_6 := qA BK302.out 6; have hfz25_7 := qA BK302.out 7; have hcz26_0 := bc BK303 0; have hcz26_1 := bc BK303 1; have hcz26_2 := bc BK303 2; have hcz26_3 := bc BK303 3; have hcz26_4 := bc BK303 4; have hcz26_5 := bc BK303 5; have hcz26_6 := bc BK303 6; have hcz26_7 := bc BK303 7; have hfz26_0 := qA BK303.out 0; have hfz26_1 := qA BK303.out 1; have hfz26_2 := qA BK303.out 2; have hfz26_3 := qA BK303.out 3; have hfz26_4 := qA BK303.out 4; have hfz26_5 := qA BK303.out 5; have hfz26_6 := qA BK303.out 6; have hfz26_7 := qA BK303.out 7))
    go_ret
    exact ⟨by first | rfl | (simp [qI, qH] <;> rfl) | (simp [*, qI, qH] <;> rfl), bl⟩
   ·replace c15 := Bool.eq_false_iff.mpr c15
    subst c15
    have H1 : (some false) = some r := by rw [if_neg (show ¬ (false = true) by decide)] at H; exact H
    clear H
    have H := H1
    clear H1
    obtain rfl := Option.some.inj H
    go_enter Tryd.func46, Tryd.ntmps46
    go_wp2_with (first | ((with_reducible refine qg (N := 2) rfl ?_); refine qd ?hg (N := 2) ?hd (cs := #[.int .i64 a0_0, .int .i64 a0_1, .int .i64 a0_2, .int .i64 a0_3, .int .i64 a0_4, .int .i64 a0_5, .int .i64 a0_6, .int .i64 a0_7]) (t := 57) ?hr ?_; (case hd => rfl); (case hg => rfl); (case hr => first | (go_simp; done) | (go_simp; rfl)); intro gb302 hg w27 hbox hb; have n0_ := Aside0.mk (qG bl hb); have n1_ := Aside0.mk (hbox); have n2_ := Aside0.mk ((gg hg)); have n3_ := Aside0.mk ((gg hg)); clear HB; have HB := n0_; have BK302 := n1_; have GW302 := n2_; have GE302 := n3_; clear n0_ n1_ n2_ n3_; clear hb hbox hg) | ((with_reducible refine qg (N := 3) rfl ?_); refine qd ?hg (N := 3) ?hd (cs := #[.int .i64 a1_0, .int .i64 a1_1, .int .i64 a1_2, .int .i64 a1_3, .int .i64 a1_4, .int .i64 a1_5, .int .i64 a1_6, .int .i64 a1_7]) (t := 57) ?hr ?_; (case hd => rfl); (case hg => rfl); (case hr => first | (go_simp; done) | (go_simp; rfl)); intro gb303 hg w28 hbox hb; have n0_ := Aside0.mk (bb BK302 hb); have n1_ := Aside0.mk (qG bl hb); have n2_ := Aside0.mk (hbox); have n3_ := Aside0.mk ((gg hg)); have n4_ := Aside0.mk ((gg hg)); have n5_ := Aside0.mk ((nl BK302 hg)); have n6_ := Aside0.mk ((nr BK302 hg)); clear BK302; clear HB; have BK302 := n0_; have HB := n1_; have BK303 := n2_; have GW303 := n3_; have GE303 := n4_; have NB302_303 := n5_; have NB303_302 := n6_; clear n0_ n1_ n2_ n3_ n4_ n5_ n6_; clear hb hbox hg; have hnb29 := NB303_302.out; have hnc29 := NB302_303.out; have hcz30_0 := bc BK303 0; have hcz30_1 := bc BK303 1; have hcz30_2 := bc BK303 2; have hcz30_3 := bc BK303 3; have hcz30_4 := bc BK303 4; have hcz30_5 := bc BK303 5; have hcz30_6 := bc BK303 6; have hcz30_7 := bc BK303 7; have hfz30_0 := qA BK303.out 0; have hfz30_1 := qA BK303.out 1; have hfz30_2 := qA BK303.out 2; have hfz30_3 := qA BK303.out 3; have hfz30_4 := qA BK303.out 4; have hfz30_5 := qA BK303.out 5; have hfz30_6 := qA BK303.out 6; have hfz30_7 := qA BK303.out 7; have hcz31_0 := bc BK302 0; have hcz31_1 := bc BK302 1; have hcz31_2 := bc BK302 2; have hcz31_3 := bc BK302 3; have hcz31_4 := bc BK302 4; have hcz31_5 := bc BK302 5; have hcz31_6 := bc BK302 6; have hcz31_7 := bc BK302 7; have hfz31_0 := qA BK302.out 0; have hfz31_1 := qA BK302.out 1; have hfz31_2 := qA BK302.out 2; have hfz31_3 := qA BK302.out 3; have hfz31_4 := qA BK302.out 4; have hfz31_5 := qA BK302.out 5; have hfz31_6 := qA BK302.out 6; have hfz31_7 := qA BK302.out 7) | ((with_reducible refine qL (f := 69) rfl ?_); refine qh (some 11) rfl rfl Tryd.func69 (by kernel_rfl) rfl #[.agg #[.int .i64 a1_0, .int .i64 a1_1, .int .i64 a1_2, .int .i64 a1_3, .int .i64 a1_4, .int .i64 a1_5, .int .i64 a1_6, .int .i64 a1_7], .int .i64 (wrap64 (a0_0 + 1)), .int .i64 a0_1] rfl (by (try simp only [List.map_toArray, List.map_cons, List.map_nil]); first | done | rfl | (simp only [List.length_drop, List.length_take]; rfl)) ?_; (with_reducible refine (qOA.calls a1_0 a1_1 a1_2 a1_3 a1_4 a1_5 a1_6 a1_7 (wrap64 (a0_0 + 1)) a0_1 true _ A3.out).mono ?_); rintro e w32 ⟨rfl, hb⟩; refine ⟨_, rfl, ?_⟩; have n0_ := Aside0.mk (bb BK302 hb); have n1_ := Aside0.mk (bb BK303 hb); have n2_ := Aside0.mk (qG bl hb); clear BK302; clear BK303; clear HB; have BK302 := n0_; have BK303 := n1_; have HB := n2_; clear n0_ n1_ n2_; (try clear hb); (try clear hb2); (try clear hk); (try clear hi); have hcz33_0 := bc BK302 0; have hcz33_1 := bc BK302 1; have hcz33_2 := bc BK302 2; have hcz33_3 := bc BK302 3; have hcz33_4 := bc BK302 4; have hcz33_5 := bc BK302 5; have hcz33_6 := bc BK302 6; have hcz33_7 := bc BK302 7; have hfz33_0 := qA BK302.out 0; have hfz33_1 := qA BK302.out 1; have hfz33_2 := qA BK302.out 2; have hfz33_3 := qA BK302.out 3; have hfz33_4 := qA BK302.out 4; have hfz33_5 := qA BK302.out 5; have hfz33_6 := qA BK302.out 6; have hfz33_7 := qA BK302.out 7; have hcz34_0 := bc BK303 0; have hcz34_1 := bc BK303 1; have hcz34_2 := bc BK303 2; have hcz34_3 := bc BK303 3; have hcz34_4 := bc BK303 4; have hcz34_5 := bc BK303 5; have hcz34_6 := bc BK303 6; have hcz34_7 := bc BK303 7; have hfz34_0 := qA BK303.out 0; have hfz34_1 := qA BK303.out 1; have hfz34_2 := qA BK303.out 2; have hfz34_3 := qA BK303.out 3; have hfz34_4 := qA BK303.out 4; have hfz34_5 := qA BK303.out 5; have hfz34_6 := qA BK303.out 6; have hfz34_7 := qA BK303.out 7) | (go_at_call 69; (with_reducible refine (qOA.calls a1_0 a1_1 a1_2 a1_3 a1_4 a1_5 a1_6 a1_7 a0_0 (wrap64 (a0_1 + 1)) false _ A14.out).mono ?_); rintro e w35 ⟨rfl, hb⟩; have n0_ := Aside0.mk (bb BK302 hb); have n1_ := Aside0.mk (bb BK303 hb); have n2_ := Aside0.mk (qG bl hb); clear BK302; clear BK303; clear HB; have BK302 := n0_; have BK303 := n1_; have HB := n2_; clear n0_ n1_ n2_; (try clear hb); (try clear hb2); (try clear hk); (try clear hi)))
    go_ret
    exact ⟨by first | rfl | (simp [qI, qH] <;> rfl) | (simp [*, qI, qH] <;> rfl), bl⟩
 ·replace c4 := Bool.eq_false_iff.mpr c4
  subst c4
  have H1 : ((qOA.f a1_0 a1_1 a1_2 a1_3 a1_4 a1_5 a1_6 a1_7 a0_0 (wrap64 (a0_1 + 1))).bind fun t306 => (if t306 = true then (some (a0_5 == a1_3)) else (some false))) = some r := by rw [if_neg (show ¬ (false = true) by decide)] at H; exact H
  clear H
  have H := H1
  clear H1
  replace H := Option.bind_eq_some_iff.mp H
  obtain ⟨t306, A360, H⟩ := H
  replace H : (if t306 = true then (some (a0_5 == a1_3)) else (some false)) = some r := H
  have A36 := Aside0.mk A360
  clear A360
  by_cases c37 : t306 = true
  ·subst c37
   have H1 : (some (a0_5 == a1_3)) = some r := by rw [if_pos rfl] at H; exact H
   clear H
   have H := H1
   clear H1
   obtain rfl := Option.some.inj H
   go_enter Tryd.func46, Tryd.ntmps46
   go_wp2_with (first | ((with_reducible refine qg (N := 2) rfl ?_); refine qd ?hg (N := 2) ?hd (cs := #[.int .i64 a0_0, .int .i64 a0_1, .int .i64 a0_2, .int .i64 a0_3, .int .i64 a0_4, .int .i64 a0_5, .int .i64 a0_6, .int .i64 a0_7]) (t := 57) ?hr ?_; (case hd => rfl); (case hg => rfl); (case hr => first | (go_simp; done) | (go_simp; rfl)); intro gb302 hg w38 hbox hb; have n0_ := Aside0.mk (qG bl hb); have n1_ := Aside0.mk (hbox); have n2_ := Aside0.mk ((gg hg)); have n3_ := Aside0.mk ((gg hg)); clear HB; have HB := n0_; have BK302 := n1_; have GW302 := n2_; have GE302 := n3_; clear n0_ n1_ n2_ n3_; clear hb hbox hg) | ((with_reducible refine qg (N := 3) rfl ?_); refine qd ?hg (N := 3) ?hd (cs := #[.int .i64 a1_0, .int .i64 a1_1, .int .i64 a1_2, .int .i64 a1_3, .int .i64 a1_4, .int .i64 a1_5, .int .i64 a1_6, .int .i64 a1_7]) (t := 57) ?hr ?_; (case hd => rfl); (case hg => rfl); (case hr => first | (go_simp; done) | (go_simp; rfl)); intro gb303 hg w39 hbox hb; have n0_ := Aside0.mk (bb BK302 hb); have n1_ := Aside0.mk (qG bl hb); have n2_ := Aside0.mk (hbox); have n3_ := Aside0.mk ((gg hg)); have n4_ := Aside0.mk ((gg hg)); have n5_ := Aside0.mk ((nl BK302 hg)); have n6_ := Aside0.mk ((nr BK302 hg)); clear BK302; clear HB; have BK302 := n0_; have HB := n1_; have BK303 := n2_; have GW303 := n3_; have GE303 := n4_; have NB302_303 := n5_; have NB303_302 := n6_; clear n0_ n1_ n2_ n3_ n4_ n5_ n6_; clear hb hbox hg; have hnb40 := NB303_302.out; have hnc40 := NB302_303.out; have hcz41_0 := bc BK303 0; have hcz41_1 := bc BK303 1; have hcz41_2 := bc BK303 2; have hcz41_3 := bc BK303 3; have hcz41_4 := bc BK303 4; have hcz41_5 := bc BK303 5; have hcz41_6 := bc BK303 6; have hcz41_7 := bc BK303 7; have hfz41_0 := qA BK303.out 0; have hfz41_1 := qA BK303.out 1; have hfz41_2 := qA BK303.out 2; have hfz41_3 := qA BK303.out 3; have hfz41_4 := qA BK303.out 4; have hfz41_5 := qA BK303.out 5; have hfz41_6 := qA BK303.out 6; have hfz41_7 := qA BK303.out 7; have hcz42_0 := bc BK302 0; have hcz42_1 := bc BK302 1; have hcz42_2 := bc BK302 2; have hcz42_3 := bc BK302 3; have hcz42_4 := bc BK302 4; have hcz42_5 := bc BK302 5; have hcz42_6 := bc BK302 6; have hcz42_7 := bc BK302 7; have hfz42_0 := qA BK302.out 0; have hfz42_1 := qA BK302.out 1; have hfz42_2 := qA BK302.out 2; have hfz42_3 := qA BK302.out 3; have hfz42_4 := qA BK302.out 4; have hfz42_5 := qA BK302.out 5; have hfz42_6 := qA BK302.out 6; have hfz42_7 := qA BK302.out 7) | ((with_reducible refine qL (f := 69) rfl ?_); refine qh (some 11) rfl rfl Tryd.func69 (by kernel_rfl) rfl #[.agg #[.int .i64 a1_0, .int .i64 a1_1, .int .i64 a1_2, .int .i64 a1_3, .int .i64 a1_4, .int .i64 a1_5, .int .i64 a1_6, .int .i64 a1_7], .int .i64 (wrap64 (a0_0 + 1)), .int .i64 a0_1] rfl (by (try simp only [List.map_toArray, List.map_cons, List.map_nil]); first | done | rfl | (simp only [List.length_drop, List.length_take]; rfl)) ?_; (with_reducible refine (qOA.calls a1_0 a1_1 a1_2 a1_3 a1_4 a1_5 a1_6 a1_7 (wrap64 (a0_0 + 1)) a0_1 false _ A3.out).mono ?_); rintro e w43 ⟨rfl, hb⟩; refine ⟨_, rfl, ?_⟩; have n0_ := Aside0.mk (bb BK302 hb); have n1_ := Aside0.mk (bb BK303 hb); have n2_ := Aside0.mk (qG bl hb); clear BK302; clear BK303; clear HB; have BK302 := n0_; have BK303 := n1_; have HB := n2_; clear n0_ n1_ n2_; (try clear hb); (try clear hb2); (try clear hk); (try clear hi); have hcz44_0 := bc BK303 0; have hcz44_1 := bc BK303 1; have hcz44_2 := bc BK303 2; have hcz44_3 := bc BK303 3; have hcz44_4 := bc BK303 4; have hcz44_5 := bc BK303 5; have hcz44_6 := bc BK303 6; have hcz44_7 := bc BK303 7; have hfz44_0 := qA BK303.out 0; have hfz44_1 := qA BK303.out 1; have hfz44_2 := qA BK303.out 2; have hfz44_3 := qA BK303.out 3; have hfz44_4 := qA BK303.out 4; have hfz44_5 := qA BK303.out 5; have hfz44_6 := qA BK303.out 6; have hfz44_7 := qA BK303.out 7; have hcz45_0 := bc BK302 0; have hcz45_1 := bc BK302 1; have hcz45_2 := bc BK302 2; have hcz45_3 := bc BK302 3; have hcz45_4 := bc BK302 4; have hcz45_5 := bc BK302 5; have hcz45_6 := bc BK302 6; have hcz45_7 := bc BK302 7; have hfz45_0 := qA BK302.out 0; have hfz45_1 := qA BK302.out 1; have hfz45_2 := qA BK302.out 2; have hfz45_3 := qA BK302.out 3; have hfz45_4 := qA BK302.out 4; have hfz45_5 := qA BK302.out 5; have hfz45_6 := qA BK302.out 6; have hfz45_7 := qA BK302.out 7) | (go_at_call 69; (with_reducible refine (qOA.calls a1_0 a1_1 a1_2 a1_3 a1_4 a1_5 a1_6 a1_7 a0_0 (wrap64 (a0_1 + 1)) true _ A36.out).mono ?_); rintro e w46 ⟨rfl, hb⟩; have n0_ := Aside0.mk (bb BK302 hb); have n1_ := Aside0.mk (bb BK303 hb); have n2_ := Aside0.mk (qG bl hb); clear BK302; clear BK303; clear HB; have BK302 := n0_; have BK303 := n1_; have HB := n2_; clear n0_ n1_ n2_; (try clear hb); (try clear hb2); (try clear hk); (try clear hi); have hcz47_0 := bc BK302 0; have hcz47_1 := bc BK302 1; have hcz47_2 := bc BK302 2; have hcz47_3 := bc BK302 3; have hcz47_4 := bc BK302 4; have hcz47_5 := bc BK302 5; have hcz47_6 := bc BK302 6; have hcz47_7 := bc BK302 7; have hfz47_0 := qA BK302.out 0; have hfz47_1 := qA BK302.out 1; have hfz47_2 := qA BK302.out 2; have hfz47_3 := qA BK302.out 3; have hfz47_4 := qA BK302.out 4; have hfz47_5 := qA BK302.out 5; have hfz47_6 := qA BK302.out 6; have hfz47_7 := qA BK302.out 7; have hcz48_0 := bc BK303 0; have hcz48_1 := bc BK303 1; have hcz48_2 := bc BK303 2; have hcz48_3 := bc BK303 3; have hcz48_4 := bc BK303 4; have hcz48_5 := bc BK303 5; have hcz48_6 := bc BK303 6; have hcz48_7 := bc BK303 7; have hfz48_0 := qA BK303.out 0; have hfz48_1 := qA BK303.out 1; have hfz48_2 := qA BK303.out 2; have hfz48_3 := qA BK303.out 3; have hfz48_4 := qA BK303.out 4; have hfz48_5 := qA BK303.out 5; have hfz48_6 := qA BK303.out 6; have hfz48_7 := qA BK303.out 7))
   go_ret
   exact ⟨by first | rfl | (simp [qI, qH] <;> rfl) | (simp [*, qI, qH] <;> rfl), bl⟩
  ·replace c37 := Bool.eq_false_iff.mpr c37
   subst c37
   have H1 : (some false) = some r := by rw [if_neg (show ¬ (false = true) by decide)] at H; exact H
   clear H
   have H := H1
   clear H1
   obtain rfl := Option.some.inj H
   go_enter Tryd.func46, Tryd.ntmps46
   go_wp2_with (first | ((with_reducible refine qg (N := 2) rfl ?_); refine qd ?hg (N := 2) ?hd (cs := #[.int .i64 a0_0, .int .i64 a0_1, .int .i64 a0_2, .int .i64 a0_3, .int .i64 a0_4, .int .i64 a0_5, .int .i64 a0_6, .int .i64 a0_7]) (t := 57) ?hr ?_; (case hd => rfl); (case hg => rfl); (case hr => first | (go_simp; done) | (go_simp; rfl)); intro gb302 hg w49 hbox hb; have n0_ := Aside0.mk (qG bl hb); have n1_ := Aside0.mk (hbox); have n2_ := Aside0.mk ((gg hg)); have n3_ := Aside0.mk ((gg hg)); clear HB; have HB := n0_; have BK302 := n1_; have GW302 := n2_; have GE302 := n3_; clear n0_ n1_ n2_ n3_; clear hb hbox hg) | ((with_reducible refine qg (N := 3) rfl ?_); refine qd ?hg (N := 3) ?hd (cs := #[.int .i64 a1_0, .int .i64 a1_1, .int .i64 a1_2, .int .i64 a1_3, .int .i64 a1_4, .int .i64 a1_5, .int .i64 a1_6, .int .i64 a1_7]) (t := 57) ?hr ?_; (case hd => rfl); (case hg => rfl); (case hr => first | (go_simp; done) | (go_simp; rfl)); intro gb303 hg w50 hbox hb; have n0_ := Aside0.mk (bb BK302 hb); have n1_ := Aside0.mk (qG bl hb); have n2_ := Aside0.mk (hbox); have n3_ := Aside0.mk ((gg hg)); have n4_ := Aside0.mk ((gg hg)); have n5_ := Aside0.mk ((nl BK302 hg)); have n6_ := Aside0.mk ((nr BK302 hg)); clear BK302; clear HB; have BK302 := n0_; have HB := n1_; have BK303 := n2_; have GW303 := n3_; have GE303 := n4_; have NB302_303 := n5_; have NB303_302 := n6_; clear n0_ n1_ n2_ n3_ n4_ n5_ n6_; clear hb hbox hg; have hnb51 := NB303_302.out; have hnc51 := NB302_303.out; have hcz52_0 := bc BK303 0; have hcz52_1 := bc BK303 1; have hcz52_2 := bc BK303 2; have hcz52_3 := bc BK303 3; have hcz52_4 := bc BK303 4; have hcz52_5 := bc BK303 5; have hcz52_6 := bc BK303 6; have hcz52_7 := bc BK303 7; have hfz52_0 := qA BK303.out 0; have hfz52_1 := qA BK303.out 1; have hfz52_2 := qA BK303.out 2; have hfz52_3 := qA BK303.out 3; have hfz52_4 := qA BK303.out 4; have hfz52_5 := qA BK303.out 5; have hfz52_6 := qA BK303.out 6; have hfz52_7 := qA BK303.out 7; have hcz53_0 := bc BK302 0; have hcz53_1 := bc BK302 1; have hcz53_2 := bc BK302 2; have hcz53_3 := bc BK302 3; have hcz53_4 := bc BK302 4; have hcz53_5 := bc BK302 5; have hcz53_6 := bc BK302 6; have hcz53_7 := bc BK302 7; have hfz53_0 := qA BK302.out 0; have hfz53_1 := qA BK302.out 1; have hfz53_2 := qA BK302.out 2; have hfz53_3 := qA BK302.out 3; have hfz53_4 := qA BK302.out 4; have hfz53_5 := qA BK302.out 5; have hfz53_6 := qA BK302.out 6; have hfz53_7 := qA BK302.out 7) | ((with_reducible refine qL (f := 69) rfl ?_); refine qh (some 11) rfl rfl Tryd.func69 (by kernel_rfl) rfl #[.agg #[.int .i64 a1_0, .int .i64 a1_1, .int .i64 a1_2, .int .i64 a1_3, .int .i64 a1_4, .int .i64 a1_5, .int .i64 a1_6, .int .i64 a1_7], .int .i64 (wrap64 (a0_0 + 1)), .int .i64 a0_1] rfl (by (try simp only [List.map_toArray, List.map_cons, List.map_nil]); first | done | rfl | (simp only [List.length_drop, List.length_take]; rfl)) ?_; (with_reducible refine (qOA.calls a1_0 a1_1 a1_2 a1_3 a1_4 a1_5 a1_6 a1_7 (wrap64 (a0_0 + 1)) a0_1 false _ A3.out).mono ?_); rintro e w54 ⟨rfl, hb⟩; refine ⟨_, rfl, ?_⟩; have n0_ := Aside0.mk (bb BK302 hb); have n1_ := Aside0.mk (bb BK303 hb); have n2_ := Aside0.mk (qG bl hb); clear BK302; clear BK303; clear HB; have BK302 := n0_; have BK303 := n1_; have HB := n2_; clear n0_ n1_ n2_; (try clear hb); (try clear hb2); (try clear hk); (try clear hi); have hcz55_0 := bc BK303 0; have hcz55_1 := bc BK303 1; have hcz55_2 := bc BK303 2; have hcz55_3 := bc BK303 3; have hcz55_4 := bc BK303 4; have hcz55_5 := bc BK303 5; have hcz55_6 := bc BK303 6; have hcz55_7 := bc BK303 7; have hfz55_0 := qA BK303.out 0; have hfz55_1 := qA BK303.out 1; have hfz55_2 := qA BK303.out 2; have hfz55_3 := qA BK303.out 3; have hfz55_4 := qA BK303.out 4; have hfz55_5 := qA BK303.out 5; have hfz55_6 := qA BK303.out 6; have hfz55_7 := qA BK303.out 7; have hcz56_0 := bc BK302 0; have hcz56_1 := bc BK302 1; have hcz56_2 := bc BK302 2; have hcz56_3 := bc BK302 3; have hcz56_4 := bc BK302 4; have hcz56_5 := bc BK302 5; have hcz56_6 := bc BK302 6; have hcz56_7 := bc BK302 7; have hfz56_0 := qA BK302.out 0; have hfz56_1 := qA BK302.out 1; have hfz56_2 := qA BK302.out 2; have hfz56_3 := qA BK302.out 3; have hfz56_4 := qA BK302.out 4; have hfz56_5 := qA BK302.out 5; have hfz56_6 := qA BK302.out 6; have hfz56_7 := qA BK302.out 7) | (go_at_call 69; (with_reducible refine (qOA.calls a1_0 a1_1 a1_2 a1_3 a1_4 a1_5 a1_6 a1_7 a0_0 (wrap64 (a0_1 + 1)) false _ A36.out).mono ?_); rintro e w57 ⟨rfl, hb⟩; have n0_ := Aside0.mk (bb BK302 hb); have n1_ := Aside0.mk (bb BK303 hb); have n2_ := Aside0.mk (qG bl hb); clear BK302; clear BK303; clear HB; have BK302 := n0_; have BK303 := n1_; have HB := n2_; clear n0_ n1_ n2_; (try clear hb); (try clear hb2); (try clear hk); (try clear hi)))
   go_ret
   exact ⟨by first | rfl | (simp [qI, qH] <;> rfl) | (simp [*, qI, qH] <;> rfl), bl⟩
mutual
def qi.l0 : Nat → List (S57) → Int → List (S57) → Int → Int → Option (Int × Bool)
 | 0, _, _, _, _, _ => none
 | k + 1, x1, x8, x21, x22, x23 => if x23 < x22 then (if 0 ≤ x23 then (if x23 < (x21.length : Int) then (if x23 ≤ (x1.length : Int) then ((some (x1.take (x23 : Int).toNat : List (S57))).bind fun y313 => (qi.l1 k x1 x8 x21 x22 x23 y313 (y313.length : Int) 0 ((qC x21 x23).f0) ((qC x21 x23).f1) ((qC x21 x23).f2.f0) ((qC x21 x23).f2.f1) ((qC x21 x23).f2.f2) ((qC x21 x23).f2.f3) ((qC x21 x23).f2.f4) ((qC x21 x23).f2.f5))) else (none)) else (none)) else (none)) else (some (x8, true))
def qi.l1 : Nat → List (S57) → Int → List (S57) → Int → Int → List (S57) → Int → Int → Int → Int → Int → Int → Int → Int → Int → Int → Option (Int × Bool)
 | 0, _, _, _, _, _, _, _, _, _, _, _, _, _, _, _, _ => none
 | k + 1, x1, x8, x21, x22, x23, x30, x31, x32, x313000, x313001, x313002, x313003, x313004, x313005, x313006, x313007 => if x32 < x31 then (if 0 ≤ x32 then (if x32 < (x30.length : Int) then ((qoA.f x313000 x313001 x313002 x313003 x313004 x313005 x313006 x313007 ((qC x30 x32).f0) ((qC x30 x32).f1) ((qC x30 x32).f2.f0) ((qC x30 x32).f2.f1) ((qC x30 x32).f2.f2) ((qC x30 x32).f2.f3) ((qC x30 x32).f2.f4) ((qC x30 x32).f2.f5)).bind fun t319 => (if t319 = true then (qi.l1 k x1 (wrap64 (x8 + 1)) x21 x22 x23 x30 x31 (wrap64 (x32 + 1)) x313000 x313001 x313002 x313003 x313004 x313005 x313006 x313007) else ((qoA.f ((qC x30 x32).f0) ((qC x30 x32).f1) ((qC x30 x32).f2.f0) ((qC x30 x32).f2.f1) ((qC x30 x32).f2.f2) ((qC x30 x32).f2.f3) ((qC x30 x32).f2.f4) ((qC x30 x32).f2.f5) x313000 x313001 x313002 x313003 x313004 x313005 x313006 x313007).bind fun t320 => (if t320 = true then (qi.l1 k x1 (wrap64 (x8 + 1)) x21 x22 x23 x30 x31 (wrap64 (x32 + 1)) x313000 x313001 x313002 x313003 x313004 x313005 x313006 x313007) else (qi.l1 k x1 x8 x21 x22 x23 x30 x31 (wrap64 (x32 + 1)) x313000 x313001 x313002 x313003 x313004 x313005 x313006 x313007))))) else (none)) else (none)) else (qi.l0 k x1 x8 x21 x22 (wrap64 (x23 + 1)))
end
def qi.f (k : Nat) (a0 : ByteArray) (l1 : List (S57)) : Option (Int × Bool) := (qZA.f k a0 l1).bind fun bt307 => (if bt307.2 = true then (qi.l0 k l1 0 l1 (l1.length : Int) 0) else (some (0, false)))
set_option maxHeartbeats 8000000 in
set_option maxRecDepth 100000 in
theorem qi.calls (k : Nat) (a0 : ByteArray) (A1 : Option Addr) (c1 : Nat) (l1 : List (S57)) (r1 : Int) (r2 : Bool) (w : World) (hr1 : Kd.C k57 w A1 l1.length l1) (hc1 : l1.length ≤ c1) (hL : Laid w) (h : qi.f k a0 l1 = some (r1, r2)) :
  Calls Tryd.prog 19 #[.string a0, .slice A1 l1.length c1] w fun e w' => e = .returned (.tuple #[.int .i64 r1, .bool r2]) ∧ Below w.heap.size w w' := by
 have hu57 := Tryd.underlying57
 have HR1 := Aside0.mk hr1
 have HC1 := Aside0.mk hc1
 clear hr1 hc1
 have HLD := Aside0.mk hL
 clear hL
 have HB := Aside0.mk (Below.refl w.heap.size w)
 have H : ((qZA.f k a0 l1).bind fun bt307 => (if bt307.2 = true then (qi.l0 k l1 0 l1 (l1.length : Int) 0) else (some (0, false)))) = some (r1, r2) := h
 clear h
 replace H := Option.bind_eq_some_iff.mp H
 obtain ⟨⟨t307, t308⟩, A30, H⟩ := H
 replace H : (if t308 = true then (qi.l0 k l1 0 l1 (l1.length : Int) 0) else (some (0, false))) = some (r1, r2) := H
 have A3 := Aside0.mk A30
 clear A30
 by_cases c4 : t308 = true
 ·subst c4
  have H1 : (qi.l0 k l1 0 l1 (l1.length : Int) 0) = some (r1, r2) := by rw [if_pos rfl] at H; exact H
  clear H
  have H := H1
  clear H1
  have H' := Aside0.mk H
  clear H
  go_enter Tryd.func19, Tryd.ntmps19
  go_wp2_with (first | ((with_reducible refine qL (f := 45) rfl ?_); refine qh (some 16) rfl rfl Tryd.func45 (by kernel_rfl) rfl #[.string a0, .slice A1 l1.length c1] rfl (by (try simp only [List.map_toArray, List.map_cons, List.map_nil]); first | done | rfl | (simp only [List.length_drop, List.length_take]; rfl)) ?_; (with_reducible refine (qZA.calls k a0 _ _ l1 t307 true _ ?side1 ?side2 ?side3 A3.out).mono ?_); (case side1 => repeat (first | exact HR1.out | (with_reducible refine Kd.qa ?_ _) | (with_reducible refine Kd.qZ ?_ _) | (with_reducible refine Kd.qe ?_))); (case side2 => exact HC1.out); (case side3 => first | exact HLD.out | exact Laid.below HLD.out (by repeat (first | (with_reducible first | exact HB.out | apply qAA | apply qo | apply qp | refine qMA ?_ (Aside0.out (by with_reducible assumption))) | exact HB.out))); rintro e w5 ⟨v309, rfl, ho0, hb⟩; refine ⟨_, rfl, ?_⟩; have n0_ := Aside0.mk (Kd.qDA ho0 (qb bl)); have n1_ := Aside0.mk (qG bl hb); clear HB; have HO310 := n0_; have HB := n1_; clear n0_ n1_; (try clear hb); (try clear hb2); (try clear hk); (try clear hi); (try clear ho0)))
  go_loopg [8, 23] k (fun kq v8 v23 w' => ∃ (x8_1 : Int) (x23_1 : Int), v8 = .int .i64 x8_1 ∧ v23 = .int .i64 x23_1 ∧ Aside0 (qi.l0 kq l1 x8_1 l1 (l1.length : Int) x23_1 = some (r1, r2)) ∧ Aside0 (kq ≤ k) ∧ Aside0 (Below w.heap.size w w'))
  case atStart => exact ⟨(0), (0), (by first | rfl | (simp; done) | (simp [*]; done)), (by first | rfl | (simp; done) | (simp [*]; done)), H', ⟨Nat.le_refl _⟩, ⟨bl⟩⟩
  case round =>
   clear H'
   try clear c1
   try clear p2
   try clear c4
   obtain ⟨x8_1, x23_1, rfl, rfl, HA, HK1, HB⟩ := hrel
   cases gk with
   | zero => exact absurd HA.out (by simp [qi.l0])
   | succ k1 =>
    have H := HA.out
    clear HA
    simp only [qi.l0] at H
    by_cases c6 : x23_1 < (l1.length : Int)
    ·rw [if_pos c6] at H
     have c6b0 : decide (x23_1 < (l1.length : Int)) = true := decide_eq_true c6
     clear c6
     by_cases c7 : 0 ≤ x23_1
     ·rw [if_pos c7] at H
      have c7b0 : decide (0 ≤ x23_1) = true := decide_eq_true c7
      clear c7
      by_cases c8 : x23_1 < (l1.length : Int)
      ·rw [if_pos c8] at H
       have c8b0 : decide (x23_1 < (l1.length : Int)) = true := decide_eq_true c8
       clear c8
       have c9b0 := eq_true (of_decide_eq_true (by first | (with_reducible assumption) | assumption) : 0 ≤ x23_1)
       by_cases c10 : x23_1 ≤ (l1.length : Int)
       ·rw [if_pos c10] at H
        have c10b0 := eq_true c10
        have c10b1 : decide (x23_1 ≤ (l1.length : Int)) = true := decide_eq_true c10
        clear c10
        obtain ⟨y313, hy313⟩ : ∃ y_ : List (S57), y_ = (l1.take (x23_1 : Int).toNat) := ⟨_, rfl⟩
        replace H : (qi.l1 k1 l1 x8_1 l1 (l1.length : Int) x23_1 y313 (y313.length : Int) 0 ((qC l1 x23_1).f0) ((qC l1 x23_1).f1) ((qC l1 x23_1).f2.f0) ((qC l1 x23_1).f2.f1) ((qC l1 x23_1).f2.f2) ((qC l1 x23_1).f2.f3) ((qC l1 x23_1).f2.f4) ((qC l1 x23_1).f2.f5)) = some (r1, r2) := by first | (rw [hy313]; with_reducible exact H) | (have H2_ := (Option.bind_some _ _).symm.trans H; rw [hy313]; with_reducible exact H2_) | (have H2_ := (Option.bind_some _ _).symm.trans H; with_reducible exact H2_) | with_reducible exact H | (rw [hy313]; exact H) | exact H
        have Ny313 := Aside0.mk hy313
        clear hy313
        have H' := Aside0.mk H
        clear H
        have p311 : 0 ≤ (x23_1 : Int) := of_decide_eq_true (by first | (with_reducible assumption) | assumption)
        have q311 : x23_1 < (l1.length : Int) := of_decide_eq_true (by first | (with_reducible assumption) | assumption)
        obtain ⟨ad311, e311, hx311_0, hx311_1, hx311_2, hx311_3, hx311_4, hx311_5, hx311_6, hx311_7⟩ := qgA HR1.out x23_1 p311 q311
        cases e311
        replace hx311_0 := (HB.out.cell (World.block_lt_of_cell? w _ hx311_0)).trans hx311_0
        replace hx311_1 := (HB.out.cell (World.block_lt_of_cell? w _ hx311_1)).trans hx311_1
        replace hx311_2 := (HB.out.cell (World.block_lt_of_cell? w _ hx311_2)).trans hx311_2
        replace hx311_3 := (HB.out.cell (World.block_lt_of_cell? w _ hx311_3)).trans hx311_3
        replace hx311_4 := (HB.out.cell (World.block_lt_of_cell? w _ hx311_4)).trans hx311_4
        replace hx311_5 := (HB.out.cell (World.block_lt_of_cell? w _ hx311_5)).trans hx311_5
        replace hx311_6 := (HB.out.cell (World.block_lt_of_cell? w _ hx311_6)).trans hx311_6
        replace hx311_7 := (HB.out.cell (World.block_lt_of_cell? w _ hx311_7)).trans hx311_7
        replace p311 := eq_true p311
        replace q311 := eq_true q311
        go_wp2_with (first | ((with_reducible refine qg (N := 10) rfl ?_); refine qd ?hg (N := 10) ?hd (cs := #[.int .i64 0, .int .i64 0, .int .i64 0, .int .i64 0, .int .i64 0, .int .i64 0, .int .i64 0, .int .i64 0]) (t := 57) ?hr ?_; (case hd => rfl); (case hg => rfl); (case hr => first | (go_simp; done) | (go_simp; rfl)); intro gb312 hg w11 hbox hb; have n0_ := Aside0.mk (qG bl hb); have n1_ := Aside0.mk (hbox); have n2_ := Aside0.mk ((gg hg)); have n3_ := Aside0.mk ((gg hg)); clear HB; have HB := n0_; have BK312 := n1_; have GW312 := n2_; have GE312 := n3_; clear n0_ n1_ n2_ n3_; clear hb hbox hg; have hcz12_0 := bc BK312 0; have hcz12_1 := bc BK312 1; have hcz12_2 := bc BK312 2; have hcz12_3 := bc BK312 3; have hcz12_4 := bc BK312 4; have hcz12_5 := bc BK312 5; have hcz12_6 := bc BK312 6; have hcz12_7 := bc BK312 7; have hfz12_0 := qA BK312.out 0; have hfz12_1 := qA BK312.out 1; have hfz12_2 := qA BK312.out 2; have hfz12_3 := qA BK312.out 3; have hfz12_4 := qA BK312.out 4; have hfz12_5 := qA BK312.out 5; have hfz12_6 := qA BK312.out 6; have hfz12_7 := qA BK312.out 7) | ((with_reducible refine qOB (t := 57) (p := 10) rfl ?_); refine qIB (t := 57) (p := 10) (v := ?vo_w13) (w1 := ((((((((w11.setCell ⟨gb312, 0, none⟩ (.int .i64 ((qC l1 x23_1).f0))).setCell ⟨gb312, 1, none⟩ (.int .i64 ((qC l1 x23_1).f1))).setCell ⟨gb312, 2, none⟩ (.int .i64 ((qC l1 x23_1).f2.f0))).setCell ⟨gb312, 3, none⟩ (.int .i64 ((qC l1 x23_1).f2.f1))).setCell ⟨gb312, 4, none⟩ (.int .i64 ((qC l1 x23_1).f2.f2))).setCell ⟨gb312, 5, none⟩ (.int .i64 ((qC l1 x23_1).f2.f3))).setCell ⟨gb312, 6, none⟩ (.int .i64 ((qC l1 x23_1).f2.f4))).setCell ⟨gb312, 7, none⟩ (.int .i64 ((qC l1 x23_1).f2.f5)))) ?hg ?ho ?hn ?hr ?_; (case ho => rfl); (case hg => rfl); (case hn => rfl); (case hr => first | (go_simp; done) | (go_simp; rfl)); intro w13 hw; have n0_ : Aside0 (w13.heap[gb312]? = some (.cells #[.int .i64 ((qC l1 x23_1).f0), .int .i64 ((qC l1 x23_1).f1), .int .i64 ((qC l1 x23_1).f2.f0), .int .i64 ((qC l1 x23_1).f2.f1), .int .i64 ((qC l1 x23_1).f2.f2), .int .i64 ((qC l1 x23_1).f2.f3), .int .i64 ((qC l1 x23_1).f2.f4), .int .i64 ((qC l1 x23_1).f2.f5)] 57 (0, 0))) := ⟨(by rw [hw]; exact (by (with_reducible repeat (first | refine qE ?_ _ | refine qF ?_ | refine qD ?_ _)); refine qN (cs := #[.int .i64 ((qC l1 x23_1).f0), .int .i64 ((qC l1 x23_1).f1), .int .i64 ((qC l1 x23_1).f2.f0), .int .i64 ((qC l1 x23_1).f2.f1), .int .i64 ((qC l1 x23_1).f2.f2), .int .i64 ((qC l1 x23_1).f2.f3), .int .i64 ((qC l1 x23_1).f2.f4), .int .i64 0]) ?_ 7 _ rfl; (with_reducible repeat (first | refine qE ?_ _ | refine qF ?_ | refine qD ?_ _)); refine qN (cs := #[.int .i64 ((qC l1 x23_1).f0), .int .i64 ((qC l1 x23_1).f1), .int .i64 ((qC l1 x23_1).f2.f0), .int .i64 ((qC l1 x23_1).f2.f1), .int .i64 ((qC l1 x23_1).f2.f2), .int .i64 ((qC l1 x23_1).f2.f3), .int .i64 0, .int .i64 0]) ?_ 6 _ rfl; (with_reducible repeat (first | refine qE ?_ _ | refine qF ?_ | refine qD ?_ _)); refine qN (cs := #[.int .i64 ((qC l1 x23_1).f0), .int .i64 ((qC l1 x23_1).f1), .int .i64 ((qC l1 x23_1).f2.f0), .int .i64 ((qC l1 x23_1).f2.f1), .int .i64 ((qC l1 x23_1).f2.f2), .int .i64 0, .int .i64 0, .int .i64 0]) ?_ 5 _ rfl; (with_reducible repeat (first | refine qE ?_ _ | refine qF ?_ | refine qD ?_ _)); refine qN (cs := #[.int .i64 ((qC l1 x23_1).f0), .int .i64 ((qC l1 x23_1).f1), .int .i64 ((qC l1 x23_1).f2.f0), .int .i64 ((qC l1 x23_1).f2.f1), .int .i64 0, .int .i64 0, .int .i64 0, .int .i64 0]) ?_ 4 _ rfl; (with_reducible repeat (first | refine qE ?_ _ | refine qF ?_ | refine qD ?_ _)); refine qN (cs := #[.int .i64 ((qC l1 x23_1).f0), .int .i64 ((qC l1 x23_1).f1), .int .i64 ((qC l1 x23_1).f2.f0), .int .i64 0, .int .i64 0, .int .i64 0, .int .i64 0, .int .i64 0]) ?_ 3 _ rfl; (with_reducible repeat (first | refine qE ?_ _ | refine qF ?_ | refine qD ?_ _)); refine qN (cs := #[.int .i64 ((qC l1 x23_1).f0), .int .i64 ((qC l1 x23_1).f1), .int .i64 0, .int .i64 0, .int .i64 0, .int .i64 0, .int .i64 0, .int .i64 0]) ?_ 2 _ rfl; (with_reducible repeat (first | refine qE ?_ _ | refine qF ?_ | refine qD ?_ _)); refine qN (cs := #[.int .i64 ((qC l1 x23_1).f0), .int .i64 0, .int .i64 0, .int .i64 0, .int .i64 0, .int .i64 0, .int .i64 0, .int .i64 0]) ?_ 1 _ rfl; (with_reducible repeat (first | refine qE ?_ _ | refine qF ?_ | refine qD ?_ _)); refine qN (cs := #[.int .i64 0, .int .i64 0, .int .i64 0, .int .i64 0, .int .i64 0, .int .i64 0, .int .i64 0, .int .i64 0]) ?_ 0 _ rfl; (with_reducible repeat (first | refine qE ?_ _ | refine qF ?_ | refine qD ?_ _)); exact BK312.out))⟩; have n1_ : Aside0 (Below w.heap.size w w13) := ⟨(by rw [hw]; exact bl)⟩; clear hw; clear BK312; clear HB; have BK312 := n0_; have HB := n1_; clear n0_ n1_; have q14 : (x23_1 : Int) ≤ ((l1.length : Int) : Int) := of_decide_eq_true (by first | (with_reducible assumption) | assumption); obtain ⟨i014, hi014, _, hsz14, _⟩ := info_parts info57; have hroom14 : l1.length ≤ c1 := HC1.out; have hC14 : Kd.C k57 _ (some ad311) l1.length l1 := HR1.out; have hcut14 := qkD (P := Tryd.prog) 26 57 .i64 Tryd.underlying26 hi014 (some ad311) l1.length c1 x23_1 (of_decide_eq_true (by first | (with_reducible assumption) | assumption)) q14 hroom14; have hr14 := Kd.qlD (m := (x23_1 : Int).toNat) hC14 (by omega); have hy14 : y313.length = (x23_1 : Int).toNat := (by rw [Ny313.out, List.length_take]; omega); rw [← Ny313.out] at hr14; rw [← hy14] at hcut14; have HR316 := Aside0.mk hr14; have HC316 := Aside0.mk (show y313.length ≤ c1 from by omega); clear hr14 hC14 hroom14 hi014 hsz14; have KY14 := Aside0.mk hy14; clear hy14; replace q14 := eq_true q14))
        go_loopg [8, 32] k1 (fun kq v8 v32 w' => ∃ (x8_2 : Int) (x32_2 : Int), v8 = .int .i64 x8_2 ∧ v32 = .int .i64 x32_2 ∧ Aside0 (qi.l1 kq l1 x8_2 l1 (l1.length : Int) x23_1 y313 (y313.length : Int) x32_2 ((qC l1 x23_1).f0) ((qC l1 x23_1).f1) ((qC l1 x23_1).f2.f0) ((qC l1 x23_1).f2.f1) ((qC l1 x23_1).f2.f2) ((qC l1 x23_1).f2.f3) ((qC l1 x23_1).f2.f4) ((qC l1 x23_1).f2.f5) = some (r1, r2)) ∧ Aside0 (kq ≤ k1) ∧ Aside0 (w'.heap[gb312]? = some (.cells #[.int .i64 ((qC l1 x23_1).f0), .int .i64 ((qC l1 x23_1).f1), .int .i64 ((qC l1 x23_1).f2.f0), .int .i64 ((qC l1 x23_1).f2.f1), .int .i64 ((qC l1 x23_1).f2.f2), .int .i64 ((qC l1 x23_1).f2.f3), .int .i64 ((qC l1 x23_1).f2.f4), .int .i64 ((qC l1 x23_1).f2.f5)] 57 (0, 0))) ∧ Aside0 (Below w.heap.size w w'))
        case atStart => exact ⟨(x8_1), (0), (by first | rfl | (simp; done) | (simp [*]; done)), (by first | rfl | (simp; done) | (simp [*]; done)), H', ⟨Nat.le_refl _⟩, ⟨by (with_reducible repeat (first | refine qE ?_ _ | refine qF ?_ | refine qD ?_ _)); exact BK312.out⟩, ⟨bl⟩⟩
        case round =>
         clear H'
         try clear c1
         try clear q1
         try clear p2
         try clear p3
         try clear q3
         try clear hx3
         try clear c4
         try clear c6
         try clear c6b0
         try clear c7
         try clear c7b0
         try clear c8
         try clear c8b0
         try clear c9
         try clear c9b0
         try clear c10
         try clear c10b0
         try clear c10b1
         try clear q14
         try clear hcz12_0
         try clear hcz12_1
         try clear hcz12_2
         try clear hcz12_3
         try clear hcz12_4
         try clear hcz12_5
         try clear hcz12_6
         try clear hcz12_7
         try clear hfz12_0
         try clear hfz12_1
         try clear hfz12_2
         try clear hfz12_3
         try clear hfz12_4
         try clear hfz12_5
         try clear hfz12_6
         try clear hfz12_7
         try clear hx311_0
         try clear hx311_1
         try clear hx311_2
         try clear hx311_3
         try clear hx311_4
         try clear hx311_5
         try clear hx311_6
         try clear hx311_7
         try clear p2
         try clear p311
         try clear q14
         try clear q311
         obtain ⟨x8_2, x32_2, rfl, rfl, HA, HK2, BK312, HB⟩ := hrel
         cases gk with
         | zero => exact absurd HA.out (by simp [qi.l1])
         | succ k2 =>
          have H := HA.out
          clear HA
          simp only [qi.l1] at H
          by_cases c15 : x32_2 < (y313.length : Int)
          ·rw [if_pos c15] at H
           have c15b0 : decide (x32_2 < (y313.length : Int)) = true := decide_eq_true c15
           clear c15
           by_cases c16 : 0 ≤ x32_2
           ·rw [if_pos c16] at H
            have c16b0 : decide (0 ≤ x32_2) = true := decide_eq_true c16
            clear c16
            by_cases c17 : x32_2 < (y313.length : Int)
            ·rw [if_pos c17] at H
             have c17b0 : decide (x32_2 < (y313.length : Int)) = true := decide_eq_true c17
             clear c17
             replace H := Option.bind_eq_some_iff.mp H
             obtain ⟨t319, A180, H⟩ := H
             replace H : (if t319 = true then (qi.l1 k2 l1 (wrap64 (x8_2 + 1)) l1 (l1.length : Int) x23_1 y313 (y313.length : Int) (wrap64 (x32_2 + 1)) ((qC l1 x23_1).f0) ((qC l1 x23_1).f1) ((qC l1 x23_1).f2.f0) ((qC l1 x23_1).f2.f1) ((qC l1 x23_1).f2.f2) ((qC l1 x23_1).f2.f3) ((qC l1 x23_1).f2.f4) ((qC l1 x23_1).f2.f5)) else ((qoA.f ((qC y313 x32_2).f0) ((qC y313 x32_2).f1) ((qC y313 x32_2).f2.f0) ((qC y313 x32_2).f2.f1) ((qC y313 x32_2).f2.f2) ((qC y313 x32_2).f2.f3) ((qC y313 x32_2).f2.f4) ((qC y313 x32_2).f2.f5) ((qC l1 x23_1).f0) ((qC l1 x23_1).f1) ((qC l1 x23_1).f2.f0) ((qC l1 x23_1).f2.f1) ((qC l1 x23_1).f2.f2) ((qC l1 x23_1).f2.f3) ((qC l1 x23_1).f2.f4) ((qC l1 x23_1).f2.f5)).bind fun t320 => (if t320 = true then (qi.l1 k2 l1 (wrap64 (x8_2 + 1)) l1 (l1.length : Int) x23_1 y313 (y313.length : Int) (wrap64 (x32_2 + 1)) ((qC l1 x23_1).f0) ((qC l1 x23_1).f1) ((qC l1 x23_1).f2.f0) ((qC l1 x23_1).f2.f1) ((qC l1 x23_1).f2.f2) ((qC l1 x23_1).f2.f3) ((qC l1 x23_1).f2.f4) ((qC l1 x23_1).f2.f5)) else (qi.l1 k2 l1 x8_2 l1 (l1.length : Int) x23_1 y313 (y313.length : Int) (wrap64 (x32_2 + 1)) ((qC l1 x23_1).f0) ((qC l1 x23_1).f1) ((qC l1 x23_1).f2.f0) ((qC l1 x23_1).f2.f1) ((qC l1 x23_1).f2.f2) ((qC l1 x23_1).f2.f3) ((qC l1 x23_1).f2.f4) ((qC l1 x23_1).f2.f5))))) = some (r1, r2) := H
             have A18 := Aside0.mk A180
             clear A180
             by_cases c19 : t319 = true
             ·subst c19
              have H1 : (qi.l1 k2 l1 (wrap64 (x8_2 + 1)) l1 (l1.length : Int) x23_1 y313 (y313.length : Int) (wrap64 (x32_2 + 1)) ((qC l1 x23_1).f0) ((qC l1 x23_1).f1) ((qC l1 x23_1).f2.f0) ((qC l1 x23_1).f2.f1) ((qC l1 x23_1).f2.f2) ((qC l1 x23_1).f2.f3) ((qC l1 x23_1).f2.f4) ((qC l1 x23_1).f2.f5)) = some (r1, r2) := by rw [if_pos rfl] at H; exact H
              clear H
              have H := H1
              clear H1
              have H' := Aside0.mk H
              clear H
              have p317 : 0 ≤ (x32_2 : Int) := of_decide_eq_true (by first | (with_reducible assumption) | assumption)
              have q317 : x32_2 < (y313.length : Int) := of_decide_eq_true (by first | (with_reducible assumption) | assumption)
              obtain ⟨ad317, e317, hx317_0, hx317_1, hx317_2, hx317_3, hx317_4, hx317_5, hx317_6, hx317_7⟩ := qgA HR316.out x32_2 p317 q317
              obtain rfl : ad311 = ad317 := (by injection e317)
              replace hx317_0 := (HB.out.cell (World.block_lt_of_cell? w _ hx317_0)).trans hx317_0
              replace hx317_1 := (HB.out.cell (World.block_lt_of_cell? w _ hx317_1)).trans hx317_1
              replace hx317_2 := (HB.out.cell (World.block_lt_of_cell? w _ hx317_2)).trans hx317_2
              replace hx317_3 := (HB.out.cell (World.block_lt_of_cell? w _ hx317_3)).trans hx317_3
              replace hx317_4 := (HB.out.cell (World.block_lt_of_cell? w _ hx317_4)).trans hx317_4
              replace hx317_5 := (HB.out.cell (World.block_lt_of_cell? w _ hx317_5)).trans hx317_5
              replace hx317_6 := (HB.out.cell (World.block_lt_of_cell? w _ hx317_6)).trans hx317_6
              replace hx317_7 := (HB.out.cell (World.block_lt_of_cell? w _ hx317_7)).trans hx317_7
              replace p317 := eq_true p317
              replace q317 := eq_true q317
              go_wp2_with (first | ((with_reducible refine qg (N := 12) rfl ?_); refine qd ?hg (N := 12) ?hd (cs := #[.int .i64 0, .int .i64 0, .int .i64 0, .int .i64 0, .int .i64 0, .int .i64 0, .int .i64 0, .int .i64 0]) (t := 57) ?hr ?_; (case hd => rfl); (case hg => rfl); (case hr => first | (go_simp; done) | (go_simp; rfl)); intro gb318 hg w20 hbox hb; have n0_ := Aside0.mk (bb BK312 hb); have n1_ := Aside0.mk (qG bl hb); have n2_ := Aside0.mk (hbox); have n3_ := Aside0.mk ((gg hg)); have n4_ := Aside0.mk ((gg hg)); have n5_ := Aside0.mk ((nl BK312 hg)); have n6_ := Aside0.mk ((nr BK312 hg)); clear BK312; clear HB; have BK312 := n0_; have HB := n1_; have BK318 := n2_; have GW318 := n3_; have GE318 := n4_; have NB312_318 := n5_; have NB318_312 := n6_; clear n0_ n1_ n2_ n3_ n4_ n5_ n6_; clear hb hbox hg; have hnb21 := NB318_312.out; have hnc21 := NB312_318.out; have hcz22_0 := bc BK318 0; have hcz22_1 := bc BK318 1; have hcz22_2 := bc BK318 2; have hcz22_3 := bc BK318 3; have hcz22_4 := bc BK318 4; have hcz22_5 := bc BK318 5; have hcz22_6 := bc BK318 6; have hcz22_7 := bc BK318 7; have hfz22_0 := qA BK318.out 0; have hfz22_1 := qA BK318.out 1; have hfz22_2 := qA BK318.out 2; have hfz22_3 := qA BK318.out 3; have hfz22_4 := qA BK318.out 4; have hfz22_5 := qA BK318.out 5; have hfz22_6 := qA BK318.out 6; have hfz22_7 := qA BK318.out 7; have hcz23_0 := bc BK312 0; have hcz23_1 := bc BK312 1; have hcz23_2 := bc BK312 2; have hcz23_3 := bc BK312 3; have hcz23_4 := bc BK312 4; have hcz23_5 := bc BK312 5; have hcz23_6 := bc BK312 6; have hcz23_7 := bc BK312 7; have hfz23_0 := qA BK312.out 0; have hfz23_1 := qA BK312.out 1; have hfz23_2 := qA BK312.out 2; have hfz23_3 := qA BK312.out 3; have hfz23_4 := qA BK312.out 4; have hfz23_5 := qA BK312.out 5; have hfz23_6 := qA BK312.out 6; have hfz23_7 := qA BK312.out 7) | ((with_reducible refine qL (f := 46) rfl ?_); refine qh (some 38) rfl rfl Tryd.func46 (by kernel_rfl) rfl #[.agg #[.int .i64 ((qC l1 x23_1).f0), .int .i64 ((qC l1 x23_1).f1), .int .i64 ((qC l1 x23_1).f2.f0), .int .i64 ((qC l1 x23_1).f2.f1), .int .i64 ((qC l1 x23_1).f2.f2), .int .i64 ((qC l1 x23_1).f2.f3), .int .i64 ((qC l1 x23_1).f2.f4), .int .i64 ((qC l1 x23_1).f2.f5)], .agg #[.int .i64 ((qC y313 x32_2).f0), .int .i64 ((qC y313 x32_2).f1), .int .i64 ((qC y313 x32_2).f2.f0), .int .i64 ((qC y313 x32_2).f2.f1), .int .i64 ((qC y313 x32_2).f2.f2), .int .i64 ((qC y313 x32_2).f2.f3), .int .i64 ((qC y313 x32_2).f2.f4), .int .i64 ((qC y313 x32_2).f2.f5)]] rfl (by (try simp only [List.map_toArray, List.map_cons, List.map_nil]); first | done | rfl | (simp only [List.length_drop, List.length_take]; rfl)) ?_; (with_reducible refine (qoA.calls ((qC l1 x23_1).f0) ((qC l1 x23_1).f1) ((qC l1 x23_1).f2.f0) ((qC l1 x23_1).f2.f1) ((qC l1 x23_1).f2.f2) ((qC l1 x23_1).f2.f3) ((qC l1 x23_1).f2.f4) ((qC l1 x23_1).f2.f5) ((qC y313 x32_2).f0) ((qC y313 x32_2).f1) ((qC y313 x32_2).f2.f0) ((qC y313 x32_2).f2.f1) ((qC y313 x32_2).f2.f2) ((qC y313 x32_2).f2.f3) ((qC y313 x32_2).f2.f4) ((qC y313 x32_2).f2.f5) true _ A18.out).mono ?_); rintro e w24 ⟨rfl, hb⟩; refine ⟨_, rfl, ?_⟩; have n0_ := Aside0.mk (qCB (g := gb312) (o := .cells #[.int .i64 ((qC l1 x23_1).f0), .int .i64 ((qC l1 x23_1).f1), .int .i64 ((qC l1 x23_1).f2.f0), .int .i64 ((qC l1 x23_1).f2.f1), .int .i64 ((qC l1 x23_1).f2.f2), .int .i64 ((qC l1 x23_1).f2.f3), .int .i64 ((qC l1 x23_1).f2.f4), .int .i64 ((qC l1 x23_1).f2.f5)] 57 (0, 0)) (by (with_reducible repeat (first | refine qE ?_ _ | refine qF ?_ | refine qD ?_ _)); refine qV ?_ NB312_318.out _; (with_reducible repeat (first | refine qE ?_ _ | refine qF ?_ | refine qD ?_ _)); refine qV ?_ NB312_318.out _; (with_reducible repeat (first | refine qE ?_ _ | refine qF ?_ | refine qD ?_ _)); refine qV ?_ NB312_318.out _; (with_reducible repeat (first | refine qE ?_ _ | refine qF ?_ | refine qD ?_ _)); refine qV ?_ NB312_318.out _; (with_reducible repeat (first | refine qE ?_ _ | refine qF ?_ | refine qD ?_ _)); refine qV ?_ NB312_318.out _; (with_reducible repeat (first | refine qE ?_ _ | refine qF ?_ | refine qD ?_ _)); refine qV ?_ NB312_318.out _; (with_reducible repeat (first | refine qE ?_ _ | refine qF ?_ | refine qD ?_ _)); refine qV ?_ NB312_318.out _; (with_reducible repeat (first | refine qE ?_ _ | refine qF ?_ | refine qD ?_ _)); refine qV ?_ NB312_318.out _; (with_reducible repeat (first | refine qE ?_ _ | refine qF ?_ | refine qD ?_ _)); exact BK312.out) hb); have n1_ := Aside0.mk (qCB (g := gb318) (o := .cells #[.int .i64 ((qC y313 x32_2).f0), .int .i64 ((qC y313 x32_2).f1), .int .i64 ((qC y313 x32_2).f2.f0), .int .i64 ((qC y313 x32_2).f2.f1), .int .i64 ((qC y313 x32_2).f2.f2), .int .i64 ((qC y313 x32_2).f2.f3), .int .i64 ((qC y313 x32_2).f2.f4), .int .i64 ((qC y313 x32_2).f2.f5)] 57 (0, 0)) (by (with_reducible repeat (first | refine qE ?_ _ | refine qF ?_ | refine qD ?_ _)); refine qN (cs := #[.int .i64 ((qC y313 x32_2).f0), .int .i64 ((qC y313 x32_2).f1), .int .i64 ((qC y313 x32_2).f2.f0), .int .i64 ((qC y313 x32_2).f2.f1), .int .i64 ((qC y313 x32_2).f2.f2), .int .i64 ((qC y313 x32_2).f2.f3), .int .i64 ((qC y313 x32_2).f2.f4), .int .i64 0]) ?_ 7 _ rfl; (with_reducible repeat (first | refine qE ?_ _ | refine qF ?_ | refine qD ?_ _)); refine qN (cs := #[.int .i64 ((qC y313 x32_2).f0), .int .i64 ((qC y313 x32_2).f1), .int .i64 ((qC y313 x32_2).f2.f0), .int .i64 ((qC y313 x32_2).f2.f1), .int .i64 ((qC y313 x32_2).f2.f2), .int .i64 ((qC y313 x32_2).f2.f3), .int .i64 0, .int .i64 0]) ?_ 6 _ rfl; (with_reducible repeat (first | refine qE ?_ _ | refine qF ?_ | refine qD ?_ _)); refine qN (cs := #[.int .i64 ((qC y313 x32_2).f0), .int .i64 ((qC y313 x32_2).f1), .int .i64 ((qC y313 x32_2).f2.f0), .int .i64 ((qC y313 x32_2).f2.f1), .int .i64 ((qC y313 x32_2).f2.f2), .int .i64 0, .int .i64 0, .int .i64 0]) ?_ 5 _ rfl; (with_reducible repeat (first | refine qE ?_ _ | refine qF ?_ | refine qD ?_ _)); refine qN (cs := #[.int .i64 ((qC y313 x32_2).f0), .int .i64 ((qC y313 x32_2).f1), .int .i64 ((qC y313 x32_2).f2.f0), .int .i64 ((qC y313 x32_2).f2.f1), .int .i64 0, .int .i64 0, .int .i64 0, .int .i64 0]) ?_ 4 _ rfl; (with_reducible repeat (first | refine qE ?_ _ | refine qF ?_ | refine qD ?_ _)); refine qN (cs := #[.int .i64 ((qC y313 x32_2).f0), .int .i64 ((qC y313 x32_2).f1), .int .i64 ((qC y313 x32_2).f2.f0), .int .i64 0, .int .i64 0, .int .i64 0, .int .i64 0, .int .i64 0]) ?_ 3 _ rfl; (with_reducible repeat (first | refine qE ?_ _ | refine qF ?_ | refine qD ?_ _)); refine qN (cs := #[.int .i64 ((qC y313 x32_2).f0), .int .i64 ((qC y313 x32_2).f1), .int .i64 0, .int .i64 0, .int .i64 0, .int .i64 0, .int .i64 0, .int .i64 0]) ?_ 2 _ rfl; (with_reducible repeat (first | refine qE ?_ _ | refine qF ?_ | refine qD ?_ _)); refine qN (cs := #[.int .i64 ((qC y313 x32_2).f0), .int .i64 0, .int .i64 0, .int .i64 0, .int .i64 0, .int .i64 0, .int .i64 0, .int .i64 0]) ?_ 1 _ rfl; (with_reducible repeat (first | refine qE ?_ _ | refine qF ?_ | refine qD ?_ _)); refine qN (cs := #[.int .i64 0, .int .i64 0, .int .i64 0, .int .i64 0, .int .i64 0, .int .i64 0, .int .i64 0, .int .i64 0]) ?_ 0 _ rfl; (with_reducible repeat (first | refine qE ?_ _ | refine qF ?_ | refine qD ?_ _)); exact BK318.out) hb); have n2_ := Aside0.mk (qG bl hb); clear BK312; clear BK318; clear HB; have BK312 := n0_; have BK318 := n1_; have HB := n2_; clear n0_ n1_ n2_; (try clear hb); (try clear hb2); (try clear hk); (try clear hi)))
              go_roundg k2
              case measure => have := HK1.out; have := HK2.out; omega
              case rel => exact ⟨(wrap64 (x8_2 + 1)), (wrap64 (x32_2 + 1)), (by first | rfl | (simp; done) | (simp [*]; done)), (by first | rfl | (simp; done) | (simp [*]; done)), H', ⟨by have := HK1.out; have := HK2.out; omega⟩, ⟨by (with_reducible repeat (first | refine qE ?_ _ | refine qF ?_ | refine qD ?_ _)); exact BK312.out⟩, ⟨bl⟩⟩
             ·replace c19 := Bool.eq_false_iff.mpr c19
              subst c19
              have H1 : ((qoA.f ((qC y313 x32_2).f0) ((qC y313 x32_2).f1) ((qC y313 x32_2).f2.f0) ((qC y313 x32_2).f2.f1) ((qC y313 x32_2).f2.f2) ((qC y313 x32_2).f2.f3) ((qC y313 x32_2).f2.f4) ((qC y313 x32_2).f2.f5) ((qC l1 x23_1).f0) ((qC l1 x23_1).f1) ((qC l1 x23_1).f2.f0) ((qC l1 x23_1).f2.f1) ((qC l1 x23_1).f2.f2) ((qC l1 x23_1).f2.f3) ((qC l1 x23_1).f2.f4) ((qC l1 x23_1).f2.f5)).bind fun t320 => (if t320 = true then (qi.l1 k2 l1 (wrap64 (x8_2 + 1)) l1 (l1.length : Int) x23_1 y313 (y313.length : Int) (wrap64 (x32_2 + 1)) ((qC l1 x23_1).f0) ((qC l1 x23_1).f1) ((qC l1 x23_1).f2.f0) ((qC l1 x23_1).f2.f1) ((qC l1 x23_1).f2.f2) ((qC l1 x23_1).f2.f3) ((qC l1 x23_1).f2.f4) ((qC l1 x23_1).f2.f5)) else (qi.l1 k2 l1 x8_2 l1 (l1.length : Int) x23_1 y313 (y313.length : Int) (wrap64 (x32_2 + 1)) ((qC l1 x23_1).f0) ((qC l1 x23_1).f1) ((qC l1 x23_1).f2.f0) ((qC l1 x23_1).f2.f1) ((qC l1 x23_1).f2.f2) ((qC l1 x23_1).f2.f3) ((qC l1 x23_1).f2.f4) ((qC l1 x23_1).f2.f5)))) = some (r1, r2) := by rw [if_neg (show ¬ (false = true) by decide)] at H; exact H
              clear H
              have H := H1
              clear H1
              replace H := Option.bind_eq_some_iff.mp H
              obtain ⟨t320, A250, H⟩ := H
              replace H : (if t320 = true then (qi.l1 k2 l1 (wrap64 (x8_2 + 1)) l1 (l1.length : Int) x23_1 y313 (y313.length : Int) (wrap64 (x32_2 + 1)) ((qC l1 x23_1).f0) ((qC l1 x23_1).f1) ((qC l1 x23_1).f2.f0) ((qC l1 x23_1).f2.f1) ((qC l1 x23_1).f2.f2) ((qC l1 x23_1).f2.f3) ((qC l1 x23_1).f2.f4) ((qC l1 x23_1).f2.f5)) else (qi.l1 k2 l1 x8_2 l1 (l1.length : Int) x23_1 y313 (y313.length : Int) (wrap64 (x32_2 + 1)) ((qC l1 x23_1).f0) ((qC l1 x23_1).f1) ((qC l1 x23_1).f2.f0) ((qC l1 x23_1).f2.f1) ((qC l1 x23_1).f2.f2) ((qC l1 x23_1).f2.f3) ((qC l1 x23_1).f2.f4) ((qC l1 x23_1).f2.f5))) = some (r1, r2) := H
              have A25 := Aside0.mk A250
              clear A250
              by_cases c26 : t320 = true
              ·subst c26
               have H1 : (qi.l1 k2 l1 (wrap64 (x8_2 + 1)) l1 (l1.length : Int) x23_1 y313 (y313.length : Int) (wrap64 (x32_2 + 1)) ((qC l1 x23_1).f0) ((qC l1 x23_1).f1) ((qC l1 x23_1).f2.f0) ((qC l1 x23_1).f2.f1) ((qC l1 x23_1).f2.f2) ((qC l1 x23_1).f2.f3) ((qC l1 x23_1).f2.f4) ((qC l1 x23_1).f2.f5)) = some (r1, r2) := by rw [if_pos rfl] at H; exact H
               clear H
               have H := H1
               clear H1
               have H' := Aside0.mk H
               clear H
               have p317 : 0 ≤ (x32_2 : Int) := of_decide_eq_true (by first | (with_reducible assumption) | assumption)
               have q317 : x32_2 < (y313.length : Int) := of_decide_eq_true (by first | (with_reducible assumption) | assumption)
               obtain ⟨ad317, e317, hx317_0, hx317_1, hx317_2, hx317_3, hx317_4, hx317_5, hx317_6, hx317_7⟩ := qgA HR316.out x32_2 p317 q317
               obtain rfl : ad311 = ad317 := (by injection e317)
               replace hx317_0 := (HB.out.cell (World.block_lt_of_cell? w _ hx317_0)).trans hx317_0
               replace hx317_1 := (HB.out.cell (World.block_lt_of_cell? w _ hx317_1)).trans hx317_1
               replace hx317_2 := (HB.out.cell (World.block_lt_of_cell? w _ hx317_2)).trans hx317_2
               replace hx317_3 := (HB.out.cell (World.block_lt_of_cell? w _ hx317_3)).trans hx317_3
               replace hx317_4 := (HB.out.cell (World.block_lt_of_cell? w _ hx317_4)).trans hx317_4
               replace hx317_5 := (HB.out.cell (World.block_lt_of_cell? w _ hx317_5)).trans hx317_5
               replace hx317_6 := (HB.out.cell (World.block_lt_of_cell? w _ hx317_6)).trans hx317_6
               replace hx317_7 := (HB.out.cell (World.block_lt_of_cell? w _ hx317_7)).trans hx317_7
               replace p317 := eq_true p317
               replace q317 := eq_true q317
               go_wp2_with (first | ((with_reducible refine qg (N := 12) rfl ?_); refine qd ?hg (N := 12) ?hd (cs := #[.int .i64 0, .int .i64 0, .int .i64 0, .int .i64 0, .int .i64 0, .int .i64 0, .int .i64 0, .int .i64 0]) (t := 57) ?hr ?_; (case hd => rfl); (case hg => rfl); (case hr => first | (go_simp; done) | (go_simp; rfl)); intro gb318 hg w27 hbox hb; have n0_ := Aside0.mk (bb BK312 hb); have n1_ := Aside0.mk (qG bl hb); have n2_ := Aside0.mk (hbox); have n3_ := Aside0.mk ((gg hg)); have n4_ := Aside0.mk ((gg hg)); have n5_ := Aside0.mk ((nl BK312 hg)); have n6_ := Aside0.mk ((nr BK312 hg)); clear BK312; clear HB; have BK312 := n0_; have HB := n1_; have BK318 := n2_; have GW318 := n3_; have GE318 := n4_; have NB312_318 := n5_; have NB318_312 := n6_; clear n0_ n1_ n2_ n3_ n4_ n5_ n6_; clear hb hbox hg; have hnb28 := NB318_312.out; have hnc28 := NB312_318.out; have hcz29_0 := bc BK318 0; have hcz29_1 := bc BK318 1; have hcz29_2 := bc BK318 2; have hcz29_3 := bc BK318 3; have hcz29_4 := bc BK318 4; have hcz29_5 := bc BK318 5; have hcz29_6 := bc BK318 6; have hcz29_7 := bc BK318 7; have hfz29_0 := qA BK318.out 0; have hfz29_1 := qA BK318.out 1; have hfz29_2 := qA BK318.out 2; have hfz29_3 := qA BK318.out 3; have hfz29_4 := qA BK318.out 4; have hfz29_5 := qA BK318.out 5; have hfz29_6 := qA BK318.out 6; have hfz29_7 := qA BK318.out 7; have hcz30_0 := bc BK312 0; have hcz30_1 := bc BK312 1; have hcz30_2 := bc BK312 2; have hcz30_3 := bc BK312 3; have hcz30_4 := bc BK312 4; have hcz30_5 := bc BK312 5; have hcz30_6 := bc BK312 6; have hcz30_7 := bc BK312 7; have hfz30_0 := qA BK312.out 0; have hfz30_1 := qA BK312.out 1; have hfz30_2 := qA BK312.out 2; have hfz30_3 := qA BK312.out 3; have hfz30_4 := qA BK312.out 4; have hfz30_5 := qA BK312.out 5; have hfz30_6 := qA BK312.out 6; have hfz30_7 := qA BK312.out 7) | ((with_reducible refine qL (f := 46) rfl ?_); refine qh (some 38) rfl rfl Tryd.func46 (by kernel_rfl) rfl #[.agg #[.int .i64 ((qC l1 x23_1).f0), .int .i64 ((qC l1 x23_1).f1), .int .i64 ((qC l1 x23_1).f2.f0), .int .i64 ((qC l1 x23_1).f2.f1), .int .i64 ((qC l1 x23_1).f2.f2), .int .i64 ((qC l1 x23_1).f2.f3), .int .i64 ((qC l1 x23_1).f2.f4), .int .i64 ((qC l1 x23_1).f2.f5)], .agg #[.int .i64 ((qC y313 x32_2).f0), .int .i64 ((qC y313 x32_2).f1), .int .i64 ((qC y313 x32_2).f2.f0), .int .i64 ((qC y313 x32_2).f2.f1), .int .i64 ((qC y313 x32_2).f2.f2), .int .i64 ((qC y313 x32_2).f2.f3), .int .i64 ((qC y313 x32_2).f2.f4), .int .i64 ((qC y313 x32_2).f2.f5)]] rfl (by (try simp only [List.map_toArray, List.map_cons, List.map_nil]); first | done | rfl | (simp only [List.length_drop, List.length_take]; rfl)) ?_; (with_reducible refine (qoA.calls ((qC l1 x23_1).f0) ((qC l1 x23_1).f1) ((qC l1 x23_1).f2.f0) ((qC l1 x23_1).f2.f1) ((qC l1 x23_1).f2.f2) ((qC l1 x23_1).f2.f3) ((qC l1 x23_1).f2.f4) ((qC l1 x23_1).f2.f5) ((qC y313 x32_2).f0) ((qC y313 x32_2).f1) ((qC y313 x32_2).f2.f0) ((qC y313 x32_2).f2.f1) ((qC y313 x32_2).f2.f2) ((qC y313 x32_2).f2.f3) ((qC y313 x32_2).f2.f4) ((qC y313 x32_2).f2.f5) false _ A18.out).mono ?_); rintro e w31 ⟨rfl, hb⟩; refine ⟨_, rfl, ?_⟩; have n0_ := Aside0.mk (qCB (g := gb312) (o := .cells #[.int .i64 ((qC l1 x23_1).f0), .int .i64 ((qC l1 x23_1).f1), .int .i64 ((qC l1 x23_1).f2.f0), .int .i64 ((qC l1 x23_1).f2.f1), .int .i64 ((qC l1 x23_1).f2.f2), .int .i64 ((qC l1 x23_1).f2.f3), .int .i64 ((qC l1 x23_1).f2.f4), .int .i64 ((qC l1 x23_1).f2.f5)] 57 (0, 0)) (by (with_reducible repeat (first | refine qE ?_ _ | refine qF ?_ | refine qD ?_ _)); refine qV ?_ NB312_318.out _; (with_reducible repeat (first | refine qE ?_ _ | refine qF ?_ | refine qD ?_ _)); refine qV ?_ NB312_318.out _; (with_reducible repeat (first | refine qE ?_ _ | refine qF ?_ | refine qD ?_ _)); refine qV ?_ NB312_318.out _; (with_reducible repeat (first | refine qE ?_ _ | refine qF ?_ | refine qD ?_ _)); refine qV ?_ NB312_318.out _; (with_reducible repeat (first | refine qE ?_ _ | refine qF ?_ | refine qD ?_ _)); refine qV ?_ NB312_318.out _; (with_reducible repeat (first | refine qE ?_ _ | refine qF ?_ | refine qD ?_ _)); refine qV ?_ NB312_318.out _; (with_reducible repeat (first | refine qE ?_ _ | refine qF ?_ | refine qD ?_ _)); refine qV ?_ NB312_318.out _; (with_reducible repeat (first | refine qE ?_ _ | refine qF ?_ | refine qD ?_ _)); refine qV ?_ NB312_318.out _; (with_reducible repeat (first | refine qE ?_ _ | refine qF ?_ | refine qD ?_ _)); exact BK312.out) hb); have n1_ := Aside0.mk (qCB (g := gb318) (o := .cells #[.int .i64 ((qC y313 x32_2).f0), .int .i64 ((qC y313 x32_2).f1), .int .i64 ((qC y313 x32_2).f2.f0), .int .i64 ((qC y313 x32_2).f2.f1), .int .i64 ((qC y313 x32_2).f2.f2), .int .i64 ((qC y313 x32_2).f2.f3), .int .i64 ((qC y313 x32_2).f2.f4), .int .i64 ((qC y313 x32_2).f2.f5)] 57 (0, 0)) (by (with_reducible repeat (first | refine qE ?_ _ | refine qF ?_ | refine qD ?_ _)); refine qN (cs := #[.int .i64 ((qC y313 x32_2).f0), .int .i64 ((qC y313 x32_2).f1), .int .i64 ((qC y313 x32_2).f2.f0), .int .i64 ((qC y313 x32_2).f2.f1), .int .i64 ((qC y313 x32_2).f2.f2), .int .i64 ((qC y313 x32_2).f2.f3), .int .i64 ((qC y313 x32_2).f2.f4), .int .i64 0]) ?_ 7 _ rfl; (with_reducible repeat (first | refine qE ?_ _ | refine qF ?_ | refine qD ?_ _)); refine qN (cs := #[.int .i64 ((qC y313 x32_2).f0), .int .i64 ((qC y313 x32_2).f1), .int .i64 ((qC y313 x32_2).f2.f0), .int .i64 ((qC y313 x32_2).f2.f1), .int .i64 ((qC y313 x32_2).f2.f2), .int .i64 ((qC y313 x32_2).f2.f3), .int .i64 0, .int .i64 0]) ?_ 6 _ rfl; (with_reducible repeat (first | refine qE ?_ _ | refine qF ?_ | refine qD ?_ _)); refine qN (cs := #[.int .i64 ((qC y313 x32_2).f0), .int .i64 ((qC y313 x32_2).f1), .int .i64 ((qC y313 x32_2).f2.f0), .int .i64 ((qC y313 x32_2).f2.f1), .int .i64 ((qC y313 x32_2).f2.f2), .int .i64 0, .int .i64 0, .int .i64 0]) ?_ 5 _ rfl; (with_reducible repeat (first | refine qE ?_ _ | refine qF ?_ | refine qD ?_ _)); refine qN (cs := #[.int .i64 ((qC y313 x32_2).f0), .int .i64 ((qC y313 x32_2).f1), .int .i64 ((qC y313 x32_2).f2.f0), .int .i64 ((qC y313 x32_2).f2.f1), .int .i64 0, .int .i64 0, .int .i64 0, .int .i64 0]) ?_ 4 _ rfl; (with_reducible repeat (first | refine qE ?_ _ | refine qF ?_ | refine qD ?_ _)); refine qN (cs := #[.int .i64 ((qC y313 x32_2).f0), .int .i64 ((qC y313 x32_2).f1), .int .i64 ((qC y313 x32_2).f2.f0), .int .i64 0, .int .i64 0, .int .i64 0, .int .i64 0, .int .i64 0]) ?_ 3 _ rfl; (with_reducible repeat (first | refine qE ?_ _ | refine qF ?_ | refine qD ?_ _)); refine qN (cs := #[.int .i64 ((qC y313 x32_2).f0), .int .i64 ((qC y313 x32_2).f1), .int .i64 0, .int .i64 0, .int .i64 0, .int .i64 0, .int .i64 0, .int .i64 0]) ?_ 2 _ rfl; (with_reducible repeat (first | refine qE ?_ _ | refine qF ?_ | refine qD ?_ _)); refine qN (cs := #[.int .i64 ((qC y313 x32_2).f0), .int .i64 0, .int .i64 0, .int .i64 0, .int .i64 0, .int .i64 0, .int .i64 0, .int .i64 0]) ?_ 1 _ rfl; (with_reducible repeat (first | refine qE ?_ _ | refine qF ?_ | refine qD ?_ _)); refine qN (cs := #[.int .i64 0, .int .i64 0, .int .i64 0, .int .i64 0, .int .i64 0, .int .i64 0, .int .i64 0, .int .i64 0]) ?_ 0 _ rfl; (with_reducible repeat (first | refine qE ?_ _ | refine qF ?_ | refine qD ?_ _)); exact BK318.out) hb); have n2_ := Aside0.mk (qG bl hb); clear BK312; clear BK318; clear HB; have BK312 := n0_; have BK318 := n1_; have HB := n2_; clear n0_ n1_ n2_; (try clear hb); (try clear hb2); (try clear hk); (try clear hi); have hcz32_0 := bc BK318 0; have hcz32_1 := bc BK318 1; have hcz32_2 := bc BK318 2; have hcz32_3 := bc BK318 3; have hcz32_4 := bc BK318 4; have hcz32_5 := bc BK318 5; have hcz32_6 := bc BK318 6; have hcz32_7 := bc BK318 7; have hfz32_0 := qA BK318.out 0; have hfz32_1 := qA BK318.out 1; have hfz32_2 := qA BK318.out 2; have hfz32_3 := qA BK318.out 3; have hfz32_4 := qA BK318.out 4; have hfz32_5 := qA BK318.out 5; have hfz32_6 := qA BK318.out 6; have hfz32_7 := qA BK318.out 7; have hcz33_0 := bc BK312 0; have hcz33_1 := bc BK312 1; have hcz33_2 := bc BK312 2; have hcz33_3 := bc BK312 3; have hcz33_4 := bc BK312 4; have hcz33_5 := bc BK312 5; have hcz33_6 := bc BK312 6; have hcz33_7 := bc BK312 7; have hfz33_0 := qA BK312.out 0; have hfz33_1 := qA BK312.out 1; have hfz33_2 := qA BK312.out 2; have hfz33_3 := qA BK312.out 3; have hfz33_4 := qA BK312.out 4; have hfz33_5 := qA BK312.out 5; have hfz33_6 := qA BK312.out 6; have hfz33_7 := qA BK312.out 7) | (go_at_call 46; (with_reducible refine (qoA.calls ((qC y313 x32_2).f0) ((qC y313 x32_2).f1) ((qC y313 x32_2).f2.f0) ((qC y313 x32_2).f2.f1) ((qC y313 x32_2).f2.f2) ((qC y313 x32_2).f2.f3) ((qC y313 x32_2).f2.f4) ((qC y313 x32_2).f2.f5) ((qC l1 x23_1).f0) ((qC l1 x23_1).f1) ((qC l1 x23_1).f2.f0) ((qC l1 x23_1).f2.f1) ((qC l1 x23_1).f2.f2) ((qC l1 x23_1).f2.f3) ((qC l1 x23_1).f2.f4) ((qC l1 x23_1).f2.f5) true _ A25.out).mono ?_); rintro e w34 ⟨rfl, hb⟩; have n0_ := Aside0.mk (bb BK312 hb); have n1_ := Aside0.mk (bb BK318 hb); have n2_ := Aside0.mk (qG bl hb); clear BK312; clear BK318; clear HB; have BK312 := n0_; have BK318 := n1_; have HB := n2_; clear n0_ n1_ n2_; (try clear hb); (try clear hb2); (try clear hk); (try clear hi)))
               go_roundg k2
               case measure => have := HK1.out; have := HK2.out; omega
               case rel => exact ⟨(wrap64 (x8_2 + 1)), (wrap64 (x32_2 + 1)), (by first | rfl | (simp; done) | (simp [*]; done)), (by first | rfl | (simp; done) | (simp [*]; done)), H', ⟨by have := HK1.out; have := HK2.out; omega⟩, ⟨by (with_reducible repeat (first | refine qE ?_ _ | refine qF ?_ | refine qD ?_ _)); exact BK312.out⟩, ⟨bl⟩⟩
              ·replace c26 := Bool.eq_false_iff.mpr c26
               subst c26
               have H1 : (qi.l1 k2 l1 x8_2 l1 (l1.length : Int) x23_1 y313 (y313.length : Int) (wrap64 (x32_2 + 1)) ((qC l1 x23_1).f0) ((qC l1 x23_1).f1) ((qC l1 x23_1).f2.f0) ((qC l1 x23_1).f2.f1) ((qC l1 x23_1).f2.f2) ((qC l1 x23_1).f2.f3) ((qC l1 x23_1).f2.f4) ((qC l1 x23_1).f2.f5)) = some (r1, r2) := by rw [if_neg (show ¬ (false = true) by decide)] at H; exact H
               clear H
               have H := H1
               clear H1
               have H' := Aside0.mk H
               clear H
               have p317 : 0 ≤ (x32_2 : Int) := of_decide_eq_true (by first | (with_reducible assumption) | assumption)
               have q317 : x32_2 < (y313.length : Int) := of_decide_eq_true (by first | (with_reducible assumption) | assumption)
               obtain ⟨ad317, e317, hx317_0, hx317_1, hx317_2, hx317_3, hx317_4, hx317_5, hx317_6, hx317_7⟩ := qgA HR316.out x32_2 p317 q317
               obtain rfl : ad311 = ad317 := (by injection e317)
               replace hx317_0 := (HB.out.cell (World.block_lt_of_cell? w _ hx317_0)).trans hx317_0
               replace hx317_1 := (HB.out.cell (World.block_lt_of_cell? w _ hx317_1)).trans hx317_1
               replace hx317_2 := (HB.out.cell (World.block_lt_of_cell? w _ hx317_2)).trans hx317_2
               replace hx317_3 := (HB.out.cell (World.block_lt_of_cell? w _ hx317_3)).trans hx317_3
               replace hx317_4 := (HB.out.cell (World.block_lt_of_cell? w _ hx317_4)).trans hx317_4
               replace hx317_5 := (HB.out.cell (World.block_lt_of_cell? w _ hx317_5)).trans hx317_5
               replace hx317_6 := (HB.out.cell (World.block_lt_of_cell? w _ hx317_6)).trans hx317_6
               replace hx317_7 := (HB.out.cell (World.block_lt_of_cell? w _ hx317_7)).trans hx317_7
               replace p317 := eq_true p317
               replace q317 := eq_true q317
               go_wp2_with (first | ((with_reducible refine qg (N := 12) rfl ?_); refine qd ?hg (N := 12) ?hd (cs := #[.int .i64 0, .int .i64 0, .int .i64 0, .int .i64 0, .int .i64 0, .int .i64 0, .int .i64 0, .int .i64 0]) (t := 57) ?hr ?_; (case hd => rfl); (case hg => rfl); (case hr => first | (go_simp; done) | (go_simp; rfl)); intro gb318 hg w35 hbox hb; have n0_ := Aside0.mk (bb BK312 hb); have n1_ := Aside0.mk (qG bl hb); have n2_ := Aside0.mk (hbox); have n3_ := Aside0.mk ((gg hg)); have n4_ := Aside0.mk ((gg hg)); have n5_ := Aside0.mk ((nl BK312 hg)); have n6_ := Aside0.mk ((nr BK312 hg)); clear BK312; clear HB; have BK312 := n0_; have HB := n1_; have BK318 := n2_; have GW318 := n3_; have GE318 := n4_; have NB312_318 := n5_; have NB318_312 := n6_; clear n0_ n1_ n2_ n3_ n4_ n5_ n6_; clear hb hbox hg; have hnb36 := NB318_312.out; have hnc36 := NB312_318.out; have hcz37_0 := bc BK318 0; have hcz37_1 := bc BK318 1; have hcz37_2 := bc BK318 2; have hcz37_3 := bc BK318 3; have hcz37_4 := bc BK318 4; have hcz37_5 := bc BK318 5; have hcz37_6 := bc BK318 6; have hcz37_7 := bc BK318 7; have hfz37_0 := qA BK318.out 0; have hfz37_1 := qA BK318.out 1; have hfz37_2 := qA BK318.out 2; have hfz37_3 := qA BK318.out 3; have hfz37_4 := qA BK318.out 4; have hfz37_5 := qA BK318.out 5; have hfz37_6 := qA BK318.out 6; have hfz37_7 := qA BK318.out 7; have hcz38_0 := bc BK312 0; have hcz38_1 := bc BK312 1; have hcz38_2 := bc BK312 2; have hcz38_3 := bc BK312 3; have hcz38_4 := bc BK312 4; have hcz38_5 := bc BK312 5; have hcz38_6 := bc BK312 6; have hcz38_7 := bc BK312 7; have hfz38_0 := qA BK312.out 0; have hfz38_1 := qA BK312.out 1; have hfz38_2 := qA BK312.out 2; have hfz38_3 := qA BK312.out 3; have hfz38_4 := qA BK312.out 4; have hfz38_5 := qA BK312.out 5; have hfz38_6 := qA BK312.out 6; have hfz38_7 := qA BK312.out 7) | ((with_reducible refine qL (f := 46) rfl ?_); refine qh (some 38) rfl rfl Tryd.func46 (by kernel_rfl) rfl #[.agg #[.int .i64 ((qC l1 x23_1).f0), .int .i64 ((qC l1 x23_1).f1), .int .i64 ((qC l1 x23_1).f2.f0), .int .i64 ((qC l1 x23_1).f2.f1), .int .i64 ((qC l1 x23_1).f2.f2), .int .i64 ((qC l1 x23_1).f2.f3), .int .i64 ((qC l1 x23_1).f2.f4), .int .i64 ((qC l1 x23_1).f2.f5)], .agg #[.int .i64 ((qC y313 x32_2).f0), .int .i64 ((qC y313 x32_2).f1), .int .i64 ((qC y313 x32_2).f2.f0), .int .i64 ((qC y313 x32_2).f2.f1), .int .i64 ((qC y313 x32_2).f2.f2), .int .i64 ((qC y313 x32_2).f2.f3), .int .i64 ((qC y313 x32_2).f2.f4), .int .i64 ((qC y313 x32_2).f2.f5)]] rfl (by (try simp only [List.map_toArray, List.map_cons, List.map_nil]); first | done | rfl | (simp only [List.length_drop, List.length_take]; rfl)) ?_; (with_reducible refine (qoA.calls ((qC l1 x23_1).f0) ((qC l1 x23_1).f1) ((qC l1 x23_1).f2.f0) ((qC l1 x23_1).f2.f1) ((qC l1 x23_1).f2.f2) ((qC l1 x23_1).f2.f3) ((qC l1 x23_1).f2.f4) ((qC l1 x23_1).f2.f5) ((qC y313 x32_2).f0) ((qC y313 x32_2).f1) ((qC y313 x32_2).f2.f0) ((qC y313 x32_2).f2.f1) ((qC y313 x32_2).f2.f2) ((qC y313 x32_2).f2.f3) ((qC y313 x32_2).f2.f4) ((qC y313 x32_2).f2.f5) false _ A18.out).mono ?_); rintro e w39 ⟨rfl, hb⟩; refine ⟨_, rfl, ?_⟩; have n0_ := Aside0.mk (qCB (g := gb312) (o := .cells #[.int .i64 ((qC l1 x23_1).f0), .int .i64 ((qC l1 x23_1).f1), .int .i64 ((qC l1 x23_1).f2.f0), .int .i64 ((qC l1 x23_1).f2.f1), .int .i64 ((qC l1 x23_1).f2.f2), .int .i64 ((qC l1 x23_1).f2.f3), .int .i64 ((qC l1 x23_1).f2.f4), .int .i64 ((qC l1 x23_1).f2.f5)] 57 (0, 0)) (by (with_reducible repeat (first | refine qE ?_ _ | refine qF ?_ | refine qD ?_ _)); refine qV ?_ NB312_318.out _; (with_reducible repeat (first | refine qE ?_ _ | refine qF ?_ | refine qD ?_ _)); refine qV ?_ NB312_318.out _; (with_reducible repeat (first | refine qE ?_ _ | refine qF ?_ | refine qD ?_ _)); refine qV ?_ NB312_318.out _; (with_reducible repeat (first | refine qE ?_ _ | refine qF ?_ | refine qD ?_ _)); refine qV ?_ NB312_318.out _; (with_reducible repeat (first | refine qE ?_ _ | refine qF ?_ | refine qD ?_ _)); refine qV ?_ NB312_318.out _; (with_reducible repeat (first | refine qE ?_ _ | refine qF ?_ | refine qD ?_ _)); refine qV ?_ NB312_318.out _; (with_reducible repeat (first | refine qE ?_ _ | refine qF ?_ | refine qD ?_ _)); refine qV ?_ NB312_318.out _; (with_reducible repeat (first | refine qE ?_ _ | refine qF ?_ | refine qD ?_ _)); refine qV ?_ NB312_318.out _; (with_reducible repeat (first | refine qE ?_ _ | refine qF ?_ | refine qD ?_ _)); exact BK312.out) hb); have n1_ := Aside0.mk (qCB (g := gb318) (o := .cells #[.int .i64 ((qC y313 x32_2).f0), .int .i64 ((qC y313 x32_2).f1), .int .i64 ((qC y313 x32_2).f2.f0), .int .i64 ((qC y313 x32_2).f2.f1), .int .i64 ((qC y313 x32_2).f2.f2), .int .i64 ((qC y313 x32_2).f2.f3), .int .i64 ((qC y313 x32_2).f2.f4), .int .i64 ((qC y313 x32_2).f2.f5)] 57 (0, 0)) (by (with_reducible repeat (first | refine qE ?_ _ | refine qF ?_ | refine qD ?_ _)); refine qN (cs := #[.int .i64 ((qC y313 x32_2).f0), .int .i64 ((qC y313 x32_2).f1), .int .i64 ((qC y313 x32_2).f2.f0), .int .i64 ((qC y313 x32_2).f2.f1), .int .i64 ((qC y313 x32_2).f2.f2), .int .i64 ((qC y313 x32_2).f2.f3), .int .i64 ((qC y313 x32_2).f2.f4), .int .i64 0]) ?_ 7 _ rfl; (with_reducible repeat (first | refine qE ?_ _ | refine qF ?_ | refine qD ?_ _)); refine qN (cs := #[.int .i64 ((qC y313 x32_2).f0), .int .i64 ((qC y313 x32_2).f1), .int .i64 ((qC y313 x32_2).f2.f0), .int .i64 ((qC y313 x32_2).f2.f1), .int .i64 ((qC y313 x32_2).f2.f2), .int .i64 ((qC y313 x32_2).f2.f3), .int .i64 0, .int .i64 0]) ?_ 6 _ rfl; (with_reducible repeat (first | refine qE ?_ _ | refine qF ?_ | refine qD ?_ _)); refine qN (cs := #[.int .i64 ((qC y313 x32_2).f0), .int .i64 ((qC y313 x32_2).f1), .int .i64 ((qC y313 x32_2).f2.f0), .int .i64 ((qC y313 x32_2).f2.f1), .int .i64 ((qC y313 x32_2).f2.f2), .int .i64 0, .int .i64 0, .int .i64 0]) ?_ 5 _ rfl; (with_reducible repeat (first | refine qE ?_ _ | refine qF ?_ | refine qD ?_ _)); refine qN (cs := #[.int .i64 ((qC y313 x32_2).f0), .int .i64 ((qC y313 x32_2).f1), .int .i64 ((qC y313 x32_2).f2.f0), .int .i64 ((qC y313 x32_2).f2.f1), .int .i64 0, .int .i64 0, .int .i64 0, .int .i64 0]) ?_ 4 _ rfl; (with_reducible repeat (first | refine qE ?_ _ | refine qF ?_ | refine qD ?_ _)); refine qN (cs := #[.int .i64 ((qC y313 x32_2).f0), .int .i64 ((qC y313 x32_2).f1), .int .i64 ((qC y313 x32_2).f2.f0), .int .i64 0, .int .i64 0, .int .i64 0, .int .i64 0, .int .i64 0]) ?_ 3 _ rfl; (with_reducible repeat (first | refine qE ?_ _ | refine qF ?_ | refine qD ?_ _)); refine qN (cs := #[.int .i64 ((qC y313 x32_2).f0), .int .i64 ((qC y313 x32_2).f1), .int .i64 0, .int .i64 0, .int .i64 0, .int .i64 0, .int .i64 0, .int .i64 0]) ?_ 2 _ rfl; (with_reducible repeat (first | refine qE ?_ _ | refine qF ?_ | refine qD ?_ _)); refine qN (cs := #[.int .i64 ((qC y313 x32_2).f0), .int .i64 0, .int .i64 0, .int .i64 0, .int .i64 0, .int .i64 0, .int .i64 0, .int .i64 0]) ?_ 1 _ rfl; (with_reducible repeat (first | refine qE ?_ _ | refine qF ?_ | refine qD ?_ _)); refine qN (cs := #[.int .i64 0, .int .i64 0, .int .i64 0, .int .i64 0, .int .i64 0, .int .i64 0, .int .i64 0, .int .i64 0]) ?_ 0 _ rfl; (with_reducible repeat (first | refine qE ?_ _ | refine qF ?_ | refine qD ?_ _)); exact BK318.out) hb); have n2_ := Aside0.mk (qG bl hb); clear BK312; clear BK318; clear HB; have BK312 := n0_; have BK318 := n1_; have HB := n2_; clear n0_ n1_ n2_; (try clear hb); (try clear hb2); (try clear hk); (try clear hi); have hcz40_0 := bc BK318 0; have hcz40_1 := bc BK318 1; have hcz40_2 := bc BK318 2; have hcz40_3 := bc BK318 3; have hcz40_4 := bc BK318 4; have hcz40_5 := bc BK318 5; have hcz40_6 := bc BK318 6; have hcz40_7 := bc BK318 7; have hfz40_0 := qA BK318.out 0; have hfz40_1 := qA BK318.out 1; have hfz40_2 := qA BK318.out 2; have hfz40_3 := qA BK318.out 3; have hfz40_4 := qA BK318.out 4; have hfz40_5 := qA BK318.out 5; have hfz40_6 := qA BK318.out 6; have hfz40_7 := qA BK318.out 7; have hcz41_0 := bc BK312 0; have hcz41_1 := bc BK312 1; have hcz41_2 := bc BK312 2; have hcz41_3 := bc BK312 3; have hcz41_4 := bc BK312 4; have hcz41_5 := bc BK312 5; have hcz41_6 := bc BK312 6; have hcz41_7 := bc BK312 7; have hfz41_0 := qA BK312.out 0; have hfz41_1 := qA BK312.out 1; have hfz41_2 := qA BK312.out 2; have hfz41_3 := qA BK312.out 3; have hfz41_4 := qA BK312.out 4; have hfz41_5 := qA BK312.out 5; have hfz41_6 := qA BK312.out 6; have hfz41_7 := qA BK312.out 7) | (go_at_call 46; (with_reducible refine (qoA.calls ((qC y313 x32_2).f0) ((qC y313 x32_2).f1) ((qC y313 x32_2).f2.f0) ((qC y313 x32_2).f2.f1) ((qC y313 x32_2).f2.f2) ((qC y313 x32_2).f2.f3) ((qC y313 x32_2).f2.f4) ((qC y313 x32_2).f2.f5) ((qC l1 x23_1).f0) ((qC l1 x23_1).f1) ((qC l1 x23_1).f2.f0) ((qC l1 x23_1).f2.f1) ((qC l1 x23_1).f2.f2) ((qC l1 x23_1).f2.f3) ((qC l1 x23_1).f2.f4) ((qC l1 x23_1).f2.f5) false _ A25.out).mono ?_); rintro e w42 ⟨rfl, hb⟩; have n0_ := Aside0.mk (bb BK312 hb); have n1_ := Aside0.mk (bb BK318 hb); have n2_ := Aside0.mk (qG bl hb); clear BK312; clear BK318; clear HB; have BK312 := n0_; have BK318 := n1_; have HB := n2_; clear n0_ n1_ n2_; (try clear hb); (try clear hb2); (try clear hk); (try clear hi)))
               go_roundg k2
               case measure => have := HK1.out; have := HK2.out; omega
               case rel => exact ⟨(x8_2), (wrap64 (x32_2 + 1)), (by first | rfl | (simp; done) | (simp [*]; done)), (by first | rfl | (simp; done) | (simp [*]; done)), H', ⟨by have := HK1.out; have := HK2.out; omega⟩, ⟨by (with_reducible repeat (first | refine qE ?_ _ | refine qF ?_ | refine qD ?_ _)); exact BK312.out⟩, ⟨bl⟩⟩
            ·rw [if_neg c17] at H
             exact absurd H (by simp)
           ·rw [if_neg c16] at H
            exact absurd H (by simp)
          ·rw [if_neg c15] at H
           have c15b0 : decide (x32_2 < (y313.length : Int)) = false := decide_eq_false c15
           clear c15
           have H' := Aside0.mk H
           clear H
           go_wp2
           go_roundg k2
           case measure => have := HK1.out; have := HK2.out; omega
           case rel => exact ⟨(x8_2), (wrap64 (x23_1 + 1)), (by first | rfl | (simp; done) | (simp [*]; done)), (by first | rfl | (simp; done) | (simp [*]; done)), H', ⟨by have := HK1.out; have := HK2.out; omega⟩, ⟨bl⟩⟩
       ·rw [if_neg c10] at H
        exact absurd H (by simp)
      ·rw [if_neg c8] at H
       exact absurd H (by simp)
     ·rw [if_neg c7] at H
      exact absurd H (by simp)
    ·rw [if_neg c6] at H
     have c6b0 : decide (x23_1 < (l1.length : Int)) = false := decide_eq_false c6
     clear c6
     simp only [Option.some.injEq, Prod.mk.injEq] at H
     obtain ⟨rfl, rfl⟩ := H
     go_wp2
     go_ret2
     exact ⟨by first | rfl | (simp [qI, qH] <;> rfl) | (simp [*, qI, qH] <;> rfl), bl⟩
 ·replace c4 := Bool.eq_false_iff.mpr c4
  subst c4
  have H1 : (some (0, false)) = some (r1, r2) := by rw [if_neg (show ¬ (false = true) by decide)] at H; exact H
  clear H
  have H := H1
  clear H1
  simp only [Option.some.injEq, Prod.mk.injEq] at H
  obtain ⟨rfl, rfl⟩ := H
  go_enter Tryd.func19, Tryd.ntmps19
  go_wp2_with (first | ((with_reducible refine qL (f := 45) rfl ?_); refine qh (some 16) rfl rfl Tryd.func45 (by kernel_rfl) rfl #[.string a0, .slice A1 l1.length c1] rfl (by (try simp only [List.map_toArray, List.map_cons, List.map_nil]); first | done | rfl | (simp only [List.length_drop, List.length_take]; rfl)) ?_; (with_reducible refine (qZA.calls k a0 _ _ l1 t307 false _ ?side1 ?side2 ?side3 A3.out).mono ?_); (case side1 => repeat (first | exact HR1.out | (with_reducible refine Kd.qa ?_ _) | (with_reducible refine Kd.qZ ?_ _) | (with_reducible refine Kd.qe ?_))); (case side2 => exact HC1.out); (case side3 => first | exact HLD.out | exact Laid.below HLD.out (by repeat (first | (with_reducible first | exact HB.out | apply qAA | apply qo | apply qp | refine qMA ?_ (Aside0.out (by with_reducible assumption))) | exact HB.out))); rintro e w43 ⟨v309, rfl, ho0, hb⟩; refine ⟨_, rfl, ?_⟩; have n0_ := Aside0.mk (Kd.qDA ho0 (qb bl)); have n1_ := Aside0.mk (qG bl hb); clear HB; have HO310 := n0_; have HB := n1_; clear n0_ n1_; (try clear hb); (try clear hb2); (try clear hk); (try clear hi); (try clear ho0)))
  go_ret2
  exact ⟨by first | rfl | (simp [qI, qH] <;> rfl) | (simp [*, qI, qH] <;> rfl), bl⟩
def qm.j0 : Nat → List (S61) → List (S57) → Bool → Option (Bool)
 | 0, _, _, _ => none
 | k + 1, x1, x8, x41 => if x41 = true then (some false) else ((qS.f k x1).bind fun t332 => ((qX.f k x8 t332).bind fun t335 => (if t335 = true then (some true) else (some false))))
def qm.f (k : Nat) (a0 : ByteArray) (l1 : List (S61)) : Option (Bool) := if (a0.size : Int) > 1048576 then (some true) else ((qSA.f l1 1048576).bind fun t321 => (if t321 < 0 then (some true) else ((qS.f k l1).bind fun t322 => ((qk.f k a0 t322).bind fun bt325 => ((qS.f k l1).bind fun t327 => ((qi.f k a0 t327).bind fun bt330 => (if bt330.1 = bt325.1 then (qm.j0 k l1 t327 (bt330.2 != bt325.2)) else (qm.j0 k l1 t327 true))))))))
set_option maxHeartbeats 8000000 in
set_option maxRecDepth 100000 in
theorem qm.calls (k : Nat) (a0 : ByteArray) (A1 : Option Addr) (c1 : Nat) (l1 : List (S61)) (r : Bool) (w : World) (hr1 : Kd.C k61 w A1 l1.length l1) (hc1 : l1.length ≤ c1) (hL : Laid w) (h : qm.f k a0 l1 = some r) :
  Calls Tryd.prog 5 #[.string a0, .slice A1 l1.length c1] w fun e w' => e = .returned (.bool r) ∧ Below w.heap.size w w' := by
 have HR1 := Aside0.mk hr1
 have HC1 := Aside0.mk hc1
 clear hr1 hc1
 have HLD := Aside0.mk hL
 clear hL
 have HB := Aside0.mk (Below.refl w.heap.size w)
 have H : (if (a0.size : Int) > 1048576 then (some true) else ((qSA.f l1 1048576).bind fun t321 => (if t321 < 0 then (some true) else ((qS.f k l1).bind fun t322 => ((qk.f k a0 t322).bind fun bt325 => ((qS.f k l1).bind fun t327 => ((qi.f k a0 t327).bind fun bt330 => (if bt330.1 = bt325.1 then (qm.j0 k l1 t327 (bt330.2 != bt325.2)) else (qm.j0 k l1 t327 true))))))))) = some r := h
 clear h
 by_cases c3 : (a0.size : Int) > 1048576
 ·rw [if_pos c3] at H
  have c3b0 : decide (1048576 < (a0.size : Int)) = true := decide_eq_true c3
  have c3b1 : decide (1048576 < a0.size) = true := decide_eq_true (by omega)
  clear c3
  obtain rfl := Option.some.inj H
  go_enter Tryd.func5, Tryd.ntmps5
  go_wp2
  go_ret
  exact ⟨by first | rfl | (simp [qI, qH] <;> rfl) | (simp [*, qI, qH] <;> rfl), bl⟩
 ·rw [if_neg c3] at H
  have c3b0 : decide (1048576 < (a0.size : Int)) = false := decide_eq_false c3
  have c3b1 : decide (1048576 < a0.size) = false := decide_eq_false (by omega)
  clear c3
  replace H := Option.bind_eq_some_iff.mp H
  obtain ⟨t321, A40, H⟩ := H
  replace H : (if t321 < 0 then (some true) else ((qS.f k l1).bind fun t322 => ((qk.f k a0 t322).bind fun bt325 => ((qS.f k l1).bind fun t327 => ((qi.f k a0 t327).bind fun bt330 => (if bt330.1 = bt325.1 then (qm.j0 k l1 t327 (bt330.2 != bt325.2)) else (qm.j0 k l1 t327 true))))))) = some r := H
  have A4 := Aside0.mk A40
  clear A40
  by_cases c5 : t321 < 0
  ·rw [if_pos c5] at H
   have c5b0 : decide (t321 < 0) = true := decide_eq_true c5
   clear c5
   obtain rfl := Option.some.inj H
   go_enter Tryd.func5, Tryd.ntmps5
   go_wp2_with (first | ((with_reducible refine qL (f := 11) rfl ?_); refine qh (some 16) rfl rfl Tryd.func11 (by kernel_rfl) rfl #[.slice A1 l1.length c1, .int .i64 1048576] rfl (by (try simp only [List.map_toArray, List.map_cons, List.map_nil]); first | done | rfl | (simp only [List.length_drop, List.length_take]; rfl)) ?_; (with_reducible refine (qSA.calls _ _ l1 1048576 t321 _ ?side1 ?side2 A4.out).mono ?_); (case side1 => repeat (first | exact HR1.out | (with_reducible refine Kd.qa ?_ _) | (with_reducible refine Kd.qZ ?_ _) | (with_reducible refine Kd.qe ?_))); (case side2 => exact HC1.out); rintro e w' ⟨rfl, ⟨nd, rfl⟩⟩; refine ⟨_, rfl, ?_⟩))
   go_ret
   exact ⟨by first | rfl | (simp [qI, qH] <;> rfl) | (simp [*, qI, qH] <;> rfl), bl⟩
  ·rw [if_neg c5] at H
   have c5b0 : decide (t321 < 0) = false := decide_eq_false c5
   clear c5
   replace H := Option.bind_eq_some_iff.mp H
   obtain ⟨t322, A60, H⟩ := H
   replace H : ((qk.f k a0 t322).bind fun bt325 => ((qS.f k l1).bind fun t327 => ((qi.f k a0 t327).bind fun bt330 => (if bt330.1 = bt325.1 then (qm.j0 k l1 t327 (bt330.2 != bt325.2)) else (qm.j0 k l1 t327 true))))) = some r := H
   have A6 := Aside0.mk A60
   clear A60
   replace H := Option.bind_eq_some_iff.mp H
   obtain ⟨⟨t325, t326⟩, A70, H⟩ := H
   replace H : ((qS.f k l1).bind fun t327 => ((qi.f k a0 t327).bind fun bt330 => (if bt330.1 = t325 then (qm.j0 k l1 t327 (bt330.2 != t326)) else (qm.j0 k l1 t327 true)))) = some r := H
   have A7 := Aside0.mk A70
   clear A70
   replace H := Option.bind_eq_some_iff.mp H
   obtain ⟨t327, A80, H⟩ := H
   replace H : ((qi.f k a0 t327).bind fun bt330 => (if bt330.1 = t325 then (qm.j0 k l1 t327 (bt330.2 != t326)) else (qm.j0 k l1 t327 true))) = some r := H
   have A8 := Aside0.mk A80
   clear A80
   replace H := Option.bind_eq_some_iff.mp H
   obtain ⟨⟨t330, t331⟩, A90, H⟩ := H
   replace H : (if t330 = t325 then (qm.j0 k l1 t327 (t331 != t326)) else (qm.j0 k l1 t327 true)) = some r := H
   have A9 := Aside0.mk A90
   clear A90
   have HC10 := Aside0.mk H
   clear H
   go_enter Tryd.func5, Tryd.ntmps5
   go_upto_region 10 with (first | ((with_reducible refine qL (f := 11) rfl ?_); refine qh (some 16) rfl rfl Tryd.func11 (by kernel_rfl) rfl #[.slice A1 l1.length c1, .int .i64 1048576] rfl (by (try simp only [List.map_toArray, List.map_cons, List.map_nil]); first | done | rfl | (simp only [List.length_drop, List.length_take]; rfl)) ?_; (with_reducible refine (qSA.calls _ _ l1 1048576 t321 _ ?side1 ?side2 A4.out).mono ?_); (case side1 => repeat (first | exact HR1.out | (with_reducible refine Kd.qa ?_ _) | (with_reducible refine Kd.qZ ?_ _) | (with_reducible refine Kd.qe ?_))); (case side2 => exact HC1.out); rintro e w' ⟨rfl, ⟨nd, rfl⟩⟩; refine ⟨_, rfl, ?_⟩) | ((with_reducible refine qL (f := 13) rfl ?_); refine qh (some 22) rfl rfl Tryd.func13 (by kernel_rfl) rfl #[.slice A1 l1.length c1] rfl (by (try simp only [List.map_toArray, List.map_cons, List.map_nil]); first | done | rfl | (simp only [List.length_drop, List.length_take]; rfl)) ?_; (with_reducible refine (qS.calls k _ _ l1 t322 _ ?side1 ?side2 A6.out).mono ?_); (case side1 => repeat (first | exact HR1.out | (with_reducible refine Kd.qa ?_ _) | (with_reducible refine Kd.qZ ?_ _) | (with_reducible refine Kd.qe ?_))); (case side2 => exact HC1.out); rintro e w11 ⟨v323, rfl, ho0, hb⟩; refine ⟨_, rfl, ?_⟩; have n0_ := Aside0.mk (Kd.qDA ho0 (qb bl)); have n1_ := Aside0.mk (qG bl hb); clear HB; have HO324 := n0_; have HB := n1_; clear n0_ n1_; (try clear hb); (try clear hb2); (try clear hk); (try clear hi); (try clear ho0); obtain ⟨Ao12, co12, eo12⟩ := Kd.qt HO324.out; subst eo12) | ((with_reducible refine qL (f := 18) rfl ?_); refine qh (some 23) rfl rfl Tryd.func18 (by kernel_rfl) rfl #[.string a0, .slice Ao12 t322.length co12] rfl (by (try simp only [List.map_toArray, List.map_cons, List.map_nil]); first | done | rfl | (simp only [List.length_drop, List.length_take]; rfl)) ?_; (with_reducible refine (qk.calls k a0 _ _ t322 t325 t326 _ ?side1 ?side2 A7.out).mono ?_); (case side1 => repeat (first | exact (Kd.qM HO324.out).2.2 | (with_reducible refine Kd.qa ?_ _) | (with_reducible refine Kd.qZ ?_ _) | (with_reducible refine Kd.qe ?_))); (case side2 => exact (Kd.qM HO324.out).2.1); rintro e w13 ⟨rfl, hb⟩; refine ⟨_, rfl, ?_⟩; have n0_ := Aside0.mk (Kd.qc (by (with_reducible repeat (first | apply Kd.qK | apply Kd.qJ | apply Kd.qO)); exact HO324.out) hb); have n1_ := Aside0.mk (qG bl hb); clear HO324; clear HB; have HO324 := n0_; have HB := n1_; clear n0_ n1_; (try clear hb); (try clear hb2); (try clear hk); (try clear hi)) | ((with_reducible refine qL (f := 13) rfl ?_); refine qh (some 27) rfl rfl Tryd.func13 (by kernel_rfl) rfl #[.slice A1 l1.length c1] rfl (by (try simp only [List.map_toArray, List.map_cons, List.map_nil]); first | done | rfl | (simp only [List.length_drop, List.length_take]; rfl)) ?_; (with_reducible refine (qS.calls k _ _ l1 t327 _ ?side1 ?side2 A8.out).mono ?_); (case side1 => repeat (first | exact (Kd.qWA HR1.out HB.out) | (with_reducible refine Kd.qa ?_ _) | (with_reducible refine Kd.qZ ?_ _) | (with_reducible refine Kd.qe ?_))); (case side2 => exact HC1.out); rintro e w14 ⟨v328, rfl, ho0, hb⟩; refine ⟨_, rfl, ?_⟩; have n0_ := Aside0.mk (Kd.qYA (by (with_reducible repeat (first | apply Kd.qK | apply Kd.qJ | apply Kd.qO)); exact HO324.out) (Kd.qnA ho0) hb); have n1_ := Aside0.mk (Kd.qDA (Kd.qmA ho0 (Kd.R_lt (by (with_reducible repeat (first | apply Kd.qK | apply Kd.qJ | apply Kd.qO)); exact HO324.out))) (qb bl)); have n2_ := Aside0.mk (qG bl hb); clear HO324; clear HB; have HO324 := n0_; have HO329 := n1_; have HB := n2_; clear n0_ n1_ n2_; (try clear hb); (try clear hb2); (try clear hk); (try clear hi); (try clear ho0); obtain ⟨Ao15, co15, eo15⟩ := Kd.qt HO329.out; subst eo15) | ((with_reducible refine qL (f := 19) rfl ?_); refine qh (some 31) rfl rfl Tryd.func19 (by kernel_rfl) rfl #[.string a0, .slice Ao15 t327.length co15] rfl (by (try simp only [List.map_toArray, List.map_cons, List.map_nil]); first | done | rfl | (simp only [List.length_drop, List.length_take]; rfl)) ?_; (with_reducible refine (qi.calls k a0 _ _ t327 t330 t331 _ ?side1 ?side2 ?side3 A9.out).mono ?_); (case side1 => repeat (first | exact (Kd.qM HO329.out).2.2 | (with_reducible refine Kd.qa ?_ _) | (with_reducible refine Kd.qZ ?_ _) | (with_reducible refine Kd.qe ?_))); (case side2 => exact (Kd.qM HO329.out).2.1); (case side3 => first | exact HLD.out | exact Laid.below HLD.out (by repeat (first | (with_reducible first | exact HB.out | apply qAA | apply qo | apply qp | refine qMA ?_ (Aside0.out (by with_reducible assumption))) | exact HB.out))); rintro e w16 ⟨rfl, hb⟩; refine ⟨_, rfl, ?_⟩; have n0_ := Aside0.mk (Kd.qc (by (with_reducible repeat (first | apply Kd.qK | apply Kd.qJ | apply Kd.qO)); exact HO324.out) hb); have n1_ := Aside0.mk (Kd.qc (by (with_reducible repeat (first | apply Kd.qK | apply Kd.qJ | apply Kd.qO)); exact HO329.out) hb); have n2_ := Aside0.mk (qG bl hb); clear HO324; clear HO329; clear HB; have HO324 := n0_; have HO329 := n1_; have HB := n2_; clear n0_ n1_ n2_; (try clear hb); (try clear hb2); (try clear hk); (try clear hi)))
   (try simp only [Act.put, List.setIfInBounds_toArray, List.set_cons_zero, List.set_cons_succ])
   go_cut [41] (fun v41 wc => ∃ (kq : Nat) (x41_9 : Bool), v41 = .bool x41_9 ∧ Aside0 (qm.j0 kq l1 t327 x41_9 = some r) ∧ Aside0 (kq ≤ k) ∧ Aside0 (Kd.R k57 57 wc w.heap.size (fun _ => True) (.slice Ao15 t327.length co15) t327) ∧ Aside0 (Below w.heap.size w wc))
   case first =>
    have H := HC10.out
    clear HC10
    by_cases c17 : t330 = t325
    ·rw [if_pos c17] at H
     have c17b0 : (t330 == t325) = true := beq_iff_eq.mpr c17
     have c17b1 : (t330 != t325) = false := bne_eq_false_iff_eq.mpr c17
     clear c17
     (first | rw [c17b0] | (simp only [i64_w, i32_w]; rw [c17b0]) | skip)
     have H' := Aside0.mk H
     clear H
     go_wp2
     go_meet
     case rel => exact ⟨_, ((t331 != t326)), (by first | rfl | (simp; done) | (simp [*]; done)), H', ⟨by first | omega | exact Nat.le_refl _⟩, ⟨by (with_reducible repeat (first | apply Kd.qK | apply Kd.qJ | apply Kd.qO)); exact Kd.qGA HO329.out (fun _ hk => trivial)⟩, ⟨bl⟩⟩
    ·rw [if_neg c17] at H
     have c17b0 : (t330 == t325) = false := beq_eq_false_iff_ne.mpr c17
     have c17b1 : (t330 != t325) = true := bne_iff_ne.mpr c17
     (first | rw [c17b0] | (simp only [i64_w, i32_w]; rw [c17b0]) | skip)
     have H' := Aside0.mk H
     clear H
     go_wp2
     go_meet
     case rel => exact ⟨_, (true), (by first | rfl | (simp; done) | (simp [*]; done)), H', ⟨by first | omega | exact Nat.le_refl _⟩, ⟨by (with_reducible repeat (first | apply Kd.qK | apply Kd.qJ | apply Kd.qO)); exact Kd.qGA HO329.out (fun _ hk => trivial)⟩, ⟨bl⟩⟩
   case rest =>
    clear HC10
    try clear c1
    try clear p2
    try clear c3
    try clear c3b0
    try clear c3b1
    try clear c5
    try clear c5b0
    try clear c11
    try clear c13
    try clear c17
    try clear c17b0
    try clear c17b1
    obtain ⟨kq, x41_9, rfl, HA, HJ9, HO_8, HB⟩ := hcut
    cases kq with
    | zero => exact absurd HA.out (by simp [qm.j0])
    | succ kj9 =>
     have H := HA.out
     clear HA
     simp only [qm.j0] at H
     by_cases c18 : x41_9 = true
     ·subst c18
      have H1 : (some false) = some r := by rw [if_pos rfl] at H; exact H
      clear H
      have H := H1
      clear H1
      obtain rfl := Option.some.inj H
      go_wp2
      go_ret
      exact ⟨by first | rfl | (simp [qI, qH] <;> rfl) | (simp [*, qI, qH] <;> rfl), bl⟩
     ·replace c18 := Bool.eq_false_iff.mpr c18
      subst c18
      have H1 : ((qS.f kj9 l1).bind fun t332 => ((qX.f kj9 t327 t332).bind fun t335 => (if t335 = true then (some true) else (some false)))) = some r := by rw [if_neg (show ¬ (false = true) by decide)] at H; exact H
      clear H
      have H := H1
      clear H1
      replace H := Option.bind_eq_some_iff.mp H
      obtain ⟨t332, A190, H⟩ := H
      replace H : ((qX.f kj9 t327 t332).bind fun t335 => (if t335 = true then (some true) else (some false))) = some r := H
      have A19 := Aside0.mk A190
      clear A190
      replace H := Option.bind_eq_some_iff.mp H
      obtain ⟨t335, A200, H⟩ := H
      replace H : (if t335 = true then (some true) else (some false)) = some r := H
      have A20 := Aside0.mk A200
      clear A200
      by_cases c21 : t335 = true
      ·subst c21
       have H1 : (some true) = some r := by rw [if_pos rfl] at H; exact H
       clear H
       have H := H1
       clear H1
       obtain rfl := Option.some.inj H
       go_wp2_with (first | ((with_reducible refine qL (f := 13) rfl ?_); refine qh (some 44) rfl rfl Tryd.func13 (by kernel_rfl) rfl #[.slice A1 l1.length c1] rfl (by (try simp only [List.map_toArray, List.map_cons, List.map_nil]); first | done | rfl | (simp only [List.length_drop, List.length_take]; rfl)) ?_; (with_reducible refine (qS.calls kj9 _ _ l1 t332 _ ?side1 ?side2 A19.out).mono ?_); (case side1 => repeat (first | exact (Kd.qWA HR1.out HB.out) | (with_reducible refine Kd.qa ?_ _) | (with_reducible refine Kd.qZ ?_ _) | (with_reducible refine Kd.qe ?_))); (case side2 => exact HC1.out); rintro e w22 ⟨v333, rfl, ho0, hb⟩; refine ⟨_, rfl, ?_⟩; have n0_ := Aside0.mk (Kd.qYA (by (with_reducible repeat (first | apply Kd.qK | apply Kd.qJ | apply Kd.qO)); exact HO_8.out) (Kd.qnA ho0) hb); have n1_ := Aside0.mk (Kd.qDA (Kd.qmA ho0 (Kd.R_lt (by (with_reducible repeat (first | apply Kd.qK | apply Kd.qJ | apply Kd.qO)); exact HO_8.out))) (qb bl)); have n2_ := Aside0.mk (qG bl hb); clear HO_8; clear HB; have HO_8 := n0_; have HO334 := n1_; have HB := n2_; clear n0_ n1_ n2_; (try clear hb); (try clear hb2); (try clear hk); (try clear hi); (try clear ho0); obtain ⟨Ao23, co23, eo23⟩ := Kd.qt HO334.out; subst eo23) | ((with_reducible refine qL (f := 15) rfl ?_); refine qh (some 45) rfl rfl Tryd.func15 (by kernel_rfl) rfl #[.slice Ao15 t327.length co15, .slice Ao23 t332.length co23] rfl (by (try simp only [List.map_toArray, List.map_cons, List.map_nil]); first | done | rfl | (simp only [List.length_drop, List.length_take]; rfl)) ?_; (with_reducible refine (qX.calls kj9 _ _ t327 _ _ t332 true _ ?side1 ?side2 ?side3 ?side4 A20.out).mono ?_); (case side1 => repeat (first | exact (Kd.qM HO_8.out).2.2 | (with_reducible refine Kd.qa ?_ _) | (with_reducible refine Kd.qZ ?_ _) | (with_reducible refine Kd.qe ?_))); (case side2 => exact (Kd.qM HO_8.out).2.1); (case side3 => repeat (first | exact (Kd.qM HO334.out).2.2 | (with_reducible refine Kd.qa ?_ _) | (with_reducible refine Kd.qZ ?_ _) | (with_reducible refine Kd.qe ?_))); (case side4 => exact (Kd.qM HO334.out).2.1); rintro e w24 ⟨rfl, hb⟩; refine ⟨_, rfl, ?_⟩; have n0_ := Aside0.mk (Kd.qc (by (with_reducible repeat (first | apply Kd.qK | apply Kd.qJ | apply Kd.qO)); exact HO_8.out) hb); have n1_ := Aside0.mk (Kd.qc (by (with_reducible repeat (first | apply Kd.qK | apply Kd.qJ | apply Kd.qO)); exact HO334.out) hb); have n2_ := Aside0.mk (qG bl hb); clear HO_8; clear HO334; clear HB; have HO_8 := n0_; have HO334 := n1_; have HB := n2_; clear n0_ n1_ n2_; (try clear hb); (try clear hb2); (try clear hk); (try clear hi)))
       go_ret
       exact ⟨by first | rfl | (simp [qI, qH] <;> rfl) | (simp [*, qI, qH] <;> rfl), bl⟩
      ·replace c21 := Bool.eq_false_iff.mpr c21
       subst c21
       have H1 : (some false) = some r := by rw [if_neg (show ¬ (false = true) by decide)] at H; exact H
       clear H
       have H := H1
       clear H1
       obtain rfl := Option.some.inj H
       go_wp2_with (first | ((with_reducible refine qL (f := 13) rfl ?_); refine qh (some 44) rfl rfl Tryd.func13 (by kernel_rfl) rfl #[.slice A1 l1.length c1] rfl (by (try simp only [List.map_toArray, List.map_cons, List.map_nil]); first | done | rfl | (simp only [List.length_drop, List.length_take]; rfl)) ?_; (with_reducible refine (qS.calls kj9 _ _ l1 t332 _ ?side1 ?side2 A19.out).mono ?_); (case side1 => repeat (first | exact (Kd.qWA HR1.out HB.out) | (with_reducible refine Kd.qa ?_ _) | (with_reducible refine Kd.qZ ?_ _) | (with_reducible refine Kd.qe ?_))); (case side2 => exact HC1.out); rintro e w25 ⟨v333, rfl, ho0, hb⟩; refine ⟨_, rfl, ?_⟩; have n0_ := Aside0.mk (Kd.qYA (by (with_reducible repeat (first | apply Kd.qK | apply Kd.qJ | apply Kd.qO)); exact HO_8.out) (Kd.qnA ho0) hb); have n1_ := Aside0.mk (Kd.qDA (Kd.qmA ho0 (Kd.R_lt (by (with_reducible repeat (first | apply Kd.qK | apply Kd.qJ | apply Kd.qO)); exact HO_8.out))) (qb bl)); have n2_ := Aside0.mk (qG bl hb); clear HO_8; clear HB; have HO_8 := n0_; have HO334 := n1_; have HB := n2_; clear n0_ n1_ n2_; (try clear hb); (try clear hb2); (try clear hk); (try clear hi); (try clear ho0); obtain ⟨Ao26, co26, eo26⟩ := Kd.qt HO334.out; subst eo26) | ((with_reducible refine qL (f := 15) rfl ?_); refine qh (some 45) rfl rfl Tryd.func15 (by kernel_rfl) rfl #[.slice Ao15 t327.length co15, .slice Ao26 t332.length co26] rfl (by (try simp only [List.map_toArray, List.map_cons, List.map_nil]); first | done | rfl | (simp only [List.length_drop, List.length_take]; rfl)) ?_; (with_reducible refine (qX.calls kj9 _ _ t327 _ _ t332 false _ ?side1 ?side2 ?side3 ?side4 A20.out).mono ?_); (case side1 => repeat (first | exact (Kd.qM HO_8.out).2.2 | (with_reducible refine Kd.qa ?_ _) | (with_reducible refine Kd.qZ ?_ _) | (with_reducible refine Kd.qe ?_))); (case side2 => exact (Kd.qM HO_8.out).2.1); (case side3 => repeat (first | exact (Kd.qM HO334.out).2.2 | (with_reducible refine Kd.qa ?_ _) | (with_reducible refine Kd.qZ ?_ _) | (with_reducible refine Kd.qe ?_))); (case side4 => exact (Kd.qM HO334.out).2.1); rintro e w27 ⟨rfl, hb⟩; refine ⟨_, rfl, ?_⟩; have n0_ := Aside0.mk (Kd.qc (by (with_reducible repeat (first | apply Kd.qK | apply Kd.qJ | apply Kd.qO)); exact HO_8.out) hb); have n1_ := Aside0.mk (Kd.qc (by (with_reducible repeat (first | apply Kd.qK | apply Kd.qJ | apply Kd.qO)); exact HO334.out) hb); have n2_ := Aside0.mk (qG bl hb); clear HO_8; clear HO334; clear HB; have HO_8 := n0_; have HO334 := n1_; have HB := n2_; clear n0_ n1_ n2_; (try clear hb); (try clear hb2); (try clear hk); (try clear hi)))
       go_ret
       exact ⟨by first | rfl | (simp [qI, qH] <;> rfl) | (simp [*, qI, qH] <;> rfl), bl⟩
def qm.Pure : Prop := ∀ (a0 : ByteArray) (l1 : List (S61)), a0.size ≤ 140737488351232 → l1.length * 64 ≤ 140737488351232 → ∃ k, qm.f k a0 l1 = some true
end Go.Proofs.YtgjdjnggkmojnaaDoor.P
namespace Go.Proofs.YtgjdjnggkmojnaaDoor.Pure
open Go.RowKit Go.Proofs.YtgjdjnggkmojnaaDoor.P Go.Proofs.YtgjdjnggkmojnaaDoorW.PrintWords Go.Proofs.YtgjdjnggkmojnaaDoorW.PrintLast
set_option linter.unusedVariables false
set_option linter.unusedSimpArgs false
def tch (s t : XS) : Bool := (decide (t.f0 = wrap64 (s.f0 + 1)) && decide (t.f1 = s.f1) && decide (s.f2.f2 = t.f2.f4)) || (decide (t.f0 = s.f0) && decide (t.f1 = wrap64 (s.f1 + 1)) && decide (s.f2.f3 = t.f2.f1))
def b2i (b : Bool) : Int := if b = true then 1 else 0
theorem isAt_eq (x : XS) (y0 y1 : Int) : qOA.f x.f0 x.f1 x.f2.f0 x.f2.f1 x.f2.f2 x.f2.f3 x.f2.f4 x.f2.f5 y0 y1 = some (decide (x.f0 = y0) && decide (x.f1 = y1)) := by
 unfold qOA.f
 by_cases h : x.f0 = y0
 ·rw [if_pos h, decide_eq_true h, Bool.true_and]; rfl
 ·rw [if_neg h, decide_eq_false h, Bool.false_and]
theorem touch_eq (s t : XS) : qoA.f s.f0 s.f1 s.f2.f0 s.f2.f1 s.f2.f2 s.f2.f3 s.f2.f4 s.f2.f5 t.f0 t.f1 t.f2.f0 t.f2.f1 t.f2.f2 t.f2.f3 t.f2.f4 t.f2.f5 = some (tch s t) := by
 unfold qoA.f tch
 rw [isAt_eq, isAt_eq]
 simp only [Option.bind_some]
 cases (decide (t.f0 = wrap64 (s.f0 + 1)) && decide (t.f1 = s.f1)) with
 | true =>
  by_cases h : s.f2.f2 = t.f2.f4
  ·simp [h]
  ·cases (decide (t.f0 = s.f0) && decide (t.f1 = wrap64 (s.f1 + 1))) with
   | true => by_cases h3 : s.f2.f3 = t.f2.f1 <;> simp [h, h3]
   | false => simp [h]
 | false =>
  cases (decide (t.f0 = s.f0) && decide (t.f1 = wrap64 (s.f1 + 1))) with
  | true => by_cases h3 : s.f2.f3 = t.f2.f1 <;> simp [h3]
  | false => simp
def cntS (s : XS) : List XS → Int
 | [] => 0
 | t :: r => b2i (tch s t) + cntS s r
def cntI (s : XS) : List XS → Int
 | [] => 0
 | t :: r => b2i (tch s t || tch t s) + cntI s r
def sumS (l : List XS) : List XS → Int
 | [] => 0
 | s :: r => cntS s l + sumS l r
def sumI : List XS → List XS → Int
 | _, [] => 0
 | e, s :: r => cntI s e + sumI (e ++ [s]) r
theorem qLD (b : Bool) : 0 ≤ b2i b ∧ b2i b ≤ 1 := by
 cases b <;> simp [b2i]
theorem cntS_range (s : XS) (l : List XS) : 0 ≤ cntS s l ∧ cntS s l ≤ (l.length : Int) := by
 induction l with
 | nil => simp [cntS]
 | cons t r ih =>
  have := qLD (tch s t)
  simp only [cntS, List.length_cons]; omega
theorem cntI_range (s : XS) (l : List XS) : 0 ≤ cntI s l ∧ cntI s l ≤ (l.length : Int) := by
 induction l with
 | nil => simp [cntI]
 | cons t r ih =>
  have := qLD (tch s t || tch t s)
  simp only [cntI, List.length_cons]; omega
theorem spec_in (l0 L : List XS) (i : Int) (s : XS) (l : List XS) (hl : l.length ≤ 3) (R : Int × Bool) (d : Nat) : ∀ (j : Nat) (n : Int), j ≤ l.length → l.length - j = d → 0 ≤ n → n + (l.length - j : Nat) ≤ 1000 →
  Ev (fun k => qk.l0 k l0 (n + cntS s (l.drop j)) L (L.length : Int) (wrap64 (i + 1))) R →
  Ev (fun k => qk.l1 k l0 n L (L.length : Int) i l (l.length : Int) (j : Int) s.f0 s.f1 s.f2.f0 s.f2.f1 s.f2.f2 s.f2.f3 s.f2.f4 s.f2.f5) R := by
 induction d with
 | zero =>
  intro j n hj hd h0 hn h
  rw [List.drop_eq_nil_of_le (by omega)] at h
  simp only [cntS, Int.add_zero] at h
  exact Ev.step (f := fun k => _) (fun k => by rw [qk.l1]) (Ev.neg (by omega) h)
 | succ d ih =>
  intro j n hj hd h0 hn h
  have hlt : j < l.length := by omega
  have w : wrap64 ((j : Int) + 1) = ((j + 1 : Nat) : Int) := by unfold wrap64; omega
  have wn : wrap64 (n + 1) = n + 1 := by unfold wrap64; omega
  rw [List.drop_eq_getElem_cons hlt] at h
  simp only [cntS] at h
  rw [← Int.add_assoc] at h
  have hb := qLD (tch s l[j])
  have ihh := ih (j + 1) (n + b2i (tch s l[j])) (by omega) (by omega) (by omega) (by omega) h
  clear ih h
  refine Ev.step (f := fun k => _) (fun k => by rw [qk.l1]) (Ev.pos (by omega) (Ev.pos (by omega) (Ev.pos (by omega) ?_)))
  rw [rdXS l j hlt, w, wn]
  generalize l[j] = t at *
  unfold tch at ihh
  have fin0 : (b2i false = 0) := rfl
  have fin1 : (b2i true = 1) := rfl
  by_cases a1 : t.f0 = wrap64 (s.f0 + 1)
  ·refine Ev.pos a1 ?_
   by_cases a2 : t.f1 = s.f1
   ·refine Ev.pos a2 ?_
    by_cases a3 : s.f2.f2 = t.f2.f4
    ·refine Ev.pos a3 ?_
     simp only [a1, a2, a3, decide_true, Bool.and_true, Bool.true_or, fin1] at ihh
     simpa only [a1, a2, a3] using ihh
    ·refine Ev.neg a3 ?_
     rw [decide_eq_false a3, Bool.and_false, Bool.false_or] at ihh
     by_cases b1 : t.f0 = s.f0
     ·refine Ev.pos b1 ?_
      by_cases b2 : t.f1 = wrap64 (s.f1 + 1)
      ·refine Ev.pos b2 ?_
       by_cases b3 : s.f2.f3 = t.f2.f1
       ·refine Ev.pos b3 ?_
        rw [decide_eq_true b1, decide_eq_true b2, decide_eq_true b3] at ihh
        exact ihh
       ·refine Ev.neg b3 ?_
        rw [decide_eq_false b3, Bool.and_false, fin0, Int.add_zero] at ihh
        exact ihh
      ·refine Ev.neg b2 ?_
       rw [decide_eq_false b2, Bool.and_false, Bool.false_and, fin0, Int.add_zero] at ihh
       exact ihh
     ·refine Ev.neg b1 ?_
      rw [decide_eq_false b1, Bool.false_and, Bool.false_and, fin0, Int.add_zero] at ihh
      exact ihh
   ·refine Ev.neg a2 ?_
    rw [decide_eq_false a2, Bool.and_false, Bool.false_and, Bool.false_or] at ihh
    by_cases b1 : t.f0 = s.f0
    ·refine Ev.pos b1 ?_
     by_cases b2 : t.f1 = wrap64 (s.f1 + 1)
     ·refine Ev.pos b2 ?_
      by_cases b3 : s.f2.f3 = t.f2.f1
      ·refine Ev.pos b3 ?_
       rw [decide_eq_true b1, decide_eq_true b2, decide_eq_true b3] at ihh
       exact ihh
      ·refine Ev.neg b3 ?_
       rw [decide_eq_false b3, Bool.and_false, fin0, Int.add_zero] at ihh
       exact ihh
     ·refine Ev.neg b2 ?_
      rw [decide_eq_false b2, Bool.and_false, Bool.false_and, fin0, Int.add_zero] at ihh
      exact ihh
    ·refine Ev.neg b1 ?_
     rw [decide_eq_false b1, Bool.false_and, Bool.false_and, fin0, Int.add_zero] at ihh
     exact ihh
  ·refine Ev.neg a1 ?_
   rw [decide_eq_false a1, Bool.false_and, Bool.false_and, Bool.false_or] at ihh
   by_cases b1 : t.f0 = s.f0
   ·refine Ev.pos b1 ?_
    by_cases b2 : t.f1 = wrap64 (s.f1 + 1)
    ·refine Ev.pos b2 ?_
     by_cases b3 : s.f2.f3 = t.f2.f1
     ·refine Ev.pos b3 ?_
      rw [decide_eq_true b1, decide_eq_true b2, decide_eq_true b3] at ihh
      exact ihh
     ·refine Ev.neg b3 ?_
      rw [decide_eq_false b3, Bool.and_false, fin0, Int.add_zero] at ihh
      exact ihh
    ·refine Ev.neg b2 ?_
     rw [decide_eq_false b2, Bool.and_false, Bool.false_and, fin0, Int.add_zero] at ihh
     exact ihh
   ·refine Ev.neg b1 ?_
    rw [decide_eq_false b1, Bool.false_and, Bool.false_and, fin0, Int.add_zero] at ihh
    exact ihh
theorem qwA (l0 L : List XS) (i : Int) (s : XS) (l : List XS) (hl : l.length ≤ 3) (R : Int × Bool) (d : Nat) : ∀ (j : Nat) (n : Int), j ≤ l.length → l.length - j = d → 0 ≤ n → n + (l.length - j : Nat) ≤ 1000 →
  Ev (fun k => qi.l0 k l0 (n + cntI s (l.drop j)) L (L.length : Int) (wrap64 (i + 1))) R →
  Ev (fun k => qi.l1 k l0 n L (L.length : Int) i l (l.length : Int) (j : Int) s.f0 s.f1 s.f2.f0 s.f2.f1 s.f2.f2 s.f2.f3 s.f2.f4 s.f2.f5) R := by
 induction d with
 | zero =>
  intro j n hj hd h0 hn h
  rw [List.drop_eq_nil_of_le (by omega)] at h
  simp only [cntI, Int.add_zero] at h
  exact Ev.step (f := fun k => _) (fun k => by rw [qi.l1]) (Ev.neg (by omega) h)
 | succ d ih =>
  intro j n hj hd h0 hn h
  have hlt : j < l.length := by omega
  have w : wrap64 ((j : Int) + 1) = ((j + 1 : Nat) : Int) := by unfold wrap64; omega
  have wn : wrap64 (n + 1) = n + 1 := by unfold wrap64; omega
  rw [List.drop_eq_getElem_cons hlt] at h
  simp only [cntI] at h
  rw [← Int.add_assoc] at h
  have hb := qLD (tch s l[j] || tch l[j] s)
  have ihh := ih (j + 1) (n + b2i (tch s l[j] || tch l[j] s)) (by omega) (by omega) (by omega) (by omega) h
  clear ih h
  refine Ev.step (f := fun k => _) (fun k => by rw [qi.l1]) (Ev.pos (by omega) (Ev.pos (by omega) (Ev.pos (by omega) ?_)))
  rw [rdXS l j hlt, w, wn]
  refine Ev.bindc (touch_eq s l[j]) ?_
  cases h1 : tch s l[j] with
  | true =>
   rw [h1] at ihh
   exact Ev.pos rfl ihh
  | false =>
   rw [h1, Bool.false_or] at ihh
   refine Ev.neg (by decide) (Ev.bindc (touch_eq l[j] s) ?_)
   cases h2 : tch l[j] s with
   | true =>
    rw [h2] at ihh
    exact Ev.pos rfl ihh
   | false =>
    rw [h2] at ihh
    simp only [b2i, Int.add_zero] at ihh
    exact Ev.neg (by decide) (by simpa using ihh)
theorem spec_out (l : List XS) (hl : l.length ≤ 3) (d : Nat) : ∀ (i : Nat) (n : Int), i ≤ l.length → l.length - i = d → 0 ≤ n → n ≤ 3 * (i : Int) →
  Ev (fun k => qk.l0 k l n l (l.length : Int) (i : Int)) (n + sumS l (l.drop i), true) := by
 induction d with
 | zero =>
  intro i n hi hd h0 hn
  refine Ev.step (f := fun k => _) (fun k => by rw [qk.l0]) (Ev.neg (by omega) (Ev.some_ ?_))
  rw [List.drop_eq_nil_of_le (by omega)]; simp [sumS]
 | succ d ih =>
  intro i n hi hd h0 hn
  have h : i < l.length := by omega
  have w : wrap64 ((i : Int) + 1) = ((i + 1 : Nat) : Int) := by unfold wrap64; omega
  have hc := cntS_range l[i] l
  have hx := ih (i + 1) (n + cntS l[i] l) (by omega) (by omega) (by omega) (by omega)
  refine Ev.step (f := fun k => _) (fun k => by rw [qk.l0]) (Ev.pos (by omega) (Ev.pos (by omega) (Ev.pos (by omega) ?_)))
  rw [rdXS l i h]
  refine spec_in l l (i : Int) l[i] l hl _ l.length 0 n (by omega) (by omega) h0 (by omega) ?_
  rw [List.drop_zero, w, List.drop_eq_getElem_cons h]
  simp only [sumS]
  rw [← Int.add_assoc]
  exact hx
theorem impl_out (l : List XS) (hl : l.length ≤ 3) (d : Nat) : ∀ (i : Nat) (n : Int), i ≤ l.length → l.length - i = d → 0 ≤ n → n ≤ 3 * (i : Int) →
  Ev (fun k => qi.l0 k l n l (l.length : Int) (i : Int)) (n + sumI (l.take i) (l.drop i), true) := by
 induction d with
 | zero =>
  intro i n hi hd h0 hn
  refine Ev.step (f := fun k => _) (fun k => by rw [qi.l0]) (Ev.neg (by omega) (Ev.some_ ?_))
  rw [List.drop_eq_nil_of_le (by omega)]; simp [sumI]
 | succ d ih =>
  intro i n hi hd h0 hn
  have h : i < l.length := by omega
  have w : wrap64 ((i : Int) + 1) = ((i + 1 : Nat) : Int) := by unfold wrap64; omega
  have ht : (l.take i).length = i := by rw [List.length_take]; omega
  have hc := cntI_range l[i] (l.take i)
  have hx := ih (i + 1) (n + cntI l[i] (l.take i)) (by omega) (by omega) (by omega) (by omega)
  rw [qbC h] at hx
  refine Ev.step (f := fun k => _) (fun k => by rw [qi.l0]) (Ev.pos (by omega) (Ev.pos (by omega) (Ev.pos (by omega) (Ev.pos (by omega) (Ev.bindc rfl ?_)))))
  rw [rdXS l i h, Int.toNat_natCast]
  refine qwA l l (i : Int) l[i] (l.take i) (by omega) _ i 0 n (by omega) (by omega) h0 (by omega) ?_
  rw [List.drop_zero, w, List.drop_eq_getElem_cons h]
  simp only [sumI]
  rw [← Int.add_assoc]
  exact hx
theorem quC {s : XS} (h0 : 0 ≤ s.f0 ∧ s.f0 ≤ 100) (h1 : 0 ≤ s.f1 ∧ s.f1 ≤ 100) : tch s s = false := by
 unfold tch
 rw [decide_eq_false (p := s.f0 = wrap64 (s.f0 + 1)) (by unfold wrap64; omega), decide_eq_false (p := s.f1 = wrap64 (s.f1 + 1)) (by unfold wrap64; omega)]
 simp
theorem qPD {s t : XS} (h0 : 0 ≤ s.f0 ∧ s.f0 ≤ 100) (h1 : 0 ≤ s.f1 ∧ s.f1 ≤ 100) (k0 : 0 ≤ t.f0 ∧ t.f0 ≤ 100) (k1 : 0 ≤ t.f1 ∧ t.f1 ≤ 100) : b2i (tch s t || tch t s) = b2i (tch s t) + b2i (tch t s) := by
 cases a : tch s t with
 | false => simp [b2i]
 | true =>
  cases b : tch t s with
  | false => simp [b2i]
  | true =>
   exfalso
   unfold tch at a b
   simp only [Bool.or_eq_true, Bool.and_eq_true, decide_eq_true_eq] at a b
   have w1 : wrap64 (s.f0 + 1) = s.f0 + 1 := by unfold wrap64; omega
   have w2 : wrap64 (s.f1 + 1) = s.f1 + 1 := by unfold wrap64; omega
   have w3 : wrap64 (t.f0 + 1) = t.f0 + 1 := by unfold wrap64; omega
   have w4 : wrap64 (t.f1 + 1) = t.f1 + 1 := by unfold wrap64; omega
   rw [w1, w2] at a
   rw [w3, w4] at b
   omega
theorem same_sum (l : List XS) (hl : l.length ≤ 3) (hr : ∀ s ∈ l, (0 ≤ s.f0 ∧ s.f0 ≤ 100) ∧ (0 ≤ s.f1 ∧ s.f1 ≤ 100)) : sumS l l = sumI [] l := by
 match l, hl, hr with
 | [], _, _ => rfl
 | [s], _, hr =>
  have a := hr s (by simp)
  simp only [sumS, sumI, cntS, cntI, quC a.1 a.2]; rfl
 | [s, t], _, hr =>
  have a := hr s (by simp)
  have b := hr t (by simp)
  simp only [sumS, sumI, cntS, cntI, List.nil_append, quC a.1 a.2, quC b.1 b.2, qPD b.1 b.2 a.1 a.2]
  have f : b2i false = 0 := rfl
  rw [f]; omega
 | [s, t, u], _, hr =>
  have a := hr s (by simp)
  have b := hr t (by simp)
  have c := hr u (by simp)
  simp only [sumS, sumI, cntS, cntI, List.nil_append, List.cons_append, quC a.1 a.2, quC b.1 b.2, quC c.1 c.2, qPD b.1 b.2 a.1 a.2, qPD c.1 c.2 a.1 a.2, qPD c.1 c.2 b.1 b.2]
  have f : b2i false = 0 := rfl
  rw [f]; omega
 | _ :: _ :: _ :: _ :: _, hl, _ => simp at hl
theorem both (a : ByteArray) (l : List XS) (ha : a.size ≤ 1048576) (hl : l.length ≤ 2000000) : ∃ r : Int × Bool, Ev (fun k => qk.f k a l) r ∧ Ev (fun k => qi.f k a l) r := by
 obtain ⟨rows, h1, hr⟩ := qGC a l ha hl
 obtain ⟨w, h, cs, h2, hs⟩ := qRC a l hl
 unfold qk.f qi.f
 cases hb : askD a l with
 | false =>
  rw [hb] at h1 h2
  exact ⟨(0, false), Ev.bind h2 (Ev.neg (by simp) (Ev.now _)), Ev.bind h1 (Ev.neg (by simp) (Ev.now _))⟩
 | true =>
  rw [hb] at h1 h2
  obtain ⟨l1, l3⟩ := qfD hb
  have g := qMD (qiC hb)
  have hin : ∀ s ∈ l, (0 ≤ s.f0 ∧ s.f0 ≤ 100) ∧ (0 ≤ s.f1 ∧ s.f1 ≤ 100) := fun s hs => by
   have := askD_state hb s hs
   unfold stateB floorB at this
   simp only [Bool.and_eq_true] at this
   obtain ⟨⟨q1, q2⟩, q3, q4⟩ := (qcD a _ _).1 this.1.1
   have := g.w7
   have := g.h7
   omega
  have s1 := spec_out l l3 l.length 0 0 (by omega) (by omega) (by omega) (by omega)
  have s2 := impl_out l l3 l.length 0 0 (by omega) (by omega) (by omega) (by omega)
  rw [List.drop_zero, same_sum l l3 hin] at s1
  exact ⟨_, Ev.bind h2 (Ev.pos rfl s1), Ev.bind h1 (Ev.pos rfl s2)⟩
theorem FnExactTouchingPairs : qm.Pure := by
 intro a l _ hl
 refine Ev.rounds (r := true) ?_
 unfold qm.f
 by_cases ha : a.size ≤ 1048576
 ·refine Ev.neg (by omega) (Ev.bindc (qxB l hl) ?_)
  by_cases hn : l.length ≤ 1048576
  ·rw [if_pos hn]
   have hc : l.length ≤ 2000000 := by omega
   have ht := qwB l hc
   have h3 : (l.map convS).length ≤ 140737488355328 := by simp; omega
   obtain ⟨r, hs, hi⟩ := both a (l.map convS) ha (by simp; omega)
   refine Ev.neg (by omega) (Ev.bind ht (Ev.bind hs (Ev.bind ht (Ev.bind hi (Ev.pos rfl ?_)))))
   refine Ev.step (f := fun k => _) (fun k => by rw [qm.j0]) (Ev.neg (by simp) ?_)
   exact Ev.bind ht (Ev.bind (qAB _ h3) (Ev.pos rfl (Ev.now _)))
  ·rw [if_neg hn]
   exact Ev.pos (by decide) (Ev.now _)
 ·exact Ev.pos (by omega) (Ev.now _)
end Go.Proofs.YtgjdjnggkmojnaaDoor.Pure
