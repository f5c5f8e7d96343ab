/- A part of the proofs of the rows of this seat: functions that all reach. -/
import Derived.Test.YtbmiekopflgicaaKC0
import Derived.Shelf.SlSortCmp.NoneTotal
import Derived.KernelRfl
import Derived.Lib.SlicesCompact

namespace Go.Proofs.Ytbmiekopflgicaa.P
open Go.RowKit Go.Proofs.YtbmiekopflgicaaW.PrintWords Go.Proofs.YtbmiekopflgicaaW.PrintLast Go.Proofs.YtbmiekopflgicaaW.PrintMore
attribute [local go_sem] qn ql qx qw qh qg qm qk
set_option linter.unusedVariables false
set_option linter.unusedSimpArgs false
mutual
def qN.l0 : Nat → List (S29) → List (S29) → Int → Int → Option ((List (S29)))
 | 0, _, _, _, _ => none
 | k + 1, x5, x13, x16, x17 => if x17 < x16 then (if 0 ≤ x17 then (if x17 < (x13.length : Int) then (qN.l1 k x5 0 x13 x16 x17 ((qB x13 x17).f0) ((qB x13 x17).f1) ((qB x13 x17).f2) ((qB x13 x17).f3) ((qB x13 x17).f4) ((qB x13 x17).f5)) else (none)) else (none)) else (some x5)
def qN.l1 : Nat → List (S29) → Int → List (S29) → Int → Int → Int → Int → Int → Int → Int → Int → Option ((List (S29)))
 | 0, _, _, _, _, _, _, _, _, _, _, _ => none
 | k + 1, x5, x8, x13, x16, x17, x351000, x351001, x351002, x351003, x351004, x351005 => if x8 < (x5.length : Int) then (if 0 ≤ x8 then ((qZ.f k ((qB x5 x8).f0) ((qB x5 x8).f1) ((qB x5 x8).f2) ((qB x5 x8).f3) ((qB x5 x8).f4) ((qB x5 x8).f5) x351000 x351001 x351002 x351003 x351004 x351005).bind fun t352 => (if t352 = true then (qN.l1 k x5 (wrap64 (x8 + 1)) x13 x16 x17 x351000 x351001 x351002 x351003 x351004 x351005) else ((some (([] : List (S29)) : List (S29))).bind fun y353 => (if x8 ≤ (x5.length : Int) then ((some (x5.take (x8 : Int).toNat : List (S29))).bind fun y356 => (if y353.length + y356.length < 2932031007402 then ((some (y353 ++ y356 : List (S29))).bind fun y360 => ((some (([(⟨x351000, x351001, x351002, x351003, x351004, x351005⟩ : S29)] : List (S29)) : List (S29))).bind fun y363 => (if y360.length + y363.length < 2932031007402 then ((some (y360 ++ y363 : List (S29))).bind fun y366 => ((some (x5.drop (x8 : Int).toNat : List (S29))).bind fun y369 => (if y366.length + y369.length < 2932031007402 then (qN.l0 k (y366 ++ y369) x13 x16 (wrap64 (x17 + 1))) else (none)))) else (none)))) else (none))) else (none))))) else (none)) else ((some (([] : List (S29)) : List (S29))).bind fun y376 => (if 0 ≤ x8 then (if x8 ≤ (x5.length : Int) then ((some (x5.take (x8 : Int).toNat : List (S29))).bind fun y379 => (if y376.length + y379.length < 2932031007402 then ((some (y376 ++ y379 : List (S29))).bind fun y383 => ((some (([(⟨x351000, x351001, x351002, x351003, x351004, x351005⟩ : S29)] : List (S29)) : List (S29))).bind fun y386 => (if y383.length + y386.length < 2932031007402 then ((some (y383 ++ y386 : List (S29))).bind fun y389 => ((some (x5.drop (x8 : Int).toNat : List (S29))).bind fun y392 => (if y389.length + y392.length < 2932031007402 then (qN.l0 k (y389 ++ y392) x13 x16 (wrap64 (x17 + 1))) else (none)))) else (none)))) else (none))) else (none)) else (none)))
end
def qN.f (k : Nat) (a0_0 : Int) (a0_1 : Int) (a0_2 : Int) (a0_3 : Int) (a0_4 : Int) (a0_5 : Int) : Option ((List (S29))) := (qQ.f k a0_0 a0_1 a0_2 a0_3 a0_4 a0_5).bind fun bt343 => (qN.l0 k ([] : List (S29)) bt343.1 (bt343.1.length : Int) 0)
def qN.T7 : Bool × List (List Nat × List Nat) := (true, [([], []), ([], []), ([1], [1]), ([0, 2], [0, 2]), ([3], [3]), ([4], [4]), ([4], [4]), ([5, 6, 4], [4, 5, 6]), ([7, 4], [4, 7]), ([4], [4]), ([8, 9, 4, 4], [4, 8, 9]), ([4, 10], [4, 10])])
def qN.B7 : List Nat := [0, 0, 2, 7, 15, 31, 31, 127, 255, 31, 1023, 2047]
theorem qN.tab7 : rtab .any (opsOf Try.f44 7) = qN.T7 := by kernel_rfl
theorem qN.bits7 : waitsOk qN.T7.2 qN.B7 = true := by kernel_rfl
def qN.T9 : Bool × List (List Nat × List Nat) := (true, [([], []), ([], []), ([], []), ([1, 2], [1, 2]), ([0, 3], [0, 3]), ([], []), ([5], [5]), ([4, 6, 4], [4, 6]), ([7, 7, 0, 1, 2, 3, 4, 5, 6, 7], [7])])
def qN.B9 : List Nat := [0, 0, 0, 6, 15, 0, 32, 127, 255]
theorem qN.tab9 : rtab .any (opsOf Try.f44 9) = qN.T9 := by kernel_rfl
theorem qN.bits9 : waitsOk qN.T9.2 qN.B9 = true := by kernel_rfl
set_option maxHeartbeats 8000000 in
set_option maxRecDepth 100000 in
theorem qN.calls (k : Nat) (a0_0 : Int) (a0_1 : Int) (a0_2 : Int) (a0_3 : Int) (a0_4 : Int) (a0_5 : Int) (r : List (S29)) (w : World) (h : qN.f k a0_0 a0_1 a0_2 a0_3 a0_4 a0_5 = some r) :
  Calls Try.prog 44 #[.agg #[.int .i64 a0_0, .int .i64 a0_1, .int .i64 a0_2, .int .i64 a0_3, .int .i64 a0_4, .int .i64 a0_5]] w fun e w' => ∃ v0_ : Value, e = .returned (v0_) ∧ Kd.R k29 29 w' w.heap.size (fun _ => True) v0_ r ∧ Below w.heap.size w w' := by
 have hu29 := Try.underlying29
 have HB := Aside0.mk (Below.refl w.heap.size w)
 have H : ((qQ.f k a0_0 a0_1 a0_2 a0_3 a0_4 a0_5).bind fun bt343 => (qN.l0 k ([] : List (S29)) bt343.1 (bt343.1.length : Int) 0)) = some r := h
 clear h
 replace H := Option.bind_eq_some_iff.mp H
 obtain ⟨⟨t343, t346⟩, A20, H⟩ := H
 replace H : (qN.l0 k ([] : List (S29)) t343 (t343.length : Int) 0) = some r := H
 have A2 := Aside0.mk A20
 clear A20
 have H' := Aside0.mk H
 clear H
 go_enter Try.func44, Try.ntmps44
 go_wp2_with (first | ((with_reducible refine qU (N := 1) rfl ?_); refine qS ?hg (N := 1) ?hd (cs := #[.int .i64 a0_0, .int .i64 a0_1, .int .i64 a0_2, .int .i64 a0_3, .int .i64 a0_4, .int .i64 a0_5]) (t := 29) ?hr ?_; (case hd => rfl); (case hg => rfl); (case hr => first | (go_simp; done) | (go_simp; rfl)); intro gb342 hg w3 hbox hb; have n0_ := Aside0.mk (qF bl hb); have n1_ := Aside0.mk (hbox); have n2_ := Aside0.mk ((gg hg)); have n3_ := Aside0.mk ((gg hg)); clear HB; have HB := n0_; have BK342 := n1_; have GW342 := n2_; have GE342 := n3_; clear n0_ n1_ n2_ n3_; clear hb hbox hg; have hcz4_0 := bc BK342 0; have hcz4_1 := bc BK342 1; have hcz4_2 := bc BK342 2; have hcz4_3 := bc BK342 3; have hcz4_4 := bc BK342 4; have hcz4_5 := bc BK342 5; have hfz4_0 := qA BK342.out 0; have hfz4_1 := qA BK342.out 1; have hfz4_2 := qA BK342.out 2; have hfz4_3 := qA BK342.out 3; have hfz4_4 := qA BK342.out 4; have hfz4_5 := qA BK342.out 5) | ((with_reducible refine qL (f := 59) rfl ?_); refine qc (some 12) rfl rfl Try.func59 (by kernel_rfl) rfl #[.agg #[.int .i64 a0_0, .int .i64 a0_1, .int .i64 a0_2, .int .i64 a0_3, .int .i64 a0_4, .int .i64 a0_5]] rfl (by (try simp only [List.map_toArray, List.map_cons, List.map_nil]); first | done | rfl | (simp only [List.length_drop, List.length_take]; rfl)) ?_; (with_reducible refine (qQ.calls k a0_0 a0_1 a0_2 a0_3 a0_4 a0_5 t343 t346 _ A2.out).mono ?_); rintro e w5 ⟨v344, v347, rfl, ho0, ho1, hb⟩; refine ⟨_, rfl, ?_⟩; have n0_ := Aside0.mk (Kd.qLA (Kd.qWA ho0 (g := gb342) (o := .cells #[.int .i64 a0_0, .int .i64 a0_1, .int .i64 a0_2, .int .i64 a0_3, .int .i64 a0_4, .int .i64 a0_5] 29 (0, 0)) (by (with_reducible repeat (first | refine qC ?_ _ | refine qE ?_ | refine qD ?_ _)); exact BK342.out)) (qb bl)); have n1_ := Aside0.mk (Kd.qLA ho1 (qb bl)); have n2_ := Aside0.mk (bb BK342 hb); have n3_ := Aside0.mk (qF bl hb); clear BK342; clear HB; have HO345 := n0_; have HO348 := n1_; have BK342 := n2_; have HB := n3_; clear n0_ n1_ n2_ n3_; (try clear hb); (try clear hb2); (try clear hk); (try clear hi); (try clear ho0); (try clear ho1); obtain ⟨Ao6, co6, eo6⟩ := Kd.qHA HO345.out; subst eo6))
 go_loopg [5, 17] k (fun kq v5 v17 w' => ∃ (x5_1 : List (S29)) (x17_1 : Int), v17 = .int .i64 x17_1 ∧ Aside0 (qN.l0 kq x5_1 t343 (t343.length : Int) x17_1 = some r) ∧ Aside0 (kq ≤ k) ∧ Aside0 (Kd.R k29 29 w' w.heap.size (fun k_ => some k_ ≠ ((.slice Ao6 t343.length co6) : Value).ownBlock ∧ k_ ≠ gb342) v5 x5_1) ∧ Aside0 (Kd.R k29 29 w' w.heap.size (fun k_ => some k_ ≠ (v5 : Value).ownBlock ∧ k_ ≠ gb342) (.slice Ao6 t343.length co6) t343) ∧ Aside0 (w'.heap[gb342]? = some (.cells #[.int .i64 a0_0, .int .i64 a0_1, .int .i64 a0_2, .int .i64 a0_3, .int .i64 a0_4, .int .i64 a0_5] 29 (0, 0))) ∧ Aside0 (Below w.heap.size w w'))
 case atStart => exact ⟨(([] : List (S29))), (0), (by first | rfl | (simp; done) | (simp [*]; done)), H', ⟨Nat.le_refl _⟩, ⟨by first | exact Kd.R_nil _ _ _ _ _ | exact Kd.N_nil _ _ _ _ _ | exact Kd.V_nil _ _ _ _ _ | exact Kd.Q_nil _ _ _ _ _ | exact Kd.S_nil _ _ _ _ _⟩, ⟨by (with_reducible repeat (first | apply Kd.qH | apply Kd.qI | apply Kd.qK)); exact Kd.qa HO345.out (fun _ hk => ⟨(by simp [Value.ownBlock]), hk.2⟩)⟩, ⟨by (with_reducible repeat (first | refine qC ?_ _ | refine qE ?_ | refine qD ?_ _)); exact BK342.out⟩, ⟨bl⟩⟩
 case round =>
  clear H'
  try clear p2
  try clear c4
  try clear c5
  try clear hcz4_0
  try clear hcz4_1
  try clear hcz4_2
  try clear hcz4_3
  try clear hcz4_4
  try clear hcz4_5
  try clear hfz4_0
  try clear hfz4_1
  try clear hfz4_2
  try clear hfz4_3
  try clear hfz4_4
  try clear hfz4_5
  obtain ⟨x5_1, x17_1, rfl, HA, HK1, HO_5, HO_13, BK342, HB⟩ := hrel
  cases gk with
  | zero => exact absurd HA.out (by simp [qN.l0])
  | succ k1 =>
   have H := HA.out
   clear HA
   simp only [qN.l0] at H
   by_cases c7 : x17_1 < (t343.length : Int)
   ·rw [if_pos c7] at H
    have c7b0 : decide (x17_1 < (t343.length : Int)) = true := decide_eq_true c7
    clear c7
    by_cases c8 : 0 ≤ x17_1
    ·rw [if_pos c8] at H
     have c8b0 : decide (0 ≤ x17_1) = true := decide_eq_true c8
     clear c8
     by_cases c9 : x17_1 < (t343.length : Int)
     ·rw [if_pos c9] at H
      have c9b0 : decide (x17_1 < (t343.length : Int)) = true := decide_eq_true c9
      clear c9
      have H' := Aside0.mk H
      clear H
      have p349 : 0 ≤ (x17_1 : Int) := of_decide_eq_true (by first | (with_reducible assumption) | assumption)
      have q349 : x17_1 < (t343.length : Int) := of_decide_eq_true (by first | (with_reducible assumption) | assumption)
      obtain ⟨ad349, e349, hx349_0, hx349_1, hx349_2, hx349_3, hx349_4, hx349_5⟩ := qOA (Kd.qT HO_13.out).2.2 x17_1 p349 q349
      cases e349
      replace p349 := eq_true p349
      replace q349 := eq_true q349
      go_wp2_with (first | ((with_reducible refine qU (N := 7) rfl ?_); refine qS ?hg (N := 7) ?hd (cs := #[.int .i64 0, .int .i64 0, .int .i64 0, .int .i64 0, .int .i64 0, .int .i64 0]) (t := 29) ?hr ?_; (case hd => rfl); (case hg => rfl); (case hr => first | (go_simp; done) | (go_simp; rfl)); intro gb350 hg w10 hbox hb; have n0_ := Aside0.mk (Kd.qAA (Kd.qeB (by (with_reducible repeat (first | apply Kd.qH | apply Kd.qI | apply Kd.qK)); exact HO_5.out) gb350 (Nat.le_of_eq hg.symm)) hb); have n1_ := Aside0.mk (Kd.qAA (Kd.qeB (by (with_reducible repeat (first | apply Kd.qH | apply Kd.qI | apply Kd.qK)); exact HO_13.out) gb350 (Nat.le_of_eq hg.symm)) hb); have n2_ := Aside0.mk (bb BK342 hb); have n3_ := Aside0.mk (qF bl hb); have n4_ := Aside0.mk (hbox); have n5_ := Aside0.mk ((gg hg)); have n6_ := Aside0.mk ((gg hg)); have n7_ := Aside0.mk ((nl BK342 hg)); have n8_ := Aside0.mk ((nr BK342 hg)); clear HO_5; clear HO_13; clear BK342; clear HB; have HO_5 := n0_; have HO_13 := n1_; have BK342 := n2_; have HB := n3_; have BK350 := n4_; have GW350 := n5_; have GE350 := n6_; have NB342_350 := n7_; have NB350_342 := n8_; clear n0_ n1_ n2_ n3_ n4_ n5_ n6_ n7_ n8_; clear hb hbox hg; have hnb11 := NB350_342.out; have hnc11 := NB342_350.out; have hcz12_0 := bc BK350 0; have hcz12_1 := bc BK350 1; have hcz12_2 := bc BK350 2; have hcz12_3 := bc BK350 3; have hcz12_4 := bc BK350 4; have hcz12_5 := bc BK350 5; have hfz12_0 := qA BK350.out 0; have hfz12_1 := qA BK350.out 1; have hfz12_2 := qA BK350.out 2; have hfz12_3 := qA BK350.out 3; have hfz12_4 := qA BK350.out 4; have hfz12_5 := qA BK350.out 5))
      go_loopg [8] k1 (fun kq v8 w' => ∃ (x8_2 : Int), v8 = .int .i64 x8_2 ∧ Aside0 (qN.l1 kq x5_1 x8_2 t343 (t343.length : Int) x17_1 ((qB t343 x17_1).f0) ((qB t343 x17_1).f1) ((qB t343 x17_1).f2) ((qB t343 x17_1).f3) ((qB t343 x17_1).f4) ((qB t343 x17_1).f5) = some r) ∧ Aside0 (kq ≤ k1) ∧ Aside0 (Kd.R k29 29 w' w.heap.size (fun k_ => some k_ ≠ ((.slice (some ad349) t343.length co6) : Value).ownBlock ∧ k_ ≠ gb342 ∧ k_ ≠ gb350) u5 x5_1) ∧ Aside0 (Kd.R k29 29 w' w.heap.size (fun k_ => some k_ ≠ (u5 : Value).ownBlock ∧ k_ ≠ gb342 ∧ k_ ≠ gb350) (.slice (some ad349) t343.length co6) t343) ∧ Aside0 (w'.heap[gb342]? = some (.cells #[.int .i64 a0_0, .int .i64 a0_1, .int .i64 a0_2, .int .i64 a0_3, .int .i64 a0_4, .int .i64 a0_5] 29 (0, 0))) ∧ Aside0 (w'.heap[gb350]? = some (.cells #[.int .i64 ((qB t343 x17_1).f0), .int .i64 ((qB t343 x17_1).f1), .int .i64 ((qB t343 x17_1).f2), .int .i64 ((qB t343 x17_1).f3), .int .i64 ((qB t343 x17_1).f4), .int .i64 ((qB t343 x17_1).f5)] 29 (0, 0))) ∧ Aside0 (Below w.heap.size w w'))
      case atStart => exact ⟨(0), (by first | rfl | (simp; done) | (simp [*]; done)), H', ⟨Nat.le_refl _⟩, ⟨by (with_reducible repeat (first | apply Kd.qH | apply Kd.qI | apply Kd.qK)); exact Kd.qa (Kd.R_far (p := ⟨gb350, 5, none⟩) (Kd.R_far (p := ⟨gb350, 4, none⟩) (Kd.R_far (p := ⟨gb350, 3, none⟩) (Kd.R_far (p := ⟨gb350, 2, none⟩) (Kd.R_far (p := ⟨gb350, 1, none⟩) (Kd.R_far (p := ⟨gb350, 0, none⟩) (Kd.qa HO_5.out (fun k_ hk => (⟨hk, hk.2⟩ : _ ∧ k_ ≠ gb350))) (fun _ hk => hk.2) (.int .i64 ((qB t343 x17_1).f0))) (fun _ hk => hk.2) (.int .i64 ((qB t343 x17_1).f1))) (fun _ hk => hk.2) (.int .i64 ((qB t343 x17_1).f2))) (fun _ hk => hk.2) (.int .i64 ((qB t343 x17_1).f3))) (fun _ hk => hk.2) (.int .i64 ((qB t343 x17_1).f4))) (fun _ hk => hk.2) (.int .i64 ((qB t343 x17_1).f5))) (fun _ hk => ⟨hk.1.1.1, ⟨hk.1.1.2, hk.1.2⟩⟩)⟩, ⟨by (with_reducible repeat (first | apply Kd.qH | apply Kd.qI | apply Kd.qK)); exact Kd.qa (Kd.R_far (p := ⟨gb350, 5, none⟩) (Kd.R_far (p := ⟨gb350, 4, none⟩) (Kd.R_far (p := ⟨gb350, 3, none⟩) (Kd.R_far (p := ⟨gb350, 2, none⟩) (Kd.R_far (p := ⟨gb350, 1, none⟩) (Kd.R_far (p := ⟨gb350, 0, none⟩) (Kd.qa HO_13.out (fun k_ hk => (⟨hk, hk.2⟩ : _ ∧ k_ ≠ gb350))) (fun _ hk => hk.2) (.int .i64 ((qB t343 x17_1).f0))) (fun _ hk => hk.2) (.int .i64 ((qB t343 x17_1).f1))) (fun _ hk => hk.2) (.int .i64 ((qB t343 x17_1).f2))) (fun _ hk => hk.2) (.int .i64 ((qB t343 x17_1).f3))) (fun _ hk => hk.2) (.int .i64 ((qB t343 x17_1).f4))) (fun _ hk => hk.2) (.int .i64 ((qB t343 x17_1).f5))) (fun _ hk => ⟨hk.1.1.1, ⟨hk.1.1.2, hk.1.2⟩⟩)⟩, ⟨by (with_reducible repeat (first | refine qC ?_ _ | refine qE ?_ | refine qD ?_ _)); refine qV ?_ NB342_350.out _; (with_reducible repeat (first | refine qC ?_ _ | refine qE ?_ | refine qD ?_ _)); refine qV ?_ NB342_350.out _; (with_reducible repeat (first | refine qC ?_ _ | refine qE ?_ | refine qD ?_ _)); refine qV ?_ NB342_350.out _; (with_reducible repeat (first | refine qC ?_ _ | refine qE ?_ | refine qD ?_ _)); refine qV ?_ NB342_350.out _; (with_reducible repeat (first | refine qC ?_ _ | refine qE ?_ | refine qD ?_ _)); refine qV ?_ NB342_350.out _; (with_reducible repeat (first | refine qC ?_ _ | refine qE ?_ | refine qD ?_ _)); refine qV ?_ NB342_350.out _; (with_reducible repeat (first | refine qC ?_ _ | refine qE ?_ | refine qD ?_ _)); exact BK342.out⟩, ⟨by (with_reducible repeat (first | refine qC ?_ _ | refine qE ?_ | refine qD ?_ _)); refine qR (cs := #[.int .i64 ((qB t343 x17_1).f0), .int .i64 ((qB t343 x17_1).f1), .int .i64 ((qB t343 x17_1).f2), .int .i64 ((qB t343 x17_1).f3), .int .i64 ((qB t343 x17_1).f4), .int .i64 0]) ?_ 5 _ rfl; (with_reducible repeat (first | refine qC ?_ _ | refine qE ?_ | refine qD ?_ _)); refine qR (cs := #[.int .i64 ((qB t343 x17_1).f0), .int .i64 ((qB t343 x17_1).f1), .int .i64 ((qB t343 x17_1).f2), .int .i64 ((qB t343 x17_1).f3), .int .i64 0, .int .i64 0]) ?_ 4 _ rfl; (with_reducible repeat (first | refine qC ?_ _ | refine qE ?_ | refine qD ?_ _)); refine qR (cs := #[.int .i64 ((qB t343 x17_1).f0), .int .i64 ((qB t343 x17_1).f1), .int .i64 ((qB t343 x17_1).f2), .int .i64 0, .int .i64 0, .int .i64 0]) ?_ 3 _ rfl; (with_reducible repeat (first | refine qC ?_ _ | refine qE ?_ | refine qD ?_ _)); refine qR (cs := #[.int .i64 ((qB t343 x17_1).f0), .int .i64 ((qB t343 x17_1).f1), .int .i64 0, .int .i64 0, .int .i64 0, .int .i64 0]) ?_ 2 _ rfl; (with_reducible repeat (first | refine qC ?_ _ | refine qE ?_ | refine qD ?_ _)); refine qR (cs := #[.int .i64 ((qB t343 x17_1).f0), .int .i64 0, .int .i64 0, .int .i64 0, .int .i64 0, .int .i64 0]) ?_ 1 _ rfl; (with_reducible repeat (first | refine qC ?_ _ | refine qE ?_ | refine qD ?_ _)); refine qR (cs := #[.int .i64 0, .int .i64 0, .int .i64 0, .int .i64 0, .int .i64 0, .int .i64 0]) ?_ 0 _ rfl; (with_reducible repeat (first | refine qC ?_ _ | refine qE ?_ | refine qD ?_ _)); exact BK350.out⟩, ⟨bl⟩⟩
      case round =>
       clear H'
       try clear c1
       try clear p2
       try clear p3
       try clear q3
       try clear hx3
       try clear c4
       try clear c5
       try clear c7
       try clear c7b0
       try clear c8
       try clear c8b0
       try clear c9
       try clear c9b0
       try clear c11
       try clear hcz12_0
       try clear hcz12_1
       try clear hcz12_2
       try clear hcz12_3
       try clear hcz12_4
       try clear hcz12_5
       try clear hcz4_0
       try clear hcz4_1
       try clear hcz4_2
       try clear hcz4_3
       try clear hcz4_4
       try clear hcz4_5
       try clear hfz12_0
       try clear hfz12_1
       try clear hfz12_2
       try clear hfz12_3
       try clear hfz12_4
       try clear hfz12_5
       try clear hfz4_0
       try clear hfz4_1
       try clear hfz4_2
       try clear hfz4_3
       try clear hfz4_4
       try clear hfz4_5
       try clear hx349_0
       try clear hx349_1
       try clear hx349_2
       try clear hx349_3
       try clear hx349_4
       try clear hx349_5
       try clear p2
       try clear p349
       try clear q349
       obtain ⟨x8_2, rfl, HA, HK2, HO_5, HO_13, BK342, BK350, HB⟩ := hrel
       cases gk with
       | zero => exact absurd HA.out (by simp [qN.l1])
       | succ k2 =>
        have H := HA.out
        clear HA
        simp only [qN.l1] at H
        by_cases c13 : x8_2 < (x5_1.length : Int)
        ·rw [if_pos c13] at H
         have c13b0 : decide (x8_2 < (x5_1.length : Int)) = true := decide_eq_true c13
         clear c13
         by_cases c14 : 0 ≤ x8_2
         ·rw [if_pos c14] at H
          have c14b0 : decide (0 ≤ x8_2) = true := decide_eq_true c14
          clear c14
          replace H := Option.bind_eq_some_iff.mp H
          obtain ⟨t352, A150, H⟩ := H
          replace H : (if t352 = true then (qN.l1 k2 x5_1 (wrap64 (x8_2 + 1)) t343 (t343.length : Int) x17_1 ((qB t343 x17_1).f0) ((qB t343 x17_1).f1) ((qB t343 x17_1).f2) ((qB t343 x17_1).f3) ((qB t343 x17_1).f4) ((qB t343 x17_1).f5)) else ((some (([] : List (S29)) : List (S29))).bind fun y353 => (if x8_2 ≤ (x5_1.length : Int) then ((some (x5_1.take (x8_2 : Int).toNat : List (S29))).bind fun y356 => (if y353.length + y356.length < 2932031007402 then ((some (y353 ++ y356 : List (S29))).bind fun y360 => ((some (([(⟨((qB t343 x17_1).f0), ((qB t343 x17_1).f1), ((qB t343 x17_1).f2), ((qB t343 x17_1).f3), ((qB t343 x17_1).f4), ((qB t343 x17_1).f5)⟩ : S29)] : List (S29)) : List (S29))).bind fun y363 => (if y360.length + y363.length < 2932031007402 then ((some (y360 ++ y363 : List (S29))).bind fun y366 => ((some (x5_1.drop (x8_2 : Int).toNat : List (S29))).bind fun y369 => (if y366.length + y369.length < 2932031007402 then (qN.l0 k2 (y366 ++ y369) t343 (t343.length : Int) (wrap64 (x17_1 + 1))) else (none)))) else (none)))) else (none))) else (none)))) = some r := H
          have A15 := Aside0.mk A150
          clear A150
          by_cases c16 : t352 = true
          ·subst c16
           have H1 : (qN.l1 k2 x5_1 (wrap64 (x8_2 + 1)) t343 (t343.length : Int) x17_1 ((qB t343 x17_1).f0) ((qB t343 x17_1).f1) ((qB t343 x17_1).f2) ((qB t343 x17_1).f3) ((qB t343 x17_1).f4) ((qB t343 x17_1).f5)) = some r := by rw [if_pos rfl] at H; exact H
           clear H
           have H := H1
           clear H1
           have H' := Aside0.mk H
           clear H
           try go_wp2
           have n0_ := Aside0.mk (Kd.qK HO_5.out)
           have n1_ := Aside0.mk (Kd.qK HO_13.out)
           have n2_ := Aside0.mk (qE BK342.out)
           have n3_ := Aside0.mk (qE BK350.out)
           have n4_ := Aside0.mk (qt HB.out)
           clear HO_5
           clear HO_13
           clear BK342
           clear BK350
           clear HB
           have HO_5 := n0_
           have HO_13 := n1_
           have BK342 := n2_
           have BK350 := n3_
           have HB := n4_
           clear n0_ n1_ n2_ n3_ n4_
           obtain ⟨Ao18, co18, eo18⟩ := Kd.qHA HO_5.out
           (first | subst eo18 | (injection eo18 with f1_ f2_ f3_; have f4_ := f1_.symm; have f5_ := f3_.symm; clear f1_ f2_ f3_; subst f4_; subst f5_))
           have p351 : 0 ≤ (x8_2 : Int) := of_decide_eq_true (by first | (with_reducible assumption) | assumption)
           have q351 : x8_2 < (x5_1.length : Int) := of_decide_eq_true (by first | (with_reducible assumption) | assumption)
           obtain ⟨ad351, e351, hx351_0, hx351_1, hx351_2, hx351_3, hx351_4, hx351_5⟩ := qOA (Kd.qT HO_5.out).2.2 x8_2 p351 q351
           cases e351
           replace p351 := eq_true p351
           replace q351 := eq_true q351
           refine qyA (n := 12) (S := fun w' => w'.cell? ⟨gb350, 0, none⟩ = some (.int .i64 ((qB t343 x17_1).f0)) ∧ w'.cell? ⟨gb350, 1, none⟩ = some (.int .i64 ((qB t343 x17_1).f1)) ∧ w'.cell? ⟨gb350, 2, none⟩ = some (.int .i64 ((qB t343 x17_1).f2)) ∧ w'.cell? ⟨gb350, 3, none⟩ = some (.int .i64 ((qB t343 x17_1).f3)) ∧ w'.cell? ⟨gb350, 4, none⟩ = some (.int .i64 ((qB t343 x17_1).f4)) ∧ w'.cell? ⟨gb350, 5, none⟩ = some (.int .i64 ((qB t343 x17_1).f5)) ∧ w'.cell? (ad351.add ((x8_2).toNat * 6)) = some (.int .i64 ((qB x5_1 x8_2).f0)) ∧ w'.cell? ⟨(ad351.add ((x8_2).toNat * 6)).block, (ad351.add ((x8_2).toNat * 6)).off + 1, none⟩ = some (.int .i64 ((qB x5_1 x8_2).f1)) ∧ w'.cell? ⟨(ad351.add ((x8_2).toNat * 6)).block, (ad351.add ((x8_2).toNat * 6)).off + 2, none⟩ = some (.int .i64 ((qB x5_1 x8_2).f2)) ∧ w'.cell? ⟨(ad351.add ((x8_2).toNat * 6)).block, (ad351.add ((x8_2).toNat * 6)).off + 3, none⟩ = some (.int .i64 ((qB x5_1 x8_2).f3)) ∧ w'.cell? ⟨(ad351.add ((x8_2).toNat * 6)).block, (ad351.add ((x8_2).toNat * 6)).off + 4, none⟩ = some (.int .i64 ((qB x5_1 x8_2).f4)) ∧ w'.cell? ⟨(ad351.add ((x8_2).toNat * 6)).block, (ad351.add ((x8_2).toNat * 6)).off + 5, none⟩ = some (.int .i64 ((qB x5_1 x8_2).f5))) (ds := []) #[false, false, false, false, false, false, false, false, false, false, false, false] (by kernel_rfl) rfl rfl ⟨(qG BK350.out 0).trans rfl, (qG BK350.out 1).trans rfl, (qG BK350.out 2).trans rfl, (qG BK350.out 3).trans rfl, (qG BK350.out 4).trans rfl, (qG BK350.out 5).trans rfl, hx351_0, hx351_1, hx351_2, hx351_3, hx351_4, hx351_5⟩ (fun hHeld => ?_); refine qbA qN.tab7 qN.bits7 (fun HT_ HW_ => ?_)
           generalize wr.drew = w17 at HO_5 HO_13 BK342 BK350 HB hx351_0 hx351_1 hx351_2 hx351_3 hx351_4 hx351_5 hHeld ⊢
           refine pS (i := 0) (N := some 21) #[true, false, false, false, false, false, false, false, false, false, false, false] HT_ ?_
           refine pS (i := 1) (N := some 22) #[true, true, false, false, false, false, false, false, false, false, false, false] HT_ ?_
           refine pS (i := 2) (N := some 23) #[true, true, true, false, false, false, false, false, false, false, false, false] HT_ ?_
           refine pS (i := 3) (N := some 24) #[true, true, true, true, false, false, false, false, false, false, false, false] HT_ ?_
           refine pS (i := 4) (N := some 25) #[true, true, true, true, true, false, false, false, false, false, false, false] HT_ ?_
           refine pS (i := 5) (N := some 26) #[true, true, true, true, true, true, false, false, false, false, false, false] HT_ ?_
           refine pS (i := 6) (N := some 27) #[true, true, true, true, true, true, true, false, false, false, false, false] HT_ ?_
           refine pS (i := 7) (N := some 28) #[true, true, true, true, true, true, true, true, false, false, false, false] HT_ ?_
           refine tS (i := 8) (N := some 29) #[true, true, true, true, true, true, true, true, true, false, false, false] HT_ HW_ hHeld ?_
           refine tS (i := 9) (N := some 30) #[true, true, true, true, true, true, true, true, true, true, false, false] HT_ HW_ hHeld ?_
           refine one_ (i := 10) (N := some 31) #[true, true, true, true, true, true, true, true, true, true, true, false] rfl rfl (qsA HT_.out (by kernel_rfl)) (by decide) (fun K hK => ?_)
           refine goes_ Try.func60 (by kernel_rfl) rfl #[.agg #[.int .i64 ((qB x5_1 x8_2).f0), .int .i64 ((qB x5_1 x8_2).f1), .int .i64 ((qB x5_1 x8_2).f2), .int .i64 ((qB x5_1 x8_2).f3), .int .i64 ((qB x5_1 x8_2).f4), .int .i64 ((qB x5_1 x8_2).f5)], .agg #[.int .i64 ((qB t343 x17_1).f0), .int .i64 ((qB t343 x17_1).f1), .int .i64 ((qB t343 x17_1).f2), .int .i64 ((qB t343 x17_1).f3), .int .i64 ((qB t343 x17_1).f4), .int .i64 ((qB t343 x17_1).f5)]] (by rfl) rfl rfl (by (try simp only [List.map_toArray, List.map_cons, List.map_nil]); first | done | rfl | (simp only [List.length_drop, List.length_take]; rfl)) ?_
           with_reducible refine (qZ.calls k2 ((qB x5_1 x8_2).f0) ((qB x5_1 x8_2).f1) ((qB x5_1 x8_2).f2) ((qB x5_1 x8_2).f3) ((qB x5_1 x8_2).f4) ((qB x5_1 x8_2).f5) ((qB t343 x17_1).f0) ((qB t343 x17_1).f1) ((qB t343 x17_1).f2) ((qB t343 x17_1).f3) ((qB t343 x17_1).f4) ((qB t343 x17_1).f5) true _ A15.out).mono ?_
           rintro e w19 ⟨rfl, hb⟩
           have HS6_ := (hb.cell (World.block_lt_of_cell? _ _ (hHeld.2.2.2.2.2.2.1))).trans (hHeld.2.2.2.2.2.2.1)
           have HS7_ := (hb.cell (World.block_lt_of_cell? _ _ (hHeld.2.2.2.2.2.2.2.1))).trans (hHeld.2.2.2.2.2.2.2.1)
           have HS8_ := (hb.cell (World.block_lt_of_cell? _ _ (hHeld.2.2.2.2.2.2.2.2.1))).trans (hHeld.2.2.2.2.2.2.2.2.1)
           have HS9_ := (hb.cell (World.block_lt_of_cell? _ _ (hHeld.2.2.2.2.2.2.2.2.2.1))).trans (hHeld.2.2.2.2.2.2.2.2.2.1)
           have HS10_ := (hb.cell (World.block_lt_of_cell? _ _ (hHeld.2.2.2.2.2.2.2.2.2.2.1))).trans (hHeld.2.2.2.2.2.2.2.2.2.2.1)
           have HS11_ := (hb.cell (World.block_lt_of_cell? _ _ (hHeld.2.2.2.2.2.2.2.2.2.2.2))).trans (hHeld.2.2.2.2.2.2.2.2.2.2.2)
           refine ⟨_, rfl, ?_⟩
           have n0_ := Aside0.mk (Kd.qAA (by (with_reducible repeat (first | apply Kd.qH | apply Kd.qI | apply Kd.qK)); exact HO_5.out) hb)
           have n1_ := Aside0.mk (Kd.qAA (by (with_reducible repeat (first | apply Kd.qH | apply Kd.qI | apply Kd.qK)); exact HO_13.out) hb)
           have n2_ := Aside0.mk (bb BK342 hb)
           have n3_ := Aside0.mk (bb BK350 hb)
           have n4_ := Aside0.mk (qF bl hb)
           clear HO_5
           clear HO_13
           clear BK342
           clear BK350
           clear HB
           have HO_5 := n0_
           have HO_13 := n1_
           have BK342 := n2_
           have BK350 := n3_
           have HB := n4_
           clear n0_ n1_ n2_ n3_ n4_
           (try clear hb)
           (try clear hb2)
           (try clear hk)
           (try clear hi)
           refine hK.out _ _ ⟨(qG BK350.out 0).trans rfl, (qG BK350.out 1).trans rfl, (qG BK350.out 2).trans rfl, (qG BK350.out 3).trans rfl, (qG BK350.out 4).trans rfl, (qG BK350.out 5).trans rfl, HS6_, HS7_, HS8_, HS9_, HS10_, HS11_⟩ (fun hHeld => ?_)
           clear hK K
           refine norm_ (a' := ?_) ?_ ?_
           rotate_left
           ·show Act.put _ (some 31) _ = _
            simp only [Act.put, List.setIfInBounds_toArray, List.set_cons_zero, List.set_cons_succ, i64_w, i32_w]
            rfl
           refine pS (i := 11) (N := some 32) #[true, true, true, true, true, true, true, true, true, true, true, true] HT_ ?_
           refine done_ (qBB HT_.out (by kernel_rfl)) ?_
           try go_wp2
           go_roundg k2
           case measure => have := HK1.out; have := HK2.out; omega
           case rel => exact ⟨(wrap64 (x8_2 + 1)), (by first | rfl | (simp; done) | (simp [*]; done)), H', ⟨by have := HK1.out; have := HK2.out; omega⟩, ⟨by (with_reducible repeat (first | apply Kd.qH | apply Kd.qI | apply Kd.qK)); exact HO_5.out⟩, ⟨by (with_reducible repeat (first | apply Kd.qH | apply Kd.qI | apply Kd.qK)); exact HO_13.out⟩, ⟨by (with_reducible repeat (first | refine qC ?_ _ | refine qE ?_ | refine qD ?_ _)); exact BK342.out⟩, ⟨by (with_reducible repeat (first | refine qC ?_ _ | refine qE ?_ | refine qD ?_ _)); exact BK350.out⟩, ⟨bl⟩⟩
          ·replace c16 := Bool.eq_false_iff.mpr c16
           subst c16
           have H1 : ((some (([] : List (S29)) : List (S29))).bind fun y353 => (if x8_2 ≤ (x5_1.length : Int) then ((some (x5_1.take (x8_2 : Int).toNat : List (S29))).bind fun y356 => (if y353.length + y356.length < 2932031007402 then ((some (y353 ++ y356 : List (S29))).bind fun y360 => ((some (([(⟨((qB t343 x17_1).f0), ((qB t343 x17_1).f1), ((qB t343 x17_1).f2), ((qB t343 x17_1).f3), ((qB t343 x17_1).f4), ((qB t343 x17_1).f5)⟩ : S29)] : List (S29)) : List (S29))).bind fun y363 => (if y360.length + y363.length < 2932031007402 then ((some (y360 ++ y363 : List (S29))).bind fun y366 => ((some (x5_1.drop (x8_2 : Int).toNat : List (S29))).bind fun y369 => (if y366.length + y369.length < 2932031007402 then (qN.l0 k2 (y366 ++ y369) t343 (t343.length : Int) (wrap64 (x17_1 + 1))) else (none)))) else (none)))) else (none))) else (none))) = some r := by rw [if_neg (show ¬ (false = true) by decide)] at H; exact H
           clear H
           have H := H1
           clear H1
           obtain ⟨y353, hy353⟩ : ∃ y_ : List (S29), y_ = (([] : List (S29))) := ⟨_, rfl⟩
           replace H : (if x8_2 ≤ (x5_1.length : Int) then ((some (x5_1.take (x8_2 : Int).toNat : List (S29))).bind fun y356 => (if y353.length + y356.length < 2932031007402 then ((some (y353 ++ y356 : List (S29))).bind fun y360 => ((some (([(⟨((qB t343 x17_1).f0), ((qB t343 x17_1).f1), ((qB t343 x17_1).f2), ((qB t343 x17_1).f3), ((qB t343 x17_1).f4), ((qB t343 x17_1).f5)⟩ : S29)] : List (S29)) : List (S29))).bind fun y363 => (if y360.length + y363.length < 2932031007402 then ((some (y360 ++ y363 : List (S29))).bind fun y366 => ((some (x5_1.drop (x8_2 : Int).toNat : List (S29))).bind fun y369 => (if y366.length + y369.length < 2932031007402 then (qN.l0 k2 (y366 ++ y369) t343 (t343.length : Int) (wrap64 (x17_1 + 1))) else (none)))) else (none)))) else (none))) else (none)) = some r := by first | (rw [hy353]; with_reducible exact H) | (have H2_ := (Option.bind_some _ _).symm.trans H; rw [hy353]; with_reducible exact H2_) | (have H2_ := (Option.bind_some _ _).symm.trans H; with_reducible exact H2_) | with_reducible exact H | (rw [hy353]; exact H) | exact H
           have Ny353 := Aside0.mk hy353
           clear hy353
           have c20b0 := eq_true (of_decide_eq_true (by first | (with_reducible assumption) | assumption) : 0 ≤ x8_2)
           by_cases c21 : x8_2 ≤ (x5_1.length : Int)
           ·rw [if_pos c21] at H
            have c21b0 := eq_true c21
            have c21b1 : decide (x8_2 ≤ (x5_1.length : Int)) = true := decide_eq_true c21
            clear c21
            obtain ⟨y356, hy356⟩ : ∃ y_ : List (S29), y_ = (x5_1.take (x8_2 : Int).toNat) := ⟨_, rfl⟩
            replace H : (if y353.length + y356.length < 2932031007402 then ((some (y353 ++ y356 : List (S29))).bind fun y360 => ((some (([(⟨((qB t343 x17_1).f0), ((qB t343 x17_1).f1), ((qB t343 x17_1).f2), ((qB t343 x17_1).f3), ((qB t343 x17_1).f4), ((qB t343 x17_1).f5)⟩ : S29)] : List (S29)) : List (S29))).bind fun y363 => (if y360.length + y363.length < 2932031007402 then ((some (y360 ++ y363 : List (S29))).bind fun y366 => ((some (x5_1.drop (x8_2 : Int).toNat : List (S29))).bind fun y369 => (if y366.length + y369.length < 2932031007402 then (qN.l0 k2 (y366 ++ y369) t343 (t343.length : Int) (wrap64 (x17_1 + 1))) else (none)))) else (none)))) else (none)) = some r := by first | (rw [hy356]; with_reducible exact H) | (have H2_ := (Option.bind_some _ _).symm.trans H; rw [hy356]; with_reducible exact H2_) | (have H2_ := (Option.bind_some _ _).symm.trans H; with_reducible exact H2_) | with_reducible exact H | (rw [hy356]; exact H) | exact H
            have Ny356 := Aside0.mk hy356
            clear hy356
            by_cases c22 : y353.length + y356.length < 2932031007402
            ·rw [if_pos c22] at H
             have LMc22 := Aside0.mk c22
             clear c22
             obtain ⟨y360, hy360⟩ : ∃ y_ : List (S29), y_ = (y353 ++ y356) := ⟨_, rfl⟩
             replace H : ((some (([(⟨((qB t343 x17_1).f0), ((qB t343 x17_1).f1), ((qB t343 x17_1).f2), ((qB t343 x17_1).f3), ((qB t343 x17_1).f4), ((qB t343 x17_1).f5)⟩ : S29)] : List (S29)) : List (S29))).bind fun y363 => (if y360.length + y363.length < 2932031007402 then ((some (y360 ++ y363 : List (S29))).bind fun y366 => ((some (x5_1.drop (x8_2 : Int).toNat : List (S29))).bind fun y369 => (if y366.length + y369.length < 2932031007402 then (qN.l0 k2 (y366 ++ y369) t343 (t343.length : Int) (wrap64 (x17_1 + 1))) else (none)))) else (none))) = some r := by first | (rw [hy360]; with_reducible exact H) | (have H2_ := (Option.bind_some _ _).symm.trans H; rw [hy360]; with_reducible exact H2_) | (have H2_ := (Option.bind_some _ _).symm.trans H; with_reducible exact H2_) | with_reducible exact H | (rw [hy360]; exact H) | exact H
             have Ny360 := Aside0.mk hy360
             clear hy360
             obtain ⟨y363, hy363⟩ : ∃ y_ : List (S29), y_ = (([(⟨((qB t343 x17_1).f0), ((qB t343 x17_1).f1), ((qB t343 x17_1).f2), ((qB t343 x17_1).f3), ((qB t343 x17_1).f4), ((qB t343 x17_1).f5)⟩ : S29)] : List (S29))) := ⟨_, rfl⟩
             replace H : (if y360.length + y363.length < 2932031007402 then ((some (y360 ++ y363 : List (S29))).bind fun y366 => ((some (x5_1.drop (x8_2 : Int).toNat : List (S29))).bind fun y369 => (if y366.length + y369.length < 2932031007402 then (qN.l0 k2 (y366 ++ y369) t343 (t343.length : Int) (wrap64 (x17_1 + 1))) else (none)))) else (none)) = some r := by first | (rw [hy363]; with_reducible exact H) | (have H2_ := (Option.bind_some _ _).symm.trans H; rw [hy363]; with_reducible exact H2_) | (have H2_ := (Option.bind_some _ _).symm.trans H; with_reducible exact H2_) | with_reducible exact H | (rw [hy363]; exact H) | exact H
             have Ny363 := Aside0.mk hy363
             clear hy363
             by_cases c23 : y360.length + y363.length < 2932031007402
             ·rw [if_pos c23] at H
              have LMc23 := Aside0.mk c23
              clear c23
              obtain ⟨y366, hy366⟩ : ∃ y_ : List (S29), y_ = (y360 ++ y363) := ⟨_, rfl⟩
              replace H : ((some (x5_1.drop (x8_2 : Int).toNat : List (S29))).bind fun y369 => (if y366.length + y369.length < 2932031007402 then (qN.l0 k2 (y366 ++ y369) t343 (t343.length : Int) (wrap64 (x17_1 + 1))) else (none))) = some r := by first | (rw [hy366]; with_reducible exact H) | (have H2_ := (Option.bind_some _ _).symm.trans H; rw [hy366]; with_reducible exact H2_) | (have H2_ := (Option.bind_some _ _).symm.trans H; with_reducible exact H2_) | with_reducible exact H | (rw [hy366]; exact H) | exact H
              have Ny366 := Aside0.mk hy366
              clear hy366
              have c24b0 := eq_true (of_decide_eq_true (by first | (with_reducible assumption) | assumption) : 0 ≤ x8_2)
              have c25b0 := eq_true (of_decide_eq_true (by first | (with_reducible assumption) | assumption) : x8_2 ≤ (x5_1.length : Int))
              obtain ⟨y369, hy369⟩ : ∃ y_ : List (S29), y_ = (x5_1.drop (x8_2 : Int).toNat) := ⟨_, rfl⟩
              replace H : (if y366.length + y369.length < 2932031007402 then (qN.l0 k2 (y366 ++ y369) t343 (t343.length : Int) (wrap64 (x17_1 + 1))) else (none)) = some r := by first | (rw [hy369]; with_reducible exact H) | (have H2_ := (Option.bind_some _ _).symm.trans H; rw [hy369]; with_reducible exact H2_) | (have H2_ := (Option.bind_some _ _).symm.trans H; with_reducible exact H2_) | with_reducible exact H | (rw [hy369]; exact H) | exact H
              have Ny369 := Aside0.mk hy369
              clear hy369
              by_cases c26 : y366.length + y369.length < 2932031007402
              ·rw [if_pos c26] at H
               have LMc26 := Aside0.mk c26
               clear c26
               obtain ⟨y373, hy373⟩ : ∃ y_ : List (S29), y_ = (y366 ++ y369) := ⟨_, rfl⟩
               replace H : (qN.l0 k2 y373 t343 (t343.length : Int) (wrap64 (x17_1 + 1))) = some r := by first | (rw [hy373]; with_reducible exact H) | (have H2_ := (Option.bind_some _ _).symm.trans H; rw [hy373]; with_reducible exact H2_) | (have H2_ := (Option.bind_some _ _).symm.trans H; with_reducible exact H2_) | with_reducible exact H | (rw [hy373]; exact H) | exact H
               have Ny373 := Aside0.mk hy373
               clear hy373
               have H' := Aside0.mk H
               clear H
               try go_wp2
               have n0_ := Aside0.mk (Kd.qK HO_5.out)
               have n1_ := Aside0.mk (Kd.qK HO_13.out)
               have n2_ := Aside0.mk (qE BK342.out)
               have n3_ := Aside0.mk (qE BK350.out)
               have n4_ := Aside0.mk (qt HB.out)
               clear HO_5
               clear HO_13
               clear BK342
               clear BK350
               clear HB
               have HO_5 := n0_
               have HO_13 := n1_
               have BK342 := n2_
               have BK350 := n3_
               have HB := n4_
               clear n0_ n1_ n2_ n3_ n4_
               obtain ⟨Ao28, co28, eo28⟩ := Kd.qHA HO_5.out
               (first | subst eo28 | (injection eo28 with f1_ f2_ f3_; have f4_ := f1_.symm; have f5_ := f3_.symm; clear f1_ f2_ f3_; subst f4_; subst f5_))
               have p351 : 0 ≤ (x8_2 : Int) := of_decide_eq_true (by first | (with_reducible assumption) | assumption)
               have q351 : x8_2 < (x5_1.length : Int) := of_decide_eq_true (by first | (with_reducible assumption) | assumption)
               obtain ⟨ad351, e351, hx351_0, hx351_1, hx351_2, hx351_3, hx351_4, hx351_5⟩ := qOA (Kd.qT HO_5.out).2.2 x8_2 p351 q351
               cases e351
               replace p351 := eq_true p351
               replace q351 := eq_true q351
               refine qyA (n := 12) (S := fun w' => w'.cell? ⟨gb350, 0, none⟩ = some (.int .i64 ((qB t343 x17_1).f0)) ∧ w'.cell? ⟨gb350, 1, none⟩ = some (.int .i64 ((qB t343 x17_1).f1)) ∧ w'.cell? ⟨gb350, 2, none⟩ = some (.int .i64 ((qB t343 x17_1).f2)) ∧ w'.cell? ⟨gb350, 3, none⟩ = some (.int .i64 ((qB t343 x17_1).f3)) ∧ w'.cell? ⟨gb350, 4, none⟩ = some (.int .i64 ((qB t343 x17_1).f4)) ∧ w'.cell? ⟨gb350, 5, none⟩ = some (.int .i64 ((qB t343 x17_1).f5)) ∧ w'.cell? (ad351.add ((x8_2).toNat * 6)) = some (.int .i64 ((qB x5_1 x8_2).f0)) ∧ w'.cell? ⟨(ad351.add ((x8_2).toNat * 6)).block, (ad351.add ((x8_2).toNat * 6)).off + 1, none⟩ = some (.int .i64 ((qB x5_1 x8_2).f1)) ∧ w'.cell? ⟨(ad351.add ((x8_2).toNat * 6)).block, (ad351.add ((x8_2).toNat * 6)).off + 2, none⟩ = some (.int .i64 ((qB x5_1 x8_2).f2)) ∧ w'.cell? ⟨(ad351.add ((x8_2).toNat * 6)).block, (ad351.add ((x8_2).toNat * 6)).off + 3, none⟩ = some (.int .i64 ((qB x5_1 x8_2).f3)) ∧ w'.cell? ⟨(ad351.add ((x8_2).toNat * 6)).block, (ad351.add ((x8_2).toNat * 6)).off + 4, none⟩ = some (.int .i64 ((qB x5_1 x8_2).f4)) ∧ w'.cell? ⟨(ad351.add ((x8_2).toNat * 6)).block, (ad351.add ((x8_2).toNat * 6)).off + 5, none⟩ = some (.int .i64 ((qB x5_1 x8_2).f5))) (ds := []) #[false, false, false, false, false, false, false, false, false, false, false, false] (by kernel_rfl) rfl rfl ⟨(qG BK350.out 0).trans rfl, (qG BK350.out 1).trans rfl, (qG BK350.out 2).trans rfl, (qG BK350.out 3).trans rfl, (qG BK350.out 4).trans rfl, (qG BK350.out 5).trans rfl, hx351_0, hx351_1, hx351_2, hx351_3, hx351_4, hx351_5⟩ (fun hHeld => ?_); refine qbA qN.tab7 qN.bits7 (fun HT_ HW_ => ?_)
               generalize wr.drew = w27 at HO_5 HO_13 BK342 BK350 HB hx351_0 hx351_1 hx351_2 hx351_3 hx351_4 hx351_5 hHeld ⊢
               refine pS (i := 0) (N := some 21) #[true, false, false, false, false, false, false, false, false, false, false, false] HT_ ?_
               refine pS (i := 1) (N := some 22) #[true, true, false, false, false, false, false, false, false, false, false, false] HT_ ?_
               refine pS (i := 2) (N := some 23) #[true, true, true, false, false, false, false, false, false, false, false, false] HT_ ?_
               refine pS (i := 3) (N := some 24) #[true, true, true, true, false, false, false, false, false, false, false, false] HT_ ?_
               refine pS (i := 4) (N := some 25) #[true, true, true, true, true, false, false, false, false, false, false, false] HT_ ?_
               refine pS (i := 5) (N := some 26) #[true, true, true, true, true, true, false, false, false, false, false, false] HT_ ?_
               refine pS (i := 6) (N := some 27) #[true, true, true, true, true, true, true, false, false, false, false, false] HT_ ?_
               refine pS (i := 7) (N := some 28) #[true, true, true, true, true, true, true, true, false, false, false, false] HT_ ?_
               refine tS (i := 8) (N := some 29) #[true, true, true, true, true, true, true, true, true, false, false, false] HT_ HW_ hHeld ?_
               refine tS (i := 9) (N := some 30) #[true, true, true, true, true, true, true, true, true, true, false, false] HT_ HW_ hHeld ?_
               refine one_ (i := 10) (N := some 31) #[true, true, true, true, true, true, true, true, true, true, true, false] rfl rfl (qsA HT_.out (by kernel_rfl)) (by decide) (fun K hK => ?_)
               refine goes_ Try.func60 (by kernel_rfl) rfl #[.agg #[.int .i64 ((qB x5_1 x8_2).f0), .int .i64 ((qB x5_1 x8_2).f1), .int .i64 ((qB x5_1 x8_2).f2), .int .i64 ((qB x5_1 x8_2).f3), .int .i64 ((qB x5_1 x8_2).f4), .int .i64 ((qB x5_1 x8_2).f5)], .agg #[.int .i64 ((qB t343 x17_1).f0), .int .i64 ((qB t343 x17_1).f1), .int .i64 ((qB t343 x17_1).f2), .int .i64 ((qB t343 x17_1).f3), .int .i64 ((qB t343 x17_1).f4), .int .i64 ((qB t343 x17_1).f5)]] (by rfl) rfl rfl (by (try simp only [List.map_toArray, List.map_cons, List.map_nil]); first | done | rfl | (simp only [List.length_drop, List.length_take]; rfl)) ?_
               with_reducible refine (qZ.calls k2 ((qB x5_1 x8_2).f0) ((qB x5_1 x8_2).f1) ((qB x5_1 x8_2).f2) ((qB x5_1 x8_2).f3) ((qB x5_1 x8_2).f4) ((qB x5_1 x8_2).f5) ((qB t343 x17_1).f0) ((qB t343 x17_1).f1) ((qB t343 x17_1).f2) ((qB t343 x17_1).f3) ((qB t343 x17_1).f4) ((qB t343 x17_1).f5) false _ A15.out).mono ?_
               rintro e w29 ⟨rfl, hb⟩
               have HS6_ := (hb.cell (World.block_lt_of_cell? _ _ (hHeld.2.2.2.2.2.2.1))).trans (hHeld.2.2.2.2.2.2.1)
               have HS7_ := (hb.cell (World.block_lt_of_cell? _ _ (hHeld.2.2.2.2.2.2.2.1))).trans (hHeld.2.2.2.2.2.2.2.1)
               have HS8_ := (hb.cell (World.block_lt_of_cell? _ _ (hHeld.2.2.2.2.2.2.2.2.1))).trans (hHeld.2.2.2.2.2.2.2.2.1)
               have HS9_ := (hb.cell (World.block_lt_of_cell? _ _ (hHeld.2.2.2.2.2.2.2.2.2.1))).trans (hHeld.2.2.2.2.2.2.2.2.2.1)
               have HS10_ := (hb.cell (World.block_lt_of_cell? _ _ (hHeld.2.2.2.2.2.2.2.2.2.2.1))).trans (hHeld.2.2.2.2.2.2.2.2.2.2.1)
               have HS11_ := (hb.cell (World.block_lt_of_cell? _ _ (hHeld.2.2.2.2.2.2.2.2.2.2.2))).trans (hHeld.2.2.2.2.2.2.2.2.2.2.2)
               refine ⟨_, rfl, ?_⟩
               have n0_ := Aside0.mk (Kd.qAA (by (with_reducible repeat (first | apply Kd.qH | apply Kd.qI | apply Kd.qK)); exact HO_5.out) hb)
               have n1_ := Aside0.mk (Kd.qAA (by (with_reducible repeat (first | apply Kd.qH | apply Kd.qI | apply Kd.qK)); exact HO_13.out) hb)
               have n2_ := Aside0.mk (bb BK342 hb)
               have n3_ := Aside0.mk (bb BK350 hb)
               have n4_ := Aside0.mk (qF bl hb)
               clear HO_5
               clear HO_13
               clear BK342
               clear BK350
               clear HB
               have HO_5 := n0_
               have HO_13 := n1_
               have BK342 := n2_
               have BK350 := n3_
               have HB := n4_
               clear n0_ n1_ n2_ n3_ n4_
               (try clear hb)
               (try clear hb2)
               (try clear hk)
               (try clear hi)
               refine hK.out _ _ ⟨(qG BK350.out 0).trans rfl, (qG BK350.out 1).trans rfl, (qG BK350.out 2).trans rfl, (qG BK350.out 3).trans rfl, (qG BK350.out 4).trans rfl, (qG BK350.out 5).trans rfl, HS6_, HS7_, HS8_, HS9_, HS10_, HS11_⟩ (fun hHeld => ?_)
               clear hK K
               refine norm_ (a' := ?_) ?_ ?_
               rotate_left
               ·show Act.put _ (some 31) _ = _
                simp only [Act.put, List.setIfInBounds_toArray, List.set_cons_zero, List.set_cons_succ, i64_w, i32_w]
                rfl
               refine pS (i := 11) (N := some 32) #[true, true, true, true, true, true, true, true, true, true, true, true] HT_ ?_
               refine done_ (qBB HT_.out (by kernel_rfl)) ?_
               try go_wp2
               have n0_ := Aside0.mk (Kd.qK HO_5.out)
               have n1_ := Aside0.mk (Kd.qK HO_13.out)
               have n2_ := Aside0.mk (qE BK342.out)
               have n3_ := Aside0.mk (qE BK350.out)
               have n4_ := Aside0.mk (qt HB.out)
               clear HO_5
               clear HO_13
               clear BK342
               clear BK350
               clear HB
               have HO_5 := n0_
               have HO_13 := n1_
               have BK342 := n2_
               have BK350 := n3_
               have HB := n4_
               clear n0_ n1_ n2_ n3_ n4_
               have q31 : (x8_2 : Int) ≤ ((x5_1.length : Int) : Int) := of_decide_eq_true (by first | (with_reducible assumption) | assumption)
               obtain ⟨i031, hi031, _, hsz31, _⟩ := info_parts info29
               have hroom31 : x5_1.length ≤ co28 := (Kd.qT HO_5.out).2.1
               have hC31 : Kd.C k29 _ (some ad351) x5_1.length x5_1 := (Kd.qT HO_5.out).2.2
               have hcut31 := cut_to (P := Try.prog) 38 29 .i64 Try.underlying38 hi031 (some ad351) x5_1.length co28 x8_2 (of_decide_eq_true (by first | (with_reducible assumption) | assumption)) q31 hroom31
               have hr31 := Kd.qkB (m := (x8_2 : Int).toNat) hC31 (by omega)
               have hy31 : y356.length = (x8_2 : Int).toNat := (by rw [Ny356.out, List.length_take]; omega)
               rw [← Ny356.out] at hr31
               rw [← hy31] at hcut31
               have HR359 := Aside0.mk hr31
               have HC359 := Aside0.mk (show y356.length ≤ co28 from by omega)
               clear hr31 hC31 hroom31 hi031 hsz31
               have KY31 := Aside0.mk hy31
               clear hy31
               have KL31 := Aside0.mk (show (x8_2 : Int).toNat ≤ x5_1.length from by omega)
               replace q31 := eq_true q31
               refine qyA (n := 9) (S := fun w' => w'.cell? ⟨gb350, 0, none⟩ = some (.int .i64 ((qB t343 x17_1).f0)) ∧ w'.cell? ⟨gb350, 1, none⟩ = some (.int .i64 ((qB t343 x17_1).f1)) ∧ w'.cell? ⟨gb350, 2, none⟩ = some (.int .i64 ((qB t343 x17_1).f2)) ∧ w'.cell? ⟨gb350, 3, none⟩ = some (.int .i64 ((qB t343 x17_1).f3)) ∧ w'.cell? ⟨gb350, 4, none⟩ = some (.int .i64 ((qB t343 x17_1).f4)) ∧ w'.cell? ⟨gb350, 5, none⟩ = some (.int .i64 ((qB t343 x17_1).f5))) (ds := []) #[false, false, false, false, false, false, false, false, false] (by kernel_rfl) rfl rfl ⟨(qG BK350.out 0).trans rfl, (qG BK350.out 1).trans rfl, (qG BK350.out 2).trans rfl, (qG BK350.out 3).trans rfl, (qG BK350.out 4).trans rfl, (qG BK350.out 5).trans rfl⟩ (fun hHeld => ?_); refine qbA qN.tab9 qN.bits9 (fun HT_ HW_ => ?_)
               generalize w29.drew = w30 at HO_5 HO_13 BK342 BK350 HB HR359 hHeld ⊢
               refine pS (i := 1) (N := some 36) #[false, true, false, false, false, false, false, false, false] HT_ ?_
               refine pS (i := 2) (N := some 37) #[false, true, true, false, false, false, false, false, false] HT_ ?_
               refine pS (i := 3) (N := some 38) #[false, true, true, true, false, false, false, false, false] HT_ ?_
               refine tS (i := 5) (N := some 40) #[false, true, true, true, false, true, false, false, false] HT_ HW_ hHeld ?_
               refine join_ (σ := Value × Value × Value) 2 #[true, true, true, true, true, true, true, false, false] (fun s_ => [(35, s_.1), (39, s_.2.1), (41, s_.2.2)]) (fun s_ w' => (w'.cell? ⟨gb350, 0, none⟩ = some (.int .i64 ((qB t343 x17_1).f0)) ∧ w'.cell? ⟨gb350, 1, none⟩ = some (.int .i64 ((qB t343 x17_1).f1)) ∧ w'.cell? ⟨gb350, 2, none⟩ = some (.int .i64 ((qB t343 x17_1).f2)) ∧ w'.cell? ⟨gb350, 3, none⟩ = some (.int .i64 ((qB t343 x17_1).f3)) ∧ w'.cell? ⟨gb350, 4, none⟩ = some (.int .i64 ((qB t343 x17_1).f4)) ∧ w'.cell? ⟨gb350, 5, none⟩ = some (.int .i64 ((qB t343 x17_1).f5))) ∧ (Kd.R k29 29 w' w.heap.size (fun k_ => some k_ ≠ (s_.2.2 : Value).ownBlock ∧ some k_ ≠ (.slice (some ad349) t343.length co6 : Value).ownBlock ∧ some k_ ≠ (.slice (some ad351) x5_1.length co28 : Value).ownBlock ∧ k_ ≠ gb342 ∧ k_ ≠ gb350) s_.2.1 y360) ∧ (Kd.R k29 29 w' w.heap.size (fun k_ => some k_ ≠ (s_.2.1 : Value).ownBlock ∧ some k_ ≠ (.slice (some ad349) t343.length co6 : Value).ownBlock ∧ some k_ ≠ (.slice (some ad351) x5_1.length co28 : Value).ownBlock ∧ k_ ≠ gb342 ∧ k_ ≠ gb350) s_.2.2 y363) ∧ (Kd.R k29 29 w' w.heap.size (fun k_ => some k_ ≠ (s_.2.1 : Value).ownBlock ∧ some k_ ≠ (s_.2.2 : Value).ownBlock ∧ some k_ ≠ (.slice (some ad351) x5_1.length co28 : Value).ownBlock ∧ k_ ≠ gb342 ∧ k_ ≠ gb350) (.slice (some ad349) t343.length co6) t343) ∧ (Kd.R k29 29 w' w.heap.size (fun k_ => some k_ ≠ (s_.2.1 : Value).ownBlock ∧ some k_ ≠ (s_.2.2 : Value).ownBlock ∧ some k_ ≠ (.slice (some ad349) t343.length co6 : Value).ownBlock ∧ k_ ≠ gb342 ∧ k_ ≠ gb350) (.slice (some ad351) x5_1.length co28) x5_1) ∧ (w'.heap[gb342]? = some (.cells #[.int .i64 a0_0, .int .i64 a0_1, .int .i64 a0_2, .int .i64 a0_3, .int .i64 a0_4, .int .i64 a0_5] 29 (0, 0))) ∧ (w'.heap[gb350]? = some (.cells #[.int .i64 ((qB t343 x17_1).f0), .int .i64 ((qB t343 x17_1).f1), .int .i64 ((qB t343 x17_1).f2), .int .i64 ((qB t343 x17_1).f3), .int .i64 ((qB t343 x17_1).f4), .int .i64 ((qB t343 x17_1).f5)] 29 (0, 0))) ∧ (Below w.heap.size w w')) ?_ ?_
               rotate_left
               ·intro hCont
                refine two_ (i := 0) (j := 6) (Ni := some 35) (Nj := some 41) #[true, true, true, true, false, true, false, false, false] #[false, true, true, true, false, true, true, false, false] rfl rfl rfl rfl (qRC HT_.out (by kernel_rfl)) (by decide) (by decide) (fun K hK => ?_) (fun K hK => ?_)
                ·skip
                 refine Kd.qcA k29 _ 29 ?hg (N := 35) ?hd (xs := ([] : List (S29))) (inner := []) (ok := fun _ => True) (okp := fun _ => True) ?hr ?hp (fun _ hk => hk) trivial (Below.refl _ _) (Nat.le_refl _) (by simp) ?_; (case hd => rfl); (case hg => rfl); (case hr => first | (go_simp; done) | (go_simp; rfl)); (case hp => exact (Reps.none _ _))
                 intro v354 w32 ho33 hb hg_ hnew_
                 clear hg_ hnew_
                 (first | rw [← Ny353.out] at ho33 | (simp only [Int.reduceToNat] at ho33; rw [← Ny353.out] at ho33))
                 have n0_ := Aside0.mk (Kd.qz (by (with_reducible repeat (first | apply Kd.qH | apply Kd.qI | apply Kd.qK)); exact HO_5.out) (Kd.qYA ho33) hb)
                 have n1_ := Aside0.mk (Kd.qz (by (with_reducible repeat (first | apply Kd.qH | apply Kd.qI | apply Kd.qK)); exact HO_13.out) (Kd.qYA ho33) hb)
                 have n2_ := Aside0.mk (Kd.qLA (Kd.qWA (Kd.qWA (Kd.qXA (Kd.qXA ho33 (Kd.R_lt (by (with_reducible repeat (first | apply Kd.qH | apply Kd.qI | apply Kd.qK)); exact HO_5.out))) (Kd.R_lt (by (with_reducible repeat (first | apply Kd.qH | apply Kd.qI | apply Kd.qK)); exact HO_13.out))) (g := gb342) (o := .cells #[.int .i64 a0_0, .int .i64 a0_1, .int .i64 a0_2, .int .i64 a0_3, .int .i64 a0_4, .int .i64 a0_5] 29 (0, 0)) (by (with_reducible repeat (first | refine qC ?_ _ | refine qE ?_ | refine qD ?_ _)); exact BK342.out)) (g := gb350) (o := .cells #[.int .i64 ((qB t343 x17_1).f0), .int .i64 ((qB t343 x17_1).f1), .int .i64 ((qB t343 x17_1).f2), .int .i64 ((qB t343 x17_1).f3), .int .i64 ((qB t343 x17_1).f4), .int .i64 ((qB t343 x17_1).f5)] 29 (0, 0)) (by (with_reducible repeat (first | refine qC ?_ _ | refine qE ?_ | refine qD ?_ _)); exact BK350.out)) (qb bl))
                 have n3_ := Aside0.mk (bb BK342 hb)
                 have n4_ := Aside0.mk (bb BK350 hb)
                 have n5_ := Aside0.mk (Kd.qmA (by repeat (first | (with_reducible exact HR359.out) | (with_reducible refine Kd.qq ?_ _) | (with_reducible refine Kd.qp ?_ _) | (with_reducible refine Kd.qEA ?_) | exact HR359.out)) hb)
                 have n6_ := Aside0.mk (qF bl hb)
                 clear HO_5
                 clear HO_13
                 clear BK342
                 clear BK350
                 clear HR359
                 clear HB
                 have HO_5 := n0_
                 have HO_13 := n1_
                 have HO355 := n2_
                 have BK342 := n3_
                 have BK350 := n4_
                 have HR359 := n5_
                 have HB := n6_
                 clear n0_ n1_ n2_ n3_ n4_ n5_ n6_
                 clear hb ho33
                 refine hK.out _ _ ⟨(qG BK350.out 0).trans rfl, (qG BK350.out 1).trans rfl, (qG BK350.out 2).trans rfl, (qG BK350.out 3).trans rfl, (qG BK350.out 4).trans rfl, (qG BK350.out 5).trans rfl⟩ (fun hHeld => ?_)
                 clear hK K
                 refine norm_ (a' := ?_) ?_ ?_
                 rotate_left
                 ·show Act.put _ (some 35) _ = _
                  simp only [Act.put, List.setIfInBounds_toArray, List.set_cons_zero, List.set_cons_succ, i64_w, i32_w]
                  rfl
                 refine two_ (i := 4) (j := 6) (Ni := some 39) (Nj := some 41) #[true, true, true, true, true, true, false, false, false] #[true, true, true, true, false, true, true, false, false] rfl rfl rfl rfl (qRC HT_.out (by kernel_rfl)) (by decide) (by decide) (fun K hK => ?_) (fun K hK => ?_)
                 ·skip
                  refine Kd.qJA k29 (w0 := w) w.heap.size (by rfl) (.tmp 35) (.tmp 38) 38 29 (.agg #[(.int .i64 0), (.int .i64 0), (.int .i64 0), (.int .i64 0), (.int .i64 0), (.int .i64 0)]) 48 rfl Try.underlying38 info29 rfl (by decide) (by omega) v354 y353 y356 _ _ _ (fun k_ => some k_ ≠ (.slice (some ad351) x5_1.length co28 : Value).ownBlock ∧ some k_ ≠ (.slice (some ad349) t343.length co6 : Value).ownBlock ∧ k_ ≠ gb342 ∧ k_ ≠ gb350) (fun _ => False) rfl rfl ?aO ?aR (fun _ _ h => h) (fun _ h => h.elim) ?aF ?aB ?aS ?aL ?_
                  (case aR => repeat (first | exact (by repeat (first | (with_reducible exact HR359.out) | (with_reducible refine Kd.qq ?_ _) | (with_reducible refine Kd.qp ?_ _) | (with_reducible refine Kd.qEA ?_) | exact HR359.out)) | (with_reducible refine Kd.qq ?_ _) | (with_reducible refine Kd.qp ?_ _) | (with_reducible refine Kd.qEA ?_)))
                  (case aB => exact bl)
                  (case aF => exact (fun k_ hk => ⟨Kd.fresh' (Kd.R_lt (by (with_reducible repeat (first | apply Kd.qH | apply Kd.qI | apply Kd.qK)); exact HO_5.out)) k_ hk, Kd.fresh' (Kd.R_lt (by (with_reducible repeat (first | apply Kd.qH | apply Kd.qI | apply Kd.qK)); exact HO_13.out)) k_ hk, Kd.freshB (g := gb342) (o := .cells #[.int .i64 a0_0, .int .i64 a0_1, .int .i64 a0_2, .int .i64 a0_3, .int .i64 a0_4, .int .i64 a0_5] 29 (0, 0)) (by (with_reducible repeat (first | refine qC ?_ _ | refine qE ?_ | refine qD ?_ _)); exact BK342.out) k_ hk, Kd.freshB (g := gb350) (o := .cells #[.int .i64 ((qB t343 x17_1).f0), .int .i64 ((qB t343 x17_1).f1), .int .i64 ((qB t343 x17_1).f2), .int .i64 ((qB t343 x17_1).f3), .int .i64 ((qB t343 x17_1).f4), .int .i64 ((qB t343 x17_1).f5)] 29 (0, 0)) (by (with_reducible repeat (first | refine qC ?_ _ | refine qE ?_ | refine qD ?_ _)); exact BK350.out) k_ hk⟩))
                  (case aO => exact (by (with_reducible repeat (first | apply Kd.qH | apply Kd.qI | apply Kd.qK)); exact Kd.qa HO355.out (fun _ hk => ⟨hk.1.1.1.2, ⟨hk.1.1.2, ⟨hk.1.2, hk.2⟩⟩⟩)))
                  (case aS => exact (qb bl))
                  (case aL => have := LMc22.out; omega)
                  intro v361 w34 ho hb hg hat
                  rw [← Ny360.out] at ho
                  have n0_ := Aside0.mk (Kd.qy (ok := (fun k_ => some k_ ≠ (.slice (some ad349) t343.length co6 : Value).ownBlock ∧ k_ ≠ gb342 ∧ k_ ≠ gb350)) (by (with_reducible repeat (first | apply Kd.qH | apply Kd.qI | apply Kd.qK)); exact HO_5.out) hg hat)
                  have n1_ := Aside0.mk (Kd.qy (ok := (fun k_ => some k_ ≠ (.slice (some ad351) x5_1.length co28 : Value).ownBlock ∧ k_ ≠ gb342 ∧ k_ ≠ gb350)) (by (with_reducible repeat (first | apply Kd.qH | apply Kd.qI | apply Kd.qK)); exact HO_13.out) hg hat)
                  have n2_ := Aside0.mk (qv (g := gb342) (o := .cells #[.int .i64 a0_0, .int .i64 a0_1, .int .i64 a0_2, .int .i64 a0_3, .int .i64 a0_4, .int .i64 a0_5] 29 (0, 0)) (by (with_reducible repeat (first | refine qC ?_ _ | refine qE ?_ | refine qD ?_ _)); exact BK342.out) hg (Kd.qhA HO355.out (fun _ hk => hk.1.2)))
                  have n3_ := Aside0.mk (qv (g := gb350) (o := .cells #[.int .i64 ((qB t343 x17_1).f0), .int .i64 ((qB t343 x17_1).f1), .int .i64 ((qB t343 x17_1).f2), .int .i64 ((qB t343 x17_1).f3), .int .i64 ((qB t343 x17_1).f4), .int .i64 ((qB t343 x17_1).f5)] 29 (0, 0)) (by (with_reducible repeat (first | refine qC ?_ _ | refine qE ?_ | refine qD ?_ _)); exact BK350.out) hg (Kd.qhA HO355.out (fun _ hk => hk.2)))
                  have n4_ := Aside0.mk (hb)
                  have n5_ := Aside0.mk ((show Kd.C k29 w34 (some ad351) y356.length y356 from by rw [Ny356.out]; exact Kd.qkB (m := (x8_2 : Int).toNat) ((Kd.qT (Kd.qy (ok := (fun k_ => some k_ ≠ (.slice (some ad349) t343.length co6 : Value).ownBlock ∧ k_ ≠ gb342 ∧ k_ ≠ gb350)) (by (with_reducible repeat (first | apply Kd.qH | apply Kd.qI | apply Kd.qK)); exact HO_5.out) hg hat)).2.2) KL31.out))
                  have n6_ := Aside0.mk (ho)
                  clear HO_5
                  clear HO_13
                  clear BK342
                  clear BK350
                  clear HB
                  clear HR359
                  clear HO355
                  have HO_5 := n0_
                  have HO_13 := n1_
                  have BK342 := n2_
                  have BK350 := n3_
                  have HB := n4_
                  have HR359 := n5_
                  have HO362 := n6_
                  clear n0_ n1_ n2_ n3_ n4_ n5_ n6_
                  clear ho hb hg hat
                  refine hK.out _ _ ⟨(qG BK350.out 0).trans rfl, (qG BK350.out 1).trans rfl, (qG BK350.out 2).trans rfl, (qG BK350.out 3).trans rfl, (qG BK350.out 4).trans rfl, (qG BK350.out 5).trans rfl⟩ (fun hHeld => ?_)
                  clear hK K
                  refine norm_ (a' := ?_) ?_ ?_
                  rotate_left
                  ·show Act.put _ (some 39) _ = _
                   simp only [Act.put, List.setIfInBounds_toArray, List.set_cons_zero, List.set_cons_succ, i64_w, i32_w]
                   rfl
                  refine one_ (i := 6) (N := some 41) #[true, true, true, true, true, true, true, false, false] rfl rfl (qsA HT_.out (by kernel_rfl)) (by decide) (fun K hK => ?_)
                  refine Kd.qcA k29 _ 29 ?hg (N := 41) ?hd (xs := ([(⟨((qB t343 x17_1).f0), ((qB t343 x17_1).f1), ((qB t343 x17_1).f2), ((qB t343 x17_1).f3), ((qB t343 x17_1).f4), ((qB t343 x17_1).f5)⟩ : S29)] : List (S29))) (inner := [.int .i64 ((qB t343 x17_1).f0), .int .i64 ((qB t343 x17_1).f1), .int .i64 ((qB t343 x17_1).f2), .int .i64 ((qB t343 x17_1).f3), .int .i64 ((qB t343 x17_1).f4), .int .i64 ((qB t343 x17_1).f5)]) (ok := fun _ => True) (okp := fun _ => True) ?hr ?hp (fun _ hk => hk) trivial (Below.refl _ _) (Nat.le_refl _) (by simp) ?_; (case hd => rfl); (case hg => rfl); (case hr => first | (go_simp; done) | (go_simp; rfl)); (case hp => exact (Reps.c6 (show Kd.M k29 _ _ _ (⟨((qB t343 x17_1).f0), ((qB t343 x17_1).f1), ((qB t343 x17_1).f2), ((qB t343 x17_1).f3), ((qB t343 x17_1).f4), ((qB t343 x17_1).f5)⟩ : S29) [.int .i64 ((qB t343 x17_1).f0), .int .i64 ((qB t343 x17_1).f1), .int .i64 ((qB t343 x17_1).f2), .int .i64 ((qB t343 x17_1).f3), .int .i64 ((qB t343 x17_1).f4), .int .i64 ((qB t343 x17_1).f5)] from (qdA _ _ _ (⟨((qB t343 x17_1).f0), ((qB t343 x17_1).f1), ((qB t343 x17_1).f2), ((qB t343 x17_1).f3), ((qB t343 x17_1).f4), ((qB t343 x17_1).f5)⟩ : S29) )) (Reps.none _ _)))
                  intro v364 w35 ho36 hb hg_ hnew_
                  clear hg_ hnew_
                  (first | rw [← Ny363.out] at ho36 | (simp only [Int.reduceToNat] at ho36; rw [← Ny363.out] at ho36))
                  have n0_ := Aside0.mk (Kd.qz (by (with_reducible repeat (first | apply Kd.qH | apply Kd.qI | apply Kd.qK)); exact HO_5.out) (Kd.qYA ho36) hb)
                  have n1_ := Aside0.mk (Kd.qz (by (with_reducible repeat (first | apply Kd.qH | apply Kd.qI | apply Kd.qK)); exact HO_13.out) (Kd.qYA ho36) hb)
                  have n2_ := Aside0.mk (Kd.qz (by (with_reducible repeat (first | apply Kd.qH | apply Kd.qI | apply Kd.qK)); exact HO362.out) (Kd.qYA ho36) hb)
                  have n3_ := Aside0.mk (Kd.qLA (Kd.qWA (Kd.qWA (Kd.qXA (Kd.qXA (Kd.qXA ho36 (Kd.R_lt (by (with_reducible repeat (first | apply Kd.qH | apply Kd.qI | apply Kd.qK)); exact HO_5.out))) (Kd.R_lt (by (with_reducible repeat (first | apply Kd.qH | apply Kd.qI | apply Kd.qK)); exact HO_13.out))) (Kd.R_lt (by (with_reducible repeat (first | apply Kd.qH | apply Kd.qI | apply Kd.qK)); exact HO362.out))) (g := gb342) (o := .cells #[.int .i64 a0_0, .int .i64 a0_1, .int .i64 a0_2, .int .i64 a0_3, .int .i64 a0_4, .int .i64 a0_5] 29 (0, 0)) (by (with_reducible repeat (first | refine qC ?_ _ | refine qE ?_ | refine qD ?_ _)); exact BK342.out)) (g := gb350) (o := .cells #[.int .i64 ((qB t343 x17_1).f0), .int .i64 ((qB t343 x17_1).f1), .int .i64 ((qB t343 x17_1).f2), .int .i64 ((qB t343 x17_1).f3), .int .i64 ((qB t343 x17_1).f4), .int .i64 ((qB t343 x17_1).f5)] 29 (0, 0)) (by (with_reducible repeat (first | refine qC ?_ _ | refine qE ?_ | refine qD ?_ _)); exact BK350.out)) (qb bl))
                  have n4_ := Aside0.mk (bb BK342 hb)
                  have n5_ := Aside0.mk (bb BK350 hb)
                  have n6_ := Aside0.mk (Kd.qmA (by repeat (first | (with_reducible exact HR359.out) | (with_reducible refine Kd.qq ?_ _) | (with_reducible refine Kd.qp ?_ _) | (with_reducible refine Kd.qEA ?_) | exact HR359.out)) hb)
                  have n7_ := Aside0.mk (qF bl hb)
                  clear HO_5
                  clear HO_13
                  clear HO362
                  clear BK342
                  clear BK350
                  clear HR359
                  clear HB
                  have HO_5 := n0_
                  have HO_13 := n1_
                  have HO362 := n2_
                  have HO365 := n3_
                  have BK342 := n4_
                  have BK350 := n5_
                  have HR359 := n6_
                  have HB := n7_
                  clear n0_ n1_ n2_ n3_ n4_ n5_ n6_ n7_
                  clear hb ho36
                  refine hK.out _ _ ⟨(qG BK350.out 0).trans rfl, (qG BK350.out 1).trans rfl, (qG BK350.out 2).trans rfl, (qG BK350.out 3).trans rfl, (qG BK350.out 4).trans rfl, (qG BK350.out 5).trans rfl⟩ (fun hHeld => ?_)
                  clear hK K
                  refine norm_ (a' := ?_) ?_ ?_
                  rotate_left
                  ·show Act.put _ (some 41) _ = _
                   simp only [Act.put, List.setIfInBounds_toArray, List.set_cons_zero, List.set_cons_succ, i64_w, i32_w]
                   rfl
                  exact norm_ (by simp only [putAll, Act.put, List.setIfInBounds_toArray, List.set_cons_zero, List.set_cons_succ]) (hCont (v354, v361, v364) _ ⟨hHeld, (by (with_reducible repeat (first | apply Kd.qH | apply Kd.qI | apply Kd.qK)); exact Kd.qa HO362.out (fun _ hk => ⟨hk.2, ⟨hk.1.2.1, ⟨hk.1.1, ⟨hk.1.2.2.1, hk.1.2.2.2⟩⟩⟩⟩)), (by (with_reducible repeat (first | apply Kd.qH | apply Kd.qI | apply Kd.qK)); exact Kd.qa HO365.out (fun _ hk => ⟨hk.1.1.2, ⟨hk.1.1.1.2, ⟨hk.1.1.1.1.2, ⟨hk.1.2, hk.2⟩⟩⟩⟩)), (by (with_reducible repeat (first | apply Kd.qH | apply Kd.qI | apply Kd.qK)); exact Kd.qa HO_13.out (fun _ hk => ⟨hk.1.2, ⟨hk.2, ⟨hk.1.1.1, ⟨hk.1.1.2.1, hk.1.1.2.2⟩⟩⟩⟩)), (by (with_reducible repeat (first | apply Kd.qH | apply Kd.qI | apply Kd.qK)); exact Kd.qa HO_5.out (fun _ hk => ⟨hk.1.2, ⟨hk.2, ⟨hk.1.1.1, ⟨hk.1.1.2.1, hk.1.1.2.2⟩⟩⟩⟩)), (by (with_reducible repeat (first | refine qC ?_ _ | refine qE ?_ | refine qD ?_ _)); exact BK342.out), (by (with_reducible repeat (first | refine qC ?_ _ | refine qE ?_ | refine qD ?_ _)); exact BK350.out), bl⟩)
                 ·skip
                  refine Kd.qcA k29 _ 29 ?hg (N := 41) ?hd (xs := ([(⟨((qB t343 x17_1).f0), ((qB t343 x17_1).f1), ((qB t343 x17_1).f2), ((qB t343 x17_1).f3), ((qB t343 x17_1).f4), ((qB t343 x17_1).f5)⟩ : S29)] : List (S29))) (inner := [.int .i64 ((qB t343 x17_1).f0), .int .i64 ((qB t343 x17_1).f1), .int .i64 ((qB t343 x17_1).f2), .int .i64 ((qB t343 x17_1).f3), .int .i64 ((qB t343 x17_1).f4), .int .i64 ((qB t343 x17_1).f5)]) (ok := fun _ => True) (okp := fun _ => True) ?hr ?hp (fun _ hk => hk) trivial (Below.refl _ _) (Nat.le_refl _) (by simp) ?_; (case hd => rfl); (case hg => rfl); (case hr => first | (go_simp; done) | (go_simp; rfl)); (case hp => exact (Reps.c6 (show Kd.M k29 _ _ _ (⟨((qB t343 x17_1).f0), ((qB t343 x17_1).f1), ((qB t343 x17_1).f2), ((qB t343 x17_1).f3), ((qB t343 x17_1).f4), ((qB t343 x17_1).f5)⟩ : S29) [.int .i64 ((qB t343 x17_1).f0), .int .i64 ((qB t343 x17_1).f1), .int .i64 ((qB t343 x17_1).f2), .int .i64 ((qB t343 x17_1).f3), .int .i64 ((qB t343 x17_1).f4), .int .i64 ((qB t343 x17_1).f5)] from (qdA _ _ _ (⟨((qB t343 x17_1).f0), ((qB t343 x17_1).f1), ((qB t343 x17_1).f2), ((qB t343 x17_1).f3), ((qB t343 x17_1).f4), ((qB t343 x17_1).f5)⟩ : S29) )) (Reps.none _ _)))
                  intro v364 w34 ho35 hb hg_ hnew_
                  clear hg_ hnew_
                  (first | rw [← Ny363.out] at ho35 | (simp only [Int.reduceToNat] at ho35; rw [← Ny363.out] at ho35))
                  have n0_ := Aside0.mk (Kd.qz (by (with_reducible repeat (first | apply Kd.qH | apply Kd.qI | apply Kd.qK)); exact HO_5.out) (Kd.qYA ho35) hb)
                  have n1_ := Aside0.mk (Kd.qz (by (with_reducible repeat (first | apply Kd.qH | apply Kd.qI | apply Kd.qK)); exact HO_13.out) (Kd.qYA ho35) hb)
                  have n2_ := Aside0.mk (Kd.qz (by (with_reducible repeat (first | apply Kd.qH | apply Kd.qI | apply Kd.qK)); exact HO355.out) (Kd.qYA ho35) hb)
                  have n3_ := Aside0.mk (Kd.qLA (Kd.qWA (Kd.qWA (Kd.qXA (Kd.qXA (Kd.qXA ho35 (Kd.R_lt (by (with_reducible repeat (first | apply Kd.qH | apply Kd.qI | apply Kd.qK)); exact HO_5.out))) (Kd.R_lt (by (with_reducible repeat (first | apply Kd.qH | apply Kd.qI | apply Kd.qK)); exact HO_13.out))) (Kd.R_lt (by (with_reducible repeat (first | apply Kd.qH | apply Kd.qI | apply Kd.qK)); exact HO355.out))) (g := gb342) (o := .cells #[.int .i64 a0_0, .int .i64 a0_1, .int .i64 a0_2, .int .i64 a0_3, .int .i64 a0_4, .int .i64 a0_5] 29 (0, 0)) (by (with_reducible repeat (first | refine qC ?_ _ | refine qE ?_ | refine qD ?_ _)); exact BK342.out)) (g := gb350) (o := .cells #[.int .i64 ((qB t343 x17_1).f0), .int .i64 ((qB t343 x17_1).f1), .int .i64 ((qB t343 x17_1).f2), .int .i64 ((qB t343 x17_1).f3), .int .i64 ((qB t343 x17_1).f4), .int .i64 ((qB t343 x17_1).f5)] 29 (0, 0)) (by (with_reducible repeat (first | refine qC ?_ _ | refine qE ?_ | refine qD ?_ _)); exact BK350.out)) (qb bl))
                  have n4_ := Aside0.mk (bb BK342 hb)
                  have n5_ := Aside0.mk (bb BK350 hb)
                  have n6_ := Aside0.mk (Kd.qmA (by repeat (first | (with_reducible exact HR359.out) | (with_reducible refine Kd.qq ?_ _) | (with_reducible refine Kd.qp ?_ _) | (with_reducible refine Kd.qEA ?_) | exact HR359.out)) hb)
                  have n7_ := Aside0.mk (qF bl hb)
                  clear HO_5
                  clear HO_13
                  clear HO355
                  clear BK342
                  clear BK350
                  clear HR359
                  clear HB
                  have HO_5 := n0_
                  have HO_13 := n1_
                  have HO355 := n2_
                  have HO365 := n3_
                  have BK342 := n4_
                  have BK350 := n5_
                  have HR359 := n6_
                  have HB := n7_
                  clear n0_ n1_ n2_ n3_ n4_ n5_ n6_ n7_
                  clear hb ho35
                  refine hK.out _ _ ⟨(qG BK350.out 0).trans rfl, (qG BK350.out 1).trans rfl, (qG BK350.out 2).trans rfl, (qG BK350.out 3).trans rfl, (qG BK350.out 4).trans rfl, (qG BK350.out 5).trans rfl⟩ (fun hHeld => ?_)
                  clear hK K
                  refine norm_ (a' := ?_) ?_ ?_
                  rotate_left
                  ·show Act.put _ (some 41) _ = _
                   simp only [Act.put, List.setIfInBounds_toArray, List.set_cons_zero, List.set_cons_succ, i64_w, i32_w]
                   rfl
                  refine one_ (i := 4) (N := some 39) #[true, true, true, true, true, true, true, false, false] rfl rfl (qsA HT_.out (by kernel_rfl)) (by decide) (fun K hK => ?_)
                  refine Kd.qJA k29 (w0 := w) w.heap.size (by rfl) (.tmp 35) (.tmp 38) 38 29 (.agg #[(.int .i64 0), (.int .i64 0), (.int .i64 0), (.int .i64 0), (.int .i64 0), (.int .i64 0)]) 48 rfl Try.underlying38 info29 rfl (by decide) (by omega) v354 y353 y356 _ _ _ (fun k_ => some k_ ≠ (.slice (some ad351) x5_1.length co28 : Value).ownBlock ∧ some k_ ≠ (.slice (some ad349) t343.length co6 : Value).ownBlock ∧ some k_ ≠ (v364 : Value).ownBlock ∧ k_ ≠ gb342 ∧ k_ ≠ gb350) (fun _ => False) rfl rfl ?aO ?aR (fun _ _ h => h) (fun _ h => h.elim) ?aF ?aB ?aS ?aL ?_
                  (case aR => repeat (first | exact (by repeat (first | (with_reducible exact HR359.out) | (with_reducible refine Kd.qq ?_ _) | (with_reducible refine Kd.qp ?_ _) | (with_reducible refine Kd.qEA ?_) | exact HR359.out)) | (with_reducible refine Kd.qq ?_ _) | (with_reducible refine Kd.qp ?_ _) | (with_reducible refine Kd.qEA ?_)))
                  (case aB => exact bl)
                  (case aF => exact (fun k_ hk => ⟨Kd.fresh' (Kd.R_lt (by (with_reducible repeat (first | apply Kd.qH | apply Kd.qI | apply Kd.qK)); exact HO_5.out)) k_ hk, Kd.fresh' (Kd.R_lt (by (with_reducible repeat (first | apply Kd.qH | apply Kd.qI | apply Kd.qK)); exact HO_13.out)) k_ hk, Kd.fresh' (Kd.R_lt (by (with_reducible repeat (first | apply Kd.qH | apply Kd.qI | apply Kd.qK)); exact HO365.out)) k_ hk, Kd.freshB (g := gb342) (o := .cells #[.int .i64 a0_0, .int .i64 a0_1, .int .i64 a0_2, .int .i64 a0_3, .int .i64 a0_4, .int .i64 a0_5] 29 (0, 0)) (by (with_reducible repeat (first | refine qC ?_ _ | refine qE ?_ | refine qD ?_ _)); exact BK342.out) k_ hk, Kd.freshB (g := gb350) (o := .cells #[.int .i64 ((qB t343 x17_1).f0), .int .i64 ((qB t343 x17_1).f1), .int .i64 ((qB t343 x17_1).f2), .int .i64 ((qB t343 x17_1).f3), .int .i64 ((qB t343 x17_1).f4), .int .i64 ((qB t343 x17_1).f5)] 29 (0, 0)) (by (with_reducible repeat (first | refine qC ?_ _ | refine qE ?_ | refine qD ?_ _)); exact BK350.out) k_ hk⟩))
                  (case aO => exact (by (with_reducible repeat (first | apply Kd.qH | apply Kd.qI | apply Kd.qK)); exact Kd.qa HO355.out (fun _ hk => ⟨hk.1.1.1.1.2, ⟨hk.1.1.1.2, ⟨hk.2, ⟨hk.1.1.2, hk.1.2⟩⟩⟩⟩)))
                  (case aS => exact (qb bl))
                  (case aL => have := LMc22.out; omega)
                  intro v361 w36 ho hb hg hat
                  rw [← Ny360.out] at ho
                  have n0_ := Aside0.mk (Kd.qy (ok := (fun k_ => some k_ ≠ (.slice (some ad349) t343.length co6 : Value).ownBlock ∧ some k_ ≠ (v364 : Value).ownBlock ∧ k_ ≠ gb342 ∧ k_ ≠ gb350)) (by (with_reducible repeat (first | apply Kd.qH | apply Kd.qI | apply Kd.qK)); exact Kd.qa HO_5.out (fun _ hk => ⟨⟨hk.1.1.1, ⟨hk.2, ⟨hk.1.1.2.1, hk.1.1.2.2⟩⟩⟩, hk.1.2⟩)) hg hat)
                  have n1_ := Aside0.mk (Kd.qy (ok := (fun k_ => some k_ ≠ (.slice (some ad351) x5_1.length co28 : Value).ownBlock ∧ some k_ ≠ (v364 : Value).ownBlock ∧ k_ ≠ gb342 ∧ k_ ≠ gb350)) (by (with_reducible repeat (first | apply Kd.qH | apply Kd.qI | apply Kd.qK)); exact Kd.qa HO_13.out (fun _ hk => ⟨⟨hk.1.1.1, ⟨hk.2, ⟨hk.1.1.2.1, hk.1.1.2.2⟩⟩⟩, hk.1.2⟩)) hg hat)
                  have n2_ := Aside0.mk (qv (g := gb342) (o := .cells #[.int .i64 a0_0, .int .i64 a0_1, .int .i64 a0_2, .int .i64 a0_3, .int .i64 a0_4, .int .i64 a0_5] 29 (0, 0)) (by (with_reducible repeat (first | refine qC ?_ _ | refine qE ?_ | refine qD ?_ _)); exact BK342.out) hg (Kd.qhA HO355.out (fun _ hk => hk.1.1.2)))
                  have n3_ := Aside0.mk (qv (g := gb350) (o := .cells #[.int .i64 ((qB t343 x17_1).f0), .int .i64 ((qB t343 x17_1).f1), .int .i64 ((qB t343 x17_1).f2), .int .i64 ((qB t343 x17_1).f3), .int .i64 ((qB t343 x17_1).f4), .int .i64 ((qB t343 x17_1).f5)] 29 (0, 0)) (by (with_reducible repeat (first | refine qC ?_ _ | refine qE ?_ | refine qD ?_ _)); exact BK350.out) hg (Kd.qhA HO355.out (fun _ hk => hk.1.2)))
                  have n4_ := Aside0.mk (Kd.qy (ok := (fun k_ => some k_ ≠ (.slice (some ad351) x5_1.length co28 : Value).ownBlock ∧ some k_ ≠ (.slice (some ad349) t343.length co6 : Value).ownBlock ∧ k_ ≠ gb342 ∧ k_ ≠ gb350)) (by (with_reducible repeat (first | apply Kd.qH | apply Kd.qI | apply Kd.qK)); exact Kd.qa HO365.out (fun _ hk => ⟨⟨hk.1.1.1.1.2, ⟨hk.1.1.1.2, ⟨hk.1.2, hk.2⟩⟩⟩, hk.1.1.2⟩)) hg hat)
                  have n5_ := Aside0.mk (hb)
                  have n6_ := Aside0.mk ((show Kd.C k29 w36 (some ad351) y356.length y356 from by rw [Ny356.out]; exact Kd.qkB (m := (x8_2 : Int).toNat) ((Kd.qT (Kd.qy (ok := (fun k_ => some k_ ≠ (.slice (some ad349) t343.length co6 : Value).ownBlock ∧ some k_ ≠ (v364 : Value).ownBlock ∧ k_ ≠ gb342 ∧ k_ ≠ gb350)) (by (with_reducible repeat (first | apply Kd.qH | apply Kd.qI | apply Kd.qK)); exact Kd.qa HO_5.out (fun _ hk => ⟨⟨hk.1.1.1, ⟨hk.2, ⟨hk.1.1.2.1, hk.1.1.2.2⟩⟩⟩, hk.1.2⟩)) hg hat)).2.2) KL31.out))
                  have n7_ := Aside0.mk (ho)
                  clear HO_5
                  clear HO_13
                  clear BK342
                  clear BK350
                  clear HO365
                  clear HB
                  clear HR359
                  clear HO355
                  have HO_5 := n0_
                  have HO_13 := n1_
                  have BK342 := n2_
                  have BK350 := n3_
                  have HO365 := n4_
                  have HB := n5_
                  have HR359 := n6_
                  have HO362 := n7_
                  clear n0_ n1_ n2_ n3_ n4_ n5_ n6_ n7_
                  clear ho hb hg hat
                  refine hK.out _ _ ⟨(qG BK350.out 0).trans rfl, (qG BK350.out 1).trans rfl, (qG BK350.out 2).trans rfl, (qG BK350.out 3).trans rfl, (qG BK350.out 4).trans rfl, (qG BK350.out 5).trans rfl⟩ (fun hHeld => ?_)
                  clear hK K
                  refine norm_ (a' := ?_) ?_ ?_
                  rotate_left
                  ·show Act.put _ (some 39) _ = _
                   simp only [Act.put, List.setIfInBounds_toArray, List.set_cons_zero, List.set_cons_succ, i64_w, i32_w]
                   rfl
                  exact norm_ (by simp only [putAll, Act.put, List.setIfInBounds_toArray, List.set_cons_zero, List.set_cons_succ]) (hCont (v354, v361, v364) _ ⟨hHeld, (by (with_reducible repeat (first | apply Kd.qH | apply Kd.qI | apply Kd.qK)); exact Kd.qa HO362.out (fun _ hk => ⟨hk.2.2.1, ⟨hk.2.1, ⟨hk.1, ⟨hk.2.2.2.1, hk.2.2.2.2⟩⟩⟩⟩)), (by (with_reducible repeat (first | apply Kd.qH | apply Kd.qI | apply Kd.qK)); exact Kd.qa HO365.out (fun _ hk => ⟨hk.2, ⟨hk.1.2.1, ⟨hk.1.1, ⟨hk.1.2.2.1, hk.1.2.2.2⟩⟩⟩⟩)), (by (with_reducible repeat (first | apply Kd.qH | apply Kd.qI | apply Kd.qK)); exact Kd.qa HO_13.out (fun _ hk => ⟨hk.2, ⟨hk.1.2.1, ⟨hk.1.1, ⟨hk.1.2.2.1, hk.1.2.2.2⟩⟩⟩⟩)), (by (with_reducible repeat (first | apply Kd.qH | apply Kd.qI | apply Kd.qK)); exact Kd.qa HO_5.out (fun _ hk => ⟨hk.2, ⟨hk.1.2.1, ⟨hk.1.1, ⟨hk.1.2.2.1, hk.1.2.2.2⟩⟩⟩⟩)), (by (with_reducible repeat (first | refine qC ?_ _ | refine qE ?_ | refine qD ?_ _)); exact BK342.out), (by (with_reducible repeat (first | refine qC ?_ _ | refine qE ?_ | refine qD ?_ _)); exact BK350.out), bl⟩)
                ·skip
                 refine Kd.qcA k29 _ 29 ?hg (N := 41) ?hd (xs := ([(⟨((qB t343 x17_1).f0), ((qB t343 x17_1).f1), ((qB t343 x17_1).f2), ((qB t343 x17_1).f3), ((qB t343 x17_1).f4), ((qB t343 x17_1).f5)⟩ : S29)] : List (S29))) (inner := [.int .i64 ((qB t343 x17_1).f0), .int .i64 ((qB t343 x17_1).f1), .int .i64 ((qB t343 x17_1).f2), .int .i64 ((qB t343 x17_1).f3), .int .i64 ((qB t343 x17_1).f4), .int .i64 ((qB t343 x17_1).f5)]) (ok := fun _ => True) (okp := fun _ => True) ?hr ?hp (fun _ hk => hk) trivial (Below.refl _ _) (Nat.le_refl _) (by simp) ?_; (case hd => rfl); (case hg => rfl); (case hr => first | (go_simp; done) | (go_simp; rfl)); (case hp => exact (Reps.c6 (show Kd.M k29 _ _ _ (⟨((qB t343 x17_1).f0), ((qB t343 x17_1).f1), ((qB t343 x17_1).f2), ((qB t343 x17_1).f3), ((qB t343 x17_1).f4), ((qB t343 x17_1).f5)⟩ : S29) [.int .i64 ((qB t343 x17_1).f0), .int .i64 ((qB t343 x17_1).f1), .int .i64 ((qB t343 x17_1).f2), .int .i64 ((qB t343 x17_1).f3), .int .i64 ((qB t343 x17_1).f4), .int .i64 ((qB t343 x17_1).f5)] from (qdA _ _ _ (⟨((qB t343 x17_1).f0), ((qB t343 x17_1).f1), ((qB t343 x17_1).f2), ((qB t343 x17_1).f3), ((qB t343 x17_1).f4), ((qB t343 x17_1).f5)⟩ : S29) )) (Reps.none _ _)))
                 intro v364 w32 ho33 hb hg_ hnew_
                 clear hg_ hnew_
                 (first | rw [← Ny363.out] at ho33 | (simp only [Int.reduceToNat] at ho33; rw [← Ny363.out] at ho33))
                 have n0_ := Aside0.mk (Kd.qz (by (with_reducible repeat (first | apply Kd.qH | apply Kd.qI | apply Kd.qK)); exact HO_5.out) (Kd.qYA ho33) hb)
                 have n1_ := Aside0.mk (Kd.qz (by (with_reducible repeat (first | apply Kd.qH | apply Kd.qI | apply Kd.qK)); exact HO_13.out) (Kd.qYA ho33) hb)
                 have n2_ := Aside0.mk (Kd.qLA (Kd.qWA (Kd.qWA (Kd.qXA (Kd.qXA ho33 (Kd.R_lt (by (with_reducible repeat (first | apply Kd.qH | apply Kd.qI | apply Kd.qK)); exact HO_5.out))) (Kd.R_lt (by (with_reducible repeat (first | apply Kd.qH | apply Kd.qI | apply Kd.qK)); exact HO_13.out))) (g := gb342) (o := .cells #[.int .i64 a0_0, .int .i64 a0_1, .int .i64 a0_2, .int .i64 a0_3, .int .i64 a0_4, .int .i64 a0_5] 29 (0, 0)) (by (with_reducible repeat (first | refine qC ?_ _ | refine qE ?_ | refine qD ?_ _)); exact BK342.out)) (g := gb350) (o := .cells #[.int .i64 ((qB t343 x17_1).f0), .int .i64 ((qB t343 x17_1).f1), .int .i64 ((qB t343 x17_1).f2), .int .i64 ((qB t343 x17_1).f3), .int .i64 ((qB t343 x17_1).f4), .int .i64 ((qB t343 x17_1).f5)] 29 (0, 0)) (by (with_reducible repeat (first | refine qC ?_ _ | refine qE ?_ | refine qD ?_ _)); exact BK350.out)) (qb bl))
                 have n3_ := Aside0.mk (bb BK342 hb)
                 have n4_ := Aside0.mk (bb BK350 hb)
                 have n5_ := Aside0.mk (Kd.qmA (by repeat (first | (with_reducible exact HR359.out) | (with_reducible refine Kd.qq ?_ _) | (with_reducible refine Kd.qp ?_ _) | (with_reducible refine Kd.qEA ?_) | exact HR359.out)) hb)
                 have n6_ := Aside0.mk (qF bl hb)
                 clear HO_5
                 clear HO_13
                 clear BK342
                 clear BK350
                 clear HR359
                 clear HB
                 have HO_5 := n0_
                 have HO_13 := n1_
                 have HO365 := n2_
                 have BK342 := n3_
                 have BK350 := n4_
                 have HR359 := n5_
                 have HB := n6_
                 clear n0_ n1_ n2_ n3_ n4_ n5_ n6_
                 clear hb ho33
                 refine hK.out _ _ ⟨(qG BK350.out 0).trans rfl, (qG BK350.out 1).trans rfl, (qG BK350.out 2).trans rfl, (qG BK350.out 3).trans rfl, (qG BK350.out 4).trans rfl, (qG BK350.out 5).trans rfl⟩ (fun hHeld => ?_)
                 clear hK K
                 refine norm_ (a' := ?_) ?_ ?_
                 rotate_left
                 ·show Act.put _ (some 41) _ = _
                  simp only [Act.put, List.setIfInBounds_toArray, List.set_cons_zero, List.set_cons_succ, i64_w, i32_w]
                  rfl
                 refine one_ (i := 0) (N := some 35) #[true, true, true, true, false, true, true, false, false] rfl rfl (qsA HT_.out (by kernel_rfl)) (by decide) (fun K hK => ?_)
                 refine Kd.qcA k29 _ 29 ?hg (N := 35) ?hd (xs := ([] : List (S29))) (inner := []) (ok := fun _ => True) (okp := fun _ => True) ?hr ?hp (fun _ hk => hk) trivial (Below.refl _ _) (Nat.le_refl _) (by simp) ?_; (case hd => rfl); (case hg => rfl); (case hr => first | (go_simp; done) | (go_simp; rfl)); (case hp => exact (Reps.none _ _))
                 intro v354 w34 ho35 hb hg_ hnew_
                 clear hg_ hnew_
                 (first | rw [← Ny353.out] at ho35 | (simp only [Int.reduceToNat] at ho35; rw [← Ny353.out] at ho35))
                 have n0_ := Aside0.mk (Kd.qz (by (with_reducible repeat (first | apply Kd.qH | apply Kd.qI | apply Kd.qK)); exact HO_5.out) (Kd.qYA ho35) hb)
                 have n1_ := Aside0.mk (Kd.qz (by (with_reducible repeat (first | apply Kd.qH | apply Kd.qI | apply Kd.qK)); exact HO_13.out) (Kd.qYA ho35) hb)
                 have n2_ := Aside0.mk (Kd.qz (by (with_reducible repeat (first | apply Kd.qH | apply Kd.qI | apply Kd.qK)); exact HO365.out) (Kd.qYA ho35) hb)
                 have n3_ := Aside0.mk (Kd.qLA (Kd.qWA (Kd.qWA (Kd.qXA (Kd.qXA (Kd.qXA ho35 (Kd.R_lt (by (with_reducible repeat (first | apply Kd.qH | apply Kd.qI | apply Kd.qK)); exact HO_5.out))) (Kd.R_lt (by (with_reducible repeat (first | apply Kd.qH | apply Kd.qI | apply Kd.qK)); exact HO_13.out))) (Kd.R_lt (by (with_reducible repeat (first | apply Kd.qH | apply Kd.qI | apply Kd.qK)); exact HO365.out))) (g := gb342) (o := .cells #[.int .i64 a0_0, .int .i64 a0_1, .int .i64 a0_2, .int .i64 a0_3, .int .i64 a0_4, .int .i64 a0_5] 29 (0, 0)) (by (with_reducible repeat (first | refine qC ?_ _ | refine qE ?_ | refine qD ?_ _)); exact BK342.out)) (g := gb350) (o := .cells #[.int .i64 ((qB t343 x17_1).f0), .int .i64 ((qB t343 x17_1).f1), .int .i64 ((qB t343 x17_1).f2), .int .i64 ((qB t343 x17_1).f3), .int .i64 ((qB t343 x17_1).f4), .int .i64 ((qB t343 x17_1).f5)] 29 (0, 0)) (by (with_reducible repeat (first | refine qC ?_ _ | refine qE ?_ | refine qD ?_ _)); exact BK350.out)) (qb bl))
                 have n4_ := Aside0.mk (bb BK342 hb)
                 have n5_ := Aside0.mk (bb BK350 hb)
                 have n6_ := Aside0.mk (Kd.qmA (by repeat (first | (with_reducible exact HR359.out) | (with_reducible refine Kd.qq ?_ _) | (with_reducible refine Kd.qp ?_ _) | (with_reducible refine Kd.qEA ?_) | exact HR359.out)) hb)
                 have n7_ := Aside0.mk (qF bl hb)
                 clear HO_5
                 clear HO_13
                 clear HO365
                 clear BK342
                 clear BK350
                 clear HR359
                 clear HB
                 have HO_5 := n0_
                 have HO_13 := n1_
                 have HO365 := n2_
                 have HO355 := n3_
                 have BK342 := n4_
                 have BK350 := n5_
                 have HR359 := n6_
                 have HB := n7_
                 clear n0_ n1_ n2_ n3_ n4_ n5_ n6_ n7_
                 clear hb ho35
                 refine hK.out _ _ ⟨(qG BK350.out 0).trans rfl, (qG BK350.out 1).trans rfl, (qG BK350.out 2).trans rfl, (qG BK350.out 3).trans rfl, (qG BK350.out 4).trans rfl, (qG BK350.out 5).trans rfl⟩ (fun hHeld => ?_)
                 clear hK K
                 refine norm_ (a' := ?_) ?_ ?_
                 rotate_left
                 ·show Act.put _ (some 35) _ = _
                  simp only [Act.put, List.setIfInBounds_toArray, List.set_cons_zero, List.set_cons_succ, i64_w, i32_w]
                  rfl
                 refine one_ (i := 4) (N := some 39) #[true, true, true, true, true, true, true, false, false] rfl rfl (qsA HT_.out (by kernel_rfl)) (by decide) (fun K hK => ?_)
                 refine Kd.qJA k29 (w0 := w) w.heap.size (by rfl) (.tmp 35) (.tmp 38) 38 29 (.agg #[(.int .i64 0), (.int .i64 0), (.int .i64 0), (.int .i64 0), (.int .i64 0), (.int .i64 0)]) 48 rfl Try.underlying38 info29 rfl (by decide) (by omega) v354 y353 y356 _ _ _ (fun k_ => some k_ ≠ (.slice (some ad351) x5_1.length co28 : Value).ownBlock ∧ some k_ ≠ (.slice (some ad349) t343.length co6 : Value).ownBlock ∧ some k_ ≠ (v364 : Value).ownBlock ∧ k_ ≠ gb342 ∧ k_ ≠ gb350) (fun _ => False) rfl rfl ?aO ?aR (fun _ _ h => h) (fun _ h => h.elim) ?aF ?aB ?aS ?aL ?_
                 (case aR => repeat (first | exact (by repeat (first | (with_reducible exact HR359.out) | (with_reducible refine Kd.qq ?_ _) | (with_reducible refine Kd.qp ?_ _) | (with_reducible refine Kd.qEA ?_) | exact HR359.out)) | (with_reducible refine Kd.qq ?_ _) | (with_reducible refine Kd.qp ?_ _) | (with_reducible refine Kd.qEA ?_)))
                 (case aB => exact bl)
                 (case aF => exact (fun k_ hk => ⟨Kd.fresh' (Kd.R_lt (by (with_reducible repeat (first | apply Kd.qH | apply Kd.qI | apply Kd.qK)); exact HO_5.out)) k_ hk, Kd.fresh' (Kd.R_lt (by (with_reducible repeat (first | apply Kd.qH | apply Kd.qI | apply Kd.qK)); exact HO_13.out)) k_ hk, Kd.fresh' (Kd.R_lt (by (with_reducible repeat (first | apply Kd.qH | apply Kd.qI | apply Kd.qK)); exact HO365.out)) k_ hk, Kd.freshB (g := gb342) (o := .cells #[.int .i64 a0_0, .int .i64 a0_1, .int .i64 a0_2, .int .i64 a0_3, .int .i64 a0_4, .int .i64 a0_5] 29 (0, 0)) (by (with_reducible repeat (first | refine qC ?_ _ | refine qE ?_ | refine qD ?_ _)); exact BK342.out) k_ hk, Kd.freshB (g := gb350) (o := .cells #[.int .i64 ((qB t343 x17_1).f0), .int .i64 ((qB t343 x17_1).f1), .int .i64 ((qB t343 x17_1).f2), .int .i64 ((qB t343 x17_1).f3), .int .i64 ((qB t343 x17_1).f4), .int .i64 ((qB t343 x17_1).f5)] 29 (0, 0)) (by (with_reducible repeat (first | refine qC ?_ _ | refine qE ?_ | refine qD ?_ _)); exact BK350.out) k_ hk⟩))
                 (case aO => exact (by (with_reducible repeat (first | apply Kd.qH | apply Kd.qI | apply Kd.qK)); exact Kd.qa HO355.out (fun _ hk => ⟨hk.1.1.1.1.2, ⟨hk.1.1.1.2, ⟨hk.1.1.2, ⟨hk.1.2, hk.2⟩⟩⟩⟩)))
                 (case aS => exact (qb bl))
                 (case aL => have := LMc22.out; omega)
                 intro v361 w36 ho hb hg hat
                 rw [← Ny360.out] at ho
                 have n0_ := Aside0.mk (Kd.qy (ok := (fun k_ => some k_ ≠ (.slice (some ad349) t343.length co6 : Value).ownBlock ∧ some k_ ≠ (v364 : Value).ownBlock ∧ k_ ≠ gb342 ∧ k_ ≠ gb350)) (by (with_reducible repeat (first | apply Kd.qH | apply Kd.qI | apply Kd.qK)); exact Kd.qa HO_5.out (fun _ hk => ⟨⟨hk.1.1.1, ⟨hk.1.2, ⟨hk.1.1.2.1, hk.1.1.2.2⟩⟩⟩, hk.2⟩)) hg hat)
                 have n1_ := Aside0.mk (Kd.qy (ok := (fun k_ => some k_ ≠ (.slice (some ad351) x5_1.length co28 : Value).ownBlock ∧ some k_ ≠ (v364 : Value).ownBlock ∧ k_ ≠ gb342 ∧ k_ ≠ gb350)) (by (with_reducible repeat (first | apply Kd.qH | apply Kd.qI | apply Kd.qK)); exact Kd.qa HO_13.out (fun _ hk => ⟨⟨hk.1.1.1, ⟨hk.1.2, ⟨hk.1.1.2.1, hk.1.1.2.2⟩⟩⟩, hk.2⟩)) hg hat)
                 have n2_ := Aside0.mk (qv (g := gb342) (o := .cells #[.int .i64 a0_0, .int .i64 a0_1, .int .i64 a0_2, .int .i64 a0_3, .int .i64 a0_4, .int .i64 a0_5] 29 (0, 0)) (by (with_reducible repeat (first | refine qC ?_ _ | refine qE ?_ | refine qD ?_ _)); exact BK342.out) hg (Kd.qhA HO355.out (fun _ hk => hk.1.2)))
                 have n3_ := Aside0.mk (qv (g := gb350) (o := .cells #[.int .i64 ((qB t343 x17_1).f0), .int .i64 ((qB t343 x17_1).f1), .int .i64 ((qB t343 x17_1).f2), .int .i64 ((qB t343 x17_1).f3), .int .i64 ((qB t343 x17_1).f4), .int .i64 ((qB t343 x17_1).f5)] 29 (0, 0)) (by (with_reducible repeat (first | refine qC ?_ _ | refine qE ?_ | refine qD ?_ _)); exact BK350.out) hg (Kd.qhA HO355.out (fun _ hk => hk.2)))
                 have n4_ := Aside0.mk (Kd.qy (ok := (fun k_ => some k_ ≠ (.slice (some ad351) x5_1.length co28 : Value).ownBlock ∧ some k_ ≠ (.slice (some ad349) t343.length co6 : Value).ownBlock ∧ k_ ≠ gb342 ∧ k_ ≠ gb350)) (by (with_reducible repeat (first | apply Kd.qH | apply Kd.qI | apply Kd.qK)); exact Kd.qa HO365.out (fun _ hk => ⟨⟨hk.1.1.1.1.2, ⟨hk.1.1.1.2, ⟨hk.1.1.2, hk.1.2⟩⟩⟩, hk.2⟩)) hg hat)
                 have n5_ := Aside0.mk (hb)
                 have n6_ := Aside0.mk ((show Kd.C k29 w36 (some ad351) y356.length y356 from by rw [Ny356.out]; exact Kd.qkB (m := (x8_2 : Int).toNat) ((Kd.qT (Kd.qy (ok := (fun k_ => some k_ ≠ (.slice (some ad349) t343.length co6 : Value).ownBlock ∧ some k_ ≠ (v364 : Value).ownBlock ∧ k_ ≠ gb342 ∧ k_ ≠ gb350)) (by (with_reducible repeat (first | apply Kd.qH | apply Kd.qI | apply Kd.qK)); exact Kd.qa HO_5.out (fun _ hk => ⟨⟨hk.1.1.1, ⟨hk.1.2, ⟨hk.1.1.2.1, hk.1.1.2.2⟩⟩⟩, hk.2⟩)) hg hat)).2.2) KL31.out))
                 have n7_ := Aside0.mk (ho)
                 clear HO_5
                 clear HO_13
                 clear BK342
                 clear BK350
                 clear HO365
                 clear HB
                 clear HR359
                 clear HO355
                 have HO_5 := n0_
                 have HO_13 := n1_
                 have BK342 := n2_
                 have BK350 := n3_
                 have HO365 := n4_
                 have HB := n5_
                 have HR359 := n6_
                 have HO362 := n7_
                 clear n0_ n1_ n2_ n3_ n4_ n5_ n6_ n7_
                 clear ho hb hg hat
                 refine hK.out _ _ ⟨(qG BK350.out 0).trans rfl, (qG BK350.out 1).trans rfl, (qG BK350.out 2).trans rfl, (qG BK350.out 3).trans rfl, (qG BK350.out 4).trans rfl, (qG BK350.out 5).trans rfl⟩ (fun hHeld => ?_)
                 clear hK K
                 refine norm_ (a' := ?_) ?_ ?_
                 rotate_left
                 ·show Act.put _ (some 39) _ = _
                  simp only [Act.put, List.setIfInBounds_toArray, List.set_cons_zero, List.set_cons_succ, i64_w, i32_w]
                  rfl
                 exact norm_ (by simp only [putAll, Act.put, List.setIfInBounds_toArray, List.set_cons_zero, List.set_cons_succ]) (hCont (v354, v361, v364) _ ⟨hHeld, (by (with_reducible repeat (first | apply Kd.qH | apply Kd.qI | apply Kd.qK)); exact Kd.qa HO362.out (fun _ hk => ⟨hk.2.2.1, ⟨hk.2.1, ⟨hk.1, ⟨hk.2.2.2.1, hk.2.2.2.2⟩⟩⟩⟩)), (by (with_reducible repeat (first | apply Kd.qH | apply Kd.qI | apply Kd.qK)); exact Kd.qa HO365.out (fun _ hk => ⟨hk.2, ⟨hk.1.2.1, ⟨hk.1.1, ⟨hk.1.2.2.1, hk.1.2.2.2⟩⟩⟩⟩)), (by (with_reducible repeat (first | apply Kd.qH | apply Kd.qI | apply Kd.qK)); exact Kd.qa HO_13.out (fun _ hk => ⟨hk.2, ⟨hk.1.2.1, ⟨hk.1.1, ⟨hk.1.2.2.1, hk.1.2.2.2⟩⟩⟩⟩)), (by (with_reducible repeat (first | apply Kd.qH | apply Kd.qI | apply Kd.qK)); exact Kd.qa HO_5.out (fun _ hk => ⟨hk.2, ⟨hk.1.2.1, ⟨hk.1.1, ⟨hk.1.2.2.1, hk.1.2.2.2⟩⟩⟩⟩)), (by (with_reducible repeat (first | refine qC ?_ _ | refine qE ?_ | refine qD ?_ _)); exact BK342.out), (by (with_reducible repeat (first | refine qC ?_ _ | refine qE ?_ | refine qD ?_ _)); exact BK350.out), bl⟩)
               rintro ⟨v354, v361, v364⟩ w37 ⟨hS_, h0_, h1_, h2_, h3_, h4_, h5_, h6_⟩
               have n0_ : Aside0 (Kd.R k29 29 w37 w.heap.size (fun k_ => some k_ ≠ (v364 : Value).ownBlock ∧ some k_ ≠ (.slice (some ad349) t343.length co6 : Value).ownBlock ∧ some k_ ≠ (.slice (some ad351) x5_1.length co28 : Value).ownBlock ∧ k_ ≠ gb342 ∧ k_ ≠ gb350) v361 y360) := ⟨h0_⟩
               have n1_ : Aside0 (Kd.R k29 29 w37 w.heap.size (fun k_ => some k_ ≠ (v361 : Value).ownBlock ∧ some k_ ≠ (.slice (some ad349) t343.length co6 : Value).ownBlock ∧ some k_ ≠ (.slice (some ad351) x5_1.length co28 : Value).ownBlock ∧ k_ ≠ gb342 ∧ k_ ≠ gb350) v364 y363) := ⟨h1_⟩
               have n2_ : Aside0 (Kd.R k29 29 w37 w.heap.size (fun k_ => some k_ ≠ (v361 : Value).ownBlock ∧ some k_ ≠ (v364 : Value).ownBlock ∧ some k_ ≠ (.slice (some ad351) x5_1.length co28 : Value).ownBlock ∧ k_ ≠ gb342 ∧ k_ ≠ gb350) (.slice (some ad349) t343.length co6) t343) := ⟨h2_⟩
               have n3_ : Aside0 (Kd.R k29 29 w37 w.heap.size (fun k_ => some k_ ≠ (v361 : Value).ownBlock ∧ some k_ ≠ (v364 : Value).ownBlock ∧ some k_ ≠ (.slice (some ad349) t343.length co6 : Value).ownBlock ∧ k_ ≠ gb342 ∧ k_ ≠ gb350) (.slice (some ad351) x5_1.length co28) x5_1) := ⟨h3_⟩
               have n4_ : Aside0 (w37.heap[gb342]? = some (.cells #[.int .i64 a0_0, .int .i64 a0_1, .int .i64 a0_2, .int .i64 a0_3, .int .i64 a0_4, .int .i64 a0_5] 29 (0, 0))) := ⟨h4_⟩
               have n5_ : Aside0 (w37.heap[gb350]? = some (.cells #[.int .i64 ((qB t343 x17_1).f0), .int .i64 ((qB t343 x17_1).f1), .int .i64 ((qB t343 x17_1).f2), .int .i64 ((qB t343 x17_1).f3), .int .i64 ((qB t343 x17_1).f4), .int .i64 ((qB t343 x17_1).f5)] 29 (0, 0))) := ⟨h5_⟩
               have n6_ : Aside0 (Below w.heap.size w w37) := ⟨h6_⟩
               clear HO_5
               clear HO_13
               clear BK342
               clear BK350
               clear HB
               clear h0_ h1_ h2_ h3_ h4_ h5_ h6_
               have HO362 := n0_
               have HO365 := n1_
               have HO_13 := n2_
               have HO_5 := n3_
               have BK342 := n4_
               have BK350 := n5_
               have HB := n6_
               clear n0_ n1_ n2_ n3_ n4_ n5_ n6_
               have hHeld : w37.cell? ⟨gb350, 0, none⟩ = some (.int .i64 ((qB t343 x17_1).f0)) ∧ w37.cell? ⟨gb350, 1, none⟩ = some (.int .i64 ((qB t343 x17_1).f1)) ∧ w37.cell? ⟨gb350, 2, none⟩ = some (.int .i64 ((qB t343 x17_1).f2)) ∧ w37.cell? ⟨gb350, 3, none⟩ = some (.int .i64 ((qB t343 x17_1).f3)) ∧ w37.cell? ⟨gb350, 4, none⟩ = some (.int .i64 ((qB t343 x17_1).f4)) ∧ w37.cell? ⟨gb350, 5, none⟩ = some (.int .i64 ((qB t343 x17_1).f5)) := hS_
               obtain ⟨Ao39, co39, eo39⟩ := Kd.qHA HO365.out
               (first | subst eo39 | (injection eo39 with f1_ f2_ f3_; have f4_ := f1_.symm; have f5_ := f3_.symm; clear f1_ f2_ f3_; subst f4_; subst f5_))
               refine norm_ (a' := ?_) ?_ ?_
               rotate_left
               ·simp only [putAll, Act.put, List.setIfInBounds_toArray, List.set_cons_zero, List.set_cons_succ]
                rfl
               refine one_ (i := 7) (N := some 42) #[true, true, true, true, true, true, true, true, false] rfl rfl (qsA HT_.out (by kernel_rfl)) (by decide) (fun K hK => ?_)
               refine Kd.qJA k29 (w0 := w) w.heap.size (by rfl) (.tmp 39) (.tmp 41) 38 29 (.agg #[(.int .i64 0), (.int .i64 0), (.int .i64 0), (.int .i64 0), (.int .i64 0), (.int .i64 0)]) 48 rfl Try.underlying38 info29 rfl (by decide) (by omega) v361 y360 y363 _ _ _ (fun k_ => some k_ ≠ (.slice (some ad351) x5_1.length co28 : Value).ownBlock ∧ some k_ ≠ (.slice (some ad349) t343.length co6 : Value).ownBlock ∧ some k_ ≠ (.slice Ao39 y363.length co39 : Value).ownBlock ∧ k_ ≠ gb342 ∧ k_ ≠ gb350) (fun _ => False) rfl rfl ?aO ?aR (fun _ _ h => h) (fun _ h => h.elim) ?aF ?aB ?aS ?aL ?_
               (case aR => repeat (first | exact (Kd.qT HO365.out).2.2 | (with_reducible refine Kd.qq ?_ _) | (with_reducible refine Kd.qp ?_ _) | (with_reducible refine Kd.qEA ?_)))
               (case aB => exact bl)
               (case aF => exact (fun k_ hk => ⟨Kd.fresh' (Kd.R_lt (by (with_reducible repeat (first | apply Kd.qH | apply Kd.qI | apply Kd.qK)); exact HO_5.out)) k_ hk, Kd.fresh' (Kd.R_lt (by (with_reducible repeat (first | apply Kd.qH | apply Kd.qI | apply Kd.qK)); exact HO_13.out)) k_ hk, Kd.fresh' (Kd.R_lt (by (with_reducible repeat (first | apply Kd.qH | apply Kd.qI | apply Kd.qK)); exact HO365.out)) k_ hk, Kd.freshB (g := gb342) (o := .cells #[.int .i64 a0_0, .int .i64 a0_1, .int .i64 a0_2, .int .i64 a0_3, .int .i64 a0_4, .int .i64 a0_5] 29 (0, 0)) (by (with_reducible repeat (first | refine qC ?_ _ | refine qE ?_ | refine qD ?_ _)); exact BK342.out) k_ hk, Kd.freshB (g := gb350) (o := .cells #[.int .i64 ((qB t343 x17_1).f0), .int .i64 ((qB t343 x17_1).f1), .int .i64 ((qB t343 x17_1).f2), .int .i64 ((qB t343 x17_1).f3), .int .i64 ((qB t343 x17_1).f4), .int .i64 ((qB t343 x17_1).f5)] 29 (0, 0)) (by (with_reducible repeat (first | refine qC ?_ _ | refine qE ?_ | refine qD ?_ _)); exact BK350.out) k_ hk⟩))
               (case aO => exact (by (with_reducible repeat (first | apply Kd.qH | apply Kd.qI | apply Kd.qK)); exact Kd.qa HO362.out (fun _ hk => ⟨hk.2.2.1, ⟨hk.2.1, ⟨hk.1, ⟨hk.2.2.2.1, hk.2.2.2.2⟩⟩⟩⟩)))
               (case aS => exact (qb bl))
               (case aL => have := LMc23.out; omega)
               intro v367 w38 ho hb hg hat
               rw [← Ny366.out] at ho
               have n0_ := Aside0.mk (Kd.qy (ok := (fun k_ => some k_ ≠ (.slice (some ad349) t343.length co6 : Value).ownBlock ∧ some k_ ≠ (.slice Ao39 y363.length co39 : Value).ownBlock ∧ k_ ≠ gb342 ∧ k_ ≠ gb350)) (by (with_reducible repeat (first | apply Kd.qH | apply Kd.qI | apply Kd.qK)); exact Kd.qa HO_5.out (fun _ hk => ⟨⟨hk.2.2.1, ⟨hk.2.1, ⟨hk.2.2.2.1, hk.2.2.2.2⟩⟩⟩, hk.1⟩)) hg hat)
               have n1_ := Aside0.mk (Kd.qy (ok := (fun k_ => some k_ ≠ (.slice (some ad351) x5_1.length co28 : Value).ownBlock ∧ some k_ ≠ (.slice Ao39 y363.length co39 : Value).ownBlock ∧ k_ ≠ gb342 ∧ k_ ≠ gb350)) (by (with_reducible repeat (first | apply Kd.qH | apply Kd.qI | apply Kd.qK)); exact Kd.qa HO_13.out (fun _ hk => ⟨⟨hk.2.2.1, ⟨hk.2.1, ⟨hk.2.2.2.1, hk.2.2.2.2⟩⟩⟩, hk.1⟩)) hg hat)
               have n2_ := Aside0.mk (qv (g := gb342) (o := .cells #[.int .i64 a0_0, .int .i64 a0_1, .int .i64 a0_2, .int .i64 a0_3, .int .i64 a0_4, .int .i64 a0_5] 29 (0, 0)) (by (with_reducible repeat (first | refine qC ?_ _ | refine qE ?_ | refine qD ?_ _)); exact BK342.out) hg (Kd.qhA HO362.out (fun _ hk => hk.2.2.2.1)))
               have n3_ := Aside0.mk (qv (g := gb350) (o := .cells #[.int .i64 ((qB t343 x17_1).f0), .int .i64 ((qB t343 x17_1).f1), .int .i64 ((qB t343 x17_1).f2), .int .i64 ((qB t343 x17_1).f3), .int .i64 ((qB t343 x17_1).f4), .int .i64 ((qB t343 x17_1).f5)] 29 (0, 0)) (by (with_reducible repeat (first | refine qC ?_ _ | refine qE ?_ | refine qD ?_ _)); exact BK350.out) hg (Kd.qhA HO362.out (fun _ hk => hk.2.2.2.2)))
               have n4_ := Aside0.mk (Kd.qy (ok := (fun k_ => some k_ ≠ (.slice (some ad351) x5_1.length co28 : Value).ownBlock ∧ some k_ ≠ (.slice (some ad349) t343.length co6 : Value).ownBlock ∧ k_ ≠ gb342 ∧ k_ ≠ gb350)) (by (with_reducible repeat (first | apply Kd.qH | apply Kd.qI | apply Kd.qK)); exact Kd.qa HO365.out (fun _ hk => ⟨⟨hk.2.2.1, ⟨hk.2.1, ⟨hk.2.2.2.1, hk.2.2.2.2⟩⟩⟩, hk.1⟩)) hg hat)
               have n5_ := Aside0.mk (hb)
               have n6_ := Aside0.mk (ho)
               clear HO_5
               clear HO_13
               clear BK342
               clear BK350
               clear HO365
               clear HB
               clear HO362
               have HO_5 := n0_
               have HO_13 := n1_
               have BK342 := n2_
               have BK350 := n3_
               have HO365 := n4_
               have HB := n5_
               have HO368 := n6_
               clear n0_ n1_ n2_ n3_ n4_ n5_ n6_
               clear ho hb hg hat
               refine hK.out _ _ ⟨(qG BK350.out 0).trans rfl, (qG BK350.out 1).trans rfl, (qG BK350.out 2).trans rfl, (qG BK350.out 3).trans rfl, (qG BK350.out 4).trans rfl, (qG BK350.out 5).trans rfl⟩ (fun hHeld => ?_)
               clear hK K
               refine norm_ (a' := ?_) ?_ ?_
               rotate_left
               ·show Act.put _ (some 42) _ = _
                simp only [Act.put, List.setIfInBounds_toArray, List.set_cons_zero, List.set_cons_succ, i64_w, i32_w]
                rfl
               refine pS (i := 8) (N := some 9) #[true, true, true, true, true, true, true, true, true] HT_ ?_
               refine done_ (qBB HT_.out (by kernel_rfl)) ?_
               have q40 : (x8_2 : Int) ≤ ((x5_1.length : Int) : Int) := of_decide_eq_true (by first | (with_reducible assumption) | assumption)
               obtain ⟨i040, hi040, _, hsz40, _⟩ := info_parts info29
               have hroom40 : x5_1.length ≤ co28 := (Kd.qT HO_5.out).2.1
               have hC40 : Kd.C k29 _ (some ad351) x5_1.length x5_1 := (Kd.qT HO_5.out).2.2
               have q040 : (0 : Int) ≤ (x8_2 : Int) := of_decide_eq_true (by first | (with_reducible assumption) | assumption)
               have hcut40 := cut_from (P := Try.prog) 38 29 .i64 Try.underlying38 hi040 6 hsz40 (some ad351) x5_1.length co28 x8_2 q040 q40
               have hr40 := Kd.qTC (m := (x8_2 : Int).toNat) (c := co28) hC40 (by omega) hroom40
               obtain ⟨A40, hA40⟩ : ∃ A1, A1 = (if co28 = (x8_2 : Int).toNat then (some ad351) else ((some ad351) : Option Addr).map (·.add ((x8_2 : Int).toNat * 6))) := ⟨_, rfl⟩
               obtain ⟨c40, hc40⟩ : ∃ c1, c1 = co28 - (x8_2 : Int).toNat := ⟨_, rfl⟩
               have hy40 : y369.length = x5_1.length - (x8_2 : Int).toNat := (by rw [Ny369.out, List.length_drop] <;> omega)
               rw [show (x5_1).drop (x8_2 : Int).toNat = y369 from Ny369.out.symm] at hr40
               replace hr40 : Kd.C k29 _ A40 y369.length y369 := (by rw [hA40]; exact hr40)
               rw [← hy40, ← hA40, ← hc40] at hcut40
               have HR372 := Aside0.mk hr40
               have HC372 := Aside0.mk (show y369.length ≤ c40 from by rw [hy40, hc40]; exact Nat.sub_le_sub_right hroom40 _)
               clear hr40 hC40 hroom40 hi040 hsz40 hc40
               have KY40 := Aside0.mk hy40
               have KA40 := Aside0.mk hA40
               clear hy40 hA40
               have KL40 := Aside0.mk (show (x8_2 : Int).toNat ≤ x5_1.length from by omega)
               replace q40 := eq_true q40
               try go_wp2_with (first | ((with_reducible refine qtA (b := .append) (xs := #[.tmp 43, .tmp 46]) rfl ?_); at_builtin; refine Kd.R_append_rows k29 (w0 := w) w.heap.size rfl (.tmp 43) (.tmp 46) 38 29 (.agg #[(.int .i64 0), (.int .i64 0), (.int .i64 0), (.int .i64 0), (.int .i64 0), (.int .i64 0)]) 48 rfl Try.underlying38 info29 rfl (by decide) (by omega) v367 y366 y369 _ _ _ (fun k_ => some k_ ≠ (.slice (some ad351) x5_1.length co28 : Value).ownBlock ∧ some k_ ≠ (.slice (some ad349) t343.length co6 : Value).ownBlock ∧ some k_ ≠ (.slice Ao39 y363.length co39 : Value).ownBlock ∧ k_ ≠ gb342 ∧ k_ ≠ gb350) (fun _ => False) rfl rfl ?aO ?aR (fun _ _ h => h) (fun _ h => h.elim) ?aF ?aB ?aS ?aL ?_; (case aR => repeat (first | exact (by repeat (first | (with_reducible exact HR372.out) | (with_reducible refine Kd.qq ?_ _) | (with_reducible refine Kd.qp ?_ _) | (with_reducible refine Kd.qEA ?_) | exact HR372.out)) | (with_reducible refine Kd.qq ?_ _) | (with_reducible refine Kd.qp ?_ _) | (with_reducible refine Kd.qEA ?_))); (case aB => exact bl); (case aF => exact (fun k_ hk => ⟨Kd.fresh' (Kd.R_lt (by (with_reducible repeat (first | apply Kd.qH | apply Kd.qI | apply Kd.qK)); exact HO_5.out)) k_ hk, Kd.fresh' (Kd.R_lt (by (with_reducible repeat (first | apply Kd.qH | apply Kd.qI | apply Kd.qK)); exact HO_13.out)) k_ hk, Kd.fresh' (Kd.R_lt (by (with_reducible repeat (first | apply Kd.qH | apply Kd.qI | apply Kd.qK)); exact HO365.out)) k_ hk, Kd.freshB (g := gb342) (o := .cells #[.int .i64 a0_0, .int .i64 a0_1, .int .i64 a0_2, .int .i64 a0_3, .int .i64 a0_4, .int .i64 a0_5] 29 (0, 0)) (by (with_reducible repeat (first | refine qC ?_ _ | refine qE ?_ | refine qD ?_ _)); exact BK342.out) k_ hk, Kd.freshB (g := gb350) (o := .cells #[.int .i64 ((qB t343 x17_1).f0), .int .i64 ((qB t343 x17_1).f1), .int .i64 ((qB t343 x17_1).f2), .int .i64 ((qB t343 x17_1).f3), .int .i64 ((qB t343 x17_1).f4), .int .i64 ((qB t343 x17_1).f5)] 29 (0, 0)) (by (with_reducible repeat (first | refine qC ?_ _ | refine qE ?_ | refine qD ?_ _)); exact BK350.out) k_ hk⟩)); (case aO => exact (by (with_reducible repeat (first | apply Kd.qH | apply Kd.qI | apply Kd.qK)); exact HO368.out)); (case aS => exact (qb bl)); (case aL => have := LMc26.out; omega); intro v374 w41 ho hb hg hat; rw [← Ny373.out] at ho; have n0_ := Aside0.mk (Kd.qy (ok := (fun k_ => some k_ ≠ (.slice (some ad349) t343.length co6 : Value).ownBlock ∧ some k_ ≠ (.slice Ao39 y363.length co39 : Value).ownBlock ∧ k_ ≠ gb342 ∧ k_ ≠ gb350)) (by (with_reducible repeat (first | apply Kd.qH | apply Kd.qI | apply Kd.qK)); exact HO_5.out) hg hat); have n1_ := Aside0.mk (Kd.qy (ok := (fun k_ => some k_ ≠ (.slice (some ad351) x5_1.length co28 : Value).ownBlock ∧ some k_ ≠ (.slice Ao39 y363.length co39 : Value).ownBlock ∧ k_ ≠ gb342 ∧ k_ ≠ gb350)) (by (with_reducible repeat (first | apply Kd.qH | apply Kd.qI | apply Kd.qK)); exact HO_13.out) hg hat); have n2_ := Aside0.mk (qv (g := gb342) (o := .cells #[.int .i64 a0_0, .int .i64 a0_1, .int .i64 a0_2, .int .i64 a0_3, .int .i64 a0_4, .int .i64 a0_5] 29 (0, 0)) (by (with_reducible repeat (first | refine qC ?_ _ | refine qE ?_ | refine qD ?_ _)); exact BK342.out) hg (Kd.qhA HO368.out (fun _ hk => hk.2.2.2.1))); have n3_ := Aside0.mk (qv (g := gb350) (o := .cells #[.int .i64 ((qB t343 x17_1).f0), .int .i64 ((qB t343 x17_1).f1), .int .i64 ((qB t343 x17_1).f2), .int .i64 ((qB t343 x17_1).f3), .int .i64 ((qB t343 x17_1).f4), .int .i64 ((qB t343 x17_1).f5)] 29 (0, 0)) (by (with_reducible repeat (first | refine qC ?_ _ | refine qE ?_ | refine qD ?_ _)); exact BK350.out) hg (Kd.qhA HO368.out (fun _ hk => hk.2.2.2.2))); have n4_ := Aside0.mk (Kd.qy (ok := (fun k_ => some k_ ≠ (.slice (some ad351) x5_1.length co28 : Value).ownBlock ∧ some k_ ≠ (.slice (some ad349) t343.length co6 : Value).ownBlock ∧ k_ ≠ gb342 ∧ k_ ≠ gb350)) (by (with_reducible repeat (first | apply Kd.qH | apply Kd.qI | apply Kd.qK)); exact HO365.out) hg hat); have n5_ := Aside0.mk (hb); have n6_ := Aside0.mk ((show Kd.C k29 w41 A40 y369.length y369 from by rw [Ny369.out, KA40.out]; exact Kd.qTC (m := (x8_2 : Int).toNat) (c := co28) ((Kd.qT (Kd.qy (ok := (fun k_ => some k_ ≠ (.slice (some ad349) t343.length co6 : Value).ownBlock ∧ some k_ ≠ (.slice Ao39 y363.length co39 : Value).ownBlock ∧ k_ ≠ gb342 ∧ k_ ≠ gb350)) (by (with_reducible repeat (first | apply Kd.qH | apply Kd.qI | apply Kd.qK)); exact HO_5.out) hg hat)).2.2) KL40.out ((Kd.qT (Kd.qy (ok := (fun k_ => some k_ ≠ (.slice (some ad349) t343.length co6 : Value).ownBlock ∧ some k_ ≠ (.slice Ao39 y363.length co39 : Value).ownBlock ∧ k_ ≠ gb342 ∧ k_ ≠ gb350)) (by (with_reducible repeat (first | apply Kd.qH | apply Kd.qI | apply Kd.qK)); exact HO_5.out) hg hat)).2.1))); have n7_ := Aside0.mk (ho); clear HO_5; clear HO_13; clear BK342; clear BK350; clear HO365; clear HB; clear HR372; clear HO368; have HO_5 := n0_; have HO_13 := n1_; have BK342 := n2_; have BK350 := n3_; have HO365 := n4_; have HB := n5_; have HR372 := n6_; have HO375 := n7_; clear n0_ n1_ n2_ n3_ n4_ n5_ n6_ n7_; clear ho hb hg hat))
               go_roundg k2
               case measure => have := HK1.out; have := HK2.out; omega
               case rel => exact ⟨(y373), (wrap64 (x17_1 + 1)), (by first | rfl | (simp; done) | (simp [*]; done)), H', ⟨by have := HK1.out; have := HK2.out; omega⟩, ⟨by (with_reducible repeat (first | apply Kd.qH | apply Kd.qI | apply Kd.qK)); exact Kd.qa HO375.out (fun _ hk => ⟨hk.2.1, hk.2.2.2.1⟩)⟩, ⟨by (with_reducible repeat (first | apply Kd.qH | apply Kd.qI | apply Kd.qK)); exact Kd.qa HO_13.out (fun _ hk => ⟨hk.2, hk.1.2.2.1⟩)⟩, ⟨by (with_reducible repeat (first | refine qC ?_ _ | refine qE ?_ | refine qD ?_ _)); exact BK342.out⟩, ⟨bl⟩⟩
              ·rw [if_neg c26] at H
               exact absurd H (by simp)
             ·rw [if_neg c23] at H
              exact absurd H (by simp)
            ·rw [if_neg c22] at H
             exact absurd H (by simp)
           ·rw [if_neg c21] at H
            exact absurd H (by simp)
         ·rw [if_neg c14] at H
          exact absurd H (by simp)
        ·rw [if_neg c13] at H
         have c13b0 : decide (x8_2 < (x5_1.length : Int)) = false := decide_eq_false c13
         clear c13
         obtain ⟨y376, hy376⟩ : ∃ y_ : List (S29), y_ = (([] : List (S29))) := ⟨_, rfl⟩
         replace H : (if 0 ≤ x8_2 then (if x8_2 ≤ (x5_1.length : Int) then ((some (x5_1.take (x8_2 : Int).toNat : List (S29))).bind fun y379 => (if y376.length + y379.length < 2932031007402 then ((some (y376 ++ y379 : List (S29))).bind fun y383 => ((some (([(⟨((qB t343 x17_1).f0), ((qB t343 x17_1).f1), ((qB t343 x17_1).f2), ((qB t343 x17_1).f3), ((qB t343 x17_1).f4), ((qB t343 x17_1).f5)⟩ : S29)] : List (S29)) : List (S29))).bind fun y386 => (if y383.length + y386.length < 2932031007402 then ((some (y383 ++ y386 : List (S29))).bind fun y389 => ((some (x5_1.drop (x8_2 : Int).toNat : List (S29))).bind fun y392 => (if y389.length + y392.length < 2932031007402 then (qN.l0 k2 (y389 ++ y392) t343 (t343.length : Int) (wrap64 (x17_1 + 1))) else (none)))) else (none)))) else (none))) else (none)) else (none)) = some r := by first | (rw [hy376]; with_reducible exact H) | (have H2_ := (Option.bind_some _ _).symm.trans H; rw [hy376]; with_reducible exact H2_) | (have H2_ := (Option.bind_some _ _).symm.trans H; with_reducible exact H2_) | with_reducible exact H | (rw [hy376]; exact H) | exact H
         have Ny376 := Aside0.mk hy376
         clear hy376
         by_cases c42 : 0 ≤ x8_2
         ·rw [if_pos c42] at H
          have c42b0 := eq_true c42
          have c42b1 : decide (0 ≤ x8_2) = true := decide_eq_true c42
          clear c42
          by_cases c43 : x8_2 ≤ (x5_1.length : Int)
          ·rw [if_pos c43] at H
           have c43b0 := eq_true c43
           have c43b1 : decide (x8_2 ≤ (x5_1.length : Int)) = true := decide_eq_true c43
           clear c43
           obtain ⟨y379, hy379⟩ : ∃ y_ : List (S29), y_ = (x5_1.take (x8_2 : Int).toNat) := ⟨_, rfl⟩
           replace H : (if y376.length + y379.length < 2932031007402 then ((some (y376 ++ y379 : List (S29))).bind fun y383 => ((some (([(⟨((qB t343 x17_1).f0), ((qB t343 x17_1).f1), ((qB t343 x17_1).f2), ((qB t343 x17_1).f3), ((qB t343 x17_1).f4), ((qB t343 x17_1).f5)⟩ : S29)] : List (S29)) : List (S29))).bind fun y386 => (if y383.length + y386.length < 2932031007402 then ((some (y383 ++ y386 : List (S29))).bind fun y389 => ((some (x5_1.drop (x8_2 : Int).toNat : List (S29))).bind fun y392 => (if y389.length + y392.length < 2932031007402 then (qN.l0 k2 (y389 ++ y392) t343 (t343.length : Int) (wrap64 (x17_1 + 1))) else (none)))) else (none)))) else (none)) = some r := by first | (rw [hy379]; with_reducible exact H) | (have H2_ := (Option.bind_some _ _).symm.trans H; rw [hy379]; with_reducible exact H2_) | (have H2_ := (Option.bind_some _ _).symm.trans H; with_reducible exact H2_) | with_reducible exact H | (rw [hy379]; exact H) | exact H
           have Ny379 := Aside0.mk hy379
           clear hy379
           by_cases c44 : y376.length + y379.length < 2932031007402
           ·rw [if_pos c44] at H
            have LMc44 := Aside0.mk c44
            clear c44
            obtain ⟨y383, hy383⟩ : ∃ y_ : List (S29), y_ = (y376 ++ y379) := ⟨_, rfl⟩
            replace H : ((some (([(⟨((qB t343 x17_1).f0), ((qB t343 x17_1).f1), ((qB t343 x17_1).f2), ((qB t343 x17_1).f3), ((qB t343 x17_1).f4), ((qB t343 x17_1).f5)⟩ : S29)] : List (S29)) : List (S29))).bind fun y386 => (if y383.length + y386.length < 2932031007402 then ((some (y383 ++ y386 : List (S29))).bind fun y389 => ((some (x5_1.drop (x8_2 : Int).toNat : List (S29))).bind fun y392 => (if y389.length + y392.length < 2932031007402 then (qN.l0 k2 (y389 ++ y392) t343 (t343.length : Int) (wrap64 (x17_1 + 1))) else (none)))) else (none))) = some r := by first | (rw [hy383]; with_reducible exact H) | (have H2_ := (Option.bind_some _ _).symm.trans H; rw [hy383]; with_reducible exact H2_) | (have H2_ := (Option.bind_some _ _).symm.trans H; with_reducible exact H2_) | with_reducible exact H | (rw [hy383]; exact H) | exact H
            have Ny383 := Aside0.mk hy383
            clear hy383
            obtain ⟨y386, hy386⟩ : ∃ y_ : List (S29), y_ = (([(⟨((qB t343 x17_1).f0), ((qB t343 x17_1).f1), ((qB t343 x17_1).f2), ((qB t343 x17_1).f3), ((qB t343 x17_1).f4), ((qB t343 x17_1).f5)⟩ : S29)] : List (S29))) := ⟨_, rfl⟩
            replace H : (if y383.length + y386.length < 2932031007402 then ((some (y383 ++ y386 : List (S29))).bind fun y389 => ((some (x5_1.drop (x8_2 : Int).toNat : List (S29))).bind fun y392 => (if y389.length + y392.length < 2932031007402 then (qN.l0 k2 (y389 ++ y392) t343 (t343.length : Int) (wrap64 (x17_1 + 1))) else (none)))) else (none)) = some r := by first | (rw [hy386]; with_reducible exact H) | (have H2_ := (Option.bind_some _ _).symm.trans H; rw [hy386]; with_reducible exact H2_) | (have H2_ := (Option.bind_some _ _).symm.trans H; with_reducible exact H2_) | with_reducible exact H | (rw [hy386]; exact H) | exact H
            have Ny386 := Aside0.mk hy386
            clear hy386
            by_cases c45 : y383.length + y386.length < 2932031007402
            ·rw [if_pos c45] at H
             have LMc45 := Aside0.mk c45
             clear c45
             obtain ⟨y389, hy389⟩ : ∃ y_ : List (S29), y_ = (y383 ++ y386) := ⟨_, rfl⟩
             replace H : ((some (x5_1.drop (x8_2 : Int).toNat : List (S29))).bind fun y392 => (if y389.length + y392.length < 2932031007402 then (qN.l0 k2 (y389 ++ y392) t343 (t343.length : Int) (wrap64 (x17_1 + 1))) else (none))) = some r := by first | (rw [hy389]; with_reducible exact H) | (have H2_ := (Option.bind_some _ _).symm.trans H; rw [hy389]; with_reducible exact H2_) | (have H2_ := (Option.bind_some _ _).symm.trans H; with_reducible exact H2_) | with_reducible exact H | (rw [hy389]; exact H) | exact H
             have Ny389 := Aside0.mk hy389
             clear hy389
             have c46b0 := eq_true (of_decide_eq_true (by first | (with_reducible assumption) | assumption) : 0 ≤ x8_2)
             have c47b0 := eq_true (of_decide_eq_true (by first | (with_reducible assumption) | assumption) : x8_2 ≤ (x5_1.length : Int))
             obtain ⟨y392, hy392⟩ : ∃ y_ : List (S29), y_ = (x5_1.drop (x8_2 : Int).toNat) := ⟨_, rfl⟩
             replace H : (if y389.length + y392.length < 2932031007402 then (qN.l0 k2 (y389 ++ y392) t343 (t343.length : Int) (wrap64 (x17_1 + 1))) else (none)) = some r := by first | (rw [hy392]; with_reducible exact H) | (have H2_ := (Option.bind_some _ _).symm.trans H; rw [hy392]; with_reducible exact H2_) | (have H2_ := (Option.bind_some _ _).symm.trans H; with_reducible exact H2_) | with_reducible exact H | (rw [hy392]; exact H) | exact H
             have Ny392 := Aside0.mk hy392
             clear hy392
             by_cases c48 : y389.length + y392.length < 2932031007402
             ·rw [if_pos c48] at H
              have LMc48 := Aside0.mk c48
              clear c48
              obtain ⟨y396, hy396⟩ : ∃ y_ : List (S29), y_ = (y389 ++ y392) := ⟨_, rfl⟩
              replace H : (qN.l0 k2 y396 t343 (t343.length : Int) (wrap64 (x17_1 + 1))) = some r := by first | (rw [hy396]; with_reducible exact H) | (have H2_ := (Option.bind_some _ _).symm.trans H; rw [hy396]; with_reducible exact H2_) | (have H2_ := (Option.bind_some _ _).symm.trans H; with_reducible exact H2_) | with_reducible exact H | (rw [hy396]; exact H) | exact H
              have Ny396 := Aside0.mk hy396
              clear hy396
              have H' := Aside0.mk H
              clear H
              try go_wp2
              have n0_ := Aside0.mk (Kd.qK HO_5.out)
              have n1_ := Aside0.mk (Kd.qK HO_13.out)
              have n2_ := Aside0.mk (qE BK342.out)
              have n3_ := Aside0.mk (qE BK350.out)
              have n4_ := Aside0.mk (qt HB.out)
              clear HO_5
              clear HO_13
              clear BK342
              clear BK350
              clear HB
              have HO_5 := n0_
              have HO_13 := n1_
              have BK342 := n2_
              have BK350 := n3_
              have HB := n4_
              clear n0_ n1_ n2_ n3_ n4_
              obtain ⟨Ao50, co50, eo50⟩ := Kd.qHA HO_5.out
              (first | subst eo50 | (injection eo50 with f1_ f2_ f3_; have f4_ := f1_.symm; have f5_ := f3_.symm; clear f1_ f2_ f3_; subst f4_; subst f5_))
              refine qyA (n := 12) (S := fun w' => True) (ds := []) #[false, false, false, false, false, false, false, false, false, false, false, false] (by kernel_rfl) rfl rfl trivial (fun hHeld => ?_); refine qbA qN.tab7 qN.bits7 (fun HT_ HW_ => ?_)
              generalize wr.drew = w49 at HO_5 HO_13 BK342 BK350 HB hHeld ⊢
              refine pS (i := 0) (N := some 21) #[true, false, false, false, false, false, false, false, false, false, false, false] HT_ ?_
              refine pS (i := 1) (N := some 22) #[true, true, false, false, false, false, false, false, false, false, false, false] HT_ ?_
              refine pS (i := 2) (N := some 23) #[true, true, true, false, false, false, false, false, false, false, false, false] HT_ ?_
              refine pS (i := 3) (N := some 24) #[true, true, true, true, false, false, false, false, false, false, false, false] HT_ ?_
              refine pS (i := 4) (N := some 25) #[true, true, true, true, true, false, false, false, false, false, false, false] HT_ ?_
              refine pure_ (i := 5) (N := some 26) (v := undef) (a' := ?_) #[true, true, true, true, true, true, false, false, false, false, false, false] rfl rfl (qzB HT_.out (by kernel_rfl)) (fun _ _ _ h => h) (Or.inr ⟨by rfl, rfl⟩) ?_ ?_
              rotate_left
              ·simp only [Act.put, List.setIfInBounds_toArray, List.set_cons_zero, List.set_cons_succ, i64_w, i32_w]
               rfl
              refine pure_ (i := 6) (N := some 27) (v := undef) (a' := ?_) #[true, true, true, true, true, true, true, false, false, false, false, false] rfl rfl (qzB HT_.out (by kernel_rfl)) (fun _ _ _ h => h) (Or.inr ⟨by rfl, rfl⟩) ?_ ?_
              rotate_left
              ·simp only [Act.put, List.setIfInBounds_toArray, List.set_cons_zero, List.set_cons_succ, i64_w, i32_w]
               rfl
              refine pure_ (i := 7) (N := some 28) (v := undef) (a' := ?_) #[true, true, true, true, true, true, true, true, false, false, false, false] rfl rfl (qzB HT_.out (by kernel_rfl)) (fun _ _ _ h => h) (Or.inr ⟨by rfl, rfl⟩) ?_ ?_
              rotate_left
              ·simp only [Act.put, List.setIfInBounds_toArray, List.set_cons_zero, List.set_cons_succ, i64_w, i32_w]
               rfl
              refine pure_ (i := 8) (N := some 29) (v := undef) (a' := ?_) #[true, true, true, true, true, true, true, true, true, false, false, false] rfl rfl (qzB HT_.out (by kernel_rfl)) (fun _ _ _ h => h) (Or.inr ⟨by rfl, rfl⟩) ?_ ?_
              rotate_left
              ·simp only [Act.put, List.setIfInBounds_toArray, List.set_cons_zero, List.set_cons_succ, i64_w, i32_w]
               rfl
              refine pure_ (i := 9) (N := some 30) (v := undef) (a' := ?_) #[true, true, true, true, true, true, true, true, true, true, false, false] rfl rfl (qzB HT_.out (by kernel_rfl)) (fun _ _ _ h => h) (Or.inr ⟨by rfl, rfl⟩) ?_ ?_
              rotate_left
              ·simp only [Act.put, List.setIfInBounds_toArray, List.set_cons_zero, List.set_cons_succ, i64_w, i32_w]
               rfl
              refine pure_ (i := 10) (N := some 31) (v := undef) (a' := ?_) #[true, true, true, true, true, true, true, true, true, true, true, false] rfl rfl (qzB HT_.out (by kernel_rfl)) (fun _ _ _ h => h) (Or.inr ⟨by rfl, rfl⟩) ?_ ?_
              rotate_left
              ·simp only [Act.put, List.setIfInBounds_toArray, List.set_cons_zero, List.set_cons_succ, i64_w, i32_w]
               rfl
              refine pS (i := 11) (N := some 32) #[true, true, true, true, true, true, true, true, true, true, true, true] HT_ ?_
              refine done_ (qBB HT_.out (by kernel_rfl)) ?_
              try go_wp2
              have n0_ := Aside0.mk (Kd.qK HO_5.out)
              have n1_ := Aside0.mk (Kd.qK HO_13.out)
              have n2_ := Aside0.mk (qE BK342.out)
              have n3_ := Aside0.mk (qE BK350.out)
              have n4_ := Aside0.mk (qt HB.out)
              clear HO_5
              clear HO_13
              clear BK342
              clear BK350
              clear HB
              have HO_5 := n0_
              have HO_13 := n1_
              have BK342 := n2_
              have BK350 := n3_
              have HB := n4_
              clear n0_ n1_ n2_ n3_ n4_
              have q52 : (x8_2 : Int) ≤ ((x5_1.length : Int) : Int) := of_decide_eq_true (by first | (with_reducible assumption) | assumption)
              obtain ⟨i052, hi052, _, hsz52, _⟩ := info_parts info29
              have hroom52 : x5_1.length ≤ co50 := (Kd.qT HO_5.out).2.1
              have hC52 : Kd.C k29 _ Ao50 x5_1.length x5_1 := (Kd.qT HO_5.out).2.2
              have hcut52 := cut_to (P := Try.prog) 38 29 .i64 Try.underlying38 hi052 Ao50 x5_1.length co50 x8_2 (of_decide_eq_true (by first | (with_reducible assumption) | assumption)) q52 hroom52
              have hr52 := Kd.qkB (m := (x8_2 : Int).toNat) hC52 (by omega)
              have hy52 : y379.length = (x8_2 : Int).toNat := (by rw [Ny379.out, List.length_take]; omega)
              rw [← Ny379.out] at hr52
              rw [← hy52] at hcut52
              have HR382 := Aside0.mk hr52
              have HC382 := Aside0.mk (show y379.length ≤ co50 from by omega)
              clear hr52 hC52 hroom52 hi052 hsz52
              have KY52 := Aside0.mk hy52
              clear hy52
              have KL52 := Aside0.mk (show (x8_2 : Int).toNat ≤ x5_1.length from by omega)
              replace q52 := eq_true q52
              refine qyA (n := 9) (S := fun w' => w'.cell? ⟨gb350, 0, none⟩ = some (.int .i64 ((qB t343 x17_1).f0)) ∧ w'.cell? ⟨gb350, 1, none⟩ = some (.int .i64 ((qB t343 x17_1).f1)) ∧ w'.cell? ⟨gb350, 2, none⟩ = some (.int .i64 ((qB t343 x17_1).f2)) ∧ w'.cell? ⟨gb350, 3, none⟩ = some (.int .i64 ((qB t343 x17_1).f3)) ∧ w'.cell? ⟨gb350, 4, none⟩ = some (.int .i64 ((qB t343 x17_1).f4)) ∧ w'.cell? ⟨gb350, 5, none⟩ = some (.int .i64 ((qB t343 x17_1).f5))) (ds := []) #[false, false, false, false, false, false, false, false, false] (by kernel_rfl) rfl rfl ⟨(qG BK350.out 0).trans rfl, (qG BK350.out 1).trans rfl, (qG BK350.out 2).trans rfl, (qG BK350.out 3).trans rfl, (qG BK350.out 4).trans rfl, (qG BK350.out 5).trans rfl⟩ (fun hHeld => ?_); refine qbA qN.tab9 qN.bits9 (fun HT_ HW_ => ?_)
              generalize w49.drew = w51 at HO_5 HO_13 BK342 BK350 HB HR382 hHeld ⊢
              refine pS (i := 1) (N := some 36) #[false, true, false, false, false, false, false, false, false] HT_ ?_
              refine pS (i := 2) (N := some 37) #[false, true, true, false, false, false, false, false, false] HT_ ?_
              refine pS (i := 3) (N := some 38) #[false, true, true, true, false, false, false, false, false] HT_ ?_
              refine tS (i := 5) (N := some 40) #[false, true, true, true, false, true, false, false, false] HT_ HW_ hHeld ?_
              refine join_ (σ := Value × Value × Value) 2 #[true, true, true, true, true, true, true, false, false] (fun s_ => [(35, s_.1), (39, s_.2.1), (41, s_.2.2)]) (fun s_ w' => (w'.cell? ⟨gb350, 0, none⟩ = some (.int .i64 ((qB t343 x17_1).f0)) ∧ w'.cell? ⟨gb350, 1, none⟩ = some (.int .i64 ((qB t343 x17_1).f1)) ∧ w'.cell? ⟨gb350, 2, none⟩ = some (.int .i64 ((qB t343 x17_1).f2)) ∧ w'.cell? ⟨gb350, 3, none⟩ = some (.int .i64 ((qB t343 x17_1).f3)) ∧ w'.cell? ⟨gb350, 4, none⟩ = some (.int .i64 ((qB t343 x17_1).f4)) ∧ w'.cell? ⟨gb350, 5, none⟩ = some (.int .i64 ((qB t343 x17_1).f5))) ∧ (Kd.R k29 29 w' w.heap.size (fun k_ => some k_ ≠ (s_.2.2 : Value).ownBlock ∧ some k_ ≠ (.slice (some ad349) t343.length co6 : Value).ownBlock ∧ some k_ ≠ (.slice Ao50 x5_1.length co50 : Value).ownBlock ∧ k_ ≠ gb342 ∧ k_ ≠ gb350) s_.2.1 y383) ∧ (Kd.R k29 29 w' w.heap.size (fun k_ => some k_ ≠ (s_.2.1 : Value).ownBlock ∧ some k_ ≠ (.slice (some ad349) t343.length co6 : Value).ownBlock ∧ some k_ ≠ (.slice Ao50 x5_1.length co50 : Value).ownBlock ∧ k_ ≠ gb342 ∧ k_ ≠ gb350) s_.2.2 y386) ∧ (Kd.R k29 29 w' w.heap.size (fun k_ => some k_ ≠ (s_.2.1 : Value).ownBlock ∧ some k_ ≠ (s_.2.2 : Value).ownBlock ∧ some k_ ≠ (.slice Ao50 x5_1.length co50 : Value).ownBlock ∧ k_ ≠ gb342 ∧ k_ ≠ gb350) (.slice (some ad349) t343.length co6) t343) ∧ (Kd.R k29 29 w' w.heap.size (fun k_ => some k_ ≠ (s_.2.1 : Value).ownBlock ∧ some k_ ≠ (s_.2.2 : Value).ownBlock ∧ some k_ ≠ (.slice (some ad349) t343.length co6 : Value).ownBlock ∧ k_ ≠ gb342 ∧ k_ ≠ gb350) (.slice Ao50 x5_1.length co50) x5_1) ∧ (w'.heap[gb342]? = some (.cells #[.int .i64 a0_0, .int .i64 a0_1, .int .i64 a0_2, .int .i64 a0_3, .int .i64 a0_4, .int .i64 a0_5] 29 (0, 0))) ∧ (w'.heap[gb350]? = some (.cells #[.int .i64 ((qB t343 x17_1).f0), .int .i64 ((qB t343 x17_1).f1), .int .i64 ((qB t343 x17_1).f2), .int .i64 ((qB t343 x17_1).f3), .int .i64 ((qB t343 x17_1).f4), .int .i64 ((qB t343 x17_1).f5)] 29 (0, 0))) ∧ (Below w.heap.size w w')) ?_ ?_
              rotate_left
              ·intro hCont
               refine two_ (i := 0) (j := 6) (Ni := some 35) (Nj := some 41) #[true, true, true, true, false, true, false, false, false] #[false, true, true, true, false, true, true, false, false] rfl rfl rfl rfl (qRC HT_.out (by kernel_rfl)) (by decide) (by decide) (fun K hK => ?_) (fun K hK => ?_)
               ·skip
                refine Kd.qcA k29 _ 29 ?hg (N := 35) ?hd (xs := ([] : List (S29))) (inner := []) (ok := fun _ => True) (okp := fun _ => True) ?hr ?hp (fun _ hk => hk) trivial (Below.refl _ _) (Nat.le_refl _) (by simp) ?_; (case hd => rfl); (case hg => rfl); (case hr => first | (go_simp; done) | (go_simp; rfl)); (case hp => exact (Reps.none _ _))
                intro v377 w53 ho54 hb hg_ hnew_
                clear hg_ hnew_
                (first | rw [← Ny376.out] at ho54 | (simp only [Int.reduceToNat] at ho54; rw [← Ny376.out] at ho54))
                have n0_ := Aside0.mk (Kd.qz (by (with_reducible repeat (first | apply Kd.qH | apply Kd.qI | apply Kd.qK)); exact HO_5.out) (Kd.qYA ho54) hb)
                have n1_ := Aside0.mk (Kd.qz (by (with_reducible repeat (first | apply Kd.qH | apply Kd.qI | apply Kd.qK)); exact HO_13.out) (Kd.qYA ho54) hb)
                have n2_ := Aside0.mk (Kd.qLA (Kd.qWA (Kd.qWA (Kd.qXA (Kd.qXA ho54 (Kd.R_lt (by (with_reducible repeat (first | apply Kd.qH | apply Kd.qI | apply Kd.qK)); exact HO_5.out))) (Kd.R_lt (by (with_reducible repeat (first | apply Kd.qH | apply Kd.qI | apply Kd.qK)); exact HO_13.out))) (g := gb342) (o := .cells #[.int .i64 a0_0, .int .i64 a0_1, .int .i64 a0_2, .int .i64 a0_3, .int .i64 a0_4, .int .i64 a0_5] 29 (0, 0)) (by (with_reducible repeat (first | refine qC ?_ _ | refine qE ?_ | refine qD ?_ _)); exact BK342.out)) (g := gb350) (o := .cells #[.int .i64 ((qB t343 x17_1).f0), .int .i64 ((qB t343 x17_1).f1), .int .i64 ((qB t343 x17_1).f2), .int .i64 ((qB t343 x17_1).f3), .int .i64 ((qB t343 x17_1).f4), .int .i64 ((qB t343 x17_1).f5)] 29 (0, 0)) (by (with_reducible repeat (first | refine qC ?_ _ | refine qE ?_ | refine qD ?_ _)); exact BK350.out)) (qb bl))
                have n3_ := Aside0.mk (bb BK342 hb)
                have n4_ := Aside0.mk (bb BK350 hb)
                have n5_ := Aside0.mk (Kd.qmA (by repeat (first | (with_reducible exact HR382.out) | (with_reducible refine Kd.qq ?_ _) | (with_reducible refine Kd.qp ?_ _) | (with_reducible refine Kd.qEA ?_) | exact HR382.out)) hb)
                have n6_ := Aside0.mk (qF bl hb)
                clear HO_5
                clear HO_13
                clear BK342
                clear BK350
                clear HR382
                clear HB
                have HO_5 := n0_
                have HO_13 := n1_
                have HO378 := n2_
                have BK342 := n3_
                have BK350 := n4_
                have HR382 := n5_
                have HB := n6_
                clear n0_ n1_ n2_ n3_ n4_ n5_ n6_
                clear hb ho54
                refine hK.out _ _ ⟨(qG BK350.out 0).trans rfl, (qG BK350.out 1).trans rfl, (qG BK350.out 2).trans rfl, (qG BK350.out 3).trans rfl, (qG BK350.out 4).trans rfl, (qG BK350.out 5).trans rfl⟩ (fun hHeld => ?_)
                clear hK K
                refine norm_ (a' := ?_) ?_ ?_
                rotate_left
                ·show Act.put _ (some 35) _ = _
                 simp only [Act.put, List.setIfInBounds_toArray, List.set_cons_zero, List.set_cons_succ, i64_w, i32_w]
                 rfl
                refine two_ (i := 4) (j := 6) (Ni := some 39) (Nj := some 41) #[true, true, true, true, true, true, false, false, false] #[true, true, true, true, false, true, true, false, false] rfl rfl rfl rfl (qRC HT_.out (by kernel_rfl)) (by decide) (by decide) (fun K hK => ?_) (fun K hK => ?_)
                ·skip
                 refine Kd.qJA k29 (w0 := w) w.heap.size (by rfl) (.tmp 35) (.tmp 38) 38 29 (.agg #[(.int .i64 0), (.int .i64 0), (.int .i64 0), (.int .i64 0), (.int .i64 0), (.int .i64 0)]) 48 rfl Try.underlying38 info29 rfl (by decide) (by omega) v377 y376 y379 _ _ _ (fun k_ => some k_ ≠ (.slice Ao50 x5_1.length co50 : Value).ownBlock ∧ some k_ ≠ (.slice (some ad349) t343.length co6 : Value).ownBlock ∧ k_ ≠ gb342 ∧ k_ ≠ gb350) (fun _ => False) rfl rfl ?aO ?aR (fun _ _ h => h) (fun _ h => h.elim) ?aF ?aB ?aS ?aL ?_
                 (case aR => repeat (first | exact (by repeat (first | (with_reducible exact HR382.out) | (with_reducible refine Kd.qq ?_ _) | (with_reducible refine Kd.qp ?_ _) | (with_reducible refine Kd.qEA ?_) | exact HR382.out)) | (with_reducible refine Kd.qq ?_ _) | (with_reducible refine Kd.qp ?_ _) | (with_reducible refine Kd.qEA ?_)))
                 (case aB => exact bl)
                 (case aF => exact (fun k_ hk => ⟨Kd.fresh' (Kd.R_lt (by (with_reducible repeat (first | apply Kd.qH | apply Kd.qI | apply Kd.qK)); exact HO_5.out)) k_ hk, Kd.fresh' (Kd.R_lt (by (with_reducible repeat (first | apply Kd.qH | apply Kd.qI | apply Kd.qK)); exact HO_13.out)) k_ hk, Kd.freshB (g := gb342) (o := .cells #[.int .i64 a0_0, .int .i64 a0_1, .int .i64 a0_2, .int .i64 a0_3, .int .i64 a0_4, .int .i64 a0_5] 29 (0, 0)) (by (with_reducible repeat (first | refine qC ?_ _ | refine qE ?_ | refine qD ?_ _)); exact BK342.out) k_ hk, Kd.freshB (g := gb350) (o := .cells #[.int .i64 ((qB t343 x17_1).f0), .int .i64 ((qB t343 x17_1).f1), .int .i64 ((qB t343 x17_1).f2), .int .i64 ((qB t343 x17_1).f3), .int .i64 ((qB t343 x17_1).f4), .int .i64 ((qB t343 x17_1).f5)] 29 (0, 0)) (by (with_reducible repeat (first | refine qC ?_ _ | refine qE ?_ | refine qD ?_ _)); exact BK350.out) k_ hk⟩))
                 (case aO => exact (by (with_reducible repeat (first | apply Kd.qH | apply Kd.qI | apply Kd.qK)); exact Kd.qa HO378.out (fun _ hk => ⟨hk.1.1.1.2, ⟨hk.1.1.2, ⟨hk.1.2, hk.2⟩⟩⟩)))
                 (case aS => exact (qb bl))
                 (case aL => have := LMc44.out; omega)
                 intro v384 w55 ho hb hg hat
                 rw [← Ny383.out] at ho
                 have n0_ := Aside0.mk (Kd.qy (ok := (fun k_ => some k_ ≠ (.slice (some ad349) t343.length co6 : Value).ownBlock ∧ k_ ≠ gb342 ∧ k_ ≠ gb350)) (by (with_reducible repeat (first | apply Kd.qH | apply Kd.qI | apply Kd.qK)); exact HO_5.out) hg hat)
                 have n1_ := Aside0.mk (Kd.qy (ok := (fun k_ => some k_ ≠ (.slice Ao50 x5_1.length co50 : Value).ownBlock ∧ k_ ≠ gb342 ∧ k_ ≠ gb350)) (by (with_reducible repeat (first | apply Kd.qH | apply Kd.qI | apply Kd.qK)); exact HO_13.out) hg hat)
                 have n2_ := Aside0.mk (qv (g := gb342) (o := .cells #[.int .i64 a0_0, .int .i64 a0_1, .int .i64 a0_2, .int .i64 a0_3, .int .i64 a0_4, .int .i64 a0_5] 29 (0, 0)) (by (with_reducible repeat (first | refine qC ?_ _ | refine qE ?_ | refine qD ?_ _)); exact BK342.out) hg (Kd.qhA HO378.out (fun _ hk => hk.1.2)))
                 have n3_ := Aside0.mk (qv (g := gb350) (o := .cells #[.int .i64 ((qB t343 x17_1).f0), .int .i64 ((qB t343 x17_1).f1), .int .i64 ((qB t343 x17_1).f2), .int .i64 ((qB t343 x17_1).f3), .int .i64 ((qB t343 x17_1).f4), .int .i64 ((qB t343 x17_1).f5)] 29 (0, 0)) (by (with_reducible repeat (first | refine qC ?_ _ | refine qE ?_ | refine qD ?_ _)); exact BK350.out) hg (Kd.qhA HO378.out (fun _ hk => hk.2)))
                 have n4_ := Aside0.mk (hb)
                 have n5_ := Aside0.mk ((show Kd.C k29 w55 Ao50 y379.length y379 from by rw [Ny379.out]; exact Kd.qkB (m := (x8_2 : Int).toNat) ((Kd.qT (Kd.qy (ok := (fun k_ => some k_ ≠ (.slice (some ad349) t343.length co6 : Value).ownBlock ∧ k_ ≠ gb342 ∧ k_ ≠ gb350)) (by (with_reducible repeat (first | apply Kd.qH | apply Kd.qI | apply Kd.qK)); exact HO_5.out) hg hat)).2.2) KL52.out))
                 have n6_ := Aside0.mk (ho)
                 clear HO_5
                 clear HO_13
                 clear BK342
                 clear BK350
                 clear HB
                 clear HR382
                 clear HO378
                 have HO_5 := n0_
                 have HO_13 := n1_
                 have BK342 := n2_
                 have BK350 := n3_
                 have HB := n4_
                 have HR382 := n5_
                 have HO385 := n6_
                 clear n0_ n1_ n2_ n3_ n4_ n5_ n6_
                 clear ho hb hg hat
                 refine hK.out _ _ ⟨(qG BK350.out 0).trans rfl, (qG BK350.out 1).trans rfl, (qG BK350.out 2).trans rfl, (qG BK350.out 3).trans rfl, (qG BK350.out 4).trans rfl, (qG BK350.out 5).trans rfl⟩ (fun hHeld => ?_)
                 clear hK K
                 refine norm_ (a' := ?_) ?_ ?_
                 rotate_left
                 ·show Act.put _ (some 39) _ = _
                  simp only [Act.put, List.setIfInBounds_toArray, List.set_cons_zero, List.set_cons_succ, i64_w, i32_w]
                  rfl
                 refine one_ (i := 6) (N := some 41) #[true, true, true, true, true, true, true, false, false] rfl rfl (qsA HT_.out (by kernel_rfl)) (by decide) (fun K hK => ?_)
                 refine Kd.qcA k29 _ 29 ?hg (N := 41) ?hd (xs := ([(⟨((qB t343 x17_1).f0), ((qB t343 x17_1).f1), ((qB t343 x17_1).f2), ((qB t343 x17_1).f3), ((qB t343 x17_1).f4), ((qB t343 x17_1).f5)⟩ : S29)] : List (S29))) (inner := [.int .i64 ((qB t343 x17_1).f0), .int .i64 ((qB t343 x17_1).f1), .int .i64 ((qB t343 x17_1).f2), .int .i64 ((qB t343 x17_1).f3), .int .i64 ((qB t343 x17_1).f4), .int .i64 ((qB t343 x17_1).f5)]) (ok := fun _ => True) (okp := fun _ => True) ?hr ?hp (fun _ hk => hk) trivial (Below.refl _ _) (Nat.le_refl _) (by simp) ?_; (case hd => rfl); (case hg => rfl); (case hr => first | (go_simp; done) | (go_simp; rfl)); (case hp => exact (Reps.c6 (show Kd.M k29 _ _ _ (⟨((qB t343 x17_1).f0), ((qB t343 x17_1).f1), ((qB t343 x17_1).f2), ((qB t343 x17_1).f3), ((qB t343 x17_1).f4), ((qB t343 x17_1).f5)⟩ : S29) [.int .i64 ((qB t343 x17_1).f0), .int .i64 ((qB t343 x17_1).f1), .int .i64 ((qB t343 x17_1).f2), .int .i64 ((qB t343 x17_1).f3), .int .i64 ((qB t343 x17_1).f4), .int .i64 ((qB t343 x17_1).f5)] from (qdA _ _ _ (⟨((qB t343 x17_1).f0), ((qB t343 x17_1).f1), ((qB t343 x17_1).f2), ((qB t343 x17_1).f3), ((qB t343 x17_1).f4), ((qB t343 x17_1).f5)⟩ : S29) )) (Reps.none _ _)))
                 intro v387 w56 ho57 hb hg_ hnew_
                 clear hg_ hnew_
                 (first | rw [← Ny386.out] at ho57 | (simp only [Int.reduceToNat] at ho57; rw [← Ny386.out] at ho57))
                 have n0_ := Aside0.mk (Kd.qz (by (with_reducible repeat (first | apply Kd.qH | apply Kd.qI | apply Kd.qK)); exact HO_5.out) (Kd.qYA ho57) hb)
                 have n1_ := Aside0.mk (Kd.qz (by (with_reducible repeat (first | apply Kd.qH | apply Kd.qI | apply Kd.qK)); exact HO_13.out) (Kd.qYA ho57) hb)
                 have n2_ := Aside0.mk (Kd.qz (by (with_reducible repeat (first | apply Kd.qH | apply Kd.qI | apply Kd.qK)); exact HO385.out) (Kd.qYA ho57) hb)
                 have n3_ := Aside0.mk (Kd.qLA (Kd.qWA (Kd.qWA (Kd.qXA (Kd.qXA (Kd.qXA ho57 (Kd.R_lt (by (with_reducible repeat (first | apply Kd.qH | apply Kd.qI | apply Kd.qK)); exact HO_5.out))) (Kd.R_lt (by (with_reducible repeat (first | apply Kd.qH | apply Kd.qI | apply Kd.qK)); exact HO_13.out))) (Kd.R_lt (by (with_reducible repeat (first | apply Kd.qH | apply Kd.qI | apply Kd.qK)); exact HO385.out))) (g := gb342) (o := .cells #[.int .i64 a0_0, .int .i64 a0_1, .int .i64 a0_2, .int .i64 a0_3, .int .i64 a0_4, .int .i64 a0_5] 29 (0, 0)) (by (with_reducible repeat (first | refine qC ?_ _ | refine qE ?_ | refine qD ?_ _)); exact BK342.out)) (g := gb350) (o := .cells #[.int .i64 ((qB t343 x17_1).f0), .int .i64 ((qB t343 x17_1).f1), .int .i64 ((qB t343 x17_1).f2), .int .i64 ((qB t343 x17_1).f3), .int .i64 ((qB t343 x17_1).f4), .int .i64 ((qB t343 x17_1).f5)] 29 (0, 0)) (by (with_reducible repeat (first | refine qC ?_ _ | refine qE ?_ | refine qD ?_ _)); exact BK350.out)) (qb bl))
                 have n4_ := Aside0.mk (bb BK342 hb)
                 have n5_ := Aside0.mk (bb BK350 hb)
                 have n6_ := Aside0.mk (Kd.qmA (by repeat (first | (with_reducible exact HR382.out) | (with_reducible refine Kd.qq ?_ _) | (with_reducible refine Kd.qp ?_ _) | (with_reducible refine Kd.qEA ?_) | exact HR382.out)) hb)
                 have n7_ := Aside0.mk (qF bl hb)
                 clear HO_5
                 clear HO_13
                 clear HO385
                 clear BK342
                 clear BK350
                 clear HR382
                 clear HB
                 have HO_5 := n0_
                 have HO_13 := n1_
                 have HO385 := n2_
                 have HO388 := n3_
                 have BK342 := n4_
                 have BK350 := n5_
                 have HR382 := n6_
                 have HB := n7_
                 clear n0_ n1_ n2_ n3_ n4_ n5_ n6_ n7_
                 clear hb ho57
                 refine hK.out _ _ ⟨(qG BK350.out 0).trans rfl, (qG BK350.out 1).trans rfl, (qG BK350.out 2).trans rfl, (qG BK350.out 3).trans rfl, (qG BK350.out 4).trans rfl, (qG BK350.out 5).trans rfl⟩ (fun hHeld => ?_)
                 clear hK K
                 refine norm_ (a' := ?_) ?_ ?_
                 rotate_left
                 ·show Act.put _ (some 41) _ = _
                  simp only [Act.put, List.setIfInBounds_toArray, List.set_cons_zero, List.set_cons_succ, i64_w, i32_w]
                  rfl
                 exact norm_ (by simp only [putAll, Act.put, List.setIfInBounds_toArray, List.set_cons_zero, List.set_cons_succ]) (hCont (v377, v384, v387) _ ⟨hHeld, (by (with_reducible repeat (first | apply Kd.qH | apply Kd.qI | apply Kd.qK)); exact Kd.qa HO385.out (fun _ hk => ⟨hk.2, ⟨hk.1.2.1, ⟨hk.1.1, ⟨hk.1.2.2.1, hk.1.2.2.2⟩⟩⟩⟩)), (by (with_reducible repeat (first | apply Kd.qH | apply Kd.qI | apply Kd.qK)); exact Kd.qa HO388.out (fun _ hk => ⟨hk.1.1.2, ⟨hk.1.1.1.2, ⟨hk.1.1.1.1.2, ⟨hk.1.2, hk.2⟩⟩⟩⟩)), (by (with_reducible repeat (first | apply Kd.qH | apply Kd.qI | apply Kd.qK)); exact Kd.qa HO_13.out (fun _ hk => ⟨hk.1.2, ⟨hk.2, ⟨hk.1.1.1, ⟨hk.1.1.2.1, hk.1.1.2.2⟩⟩⟩⟩)), (by (with_reducible repeat (first | apply Kd.qH | apply Kd.qI | apply Kd.qK)); exact Kd.qa HO_5.out (fun _ hk => ⟨hk.1.2, ⟨hk.2, ⟨hk.1.1.1, ⟨hk.1.1.2.1, hk.1.1.2.2⟩⟩⟩⟩)), (by (with_reducible repeat (first | refine qC ?_ _ | refine qE ?_ | refine qD ?_ _)); exact BK342.out), (by (with_reducible repeat (first | refine qC ?_ _ | refine qE ?_ | refine qD ?_ _)); exact BK350.out), bl⟩)
                ·skip
                 refine Kd.qcA k29 _ 29 ?hg (N := 41) ?hd (xs := ([(⟨((qB t343 x17_1).f0), ((qB t343 x17_1).f1), ((qB t343 x17_1).f2), ((qB t343 x17_1).f3), ((qB t343 x17_1).f4), ((qB t343 x17_1).f5)⟩ : S29)] : List (S29))) (inner := [.int .i64 ((qB t343 x17_1).f0), .int .i64 ((qB t343 x17_1).f1), .int .i64 ((qB t343 x17_1).f2), .int .i64 ((qB t343 x17_1).f3), .int .i64 ((qB t343 x17_1).f4), .int .i64 ((qB t343 x17_1).f5)]) (ok := fun _ => True) (okp := fun _ => True) ?hr ?hp (fun _ hk => hk) trivial (Below.refl _ _) (Nat.le_refl _) (by simp) ?_; (case hd => rfl); (case hg => rfl); (case hr => first | (go_simp; done) | (go_simp; rfl)); (case hp => exact (Reps.c6 (show Kd.M k29 _ _ _ (⟨((qB t343 x17_1).f0), ((qB t343 x17_1).f1), ((qB t343 x17_1).f2), ((qB t343 x17_1).f3), ((qB t343 x17_1).f4), ((qB t343 x17_1).f5)⟩ : S29) [.int .i64 ((qB t343 x17_1).f0), .int .i64 ((qB t343 x17_1).f1), .int .i64 ((qB t343 x17_1).f2), .int .i64 ((qB t343 x17_1).f3), .int .i64 ((qB t343 x17_1).f4), .int .i64 ((qB t343 x17_1).f5)] from (qdA _ _ _ (⟨((qB t343 x17_1).f0), ((qB t343 x17_1).f1), ((qB t343 x17_1).f2), ((qB t343 x17_1).f3), ((qB t343 x17_1).f4), ((qB t343 x17_1).f5)⟩ : S29) )) (Reps.none _ _)))
                 intro v387 w55 ho56 hb hg_ hnew_
                 clear hg_ hnew_
                 (first | rw [← Ny386.out] at ho56 | (simp only [Int.reduceToNat] at ho56; rw [← Ny386.out] at ho56))
                 have n0_ := Aside0.mk (Kd.qz (by (with_reducible repeat (first | apply Kd.qH | apply Kd.qI | apply Kd.qK)); exact HO_5.out) (Kd.qYA ho56) hb)
                 have n1_ := Aside0.mk (Kd.qz (by (with_reducible repeat (first | apply Kd.qH | apply Kd.qI | apply Kd.qK)); exact HO_13.out) (Kd.qYA ho56) hb)
                 have n2_ := Aside0.mk (Kd.qz (by (with_reducible repeat (first | apply Kd.qH | apply Kd.qI | apply Kd.qK)); exact HO378.out) (Kd.qYA ho56) hb)
                 have n3_ := Aside0.mk (Kd.qLA (Kd.qWA (Kd.qWA (Kd.qXA (Kd.qXA (Kd.qXA ho56 (Kd.R_lt (by (with_reducible repeat (first | apply Kd.qH | apply Kd.qI | apply Kd.qK)); exact HO_5.out))) (Kd.R_lt (by (with_reducible repeat (first | apply Kd.qH | apply Kd.qI | apply Kd.qK)); exact HO_13.out))) (Kd.R_lt (by (with_reducible repeat (first | apply Kd.qH | apply Kd.qI | apply Kd.qK)); exact HO378.out))) (g := gb342) (o := .cells #[.int .i64 a0_0, .int .i64 a0_1, .int .i64 a0_2, .int .i64 a0_3, .int .i64 a0_4, .int .i64 a0_5] 29 (0, 0)) (by (with_reducible repeat (first | refine qC ?_ _ | refine qE ?_ | refine qD ?_ _)); exact BK342.out)) (g := gb350) (o := .cells #[.int .i64 ((qB t343 x17_1).f0), .int .i64 ((qB t343 x17_1).f1), .int .i64 ((qB t343 x17_1).f2), .int .i64 ((qB t343 x17_1).f3), .int .i64 ((qB t343 x17_1).f4), .int .i64 ((qB t343 x17_1).f5)] 29 (0, 0)) (by (with_reducible repeat (first | refine qC ?_ _ | refine qE ?_ | refine qD ?_ _)); exact BK350.out)) (qb bl))
                 have n4_ := Aside0.mk (bb BK342 hb)
                 have n5_ := Aside0.mk (bb BK350 hb)
                 have n6_ := Aside0.mk (Kd.qmA (by repeat (first | (with_reducible exact HR382.out) | (with_reducible refine Kd.qq ?_ _) | (with_reducible refine Kd.qp ?_ _) | (with_reducible refine Kd.qEA ?_) | exact HR382.out)) hb)
                 have n7_ := Aside0.mk (qF bl hb)
                 clear HO_5
                 clear HO_13
                 clear HO378
                 clear BK342
                 clear BK350
                 clear HR382
                 clear HB
                 have HO_5 := n0_
                 have HO_13 := n1_
                 have HO378 := n2_
                 have HO388 := n3_
                 have BK342 := n4_
                 have BK350 := n5_
                 have HR382 := n6_
                 have HB := n7_
                 clear n0_ n1_ n2_ n3_ n4_ n5_ n6_ n7_
                 clear hb ho56
                 refine hK.out _ _ ⟨(qG BK350.out 0).trans rfl, (qG BK350.out 1).trans rfl, (qG BK350.out 2).trans rfl, (qG BK350.out 3).trans rfl, (qG BK350.out 4).trans rfl, (qG BK350.out 5).trans rfl⟩ (fun hHeld => ?_)
                 clear hK K
                 refine norm_ (a' := ?_) ?_ ?_
                 rotate_left
                 ·show Act.put _ (some 41) _ = _
                  simp only [Act.put, List.setIfInBounds_toArray, List.set_cons_zero, List.set_cons_succ, i64_w, i32_w]
                  rfl
                 refine one_ (i := 4) (N := some 39) #[true, true, true, true, true, true, true, false, false] rfl rfl (qsA HT_.out (by kernel_rfl)) (by decide) (fun K hK => ?_)
                 refine Kd.qJA k29 (w0 := w) w.heap.size (by rfl) (.tmp 35) (.tmp 38) 38 29 (.agg #[(.int .i64 0), (.int .i64 0), (.int .i64 0), (.int .i64 0), (.int .i64 0), (.int .i64 0)]) 48 rfl Try.underlying38 info29 rfl (by decide) (by omega) v377 y376 y379 _ _ _ (fun k_ => some k_ ≠ (.slice Ao50 x5_1.length co50 : Value).ownBlock ∧ some k_ ≠ (.slice (some ad349) t343.length co6 : Value).ownBlock ∧ some k_ ≠ (v387 : Value).ownBlock ∧ k_ ≠ gb342 ∧ k_ ≠ gb350) (fun _ => False) rfl rfl ?aO ?aR (fun _ _ h => h) (fun _ h => h.elim) ?aF ?aB ?aS ?aL ?_
                 (case aR => repeat (first | exact (by repeat (first | (with_reducible exact HR382.out) | (with_reducible refine Kd.qq ?_ _) | (with_reducible refine Kd.qp ?_ _) | (with_reducible refine Kd.qEA ?_) | exact HR382.out)) | (with_reducible refine Kd.qq ?_ _) | (with_reducible refine Kd.qp ?_ _) | (with_reducible refine Kd.qEA ?_)))
                 (case aB => exact bl)
                 (case aF => exact (fun k_ hk => ⟨Kd.fresh' (Kd.R_lt (by (with_reducible repeat (first | apply Kd.qH | apply Kd.qI | apply Kd.qK)); exact HO_5.out)) k_ hk, Kd.fresh' (Kd.R_lt (by (with_reducible repeat (first | apply Kd.qH | apply Kd.qI | apply Kd.qK)); exact HO_13.out)) k_ hk, Kd.fresh' (Kd.R_lt (by (with_reducible repeat (first | apply Kd.qH | apply Kd.qI | apply Kd.qK)); exact HO388.out)) k_ hk, Kd.freshB (g := gb342) (o := .cells #[.int .i64 a0_0, .int .i64 a0_1, .int .i64 a0_2, .int .i64 a0_3, .int .i64 a0_4, .int .i64 a0_5] 29 (0, 0)) (by (with_reducible repeat (first | refine qC ?_ _ | refine qE ?_ | refine qD ?_ _)); exact BK342.out) k_ hk, Kd.freshB (g := gb350) (o := .cells #[.int .i64 ((qB t343 x17_1).f0), .int .i64 ((qB t343 x17_1).f1), .int .i64 ((qB t343 x17_1).f2), .int .i64 ((qB t343 x17_1).f3), .int .i64 ((qB t343 x17_1).f4), .int .i64 ((qB t343 x17_1).f5)] 29 (0, 0)) (by (with_reducible repeat (first | refine qC ?_ _ | refine qE ?_ | refine qD ?_ _)); exact BK350.out) k_ hk⟩))
                 (case aO => exact (by (with_reducible repeat (first | apply Kd.qH | apply Kd.qI | apply Kd.qK)); exact Kd.qa HO378.out (fun _ hk => ⟨hk.1.1.1.1.2, ⟨hk.1.1.1.2, ⟨hk.2, ⟨hk.1.1.2, hk.1.2⟩⟩⟩⟩)))
                 (case aS => exact (qb bl))
                 (case aL => have := LMc44.out; omega)
                 intro v384 w57 ho hb hg hat
                 rw [← Ny383.out] at ho
                 have n0_ := Aside0.mk (Kd.qy (ok := (fun k_ => some k_ ≠ (.slice (some ad349) t343.length co6 : Value).ownBlock ∧ some k_ ≠ (v387 : Value).ownBlock ∧ k_ ≠ gb342 ∧ k_ ≠ gb350)) (by (with_reducible repeat (first | apply Kd.qH | apply Kd.qI | apply Kd.qK)); exact Kd.qa HO_5.out (fun _ hk => ⟨⟨hk.1.1.1, ⟨hk.2, ⟨hk.1.1.2.1, hk.1.1.2.2⟩⟩⟩, hk.1.2⟩)) hg hat)
                 have n1_ := Aside0.mk (Kd.qy (ok := (fun k_ => some k_ ≠ (.slice Ao50 x5_1.length co50 : Value).ownBlock ∧ some k_ ≠ (v387 : Value).ownBlock ∧ k_ ≠ gb342 ∧ k_ ≠ gb350)) (by (with_reducible repeat (first | apply Kd.qH | apply Kd.qI | apply Kd.qK)); exact Kd.qa HO_13.out (fun _ hk => ⟨⟨hk.1.1.1, ⟨hk.2, ⟨hk.1.1.2.1, hk.1.1.2.2⟩⟩⟩, hk.1.2⟩)) hg hat)
                 have n2_ := Aside0.mk (qv (g := gb342) (o := .cells #[.int .i64 a0_0, .int .i64 a0_1, .int .i64 a0_2, .int .i64 a0_3, .int .i64 a0_4, .int .i64 a0_5] 29 (0, 0)) (by (with_reducible repeat (first | refine qC ?_ _ | refine qE ?_ | refine qD ?_ _)); exact BK342.out) hg (Kd.qhA HO378.out (fun _ hk => hk.1.1.2)))
                 have n3_ := Aside0.mk (qv (g := gb350) (o := .cells #[.int .i64 ((qB t343 x17_1).f0), .int .i64 ((qB t343 x17_1).f1), .int .i64 ((qB t343 x17_1).f2), .int .i64 ((qB t343 x17_1).f3), .int .i64 ((qB t343 x17_1).f4), .int .i64 ((qB t343 x17_1).f5)] 29 (0, 0)) (by (with_reducible repeat (first | refine qC ?_ _ | refine qE ?_ | refine qD ?_ _)); exact BK350.out) hg (Kd.qhA HO378.out (fun _ hk => hk.1.2)))
                 have n4_ := Aside0.mk (Kd.qy (ok := (fun k_ => some k_ ≠ (.slice Ao50 x5_1.length co50 : Value).ownBlock ∧ some k_ ≠ (.slice (some ad349) t343.length co6 : Value).ownBlock ∧ k_ ≠ gb342 ∧ k_ ≠ gb350)) (by (with_reducible repeat (first | apply Kd.qH | apply Kd.qI | apply Kd.qK)); exact Kd.qa HO388.out (fun _ hk => ⟨⟨hk.1.1.1.1.2, ⟨hk.1.1.1.2, ⟨hk.1.2, hk.2⟩⟩⟩, hk.1.1.2⟩)) hg hat)
                 have n5_ := Aside0.mk (hb)
                 have n6_ := Aside0.mk ((show Kd.C k29 w57 Ao50 y379.length y379 from by rw [Ny379.out]; exact Kd.qkB (m := (x8_2 : Int).toNat) ((Kd.qT (Kd.qy (ok := (fun k_ => some k_ ≠ (.slice (some ad349) t343.length co6 : Value).ownBlock ∧ some k_ ≠ (v387 : Value).ownBlock ∧ k_ ≠ gb342 ∧ k_ ≠ gb350)) (by (with_reducible repeat (first | apply Kd.qH | apply Kd.qI | apply Kd.qK)); exact Kd.qa HO_5.out (fun _ hk => ⟨⟨hk.1.1.1, ⟨hk.2, ⟨hk.1.1.2.1, hk.1.1.2.2⟩⟩⟩, hk.1.2⟩)) hg hat)).2.2) KL52.out))
                 have n7_ := Aside0.mk (ho)
                 clear HO_5
                 clear HO_13
                 clear BK342
                 clear BK350
                 clear HO388
                 clear HB
                 clear HR382
                 clear HO378
                 have HO_5 := n0_
                 have HO_13 := n1_
                 have BK342 := n2_
                 have BK350 := n3_
                 have HO388 := n4_
                 have HB := n5_
                 have HR382 := n6_
                 have HO385 := n7_
                 clear n0_ n1_ n2_ n3_ n4_ n5_ n6_ n7_
                 clear ho hb hg hat
                 refine hK.out _ _ ⟨(qG BK350.out 0).trans rfl, (qG BK350.out 1).trans rfl, (qG BK350.out 2).trans rfl, (qG BK350.out 3).trans rfl, (qG BK350.out 4).trans rfl, (qG BK350.out 5).trans rfl⟩ (fun hHeld => ?_)
                 clear hK K
                 refine norm_ (a' := ?_) ?_ ?_
                 rotate_left
                 ·show Act.put _ (some 39) _ = _
                  simp only [Act.put, List.setIfInBounds_toArray, List.set_cons_zero, List.set_cons_succ, i64_w, i32_w]
                  rfl
                 exact norm_ (by simp only [putAll, Act.put, List.setIfInBounds_toArray, List.set_cons_zero, List.set_cons_succ]) (hCont (v377, v384, v387) _ ⟨hHeld, (by (with_reducible repeat (first | apply Kd.qH | apply Kd.qI | apply Kd.qK)); exact Kd.qa HO385.out (fun _ hk => ⟨hk.2.2.1, ⟨hk.2.1, ⟨hk.1, ⟨hk.2.2.2.1, hk.2.2.2.2⟩⟩⟩⟩)), (by (with_reducible repeat (first | apply Kd.qH | apply Kd.qI | apply Kd.qK)); exact Kd.qa HO388.out (fun _ hk => ⟨hk.2, ⟨hk.1.2.1, ⟨hk.1.1, ⟨hk.1.2.2.1, hk.1.2.2.2⟩⟩⟩⟩)), (by (with_reducible repeat (first | apply Kd.qH | apply Kd.qI | apply Kd.qK)); exact Kd.qa HO_13.out (fun _ hk => ⟨hk.2, ⟨hk.1.2.1, ⟨hk.1.1, ⟨hk.1.2.2.1, hk.1.2.2.2⟩⟩⟩⟩)), (by (with_reducible repeat (first | apply Kd.qH | apply Kd.qI | apply Kd.qK)); exact Kd.qa HO_5.out (fun _ hk => ⟨hk.2, ⟨hk.1.2.1, ⟨hk.1.1, ⟨hk.1.2.2.1, hk.1.2.2.2⟩⟩⟩⟩)), (by (with_reducible repeat (first | refine qC ?_ _ | refine qE ?_ | refine qD ?_ _)); exact BK342.out), (by (with_reducible repeat (first | refine qC ?_ _ | refine qE ?_ | refine qD ?_ _)); exact BK350.out), bl⟩)
               ·skip
                refine Kd.qcA k29 _ 29 ?hg (N := 41) ?hd (xs := ([(⟨((qB t343 x17_1).f0), ((qB t343 x17_1).f1), ((qB t343 x17_1).f2), ((qB t343 x17_1).f3), ((qB t343 x17_1).f4), ((qB t343 x17_1).f5)⟩ : S29)] : List (S29))) (inner := [.int .i64 ((qB t343 x17_1).f0), .int .i64 ((qB t343 x17_1).f1), .int .i64 ((qB t343 x17_1).f2), .int .i64 ((qB t343 x17_1).f3), .int .i64 ((qB t343 x17_1).f4), .int .i64 ((qB t343 x17_1).f5)]) (ok := fun _ => True) (okp := fun _ => True) ?hr ?hp (fun _ hk => hk) trivial (Below.refl _ _) (Nat.le_refl _) (by simp) ?_; (case hd => rfl); (case hg => rfl); (case hr => first | (go_simp; done) | (go_simp; rfl)); (case hp => exact (Reps.c6 (show Kd.M k29 _ _ _ (⟨((qB t343 x17_1).f0), ((qB t343 x17_1).f1), ((qB t343 x17_1).f2), ((qB t343 x17_1).f3), ((qB t343 x17_1).f4), ((qB t343 x17_1).f5)⟩ : S29) [.int .i64 ((qB t343 x17_1).f0), .int .i64 ((qB t343 x17_1).f1), .int .i64 ((qB t343 x17_1).f2), .int .i64 ((qB t343 x17_1).f3), .int .i64 ((qB t343 x17_1).f4), .int .i64 ((qB t343 x17_1).f5)] from (qdA _ _ _ (⟨((qB t343 x17_1).f0), ((qB t343 x17_1).f1), ((qB t343 x17_1).f2), ((qB t343 x17_1).f3), ((qB t343 x17_1).f4), ((qB t343 x17_1).f5)⟩ : S29) )) (Reps.none _ _)))
                intro v387 w53 ho54 hb hg_ hnew_
                clear hg_ hnew_
                (first | rw [← Ny386.out] at ho54 | (simp only [Int.reduceToNat] at ho54; rw [← Ny386.out] at ho54))
                have n0_ := Aside0.mk (Kd.qz (by (with_reducible repeat (first | apply Kd.qH | apply Kd.qI | apply Kd.qK)); exact HO_5.out) (Kd.qYA ho54) hb)
                have n1_ := Aside0.mk (Kd.qz (by (with_reducible repeat (first | apply Kd.qH | apply Kd.qI | apply Kd.qK)); exact HO_13.out) (Kd.qYA ho54) hb)
                have n2_ := Aside0.mk (Kd.qLA (Kd.qWA (Kd.qWA (Kd.qXA (Kd.qXA ho54 (Kd.R_lt (by (with_reducible repeat (first | apply Kd.qH | apply Kd.qI | apply Kd.qK)); exact HO_5.out))) (Kd.R_lt (by (with_reducible repeat (first | apply Kd.qH | apply Kd.qI | apply Kd.qK)); exact HO_13.out))) (g := gb342) (o := .cells #[.int .i64 a0_0, .int .i64 a0_1, .int .i64 a0_2, .int .i64 a0_3, .int .i64 a0_4, .int .i64 a0_5] 29 (0, 0)) (by (with_reducible repeat (first | refine qC ?_ _ | refine qE ?_ | refine qD ?_ _)); exact BK342.out)) (g := gb350) (o := .cells #[.int .i64 ((qB t343 x17_1).f0), .int .i64 ((qB t343 x17_1).f1), .int .i64 ((qB t343 x17_1).f2), .int .i64 ((qB t343 x17_1).f3), .int .i64 ((qB t343 x17_1).f4), .int .i64 ((qB t343 x17_1).f5)] 29 (0, 0)) (by (with_reducible repeat (first | refine qC ?_ _ | refine qE ?_ | refine qD ?_ _)); exact BK350.out)) (qb bl))
                have n3_ := Aside0.mk (bb BK342 hb)
                have n4_ := Aside0.mk (bb BK350 hb)
                have n5_ := Aside0.mk (Kd.qmA (by repeat (first | (with_reducible exact HR382.out) | (with_reducible refine Kd.qq ?_ _) | (with_reducible refine Kd.qp ?_ _) | (with_reducible refine Kd.qEA ?_) | exact HR382.out)) hb)
                have n6_ := Aside0.mk (qF bl hb)
                clear HO_5
                clear HO_13
                clear BK342
                clear BK350
                clear HR382
                clear HB
                have HO_5 := n0_
                have HO_13 := n1_
                have HO388 := n2_
                have BK342 := n3_
                have BK350 := n4_
                have HR382 := n5_
                have HB := n6_
                clear n0_ n1_ n2_ n3_ n4_ n5_ n6_
                clear hb ho54
                refine hK.out _ _ ⟨(qG BK350.out 0).trans rfl, (qG BK350.out 1).trans rfl, (qG BK350.out 2).trans rfl, (qG BK350.out 3).trans rfl, (qG BK350.out 4).trans rfl, (qG BK350.out 5).trans rfl⟩ (fun hHeld => ?_)
                clear hK K
                refine norm_ (a' := ?_) ?_ ?_
                rotate_left
                ·show Act.put _ (some 41) _ = _
                 simp only [Act.put, List.setIfInBounds_toArray, List.set_cons_zero, List.set_cons_succ, i64_w, i32_w]
                 rfl
                refine one_ (i := 0) (N := some 35) #[true, true, true, true, false, true, true, false, false] rfl rfl (qsA HT_.out (by kernel_rfl)) (by decide) (fun K hK => ?_)
                refine Kd.qcA k29 _ 29 ?hg (N := 35) ?hd (xs := ([] : List (S29))) (inner := []) (ok := fun _ => True) (okp := fun _ => True) ?hr ?hp (fun _ hk => hk) trivial (Below.refl _ _) (Nat.le_refl _) (by simp) ?_; (case hd => rfl); (case hg => rfl); (case hr => first | (go_simp; done) | (go_simp; rfl)); (case hp => exact (Reps.none _ _))
                intro v377 w55 ho56 hb hg_ hnew_
                clear hg_ hnew_
                (first | rw [← Ny376.out] at ho56 | (simp only [Int.reduceToNat] at ho56; rw [← Ny376.out] at ho56))
                have n0_ := Aside0.mk (Kd.qz (by (with_reducible repeat (first | apply Kd.qH | apply Kd.qI | apply Kd.qK)); exact HO_5.out) (Kd.qYA ho56) hb)
                have n1_ := Aside0.mk (Kd.qz (by (with_reducible repeat (first | apply Kd.qH | apply Kd.qI | apply Kd.qK)); exact HO_13.out) (Kd.qYA ho56) hb)
                have n2_ := Aside0.mk (Kd.qz (by (with_reducible repeat (first | apply Kd.qH | apply Kd.qI | apply Kd.qK)); exact HO388.out) (Kd.qYA ho56) hb)
                have n3_ := Aside0.mk (Kd.qLA (Kd.qWA (Kd.qWA (Kd.qXA (Kd.qXA (Kd.qXA ho56 (Kd.R_lt (by (with_reducible repeat (first | apply Kd.qH | apply Kd.qI | apply Kd.qK)); exact HO_5.out))) (Kd.R_lt (by (with_reducible repeat (first | apply Kd.qH | apply Kd.qI | apply Kd.qK)); exact HO_13.out))) (Kd.R_lt (by (with_reducible repeat (first | apply Kd.qH | apply Kd.qI | apply Kd.qK)); exact HO388.out))) (g := gb342) (o := .cells #[.int .i64 a0_0, .int .i64 a0_1, .int .i64 a0_2, .int .i64 a0_3, .int .i64 a0_4, .int .i64 a0_5] 29 (0, 0)) (by (with_reducible repeat (first | refine qC ?_ _ | refine qE ?_ | refine qD ?_ _)); exact BK342.out)) (g := gb350) (o := .cells #[.int .i64 ((qB t343 x17_1).f0), .int .i64 ((qB t343 x17_1).f1), .int .i64 ((qB t343 x17_1).f2), .int .i64 ((qB t343 x17_1).f3), .int .i64 ((qB t343 x17_1).f4), .int .i64 ((qB t343 x17_1).f5)] 29 (0, 0)) (by (with_reducible repeat (first | refine qC ?_ _ | refine qE ?_ | refine qD ?_ _)); exact BK350.out)) (qb bl))
                have n4_ := Aside0.mk (bb BK342 hb)
                have n5_ := Aside0.mk (bb BK350 hb)
                have n6_ := Aside0.mk (Kd.qmA (by repeat (first | (with_reducible exact HR382.out) | (with_reducible refine Kd.qq ?_ _) | (with_reducible refine Kd.qp ?_ _) | (with_reducible refine Kd.qEA ?_) | exact HR382.out)) hb)
                have n7_ := Aside0.mk (qF bl hb)
                clear HO_5
                clear HO_13
                clear HO388
                clear BK342
                clear BK350
                clear HR382
                clear HB
                have HO_5 := n0_
                have HO_13 := n1_
                have HO388 := n2_
                have HO378 := n3_
                have BK342 := n4_
                have BK350 := n5_
                have HR382 := n6_
                have HB := n7_
                clear n0_ n1_ n2_ n3_ n4_ n5_ n6_ n7_
                clear hb ho56
                refine hK.out _ _ ⟨(qG BK350.out 0).trans rfl, (qG BK350.out 1).trans rfl, (qG BK350.out 2).trans rfl, (qG BK350.out 3).trans rfl, (qG BK350.out 4).trans rfl, (qG BK350.out 5).trans rfl⟩ (fun hHeld => ?_)
                clear hK K
                refine norm_ (a' := ?_) ?_ ?_
                rotate_left
                ·show Act.put _ (some 35) _ = _
                 simp only [Act.put, List.setIfInBounds_toArray, List.set_cons_zero, List.set_cons_succ, i64_w, i32_w]
                 rfl
                refine one_ (i := 4) (N := some 39) #[true, true, true, true, true, true, true, false, false] rfl rfl (qsA HT_.out (by kernel_rfl)) (by decide) (fun K hK => ?_)
                refine Kd.qJA k29 (w0 := w) w.heap.size (by rfl) (.tmp 35) (.tmp 38) 38 29 (.agg #[(.int .i64 0), (.int .i64 0), (.int .i64 0), (.int .i64 0), (.int .i64 0), (.int .i64 0)]) 48 rfl Try.underlying38 info29 rfl (by decide) (by omega) v377 y376 y379 _ _ _ (fun k_ => some k_ ≠ (.slice Ao50 x5_1.length co50 : Value).ownBlock ∧ some k_ ≠ (.slice (some ad349) t343.length co6 : Value).ownBlock ∧ some k_ ≠ (v387 : Value).ownBlock ∧ k_ ≠ gb342 ∧ k_ ≠ gb350) (fun _ => False) rfl rfl ?aO ?aR (fun _ _ h => h) (fun _ h => h.elim) ?aF ?aB ?aS ?aL ?_
                (case aR => repeat (first | exact (by repeat (first | (with_reducible exact HR382.out) | (with_reducible refine Kd.qq ?_ _) | (with_reducible refine Kd.qp ?_ _) | (with_reducible refine Kd.qEA ?_) | exact HR382.out)) | (with_reducible refine Kd.qq ?_ _) | (with_reducible refine Kd.qp ?_ _) | (with_reducible refine Kd.qEA ?_)))
                (case aB => exact bl)
                (case aF => exact (fun k_ hk => ⟨Kd.fresh' (Kd.R_lt (by (with_reducible repeat (first | apply Kd.qH | apply Kd.qI | apply Kd.qK)); exact HO_5.out)) k_ hk, Kd.fresh' (Kd.R_lt (by (with_reducible repeat (first | apply Kd.qH | apply Kd.qI | apply Kd.qK)); exact HO_13.out)) k_ hk, Kd.fresh' (Kd.R_lt (by (with_reducible repeat (first | apply Kd.qH | apply Kd.qI | apply Kd.qK)); exact HO388.out)) k_ hk, Kd.freshB (g := gb342) (o := .cells #[.int .i64 a0_0, .int .i64 a0_1, .int .i64 a0_2, .int .i64 a0_3, .int .i64 a0_4, .int .i64 a0_5] 29 (0, 0)) (by (with_reducible repeat (first | refine qC ?_ _ | refine qE ?_ | refine qD ?_ _)); exact BK342.out) k_ hk, Kd.freshB (g := gb350) (o := .cells #[.int .i64 ((qB t343 x17_1).f0), .int .i64 ((qB t343 x17_1).f1), .int .i64 ((qB t343 x17_1).f2), .int .i64 ((qB t343 x17_1).f3), .int .i64 ((qB t343 x17_1).f4), .int .i64 ((qB t343 x17_1).f5)] 29 (0, 0)) (by (with_reducible repeat (first | refine qC ?_ _ | refine qE ?_ | refine qD ?_ _)); exact BK350.out) k_ hk⟩))
                (case aO => exact (by (with_reducible repeat (first | apply Kd.qH | apply Kd.qI | apply Kd.qK)); exact Kd.qa HO378.out (fun _ hk => ⟨hk.1.1.1.1.2, ⟨hk.1.1.1.2, ⟨hk.1.1.2, ⟨hk.1.2, hk.2⟩⟩⟩⟩)))
                (case aS => exact (qb bl))
                (case aL => have := LMc44.out; omega)
                intro v384 w57 ho hb hg hat
                rw [← Ny383.out] at ho
                have n0_ := Aside0.mk (Kd.qy (ok := (fun k_ => some k_ ≠ (.slice (some ad349) t343.length co6 : Value).ownBlock ∧ some k_ ≠ (v387 : Value).ownBlock ∧ k_ ≠ gb342 ∧ k_ ≠ gb350)) (by (with_reducible repeat (first | apply Kd.qH | apply Kd.qI | apply Kd.qK)); exact Kd.qa HO_5.out (fun _ hk => ⟨⟨hk.1.1.1, ⟨hk.1.2, ⟨hk.1.1.2.1, hk.1.1.2.2⟩⟩⟩, hk.2⟩)) hg hat)
                have n1_ := Aside0.mk (Kd.qy (ok := (fun k_ => some k_ ≠ (.slice Ao50 x5_1.length co50 : Value).ownBlock ∧ some k_ ≠ (v387 : Value).ownBlock ∧ k_ ≠ gb342 ∧ k_ ≠ gb350)) (by (with_reducible repeat (first | apply Kd.qH | apply Kd.qI | apply Kd.qK)); exact Kd.qa HO_13.out (fun _ hk => ⟨⟨hk.1.1.1, ⟨hk.1.2, ⟨hk.1.1.2.1, hk.1.1.2.2⟩⟩⟩, hk.2⟩)) hg hat)
                have n2_ := Aside0.mk (qv (g := gb342) (o := .cells #[.int .i64 a0_0, .int .i64 a0_1, .int .i64 a0_2, .int .i64 a0_3, .int .i64 a0_4, .int .i64 a0_5] 29 (0, 0)) (by (with_reducible repeat (first | refine qC ?_ _ | refine qE ?_ | refine qD ?_ _)); exact BK342.out) hg (Kd.qhA HO378.out (fun _ hk => hk.1.2)))
                have n3_ := Aside0.mk (qv (g := gb350) (o := .cells #[.int .i64 ((qB t343 x17_1).f0), .int .i64 ((qB t343 x17_1).f1), .int .i64 ((qB t343 x17_1).f2), .int .i64 ((qB t343 x17_1).f3), .int .i64 ((qB t343 x17_1).f4), .int .i64 ((qB t343 x17_1).f5)] 29 (0, 0)) (by (with_reducible repeat (first | refine qC ?_ _ | refine qE ?_ | refine qD ?_ _)); exact BK350.out) hg (Kd.qhA HO378.out (fun _ hk => hk.2)))
                have n4_ := Aside0.mk (Kd.qy (ok := (fun k_ => some k_ ≠ (.slice Ao50 x5_1.length co50 : Value).ownBlock ∧ some k_ ≠ (.slice (some ad349) t343.length co6 : Value).ownBlock ∧ k_ ≠ gb342 ∧ k_ ≠ gb350)) (by (with_reducible repeat (first | apply Kd.qH | apply Kd.qI | apply Kd.qK)); exact Kd.qa HO388.out (fun _ hk => ⟨⟨hk.1.1.1.1.2, ⟨hk.1.1.1.2, ⟨hk.1.1.2, hk.1.2⟩⟩⟩, hk.2⟩)) hg hat)
                have n5_ := Aside0.mk (hb)
                have n6_ := Aside0.mk ((show Kd.C k29 w57 Ao50 y379.length y379 from by rw [Ny379.out]; exact Kd.qkB (m := (x8_2 : Int).toNat) ((Kd.qT (Kd.qy (ok := (fun k_ => some k_ ≠ (.slice (some ad349) t343.length co6 : Value).ownBlock ∧ some k_ ≠ (v387 : Value).ownBlock ∧ k_ ≠ gb342 ∧ k_ ≠ gb350)) (by (with_reducible repeat (first | apply Kd.qH | apply Kd.qI | apply Kd.qK)); exact Kd.qa HO_5.out (fun _ hk => ⟨⟨hk.1.1.1, ⟨hk.1.2, ⟨hk.1.1.2.1, hk.1.1.2.2⟩⟩⟩, hk.2⟩)) hg hat)).2.2) KL52.out))
                have n7_ := Aside0.mk (ho)
                clear HO_5
                clear HO_13
                clear BK342
                clear BK350
                clear HO388
                clear HB
                clear HR382
                clear HO378
                have HO_5 := n0_
                have HO_13 := n1_
                have BK342 := n2_
                have BK350 := n3_
                have HO388 := n4_
                have HB := n5_
                have HR382 := n6_
                have HO385 := n7_
                clear n0_ n1_ n2_ n3_ n4_ n5_ n6_ n7_
                clear ho hb hg hat
                refine hK.out _ _ ⟨(qG BK350.out 0).trans rfl, (qG BK350.out 1).trans rfl, (qG BK350.out 2).trans rfl, (qG BK350.out 3).trans rfl, (qG BK350.out 4).trans rfl, (qG BK350.out 5).trans rfl⟩ (fun hHeld => ?_)
                clear hK K
                refine norm_ (a' := ?_) ?_ ?_
                rotate_left
                ·show Act.put _ (some 39) _ = _
                 simp only [Act.put, List.setIfInBounds_toArray, List.set_cons_zero, List.set_cons_succ, i64_w, i32_w]
                 rfl
                exact norm_ (by simp only [putAll, Act.put, List.setIfInBounds_toArray, List.set_cons_zero, List.set_cons_succ]) (hCont (v377, v384, v387) _ ⟨hHeld, (by (with_reducible repeat (first | apply Kd.qH | apply Kd.qI | apply Kd.qK)); exact Kd.qa HO385.out (fun _ hk => ⟨hk.2.2.1, ⟨hk.2.1, ⟨hk.1, ⟨hk.2.2.2.1, hk.2.2.2.2⟩⟩⟩⟩)), (by (with_reducible repeat (first | apply Kd.qH | apply Kd.qI | apply Kd.qK)); exact Kd.qa HO388.out (fun _ hk => ⟨hk.2, ⟨hk.1.2.1, ⟨hk.1.1, ⟨hk.1.2.2.1, hk.1.2.2.2⟩⟩⟩⟩)), (by (with_reducible repeat (first | apply Kd.qH | apply Kd.qI | apply Kd.qK)); exact Kd.qa HO_13.out (fun _ hk => ⟨hk.2, ⟨hk.1.2.1, ⟨hk.1.1, ⟨hk.1.2.2.1, hk.1.2.2.2⟩⟩⟩⟩)), (by (with_reducible repeat (first | apply Kd.qH | apply Kd.qI | apply Kd.qK)); exact Kd.qa HO_5.out (fun _ hk => ⟨hk.2, ⟨hk.1.2.1, ⟨hk.1.1, ⟨hk.1.2.2.1, hk.1.2.2.2⟩⟩⟩⟩)), (by (with_reducible repeat (first | refine qC ?_ _ | refine qE ?_ | refine qD ?_ _)); exact BK342.out), (by (with_reducible repeat (first | refine qC ?_ _ | refine qE ?_ | refine qD ?_ _)); exact BK350.out), bl⟩)
              rintro ⟨v377, v384, v387⟩ w58 ⟨hS_, h0_, h1_, h2_, h3_, h4_, h5_, h6_⟩
              have n0_ : Aside0 (Kd.R k29 29 w58 w.heap.size (fun k_ => some k_ ≠ (v387 : Value).ownBlock ∧ some k_ ≠ (.slice (some ad349) t343.length co6 : Value).ownBlock ∧ some k_ ≠ (.slice Ao50 x5_1.length co50 : Value).ownBlock ∧ k_ ≠ gb342 ∧ k_ ≠ gb350) v384 y383) := ⟨h0_⟩
              have n1_ : Aside0 (Kd.R k29 29 w58 w.heap.size (fun k_ => some k_ ≠ (v384 : Value).ownBlock ∧ some k_ ≠ (.slice (some ad349) t343.length co6 : Value).ownBlock ∧ some k_ ≠ (.slice Ao50 x5_1.length co50 : Value).ownBlock ∧ k_ ≠ gb342 ∧ k_ ≠ gb350) v387 y386) := ⟨h1_⟩
              have n2_ : Aside0 (Kd.R k29 29 w58 w.heap.size (fun k_ => some k_ ≠ (v384 : Value).ownBlock ∧ some k_ ≠ (v387 : Value).ownBlock ∧ some k_ ≠ (.slice Ao50 x5_1.length co50 : Value).ownBlock ∧ k_ ≠ gb342 ∧ k_ ≠ gb350) (.slice (some ad349) t343.length co6) t343) := ⟨h2_⟩
              have n3_ : Aside0 (Kd.R k29 29 w58 w.heap.size (fun k_ => some k_ ≠ (v384 : Value).ownBlock ∧ some k_ ≠ (v387 : Value).ownBlock ∧ some k_ ≠ (.slice (some ad349) t343.length co6 : Value).ownBlock ∧ k_ ≠ gb342 ∧ k_ ≠ gb350) (.slice Ao50 x5_1.length co50) x5_1) := ⟨h3_⟩
              have n4_ : Aside0 (w58.heap[gb342]? = some (.cells #[.int .i64 a0_0, .int .i64 a0_1, .int .i64 a0_2, .int .i64 a0_3, .int .i64 a0_4, .int .i64 a0_5] 29 (0, 0))) := ⟨h4_⟩
              have n5_ : Aside0 (w58.heap[gb350]? = some (.cells #[.int .i64 ((qB t343 x17_1).f0), .int .i64 ((qB t343 x17_1).f1), .int .i64 ((qB t343 x17_1).f2), .int .i64 ((qB t343 x17_1).f3), .int .i64 ((qB t343 x17_1).f4), .int .i64 ((qB t343 x17_1).f5)] 29 (0, 0))) := ⟨h5_⟩
              have n6_ : Aside0 (Below w.heap.size w w58) := ⟨h6_⟩
              clear HO_5
              clear HO_13
              clear BK342
              clear BK350
              clear HB
              clear h0_ h1_ h2_ h3_ h4_ h5_ h6_
              have HO385 := n0_
              have HO388 := n1_
              have HO_13 := n2_
              have HO_5 := n3_
              have BK342 := n4_
              have BK350 := n5_
              have HB := n6_
              clear n0_ n1_ n2_ n3_ n4_ n5_ n6_
              have hHeld : w58.cell? ⟨gb350, 0, none⟩ = some (.int .i64 ((qB t343 x17_1).f0)) ∧ w58.cell? ⟨gb350, 1, none⟩ = some (.int .i64 ((qB t343 x17_1).f1)) ∧ w58.cell? ⟨gb350, 2, none⟩ = some (.int .i64 ((qB t343 x17_1).f2)) ∧ w58.cell? ⟨gb350, 3, none⟩ = some (.int .i64 ((qB t343 x17_1).f3)) ∧ w58.cell? ⟨gb350, 4, none⟩ = some (.int .i64 ((qB t343 x17_1).f4)) ∧ w58.cell? ⟨gb350, 5, none⟩ = some (.int .i64 ((qB t343 x17_1).f5)) := hS_
              obtain ⟨Ao60, co60, eo60⟩ := Kd.qHA HO388.out
              (first | subst eo60 | (injection eo60 with f1_ f2_ f3_; have f4_ := f1_.symm; have f5_ := f3_.symm; clear f1_ f2_ f3_; subst f4_; subst f5_))
              refine norm_ (a' := ?_) ?_ ?_
              rotate_left
              ·simp only [putAll, Act.put, List.setIfInBounds_toArray, List.set_cons_zero, List.set_cons_succ]
               rfl
              refine one_ (i := 7) (N := some 42) #[true, true, true, true, true, true, true, true, false] rfl rfl (qsA HT_.out (by kernel_rfl)) (by decide) (fun K hK => ?_)
              refine Kd.qJA k29 (w0 := w) w.heap.size (by rfl) (.tmp 39) (.tmp 41) 38 29 (.agg #[(.int .i64 0), (.int .i64 0), (.int .i64 0), (.int .i64 0), (.int .i64 0), (.int .i64 0)]) 48 rfl Try.underlying38 info29 rfl (by decide) (by omega) v384 y383 y386 _ _ _ (fun k_ => some k_ ≠ (.slice Ao50 x5_1.length co50 : Value).ownBlock ∧ some k_ ≠ (.slice (some ad349) t343.length co6 : Value).ownBlock ∧ some k_ ≠ (.slice Ao60 y386.length co60 : Value).ownBlock ∧ k_ ≠ gb342 ∧ k_ ≠ gb350) (fun _ => False) rfl rfl ?aO ?aR (fun _ _ h => h) (fun _ h => h.elim) ?aF ?aB ?aS ?aL ?_
              (case aR => repeat (first | exact (Kd.qT HO388.out).2.2 | (with_reducible refine Kd.qq ?_ _) | (with_reducible refine Kd.qp ?_ _) | (with_reducible refine Kd.qEA ?_)))
              (case aB => exact bl)
              (case aF => exact (fun k_ hk => ⟨Kd.fresh' (Kd.R_lt (by (with_reducible repeat (first | apply Kd.qH | apply Kd.qI | apply Kd.qK)); exact HO_5.out)) k_ hk, Kd.fresh' (Kd.R_lt (by (with_reducible repeat (first | apply Kd.qH | apply Kd.qI | apply Kd.qK)); exact HO_13.out)) k_ hk, Kd.fresh' (Kd.R_lt (by (with_reducible repeat (first | apply Kd.qH | apply Kd.qI | apply Kd.qK)); exact HO388.out)) k_ hk, Kd.freshB (g := gb342) (o := .cells #[.int .i64 a0_0, .int .i64 a0_1, .int .i64 a0_2, .int .i64 a0_3, .int .i64 a0_4, .int .i64 a0_5] 29 (0, 0)) (by (with_reducible repeat (first | refine qC ?_ _ | refine qE ?_ | refine qD ?_ _)); exact BK342.out) k_ hk, Kd.freshB (g := gb350) (o := .cells #[.int .i64 ((qB t343 x17_1).f0), .int .i64 ((qB t343 x17_1).f1), .int .i64 ((qB t343 x17_1).f2), .int .i64 ((qB t343 x17_1).f3), .int .i64 ((qB t343 x17_1).f4), .int .i64 ((qB t343 x17_1).f5)] 29 (0, 0)) (by (with_reducible repeat (first | refine qC ?_ _ | refine qE ?_ | refine qD ?_ _)); exact BK350.out) k_ hk⟩))
              (case aO => exact (by (with_reducible repeat (first | apply Kd.qH | apply Kd.qI | apply Kd.qK)); exact Kd.qa HO385.out (fun _ hk => ⟨hk.2.2.1, ⟨hk.2.1, ⟨hk.1, ⟨hk.2.2.2.1, hk.2.2.2.2⟩⟩⟩⟩)))
              (case aS => exact (qb bl))
              (case aL => have := LMc45.out; omega)
              intro v390 w59 ho hb hg hat
              rw [← Ny389.out] at ho
              have n0_ := Aside0.mk (Kd.qy (ok := (fun k_ => some k_ ≠ (.slice (some ad349) t343.length co6 : Value).ownBlock ∧ some k_ ≠ (.slice Ao60 y386.length co60 : Value).ownBlock ∧ k_ ≠ gb342 ∧ k_ ≠ gb350)) (by (with_reducible repeat (first | apply Kd.qH | apply Kd.qI | apply Kd.qK)); exact Kd.qa HO_5.out (fun _ hk => ⟨⟨hk.2.2.1, ⟨hk.2.1, ⟨hk.2.2.2.1, hk.2.2.2.2⟩⟩⟩, hk.1⟩)) hg hat)
              have n1_ := Aside0.mk (Kd.qy (ok := (fun k_ => some k_ ≠ (.slice Ao50 x5_1.length co50 : Value).ownBlock ∧ some k_ ≠ (.slice Ao60 y386.length co60 : Value).ownBlock ∧ k_ ≠ gb342 ∧ k_ ≠ gb350)) (by (with_reducible repeat (first | apply Kd.qH | apply Kd.qI | apply Kd.qK)); exact Kd.qa HO_13.out (fun _ hk => ⟨⟨hk.2.2.1, ⟨hk.2.1, ⟨hk.2.2.2.1, hk.2.2.2.2⟩⟩⟩, hk.1⟩)) hg hat)
              have n2_ := Aside0.mk (qv (g := gb342) (o := .cells #[.int .i64 a0_0, .int .i64 a0_1, .int .i64 a0_2, .int .i64 a0_3, .int .i64 a0_4, .int .i64 a0_5] 29 (0, 0)) (by (with_reducible repeat (first | refine qC ?_ _ | refine qE ?_ | refine qD ?_ _)); exact BK342.out) hg (Kd.qhA HO385.out (fun _ hk => hk.2.2.2.1)))
              have n3_ := Aside0.mk (qv (g := gb350) (o := .cells #[.int .i64 ((qB t343 x17_1).f0), .int .i64 ((qB t343 x17_1).f1), .int .i64 ((qB t343 x17_1).f2), .int .i64 ((qB t343 x17_1).f3), .int .i64 ((qB t343 x17_1).f4), .int .i64 ((qB t343 x17_1).f5)] 29 (0, 0)) (by (with_reducible repeat (first | refine qC ?_ _ | refine qE ?_ | refine qD ?_ _)); exact BK350.out) hg (Kd.qhA HO385.out (fun _ hk => hk.2.2.2.2)))
              have n4_ := Aside0.mk (Kd.qy (ok := (fun k_ => some k_ ≠ (.slice Ao50 x5_1.length co50 : Value).ownBlock ∧ some k_ ≠ (.slice (some ad349) t343.length co6 : Value).ownBlock ∧ k_ ≠ gb342 ∧ k_ ≠ gb350)) (by (with_reducible repeat (first | apply Kd.qH | apply Kd.qI | apply Kd.qK)); exact Kd.qa HO388.out (fun _ hk => ⟨⟨hk.2.2.1, ⟨hk.2.1, ⟨hk.2.2.2.1, hk.2.2.2.2⟩⟩⟩, hk.1⟩)) hg hat)
              have n5_ := Aside0.mk (hb)
              have n6_ := Aside0.mk (ho)
              clear HO_5
              clear HO_13
              clear BK342
              clear BK350
              clear HO388
              clear HB
              clear HO385
              have HO_5 := n0_
              have HO_13 := n1_
              have BK342 := n2_
              have BK350 := n3_
              have HO388 := n4_
              have HB := n5_
              have HO391 := n6_
              clear n0_ n1_ n2_ n3_ n4_ n5_ n6_
              clear ho hb hg hat
              refine hK.out _ _ ⟨(qG BK350.out 0).trans rfl, (qG BK350.out 1).trans rfl, (qG BK350.out 2).trans rfl, (qG BK350.out 3).trans rfl, (qG BK350.out 4).trans rfl, (qG BK350.out 5).trans rfl⟩ (fun hHeld => ?_)
              clear hK K
              refine norm_ (a' := ?_) ?_ ?_
              rotate_left
              ·show Act.put _ (some 42) _ = _
               simp only [Act.put, List.setIfInBounds_toArray, List.set_cons_zero, List.set_cons_succ, i64_w, i32_w]
               rfl
              refine pS (i := 8) (N := some 9) #[true, true, true, true, true, true, true, true, true] HT_ ?_
              refine done_ (qBB HT_.out (by kernel_rfl)) ?_
              have q61 : (x8_2 : Int) ≤ ((x5_1.length : Int) : Int) := of_decide_eq_true (by first | (with_reducible assumption) | assumption)
              obtain ⟨i061, hi061, _, hsz61, _⟩ := info_parts info29
              have hroom61 : x5_1.length ≤ co50 := (Kd.qT HO_5.out).2.1
              have hC61 : Kd.C k29 _ Ao50 x5_1.length x5_1 := (Kd.qT HO_5.out).2.2
              have q061 : (0 : Int) ≤ (x8_2 : Int) := of_decide_eq_true (by first | (with_reducible assumption) | assumption)
              have hcut61 := cut_from (P := Try.prog) 38 29 .i64 Try.underlying38 hi061 6 hsz61 Ao50 x5_1.length co50 x8_2 q061 q61
              have hr61 := Kd.qTC (m := (x8_2 : Int).toNat) (c := co50) hC61 (by omega) hroom61
              obtain ⟨A61, hA61⟩ : ∃ A1, A1 = (if co50 = (x8_2 : Int).toNat then Ao50 else (Ao50 : Option Addr).map (·.add ((x8_2 : Int).toNat * 6))) := ⟨_, rfl⟩
              obtain ⟨c61, hc61⟩ : ∃ c1, c1 = co50 - (x8_2 : Int).toNat := ⟨_, rfl⟩
              have hy61 : y392.length = x5_1.length - (x8_2 : Int).toNat := (by rw [Ny392.out, List.length_drop] <;> omega)
              rw [show (x5_1).drop (x8_2 : Int).toNat = y392 from Ny392.out.symm] at hr61
              replace hr61 : Kd.C k29 _ A61 y392.length y392 := (by rw [hA61]; exact hr61)
              rw [← hy61, ← hA61, ← hc61] at hcut61
              have HR395 := Aside0.mk hr61
              have HC395 := Aside0.mk (show y392.length ≤ c61 from by rw [hy61, hc61]; exact Nat.sub_le_sub_right hroom61 _)
              clear hr61 hC61 hroom61 hi061 hsz61 hc61
              have KY61 := Aside0.mk hy61
              have KA61 := Aside0.mk hA61
              clear hy61 hA61
              have KL61 := Aside0.mk (show (x8_2 : Int).toNat ≤ x5_1.length from by omega)
              replace q61 := eq_true q61
              try go_wp2_with (first | ((with_reducible refine qtA (b := .append) (xs := #[.tmp 43, .tmp 46]) rfl ?_); at_builtin; refine Kd.R_append_rows k29 (w0 := w) w.heap.size rfl (.tmp 43) (.tmp 46) 38 29 (.agg #[(.int .i64 0), (.int .i64 0), (.int .i64 0), (.int .i64 0), (.int .i64 0), (.int .i64 0)]) 48 rfl Try.underlying38 info29 rfl (by decide) (by omega) v390 y389 y392 _ _ _ (fun k_ => some k_ ≠ (.slice Ao50 x5_1.length co50 : Value).ownBlock ∧ some k_ ≠ (.slice (some ad349) t343.length co6 : Value).ownBlock ∧ some k_ ≠ (.slice Ao60 y386.length co60 : Value).ownBlock ∧ k_ ≠ gb342 ∧ k_ ≠ gb350) (fun _ => False) rfl rfl ?aO ?aR (fun _ _ h => h) (fun _ h => h.elim) ?aF ?aB ?aS ?aL ?_; (case aR => repeat (first | exact (by repeat (first | (with_reducible exact HR395.out) | (with_reducible refine Kd.qq ?_ _) | (with_reducible refine Kd.qp ?_ _) | (with_reducible refine Kd.qEA ?_) | exact HR395.out)) | (with_reducible refine Kd.qq ?_ _) | (with_reducible refine Kd.qp ?_ _) | (with_reducible refine Kd.qEA ?_))); (case aB => exact bl); (case aF => exact (fun k_ hk => ⟨Kd.fresh' (Kd.R_lt (by (with_reducible repeat (first | apply Kd.qH | apply Kd.qI | apply Kd.qK)); exact HO_5.out)) k_ hk, Kd.fresh' (Kd.R_lt (by (with_reducible repeat (first | apply Kd.qH | apply Kd.qI | apply Kd.qK)); exact HO_13.out)) k_ hk, Kd.fresh' (Kd.R_lt (by (with_reducible repeat (first | apply Kd.qH | apply Kd.qI | apply Kd.qK)); exact HO388.out)) k_ hk, Kd.freshB (g := gb342) (o := .cells #[.int .i64 a0_0, .int .i64 a0_1, .int .i64 a0_2, .int .i64 a0_3, .int .i64 a0_4, .int .i64 a0_5] 29 (0, 0)) (by (with_reducible repeat (first | refine qC ?_ _ | refine qE ?_ | refine qD ?_ _)); exact BK342.out) k_ hk, Kd.freshB (g := gb350) (o := .cells #[.int .i64 ((qB t343 x17_1).f0), .int .i64 ((qB t343 x17_1).f1), .int .i64 ((qB t343 x17_1).f2), .int .i64 ((qB t343 x17_1).f3), .int .i64 ((qB t343 x17_1).f4), .int .i64 ((qB t343 x17_1).f5)] 29 (0, 0)) (by (with_reducible repeat (first | refine qC ?_ _ | refine qE ?_ | refine qD ?_ _)); exact BK350.out) k_ hk⟩)); (case aO => exact (by (with_reducible repeat (first | apply Kd.qH | apply Kd.qI | apply Kd.qK)); exact HO391.out)); (case aS => exact (qb bl)); (case aL => have := LMc48.out; omega); intro v397 w62 ho hb hg hat; rw [← Ny396.out] at ho; have n0_ := Aside0.mk (Kd.qy (ok := (fun k_ => some k_ ≠ (.slice (some ad349) t343.length co6 : Value).ownBlock ∧ some k_ ≠ (.slice Ao60 y386.length co60 : Value).ownBlock ∧ k_ ≠ gb342 ∧ k_ ≠ gb350)) (by (with_reducible repeat (first | apply Kd.qH | apply Kd.qI | apply Kd.qK)); exact HO_5.out) hg hat); have n1_ := Aside0.mk (Kd.qy (ok := (fun k_ => some k_ ≠ (.slice Ao50 x5_1.length co50 : Value).ownBlock ∧ some k_ ≠ (.slice Ao60 y386.length co60 : Value).ownBlock ∧ k_ ≠ gb342 ∧ k_ ≠ gb350)) (by (with_reducible repeat (first | apply Kd.qH | apply Kd.qI | apply Kd.qK)); exact HO_13.out) hg hat); have n2_ := Aside0.mk (qv (g := gb342) (o := .cells #[.int .i64 a0_0, .int .i64 a0_1, .int .i64 a0_2, .int .i64 a0_3, .int .i64 a0_4, .int .i64 a0_5] 29 (0, 0)) (by (with_reducible repeat (first | refine qC ?_ _ | refine qE ?_ | refine qD ?_ _)); exact BK342.out) hg (Kd.qhA HO391.out (fun _ hk => hk.2.2.2.1))); have n3_ := Aside0.mk (qv (g := gb350) (o := .cells #[.int .i64 ((qB t343 x17_1).f0), .int .i64 ((qB t343 x17_1).f1), .int .i64 ((qB t343 x17_1).f2), .int .i64 ((qB t343 x17_1).f3), .int .i64 ((qB t343 x17_1).f4), .int .i64 ((qB t343 x17_1).f5)] 29 (0, 0)) (by (with_reducible repeat (first | refine qC ?_ _ | refine qE ?_ | refine qD ?_ _)); exact BK350.out) hg (Kd.qhA HO391.out (fun _ hk => hk.2.2.2.2))); have n4_ := Aside0.mk (Kd.qy (ok := (fun k_ => some k_ ≠ (.slice Ao50 x5_1.length co50 : Value).ownBlock ∧ some k_ ≠ (.slice (some ad349) t343.length co6 : Value).ownBlock ∧ k_ ≠ gb342 ∧ k_ ≠ gb350)) (by (with_reducible repeat (first | apply Kd.qH | apply Kd.qI | apply Kd.qK)); exact HO388.out) hg hat); have n5_ := Aside0.mk (hb); have n6_ := Aside0.mk ((show Kd.C k29 w62 A61 y392.length y392 from by rw [Ny392.out, KA61.out]; exact Kd.qTC (m := (x8_2 : Int).toNat) (c := co50) ((Kd.qT (Kd.qy (ok := (fun k_ => some k_ ≠ (.slice (some ad349) t343.length co6 : Value).ownBlock ∧ some k_ ≠ (.slice Ao60 y386.length co60 : Value).ownBlock ∧ k_ ≠ gb342 ∧ k_ ≠ gb350)) (by (with_reducible repeat (first | apply Kd.qH | apply Kd.qI | apply Kd.qK)); exact HO_5.out) hg hat)).2.2) KL61.out ((Kd.qT (Kd.qy (ok := (fun k_ => some k_ ≠ (.slice (some ad349) t343.length co6 : Value).ownBlock ∧ some k_ ≠ (.slice Ao60 y386.length co60 : Value).ownBlock ∧ k_ ≠ gb342 ∧ k_ ≠ gb350)) (by (with_reducible repeat (first | apply Kd.qH | apply Kd.qI | apply Kd.qK)); exact HO_5.out) hg hat)).2.1))); have n7_ := Aside0.mk (ho); clear HO_5; clear HO_13; clear BK342; clear BK350; clear HO388; clear HB; clear HR395; clear HO391; have HO_5 := n0_; have HO_13 := n1_; have BK342 := n2_; have BK350 := n3_; have HO388 := n4_; have HB := n5_; have HR395 := n6_; have HO398 := n7_; clear n0_ n1_ n2_ n3_ n4_ n5_ n6_ n7_; clear ho hb hg hat))
              go_roundg k2
              case measure => have := HK1.out; have := HK2.out; omega
              case rel => exact ⟨(y396), (wrap64 (x17_1 + 1)), (by first | rfl | (simp; done) | (simp [*]; done)), H', ⟨by have := HK1.out; have := HK2.out; omega⟩, ⟨by (with_reducible repeat (first | apply Kd.qH | apply Kd.qI | apply Kd.qK)); exact Kd.qa HO398.out (fun _ hk => ⟨hk.2.1, hk.2.2.2.1⟩)⟩, ⟨by (with_reducible repeat (first | apply Kd.qH | apply Kd.qI | apply Kd.qK)); exact Kd.qa HO_13.out (fun _ hk => ⟨hk.2, hk.1.2.2.1⟩)⟩, ⟨by (with_reducible repeat (first | refine qC ?_ _ | refine qE ?_ | refine qD ?_ _)); exact BK342.out⟩, ⟨bl⟩⟩
             ·rw [if_neg c48] at H
              exact absurd H (by simp)
            ·rw [if_neg c45] at H
             exact absurd H (by simp)
           ·rw [if_neg c44] at H
            exact absurd H (by simp)
          ·rw [if_neg c43] at H
           exact absurd H (by simp)
         ·rw [if_neg c42] at H
          exact absurd H (by simp)
     ·rw [if_neg c9] at H
      exact absurd H (by simp)
    ·rw [if_neg c8] at H
     exact absurd H (by simp)
   ·rw [if_neg c7] at H
    have c7b0 : decide (x17_1 < (t343.length : Int)) = false := decide_eq_false c7
    clear c7
    obtain rfl := Option.some.inj H
    go_wp2
    go_ret
    exact ⟨_, by first | rfl | (simp [qP, qO] <;> rfl) | (simp [*, qP, qO] <;> rfl), by (with_reducible repeat (first | apply Kd.qH | apply Kd.qI | apply Kd.qK)); exact Kd.qa HO_5.out (fun _ hk => trivial), bl⟩
def qiA.f (a0_0 : Int) (a0_1 : Int) (a0_2 : Int) (a0_3 : Int) (a0_4 : Int) (a0_5 : Int) : Option (List Int) := some (([a0_0, a0_1, a0_2, a0_3, a0_4, a0_5] : List Int))
set_option maxHeartbeats 8000000 in
set_option maxRecDepth 100000 in
theorem qiA.calls (a0_0 : Int) (a0_1 : Int) (a0_2 : Int) (a0_3 : Int) (a0_4 : Int) (a0_5 : Int) (r : List Int) (w : World) (h : qiA.f a0_0 a0_1 a0_2 a0_3 a0_4 a0_5 = some r) :
  Calls Try.prog 51 #[.agg #[.int .i64 a0_0, .int .i64 a0_1, .int .i64 a0_2, .int .i64 a0_3, .int .i64 a0_4, .int .i64 a0_5]] w fun e w' => ∃ v0_ : Value, e = .returned (v0_) ∧ Kd.R (Kd.int .i64) 3 w' w.heap.size (fun _ => True) v0_ r ∧ Below w.heap.size w w' := by
 have hu29 := Try.underlying29
 have HB := Aside0.mk (Below.refl w.heap.size w)
 have H : (some (([a0_0, a0_1, a0_2, a0_3, a0_4, a0_5] : List Int))) = some r := h
 clear h
 obtain ⟨y182, hy182⟩ : ∃ y_ : List Int, y_ = (([a0_0, a0_1, a0_2, a0_3, a0_4, a0_5] : List Int)) := ⟨_, rfl⟩
 replace H : (some y182) = some r := by first | (rw [hy182]; with_reducible exact H) | (have H2_ := (Option.bind_some _ _).symm.trans H; rw [hy182]; with_reducible exact H2_) | (have H2_ := (Option.bind_some _ _).symm.trans H; with_reducible exact H2_) | with_reducible exact H | (rw [hy182]; exact H) | exact H
 have Ny182 := Aside0.mk hy182
 clear hy182
 obtain rfl := Option.some.inj H
 go_enter Try.func51, Try.ntmps51
 go_wp2_with (first | ((with_reducible refine qU (N := 1) rfl ?_); refine qS ?hg (N := 1) ?hd (cs := #[.int .i64 a0_0, .int .i64 a0_1, .int .i64 a0_2, .int .i64 a0_3, .int .i64 a0_4, .int .i64 a0_5]) (t := 29) ?hr ?_; (case hd => rfl); (case hg => rfl); (case hr => first | (go_simp; done) | (go_simp; rfl)); intro gb181 hg w2 hbox hb; have n0_ := Aside0.mk (qF bl hb); have n1_ := Aside0.mk (hbox); have n2_ := Aside0.mk ((gg hg)); have n3_ := Aside0.mk ((gg hg)); clear HB; have HB := n0_; have BK181 := n1_; have GW181 := n2_; have GE181 := n3_; clear n0_ n1_ n2_ n3_; clear hb hbox hg; have hcz3_0 := bc BK181 0; have hcz3_1 := bc BK181 1; have hcz3_2 := bc BK181 2; have hcz3_3 := bc BK181 3; have hcz3_4 := bc BK181 4; have hcz3_5 := bc BK181 5; have hfz3_0 := qA BK181.out 0; have hfz3_1 := qA BK181.out 1; have hfz3_2 := qA BK181.out 2; have hfz3_3 := qA BK181.out 3; have hfz3_4 := qA BK181.out 4; have hfz3_5 := qA BK181.out 5) | ((with_reducible refine qU (N := 15) rfl ?_); refine Kd.R_lit (Kd.int .i64) _ 3 ?hg (N := 15) ?hd (xs := ([a0_0, a0_1, a0_2, a0_3, a0_4, a0_5] : List Int)) (inner := [.int .i64 a0_0, .int .i64 a0_1, .int .i64 a0_2, .int .i64 a0_3, .int .i64 a0_4, .int .i64 a0_5]) (ok := fun _ => True) (okp := fun _ => True) ?hr ?hp (fun _ hk => hk) trivial (Below.refl _ _) (Nat.le_refl _) (by simp) ?_; (case hd => rfl); (case hg => rfl); (case hr => first | (go_simp; done) | (go_simp; rfl)); (case hp => exact (Reps.one (show Kd.M (Kd.int .i64) _ _ _ a0_0 [.int .i64 a0_0] from rfl) (Reps.one (show Kd.M (Kd.int .i64) _ _ _ a0_1 [.int .i64 a0_1] from rfl) (Reps.one (show Kd.M (Kd.int .i64) _ _ _ a0_2 [.int .i64 a0_2] from rfl) (Reps.one (show Kd.M (Kd.int .i64) _ _ _ a0_3 [.int .i64 a0_3] from rfl) (Reps.one (show Kd.M (Kd.int .i64) _ _ _ a0_4 [.int .i64 a0_4] from rfl) (Reps.one (show Kd.M (Kd.int .i64) _ _ _ a0_5 [.int .i64 a0_5] from rfl) (Reps.none _ _)))))))); intro v183 w4 ho5 hb hg_ hnew_; clear hg_ hnew_; (first | rw [← Ny182.out] at ho5 | (simp only [Int.reduceToNat] at ho5; rw [← Ny182.out] at ho5)); have n0_ := Aside0.mk (Kd.qLA ho5 (qb bl)); have n1_ := Aside0.mk (bb BK181 hb); have n2_ := Aside0.mk (qF bl hb); clear BK181; clear HB; have HO184 := n0_; have BK181 := n1_; have HB := n2_; clear n0_ n1_ n2_; clear hb ho5))
 go_ret
 exact ⟨_, by first | rfl | (simp [qP, qO] <;> rfl) | (simp [*, qP, qO] <;> rfl), by (with_reducible repeat (first | apply Kd.qH | apply Kd.qI | apply Kd.qK)); exact HO184.out, bl⟩
def qXB.f (a0 : Int) (a1 : Int) (a2 : Int) : Option (Bool) := if a1 ≤ a0 then (some (decide (a0 ≤ a2))) else (some false)
set_option maxHeartbeats 8000000 in
set_option maxRecDepth 100000 in
theorem qXB.calls (a0 : Int) (a1 : Int) (a2 : Int) (r : Bool) (w : World) (h : qXB.f a0 a1 a2 = some r) :
  Calls Try.prog 53 #[.int .i64 a0, .int .i64 a1, .int .i64 a2] w fun e w' => e = .returned (.bool r) ∧ Drawn0 w w' := by
 have H : (if a1 ≤ a0 then (some (decide (a0 ≤ a2))) else (some false)) = some r := h
 clear h
 by_cases c4 : a1 ≤ a0
 ·rw [if_pos c4] at H
  have c4b0 : decide (a1 ≤ a0) = true := decide_eq_true c4
  clear c4
  obtain rfl := Option.some.inj H
  go_enter Try.func53, Try.ntmps53
  go_wp2
  go_ret
  exact ⟨by first | rfl | (simp; done) | (simp [*]; done), by repeat (first | exact Drawn0.refl _ | apply Drawn0.step)⟩
 ·rw [if_neg c4] at H
  have c4b0 : decide (a1 ≤ a0) = false := decide_eq_false c4
  clear c4
  obtain rfl := Option.some.inj H
  go_enter Try.func53, Try.ntmps53
  go_wp2
  go_ret
  exact ⟨by first | rfl | (simp; done) | (simp [*]; done), by repeat (first | exact Drawn0.refl _ | apply Drawn0.step)⟩
def qeA.f (a0 : Int) : Option (Bool) := (qXB.f a0 0 9).bind fun t185 => (some (!t185))
set_option maxHeartbeats 8000000 in
set_option maxRecDepth 100000 in
theorem qeA.calls (a0 : Int) (r : Bool) (w : World) (h : qeA.f a0 = some r) :
  Calls Try.prog 52 #[.int .i64 a0] w fun e w' => e = .returned (.bool r) ∧ Drawn0 w w' := by
 have H : ((qXB.f a0 0 9).bind fun t185 => (some (!t185))) = some r := h
 clear h
 replace H := Option.bind_eq_some_iff.mp H
 obtain ⟨t185, A20, H⟩ := H
 replace H : (some (!t185)) = some r := H
 have A2 := Aside0.mk A20
 clear A20
 obtain rfl := Option.some.inj H
 go_enter Try.func52, Try.ntmps52
 go_wp2_with (first | ((with_reducible refine qL (f := 53) rfl ?_); refine qc (some 4) rfl rfl Try.func53 (by kernel_rfl) rfl #[.int .i64 a0, .int .i64 0, .int .i64 9] rfl (by (try simp only [List.map_toArray, List.map_cons, List.map_nil]); first | done | rfl | (simp only [List.length_drop, List.length_take]; rfl)) ?_; (with_reducible refine (qXB.calls a0 0 9 t185 _ A2.out).mono ?_); rintro e w' ⟨rfl, ⟨nd, rfl⟩⟩; refine ⟨_, rfl, ?_⟩))
 go_ret
 exact ⟨by first | rfl | (simp; done) | (simp [*]; done), by repeat (first | exact Drawn0.refl _ | apply Drawn0.step)⟩
def qM.l0 : Nat → List Int → Int → Int → Option (Int)
 | 0, _, _, _ => none
 | k + 1, x0, x7, x8 => if x8 < x7 then (if 0 ≤ x8 then (if x8 < (x0.length : Int) then ((qeA.f (rd x0 x8)).bind fun t187 => (if t187 = true then (some x8) else (qM.l0 k x0 x7 (wrap64 (x8 + 1))))) else (none)) else (none)) else (some (-1))
def qM.f (k : Nat) (l0 : List Int)  : Option (Int) := qM.l0 k l0 (l0.length : Int) 0
set_option maxHeartbeats 8000000 in
set_option maxRecDepth 100000 in
theorem qM.calls (k : Nat) (A0 : Option Addr) (c0 : Nat) (l0 : List Int)  (r : Int) (w : World) (hr0 : Kd.C (Kd.int .i64) w A0 l0.length l0) (hc0 : l0.length ≤ c0) (h : qM.f k l0 = some r) :
  Calls Try.prog 64 #[.slice A0 l0.length c0, .func (.func 52) #[] #[]] w fun e w' => e = .returned (.int .i64 r) ∧ Drawn0 w w' := by
 have HR0 := Aside0.mk hr0
 have HC0 := Aside0.mk hc0
 clear hr0 hc0
 have H : (qM.l0 k l0 (l0.length : Int) 0) = some r := h
 clear h
 have H' := Aside0.mk H
 clear H
 go_enter Try.func64, Try.ntmps64
 go_wp2
 go_loopg [8] k (fun kq v8 w' => ∃ (x8_1 : Int), v8 = .int .i64 x8_1 ∧ Aside0 (qM.l0 kq l0 (l0.length : Int) x8_1 = some r) ∧ Aside0 (kq ≤ k) ∧ Drawn0 w w')
 case atStart => exact ⟨(0), (by first | rfl | (simp; done) | (simp [*]; done)), H', ⟨Nat.le_refl _⟩, by repeat (first | exact Drawn0.refl _ | apply Drawn0.step)⟩
 case round =>
  clear H'
  try clear p2
  obtain ⟨x8_1, rfl, HA, HK1, ⟨m1, rfl⟩⟩ := hrel
  cases gk with
  | zero => exact absurd HA.out (by simp [qM.l0])
  | succ k1 =>
   have H := HA.out
   clear HA
   simp only [qM.l0] at H
   by_cases c3 : x8_1 < (l0.length : Int)
   ·rw [if_pos c3] at H
    have c3b0 : decide (x8_1 < (l0.length : Int)) = true := decide_eq_true c3
    clear c3
    by_cases c4 : 0 ≤ x8_1
    ·rw [if_pos c4] at H
     have c4b0 : decide (0 ≤ x8_1) = true := decide_eq_true c4
     clear c4
     by_cases c5 : x8_1 < (l0.length : Int)
     ·rw [if_pos c5] at H
      have c5b0 : decide (x8_1 < (l0.length : Int)) = true := decide_eq_true c5
      clear c5
      replace H := Option.bind_eq_some_iff.mp H
      obtain ⟨t187, A60, H⟩ := H
      replace H : (if t187 = true then (some x8_1) else (qM.l0 k1 l0 (l0.length : Int) (wrap64 (x8_1 + 1)))) = some r := H
      have A6 := Aside0.mk A60
      clear A60
      by_cases c7 : t187 = true
      ·subst c7
       have H1 : (some x8_1) = some r := by rw [if_pos rfl] at H; exact H
       clear H
       have H := H1
       clear H1
       obtain rfl := Option.some.inj H
       have p186 : 0 ≤ (x8_1 : Int) := of_decide_eq_true (by first | (with_reducible assumption) | assumption)
       have q186 : x8_1 < (l0.length : Int) := of_decide_eq_true (by first | (with_reducible assumption) | assumption)
       obtain ⟨ad186, e186, hx186_0⟩ := Kd.qCB HR0.out x8_1 p186 q186
       cases e186
       replace p186 := eq_true p186
       replace q186 := eq_true q186
       go_wp2_with (first | ((with_reducible refine gate_value (s := 11) rfl ?_); refine goesLV_ (some 16) 11 rfl rfl Try.func52 (by kernel_rfl) rfl #[.int .i64 (rd l0 x8_1)] rfl rfl (by (try simp only [List.map_toArray, List.map_cons, List.map_nil]); first | done | rfl | (simp only [List.length_drop, List.length_take]; rfl)) ?_; (with_reducible refine (qeA.calls (rd l0 x8_1) true _ A6.out).mono ?_); rintro e w' ⟨rfl, ⟨nd, rfl⟩⟩; refine ⟨_, rfl, ?_⟩))
       go_ret
       exact ⟨by first | rfl | (simp; done) | (simp [*]; done), by repeat (first | exact Drawn0.refl _ | apply Drawn0.step)⟩
      ·replace c7 := Bool.eq_false_iff.mpr c7
       subst c7
       have H1 : (qM.l0 k1 l0 (l0.length : Int) (wrap64 (x8_1 + 1))) = some r := by rw [if_neg (show ¬ (false = true) by decide)] at H; exact H
       clear H
       have H := H1
       clear H1
       have H' := Aside0.mk H
       clear H
       have p186 : 0 ≤ (x8_1 : Int) := of_decide_eq_true (by first | (with_reducible assumption) | assumption)
       have q186 : x8_1 < (l0.length : Int) := of_decide_eq_true (by first | (with_reducible assumption) | assumption)
       obtain ⟨ad186, e186, hx186_0⟩ := Kd.qCB HR0.out x8_1 p186 q186
       cases e186
       replace p186 := eq_true p186
       replace q186 := eq_true q186
       go_wp2_with (first | ((with_reducible refine gate_value (s := 11) rfl ?_); refine goesLV_ (some 16) 11 rfl rfl Try.func52 (by kernel_rfl) rfl #[.int .i64 (rd l0 x8_1)] rfl rfl (by (try simp only [List.map_toArray, List.map_cons, List.map_nil]); first | done | rfl | (simp only [List.length_drop, List.length_take]; rfl)) ?_; (with_reducible refine (qeA.calls (rd l0 x8_1) false _ A6.out).mono ?_); rintro e w' ⟨rfl, ⟨nd, rfl⟩⟩; refine ⟨_, rfl, ?_⟩))
       go_roundg k1
       case measure => have := HK1.out; omega
       case rel => exact ⟨(wrap64 (x8_1 + 1)), (by first | rfl | (simp; done) | (simp [*]; done)), H', ⟨by have := HK1.out; omega⟩, by repeat (first | exact Drawn0.refl _ | apply Drawn0.step)⟩
     ·rw [if_neg c5] at H
      exact absurd H (by simp)
    ·rw [if_neg c4] at H
     exact absurd H (by simp)
   ·rw [if_neg c3] at H
    have c3b0 : decide (x8_1 < (l0.length : Int)) = false := decide_eq_false c3
    clear c3
    obtain rfl := Option.some.inj H
    go_wp2
    go_ret
    exact ⟨by first | rfl | (simp; done) | (simp [*]; done), by repeat (first | exact Drawn0.refl _ | apply Drawn0.step)⟩
def qY.f (k : Nat) (l0 : List Int)  : Option (Bool) := (qM.f k l0).bind fun t188 => (some (decide (t188 ≥ 0)))
set_option maxHeartbeats 8000000 in
set_option maxRecDepth 100000 in
theorem qY.calls (k : Nat) (A0 : Option Addr) (c0 : Nat) (l0 : List Int)  (r : Bool) (w : World) (hr0 : Kd.C (Kd.int .i64) w A0 l0.length l0) (hc0 : l0.length ≤ c0) (h : qY.f k l0 = some r) :
  Calls Try.prog 50 #[.slice A0 l0.length c0, .func (.func 52) #[] #[]] w fun e w' => e = .returned (.bool r) ∧ Drawn0 w w' := by
 have HR0 := Aside0.mk hr0
 have HC0 := Aside0.mk hc0
 clear hr0 hc0
 have H : ((qM.f k l0).bind fun t188 => (some (decide (t188 ≥ 0)))) = some r := h
 clear h
 replace H := Option.bind_eq_some_iff.mp H
 obtain ⟨t188, A30, H⟩ := H
 replace H : (some (decide (t188 ≥ 0))) = some r := H
 have A3 := Aside0.mk A30
 clear A30
 obtain rfl := Option.some.inj H
 go_enter Try.func50, Try.ntmps50
 go_wp2_with (first | ((with_reducible refine qL (f := 64) rfl ?_); refine qc (some 7) rfl rfl Try.func64 (by kernel_rfl) rfl #[.slice A0 l0.length c0, .func (.func 52) #[] #[]] rfl (by (try simp only [List.map_toArray, List.map_cons, List.map_nil]); first | done | rfl | (simp only [List.length_drop, List.length_take]; rfl)) ?_; (with_reducible refine (qM.calls k _ _ l0  t188 _ ?side1 ?side2 A3.out).mono ?_); (case side1 => repeat (first | exact HR0.out | (with_reducible refine Kd.qq ?_ _) | (with_reducible refine Kd.qp ?_ _) | (with_reducible refine Kd.qEA ?_))); (case side2 => exact HC0.out); rintro e w' ⟨rfl, ⟨nd, rfl⟩⟩; refine ⟨_, rfl, ?_⟩))
 go_ret
 exact ⟨by first | rfl | (simp; done) | (simp [*]; done), by repeat (first | exact Drawn0.refl _ | apply Drawn0.step)⟩
def qQA.f (k : Nat) (a0_0 : Int) (a0_1 : Int) (a0_2 : Int) (a0_3 : Int) (a0_4 : Int) (a0_5 : Int) : Option (Bool) := (qiA.f a0_0 a0_1 a0_2 a0_3 a0_4 a0_5).bind fun t190 => ((qY.f k t190).bind fun t193 => (some (!t193)))
set_option maxHeartbeats 8000000 in
set_option maxRecDepth 100000 in
theorem qQA.calls (k : Nat) (a0_0 : Int) (a0_1 : Int) (a0_2 : Int) (a0_3 : Int) (a0_4 : Int) (a0_5 : Int) (r : Bool) (w : World) (h : qQA.f k a0_0 a0_1 a0_2 a0_3 a0_4 a0_5 = some r) :
  Calls Try.prog 35 #[.agg #[.int .i64 a0_0, .int .i64 a0_1, .int .i64 a0_2, .int .i64 a0_3, .int .i64 a0_4, .int .i64 a0_5]] w fun e w' => e = .returned (.bool r) ∧ Below w.heap.size w w' := by
 have hu29 := Try.underlying29
 have HB := Aside0.mk (Below.refl w.heap.size w)
 have H : ((qiA.f a0_0 a0_1 a0_2 a0_3 a0_4 a0_5).bind fun t190 => ((qY.f k t190).bind fun t193 => (some (!t193)))) = some r := h
 clear h
 replace H := Option.bind_eq_some_iff.mp H
 obtain ⟨t190, A20, H⟩ := H
 replace H : ((qY.f k t190).bind fun t193 => (some (!t193))) = some r := H
 have A2 := Aside0.mk A20
 clear A20
 replace H := Option.bind_eq_some_iff.mp H
 obtain ⟨t193, A30, H⟩ := H
 replace H : (some (!t193)) = some r := H
 have A3 := Aside0.mk A30
 clear A30
 obtain rfl := Option.some.inj H
 go_enter Try.func35, Try.ntmps35
 go_wp2_with (first | ((with_reducible refine qU (N := 1) rfl ?_); refine qS ?hg (N := 1) ?hd (cs := #[.int .i64 a0_0, .int .i64 a0_1, .int .i64 a0_2, .int .i64 a0_3, .int .i64 a0_4, .int .i64 a0_5]) (t := 29) ?hr ?_; (case hd => rfl); (case hg => rfl); (case hr => first | (go_simp; done) | (go_simp; rfl)); intro gb189 hg w4 hbox hb; have n0_ := Aside0.mk (qF bl hb); have n1_ := Aside0.mk (hbox); have n2_ := Aside0.mk ((gg hg)); have n3_ := Aside0.mk ((gg hg)); clear HB; have HB := n0_; have BK189 := n1_; have GW189 := n2_; have GE189 := n3_; clear n0_ n1_ n2_ n3_; clear hb hbox hg; have hcz5_0 := bc BK189 0; have hcz5_1 := bc BK189 1; have hcz5_2 := bc BK189 2; have hcz5_3 := bc BK189 3; have hcz5_4 := bc BK189 4; have hcz5_5 := bc BK189 5; have hfz5_0 := qA BK189.out 0; have hfz5_1 := qA BK189.out 1; have hfz5_2 := qA BK189.out 2; have hfz5_3 := qA BK189.out 3; have hfz5_4 := qA BK189.out 4; have hfz5_5 := qA BK189.out 5) | ((with_reducible refine qL (f := 51) rfl ?_); refine qc (some 4) rfl rfl Try.func51 (by kernel_rfl) rfl #[.agg #[.int .i64 a0_0, .int .i64 a0_1, .int .i64 a0_2, .int .i64 a0_3, .int .i64 a0_4, .int .i64 a0_5]] rfl (by (try simp only [List.map_toArray, List.map_cons, List.map_nil]); first | done | rfl | (simp only [List.length_drop, List.length_take]; rfl)) ?_; (with_reducible refine (qiA.calls a0_0 a0_1 a0_2 a0_3 a0_4 a0_5 t190 _ A2.out).mono ?_); rintro e w6 ⟨v191, rfl, ho0, hb⟩; refine ⟨_, rfl, ?_⟩; have n0_ := Aside0.mk (Kd.qLA ho0 (qb bl)); have n1_ := Aside0.mk (bb BK189 hb); have n2_ := Aside0.mk (qF bl hb); clear BK189; clear HB; have HO192 := n0_; have BK189 := n1_; have HB := n2_; clear n0_ n1_ n2_; (try clear hb); (try clear hb2); (try clear hk); (try clear hi); (try clear ho0); obtain ⟨Ao7, co7, eo7⟩ := Kd.qHA HO192.out; subst eo7) | ((with_reducible refine qL (f := 50) rfl ?_); refine qc (some 5) rfl rfl Try.func50 (by kernel_rfl) rfl #[.slice Ao7 t190.length co7, .func (.func 52) #[] #[]] rfl (by (try simp only [List.map_toArray, List.map_cons, List.map_nil]); first | done | rfl | (simp only [List.length_drop, List.length_take]; rfl)) ?_; (with_reducible refine (qY.calls k _ _ t190  t193 _ ?side1 ?side2 A3.out).mono ?_); (case side1 => repeat (first | exact (Kd.qT HO192.out).2.2 | (with_reducible refine Kd.qq ?_ _) | (with_reducible refine Kd.qp ?_ _) | (with_reducible refine Kd.qEA ?_))); (case side2 => exact (Kd.qT HO192.out).2.1); rintro e w' ⟨rfl, ⟨nd, rfl⟩⟩; refine ⟨_, rfl, ?_⟩))
 go_ret
 exact ⟨by first | rfl | (simp [qP, qO] <;> rfl) | (simp [*, qP, qO] <;> rfl), bl⟩
def qj.f (a0 : Int) : Option (Bool) := some (a0 != a0)
set_option maxHeartbeats 8000000 in
set_option maxRecDepth 100000 in
theorem qj.calls (a0 : Int) (r : Bool) (w : World) (h : qj.f a0 = some r) :
  Calls Try.prog 92 #[.int .i64 a0] w fun e w' => e = .returned (.bool r) ∧ Drawn0 w w' := by
 have H : (some (a0 != a0)) = some r := h
 clear h
 obtain rfl := Option.some.inj H
 go_enter Try.func92, Try.ntmps92
 go_wp2
 go_ret
 exact ⟨by first | rfl | (simp; done) | (simp [*]; done), by repeat (first | exact Drawn0.refl _ | apply Drawn0.step)⟩
def qVA.f (a0 : Int) (a1 : Int) : Option (Int) := (qj.f a0).bind fun t434 => ((qj.f a1).bind fun t435 => (if t434 = true then (if t435 = true then (some 0) else (some (-1))) else (if t435 = true then (some 1) else (if a0 < a1 then (some (-1)) else (if a0 > a1 then (some 1) else (some 0))))))
set_option maxHeartbeats 8000000 in
set_option maxRecDepth 100000 in
theorem qVA.calls (a0 : Int) (a1 : Int) (r : Int) (w : World) (h : qVA.f a0 a1 = some r) :
  Calls Try.prog 86 #[.int .i64 a0, .int .i64 a1] w fun e w' => e = .returned (.int .i64 r) ∧ Drawn0 w w' := by
 have H : ((qj.f a0).bind fun t434 => ((qj.f a1).bind fun t435 => (if t434 = true then (if t435 = true then (some 0) else (some (-1))) else (if t435 = true then (some 1) else (if a0 < a1 then (some (-1)) else (if a0 > a1 then (some 1) else (some 0))))))) = some r := h
 clear h
 replace H := Option.bind_eq_some_iff.mp H
 obtain ⟨t434, A30, H⟩ := H
 replace H : ((qj.f a1).bind fun t435 => (if t434 = true then (if t435 = true then (some 0) else (some (-1))) else (if t435 = true then (some 1) else (if a0 < a1 then (some (-1)) else (if a0 > a1 then (some 1) else (some 0)))))) = some r := H
 have A3 := Aside0.mk A30
 clear A30
 replace H := Option.bind_eq_some_iff.mp H
 obtain ⟨t435, A40, H⟩ := H
 replace H : (if t434 = true then (if t435 = true then (some 0) else (some (-1))) else (if t435 = true then (some 1) else (if a0 < a1 then (some (-1)) else (if a0 > a1 then (some 1) else (some 0))))) = some r := H
 have A4 := Aside0.mk A40
 clear A40
 by_cases c5 : t434 = true
 ·subst c5
  have H1 : (if t435 = true then (some 0) else (some (-1))) = some r := by rw [if_pos rfl] at H; exact H
  clear H
  have H := H1
  clear H1
  by_cases c6 : t435 = true
  ·subst c6
   have H1 : (some 0) = some r := by rw [if_pos rfl] at H; exact H
   clear H
   have H := H1
   clear H1
   obtain rfl := Option.some.inj H
   go_enter Try.func86, Try.ntmps86
   go_wp2_with (first | ((with_reducible refine qL (f := 92) rfl ?_); refine qc (some 8) rfl rfl Try.func92 (by kernel_rfl) rfl #[.int .i64 a0] rfl (by (try simp only [List.map_toArray, List.map_cons, List.map_nil]); first | done | rfl | (simp only [List.length_drop, List.length_take]; rfl)) ?_; (with_reducible refine (qj.calls a0 true _ A3.out).mono ?_); rintro e w' ⟨rfl, ⟨nd, rfl⟩⟩; refine ⟨_, rfl, ?_⟩) | ((with_reducible refine qL (f := 92) rfl ?_); refine qc (some 10) rfl rfl Try.func92 (by kernel_rfl) rfl #[.int .i64 a1] rfl (by (try simp only [List.map_toArray, List.map_cons, List.map_nil]); first | done | rfl | (simp only [List.length_drop, List.length_take]; rfl)) ?_; (with_reducible refine (qj.calls a1 true _ A4.out).mono ?_); rintro e w' ⟨rfl, ⟨nd, rfl⟩⟩; refine ⟨_, rfl, ?_⟩))
   go_ret
   exact ⟨by first | rfl | (simp; done) | (simp [*]; done), by repeat (first | exact Drawn0.refl _ | apply Drawn0.step)⟩
  ·replace c6 := Bool.eq_false_iff.mpr c6
   subst c6
   have H1 : (some (-1)) = some r := by rw [if_neg (show ¬ (false = true) by decide)] at H; exact H
   clear H
   have H := H1
   clear H1
   obtain rfl := Option.some.inj H
   go_enter Try.func86, Try.ntmps86
   go_wp2_with (first | ((with_reducible refine qL (f := 92) rfl ?_); refine qc (some 8) rfl rfl Try.func92 (by kernel_rfl) rfl #[.int .i64 a0] rfl (by (try simp only [List.map_toArray, List.map_cons, List.map_nil]); first | done | rfl | (simp only [List.length_drop, List.length_take]; rfl)) ?_; (with_reducible refine (qj.calls a0 true _ A3.out).mono ?_); rintro e w' ⟨rfl, ⟨nd, rfl⟩⟩; refine ⟨_, rfl, ?_⟩) | ((with_reducible refine qL (f := 92) rfl ?_); refine qc (some 10) rfl rfl Try.func92 (by kernel_rfl) rfl #[.int .i64 a1] rfl (by (try simp only [List.map_toArray, List.map_cons, List.map_nil]); first | done | rfl | (simp only [List.length_drop, List.length_take]; rfl)) ?_; (with_reducible refine (qj.calls a1 false _ A4.out).mono ?_); rintro e w' ⟨rfl, ⟨nd, rfl⟩⟩; refine ⟨_, rfl, ?_⟩))
   go_ret
   exact ⟨by first | rfl | (simp; done) | (simp [*]; done), by repeat (first | exact Drawn0.refl _ | apply Drawn0.step)⟩
 ·replace c5 := Bool.eq_false_iff.mpr c5
  subst c5
  have H1 : (if t435 = true then (some 1) else (if a0 < a1 then (some (-1)) else (if a0 > a1 then (some 1) else (some 0)))) = some r := by rw [if_neg (show ¬ (false = true) by decide)] at H; exact H
  clear H
  have H := H1
  clear H1
  by_cases c7 : t435 = true
  ·subst c7
   have H1 : (some 1) = some r := by rw [if_pos rfl] at H; exact H
   clear H
   have H := H1
   clear H1
   obtain rfl := Option.some.inj H
   go_enter Try.func86, Try.ntmps86
   go_wp2_with (first | ((with_reducible refine qL (f := 92) rfl ?_); refine qc (some 8) rfl rfl Try.func92 (by kernel_rfl) rfl #[.int .i64 a0] rfl (by (try simp only [List.map_toArray, List.map_cons, List.map_nil]); first | done | rfl | (simp only [List.length_drop, List.length_take]; rfl)) ?_; (with_reducible refine (qj.calls a0 false _ A3.out).mono ?_); rintro e w' ⟨rfl, ⟨nd, rfl⟩⟩; refine ⟨_, rfl, ?_⟩) | ((with_reducible refine qL (f := 92) rfl ?_); refine qc (some 10) rfl rfl Try.func92 (by kernel_rfl) rfl #[.int .i64 a1] rfl (by (try simp only [List.map_toArray, List.map_cons, List.map_nil]); first | done | rfl | (simp only [List.length_drop, List.length_take]; rfl)) ?_; (with_reducible refine (qj.calls a1 true _ A4.out).mono ?_); rintro e w' ⟨rfl, ⟨nd, rfl⟩⟩; refine ⟨_, rfl, ?_⟩))
   go_ret
   exact ⟨by first | rfl | (simp; done) | (simp [*]; done), by repeat (first | exact Drawn0.refl _ | apply Drawn0.step)⟩
  ·replace c7 := Bool.eq_false_iff.mpr c7
   subst c7
   have H1 : (if a0 < a1 then (some (-1)) else (if a0 > a1 then (some 1) else (some 0))) = some r := by rw [if_neg (show ¬ (false = true) by decide)] at H; exact H
   clear H
   have H := H1
   clear H1
   by_cases c8 : a0 < a1
   ·rw [if_pos c8] at H
    have c8b0 : decide (a0 < a1) = true := decide_eq_true c8
    clear c8
    obtain rfl := Option.some.inj H
    go_enter Try.func86, Try.ntmps86
    go_wp2_with (first | ((with_reducible refine qL (f := 92) rfl ?_); refine qc (some 8) rfl rfl Try.func92 (by kernel_rfl) rfl #[.int .i64 a0] rfl (by (try simp only [List.map_toArray, List.map_cons, List.map_nil]); first | done | rfl | (simp only [List.length_drop, List.length_take]; rfl)) ?_; (with_reducible refine (qj.calls a0 false _ A3.out).mono ?_); rintro e w' ⟨rfl, ⟨nd, rfl⟩⟩; refine ⟨_, rfl, ?_⟩) | ((with_reducible refine qL (f := 92) rfl ?_); refine qc (some 10) rfl rfl Try.func92 (by kernel_rfl) rfl #[.int .i64 a1] rfl (by (try simp only [List.map_toArray, List.map_cons, List.map_nil]); first | done | rfl | (simp only [List.length_drop, List.length_take]; rfl)) ?_; (with_reducible refine (qj.calls a1 false _ A4.out).mono ?_); rintro e w' ⟨rfl, ⟨nd, rfl⟩⟩; refine ⟨_, rfl, ?_⟩))
    go_ret
    exact ⟨by first | rfl | (simp; done) | (simp [*]; done), by repeat (first | exact Drawn0.refl _ | apply Drawn0.step)⟩
   ·rw [if_neg c8] at H
    have c8b0 : decide (a0 < a1) = false := decide_eq_false c8
    clear c8
    by_cases c9 : a0 > a1
    ·rw [if_pos c9] at H
     have c9b0 : decide (a1 < a0) = true := decide_eq_true c9
     clear c9
     obtain rfl := Option.some.inj H
     go_enter Try.func86, Try.ntmps86
     go_wp2_with (first | ((with_reducible refine qL (f := 92) rfl ?_); refine qc (some 8) rfl rfl Try.func92 (by kernel_rfl) rfl #[.int .i64 a0] rfl (by (try simp only [List.map_toArray, List.map_cons, List.map_nil]); first | done | rfl | (simp only [List.length_drop, List.length_take]; rfl)) ?_; (with_reducible refine (qj.calls a0 false _ A3.out).mono ?_); rintro e w' ⟨rfl, ⟨nd, rfl⟩⟩; refine ⟨_, rfl, ?_⟩) | ((with_reducible refine qL (f := 92) rfl ?_); refine qc (some 10) rfl rfl Try.func92 (by kernel_rfl) rfl #[.int .i64 a1] rfl (by (try simp only [List.map_toArray, List.map_cons, List.map_nil]); first | done | rfl | (simp only [List.length_drop, List.length_take]; rfl)) ?_; (with_reducible refine (qj.calls a1 false _ A4.out).mono ?_); rintro e w' ⟨rfl, ⟨nd, rfl⟩⟩; refine ⟨_, rfl, ?_⟩))
     go_ret
     exact ⟨by first | rfl | (simp; done) | (simp [*]; done), by repeat (first | exact Drawn0.refl _ | apply Drawn0.step)⟩
    ·rw [if_neg c9] at H
     have c9b0 : decide (a1 < a0) = false := decide_eq_false c9
     clear c9
     obtain rfl := Option.some.inj H
     go_enter Try.func86, Try.ntmps86
     go_wp2_with (first | ((with_reducible refine qL (f := 92) rfl ?_); refine qc (some 8) rfl rfl Try.func92 (by kernel_rfl) rfl #[.int .i64 a0] rfl (by (try simp only [List.map_toArray, List.map_cons, List.map_nil]); first | done | rfl | (simp only [List.length_drop, List.length_take]; rfl)) ?_; (with_reducible refine (qj.calls a0 false _ A3.out).mono ?_); rintro e w' ⟨rfl, ⟨nd, rfl⟩⟩; refine ⟨_, rfl, ?_⟩) | ((with_reducible refine qL (f := 92) rfl ?_); refine qc (some 10) rfl rfl Try.func92 (by kernel_rfl) rfl #[.int .i64 a1] rfl (by (try simp only [List.map_toArray, List.map_cons, List.map_nil]); first | done | rfl | (simp only [List.length_drop, List.length_take]; rfl)) ?_; (with_reducible refine (qj.calls a1 false _ A4.out).mono ?_); rintro e w' ⟨rfl, ⟨nd, rfl⟩⟩; refine ⟨_, rfl, ?_⟩))
     go_ret
     exact ⟨by first | rfl | (simp; done) | (simp [*]; done), by repeat (first | exact Drawn0.refl _ | apply Drawn0.step)⟩
def qW.l0 : Nat → List Int → List Int → List Int → Int → Int → Option (Int)
 | 0, _, _, _, _, _ => none
 | k + 1, x0, x1, x9, x10, x11 => if x11 < x10 then (if 0 ≤ x11 then (if x11 < (x9.length : Int) then (if x11 ≥ (x1.length : Int) then (some 1) else (if x11 < (x1.length : Int) then ((qVA.f (rd x9 x11) (rd x1 x11)).bind fun t438 => (if t438 = 0 then (qW.l0 k x0 x1 x9 x10 (wrap64 (x11 + 1))) else (some t438))) else (none))) else (none)) else (none)) else (if (x0.length : Int) < (x1.length : Int) then (some (-1)) else (some 0))
def qW.f (k : Nat) (l0 : List Int) (l1 : List Int) : Option (Int) := qW.l0 k l0 l1 l0 (l0.length : Int) 0
set_option maxHeartbeats 8000000 in
set_option maxRecDepth 100000 in
theorem qW.calls (k : Nat) (A0 : Option Addr) (c0 : Nat) (l0 : List Int) (A1 : Option Addr) (c1 : Nat) (l1 : List Int) (r : Int) (w : World) (hr0 : Kd.C (Kd.int .i64) w A0 l0.length l0) (hc0 : l0.length ≤ c0) (hr1 : Kd.C (Kd.int .i64) w A1 l1.length l1) (hc1 : l1.length ≤ c1) (h : qW.f k l0 l1 = some r) :
  Calls Try.prog 75 #[.slice A0 l0.length c0, .slice A1 l1.length c1] w fun e w' => e = .returned (.int .i64 r) ∧ Drawn0 w w' := by
 have HR0 := Aside0.mk hr0
 have HC0 := Aside0.mk hc0
 clear hr0 hc0
 have HR1 := Aside0.mk hr1
 have HC1 := Aside0.mk hc1
 clear hr1 hc1
 have H : (qW.l0 k l0 l1 l0 (l0.length : Int) 0) = some r := h
 clear h
 have H' := Aside0.mk H
 clear H
 go_enter Try.func75, Try.ntmps75
 go_wp2
 go_loopg [11] k (fun kq v11 w' => ∃ (x11_1 : Int), v11 = .int .i64 x11_1 ∧ Aside0 (qW.l0 kq l0 l1 l0 (l0.length : Int) x11_1 = some r) ∧ Aside0 (kq ≤ k) ∧ Drawn0 w w')
 case atStart => exact ⟨(0), (by first | rfl | (simp; done) | (simp [*]; done)), H', ⟨Nat.le_refl _⟩, by repeat (first | exact Drawn0.refl _ | apply Drawn0.step)⟩
 case round =>
  clear H'
  try clear c1
  try clear p2
  obtain ⟨x11_1, rfl, HA, HK1, ⟨m1, rfl⟩⟩ := hrel
  cases gk with
  | zero => exact absurd HA.out (by simp [qW.l0])
  | succ k1 =>
   have H := HA.out
   clear HA
   simp only [qW.l0] at H
   by_cases c3 : x11_1 < (l0.length : Int)
   ·rw [if_pos c3] at H
    have c3b0 : decide (x11_1 < (l0.length : Int)) = true := decide_eq_true c3
    clear c3
    by_cases c4 : 0 ≤ x11_1
    ·rw [if_pos c4] at H
     have c4b0 : decide (0 ≤ x11_1) = true := decide_eq_true c4
     clear c4
     by_cases c5 : x11_1 < (l0.length : Int)
     ·rw [if_pos c5] at H
      have c5b0 : decide (x11_1 < (l0.length : Int)) = true := decide_eq_true c5
      clear c5
      by_cases c6 : x11_1 ≥ (l1.length : Int)
      ·rw [if_pos c6] at H
       have c6b0 : decide ((l1.length : Int) ≤ x11_1) = true := decide_eq_true c6
       clear c6
       obtain rfl := Option.some.inj H
       have p436 : 0 ≤ (x11_1 : Int) := of_decide_eq_true (by first | (with_reducible assumption) | assumption)
       have q436 : x11_1 < (l0.length : Int) := of_decide_eq_true (by first | (with_reducible assumption) | assumption)
       obtain ⟨ad436, e436, hx436_0⟩ := Kd.qCB HR0.out x11_1 p436 q436
       cases e436
       replace p436 := eq_true p436
       replace q436 := eq_true q436
       go_wp2
       go_ret
       exact ⟨by first | rfl | (simp; done) | (simp [*]; done), by repeat (first | exact Drawn0.refl _ | apply Drawn0.step)⟩
      ·rw [if_neg c6] at H
       have c6b0 : decide ((l1.length : Int) ≤ x11_1) = false := decide_eq_false c6
       clear c6
       by_cases c7 : x11_1 < (l1.length : Int)
       ·rw [if_pos c7] at H
        have c7b0 : decide (x11_1 < (l1.length : Int)) = true := decide_eq_true c7
        clear c7
        replace H := Option.bind_eq_some_iff.mp H
        obtain ⟨t438, A80, H⟩ := H
        replace H : (if t438 = 0 then (qW.l0 k1 l0 l1 l0 (l0.length : Int) (wrap64 (x11_1 + 1))) else (some t438)) = some r := H
        have A8 := Aside0.mk A80
        clear A80
        by_cases c9 : t438 = 0
        ·rw [if_pos c9] at H
         have c9b0 : (t438 == 0) = true := beq_iff_eq.mpr c9
         have c9b1 : (t438 != 0) = false := bne_eq_false_iff_eq.mpr c9
         clear c9
         have H' := Aside0.mk H
         clear H
         have p436 : 0 ≤ (x11_1 : Int) := of_decide_eq_true (by first | (with_reducible assumption) | assumption)
         have q436 : x11_1 < (l0.length : Int) := of_decide_eq_true (by first | (with_reducible assumption) | assumption)
         obtain ⟨ad436, e436, hx436_0⟩ := Kd.qCB HR0.out x11_1 p436 q436
         cases e436
         replace p436 := eq_true p436
         replace q436 := eq_true q436
         have p437 : 0 ≤ (x11_1 : Int) := of_decide_eq_true (by first | (with_reducible assumption) | assumption)
         have q437 : x11_1 < (l1.length : Int) := of_decide_eq_true (by first | (with_reducible assumption) | assumption)
         obtain ⟨ad437, e437, hx437_0⟩ := Kd.qCB HR1.out x11_1 p437 q437
         cases e437
         replace p437 := eq_true p437
         replace q437 := eq_true q437
         go_wp2_with (first | ((with_reducible refine qL (f := 86) rfl ?_); refine qc (some 26) rfl rfl Try.func86 (by kernel_rfl) rfl #[.int .i64 (rd l0 x11_1), .int .i64 (rd l1 x11_1)] rfl (by (try simp only [List.map_toArray, List.map_cons, List.map_nil]); first | done | rfl | (simp only [List.length_drop, List.length_take]; rfl)) ?_; (with_reducible refine (qVA.calls (rd l0 x11_1) (rd l1 x11_1) t438 _ A8.out).mono ?_); rintro e w' ⟨rfl, ⟨nd, rfl⟩⟩; refine ⟨_, rfl, ?_⟩))
         go_roundg k1
         case measure => have := HK1.out; omega
         case rel => exact ⟨(wrap64 (x11_1 + 1)), (by first | rfl | (simp; done) | (simp [*]; done)), H', ⟨by have := HK1.out; omega⟩, by repeat (first | exact Drawn0.refl _ | apply Drawn0.step)⟩
        ·rw [if_neg c9] at H
         have c9b0 : (t438 == 0) = false := beq_eq_false_iff_ne.mpr c9
         have c9b1 : (t438 != 0) = true := bne_iff_ne.mpr c9
         obtain rfl := Option.some.inj H
         have p436 : 0 ≤ (x11_1 : Int) := of_decide_eq_true (by first | (with_reducible assumption) | assumption)
         have q436 : x11_1 < (l0.length : Int) := of_decide_eq_true (by first | (with_reducible assumption) | assumption)
         obtain ⟨ad436, e436, hx436_0⟩ := Kd.qCB HR0.out x11_1 p436 q436
         cases e436
         replace p436 := eq_true p436
         replace q436 := eq_true q436
         have p437 : 0 ≤ (x11_1 : Int) := of_decide_eq_true (by first | (with_reducible assumption) | assumption)
         have q437 : x11_1 < (l1.length : Int) := of_decide_eq_true (by first | (with_reducible assumption) | assumption)
         obtain ⟨ad437, e437, hx437_0⟩ := Kd.qCB HR1.out x11_1 p437 q437
         cases e437
         replace p437 := eq_true p437
         replace q437 := eq_true q437
         go_wp2_with (first | ((with_reducible refine qL (f := 86) rfl ?_); refine qc (some 26) rfl rfl Try.func86 (by kernel_rfl) rfl #[.int .i64 (rd l0 x11_1), .int .i64 (rd l1 x11_1)] rfl (by (try simp only [List.map_toArray, List.map_cons, List.map_nil]); first | done | rfl | (simp only [List.length_drop, List.length_take]; rfl)) ?_; (with_reducible refine (qVA.calls (rd l0 x11_1) (rd l1 x11_1) t438 _ A8.out).mono ?_); rintro e w' ⟨rfl, ⟨nd, rfl⟩⟩; refine ⟨_, rfl, ?_⟩))
         go_ret
         exact ⟨by first | rfl | (simp; done) | (simp [*]; done), by repeat (first | exact Drawn0.refl _ | apply Drawn0.step)⟩
       ·rw [if_neg c7] at H
        exact absurd H (by simp)
     ·rw [if_neg c5] at H
      exact absurd H (by simp)
    ·rw [if_neg c4] at H
     exact absurd H (by simp)
   ·rw [if_neg c3] at H
    have c3b0 : decide (x11_1 < (l0.length : Int)) = false := decide_eq_false c3
    clear c3
    by_cases c10 : (l0.length : Int) < (l1.length : Int)
    ·rw [if_pos c10] at H
     have c10b0 : decide ((l0.length : Int) < (l1.length : Int)) = true := decide_eq_true c10
     have c10b1 : decide (l0.length < l1.length) = true := decide_eq_true (Int.ofNat_lt.mp c10)
     clear c10
     obtain rfl := Option.some.inj H
     go_wp2
     go_ret
     exact ⟨by first | rfl | (simp; done) | (simp [*]; done), by repeat (first | exact Drawn0.refl _ | apply Drawn0.step)⟩
    ·rw [if_neg c10] at H
     have c10b0 : decide ((l0.length : Int) < (l1.length : Int)) = false := decide_eq_false c10
     have c10b1 : decide (l0.length < l1.length) = false := decide_eq_false (fun h => c10 (Int.ofNat_lt.mpr h))
     clear c10
     obtain rfl := Option.some.inj H
     go_wp2
     go_ret
     exact ⟨by first | rfl | (simp; done) | (simp [*]; done), by repeat (first | exact Drawn0.refl _ | apply Drawn0.step)⟩
end Go.Proofs.Ytbmiekopflgicaa.P
namespace Go.Proofs.Ytbmiekopflgicaa
open Go.RowKit Go.Proofs.Ytbmiekopflgicaa.P Go.Proofs.YtbmiekopflgicaaW.PrintWords Go.Proofs.YtbmiekopflgicaaW.PrintLast
set_option linter.unusedVariables false
set_option linter.unusedSimpArgs false
abbrev DD := S29
theorem qJC {a b : DD} (h0 : a.f0 = b.f0) (h1 : a.f1 = b.f1) (h2 : a.f2 = b.f2) (h3 : a.f3 = b.f3) (h4 : a.f4 = b.f4) (h5 : a.f5 = b.f5) : a = b := by
 cases a; cases b; simp only at h0 h1 h2 h3 h4 h5; subst h0; subst h1; subst h2; subst h3; subst h4; subst h5; rfl
instance ddDec : DecidableEq DD := fun a b =>
 if h : a.f0 = b.f0 ∧ a.f1 = b.f1 ∧ a.f2 = b.f2 ∧ a.f3 = b.f3 ∧ a.f4 = b.f4 ∧ a.f5 = b.f5 then isTrue (qJC h.1 h.2.1 h.2.2.1 h.2.2.2.1 h.2.2.2.2.1 h.2.2.2.2.2) else isFalse (fun e => h (by subst e; exact ⟨rfl, rfl, rfl, rfl, rfl, rfl⟩))
def rolD (x : DD) (d : Nat) : DD := if d = 0 then ⟨x.f3, x.f0, x.f2, x.f5, x.f4, x.f1⟩ else if d = 1 then ⟨x.f4, x.f1, x.f0, x.f3, x.f5, x.f2⟩ else if d = 2 then ⟨x.f1, x.f5, x.f2, x.f0, x.f4, x.f3⟩ else ⟨x.f2, x.f1, x.f5, x.f3, x.f0, x.f4⟩
def dirsW : ByteArray := ⟨#[110, 101, 115, 119]⟩
def dirW (d : Nat) : ByteArray := dirsW.extract d (d + 1)
theorem qdB (d : Nat) (h : d < 4) : (dirW d).size = 1 := by
 have : d = 0 ∨ d = 1 ∨ d = 2 ∨ d = 3 := by omega
 rcases this with rfl | rfl | rfl | rfl <;> decide +kernel
def stepsD (x : DD) (w : ByteArray) : Nat → Nat → List (Option DD × ByteArray)
 | 0, _ => []
 | n + 1, d => (some (rolD x d), w ++ dirW d) :: stepsD x w n (d + 1)
def nextD (_ : Nat) (x : DD) (w : ByteArray) : List (Option DD × ByteArray) := stepsD x w 4 0
def faceD (x : DD) (n : Int) : Int := if n = 0 then x.f0 else if n = 1 then x.f1 else if n = 2 then x.f2 else if n = 3 then x.f3 else if n = 4 then x.f4 else x.f5
def putD (x p : DD) : DD := ⟨faceD x p.f0, faceD x p.f1, faceD x p.f2, faceD x p.f3, faceD x p.f4, faceD x p.f5⟩
theorem putD_rol (x p : DD) (d : Nat) : rolD (putD x p) d = putD x (rolD p d) := by
 unfold rolD
 by_cases h0 : d = 0
 ·simp only [if_pos h0]; rfl
 by_cases h1 : d = 1
 ·simp only [if_neg h0, if_pos h1]; rfl
 by_cases h2 : d = 2
 ·simp only [if_neg h0, if_neg h1, if_pos h2]; rfl
 ·simp only [if_neg h0, if_neg h1, if_neg h2]; rfl
def plainD : DD := ⟨0, 1, 2, 3, 4, 5⟩
theorem putD_plain (x : DD) : putD x plainD = x := rfl
def runD (x : DD) : List (DD × ByteArray) := Bfs.run nextD 24 0 [(x, ⟨#[]⟩)]
def rots : List DD := (runD plainD).map Prod.fst
def rotWords : List ByteArray := (runD plainD).map Prod.snd
theorem rots_len : rots.length = 24 := by decide +kernel
theorem rots_closed : ∀ p ∈ rots, rolD p 0 ∈ rots ∧ rolD p 1 ∈ rots ∧ rolD p 2 ∈ rots ∧ rolD p 3 ∈ rots := by decide +kernel
theorem rots_plain : plainD ∈ rots := by decide +kernel
def imgs (x : DD) : List DD := rots.map (putD x)
theorem imgs_len (x : DD) : (imgs x).length = 24 := by unfold imgs; rw [List.length_map, rots_len]
theorem imgs_self (x : DD) : x ∈ imgs x := List.mem_map.2 ⟨plainD, rots_plain, putD_plain x⟩
theorem qmB {x y : DD} (h : y ∈ imgs x) (d : Nat) (hd : d < 4) : rolD y d ∈ imgs x := by
 obtain ⟨p, hp, rfl⟩ := List.mem_map.1 h
 rw [putD_rol]
 refine List.mem_map_of_mem ?_
 have hc := rots_closed p hp
 have : d = 0 ∨ d = 1 ∨ d = 2 ∨ d = 3 := by omega
 rcases this with rfl | rfl | rfl | rfl
 ·exact hc.1
 ·exact hc.2.1
 ·exact hc.2.2.1
 ·exact hc.2.2.2
theorem qoB (x : DD) (w : ByteArray) : ∀ (n d : Nat), d + n = 4 → ∀ s ∈ stepsD x w n d, ∃ e, e < 4 ∧ s = (some (rolD x e), w ++ dirW e)
 | 0, _, _, s, hs => by cases hs
 | n + 1, d, hd, s, hs => by
  rcases List.mem_cons.1 hs with rfl | hs
  ·exact ⟨d, by omega, rfl⟩
  ·exact qoB x w n (d + 1) (by omega) s hs
theorem mem_steps (x : DD) (w : ByteArray) (e : Nat) : ∀ (n d : Nat), d ≤ e → e < d + n → (some (rolD x e), w ++ dirW e) ∈ stepsD x w n d
 | 0, d, h1, h2 => by omega
 | n + 1, d, h1, h2 => by
  by_cases h : e = d
  ·subst h; exact List.mem_cons_self
  ·exact List.mem_cons_of_mem _ (mem_steps x w e n (d + 1) (by omega) (by omega))
structure FoundD (x : DD) (L : List (DD × ByteArray)) : Prop where
 nodup : (L.map Prod.fst).Nodup
 img : ∀ z ∈ L, z.1 ∈ imgs x
theorem FoundD.len {x : DD} {L : List (DD × ByteArray)} (h : FoundD x L) : L.length ≤ 24 := by
 have := Bfs.nodup_len (U := imgs x) h.nodup (fun y hy => by
  obtain ⟨z, hz, rfl⟩ := List.mem_map.1 hy
  exact h.img z hz)
 rwa [imgs_len, List.length_map] at this
theorem FoundD.put {x : DD} {L : List (DD × ByteArray)} (h : FoundD x L) (y : Option DD) (p : ByteArray) (hy : ∀ z, y = some z → z ∈ imgs x) : FoundD x (Bfs.put L y p) :=
 ⟨Bfs.put_nodup h.nodup y p, Bfs.put_all (Q := fun z => z.1 ∈ imgs x) h.img y p hy⟩
theorem nextD_img {x : DD} (i : Nat) (y : DD) (p : ByteArray) (h : y ∈ imgs x) : ∀ s ∈ nextD i y p, ∀ z, s.1 = some z → z ∈ imgs x := by
 intro s hs z hz
 obtain ⟨e, he, rfl⟩ := qoB y p 4 0 rfl s hs
 cases hz
 exact qmB h e he
theorem FoundD.round {x : DD} {L : List (DD × ByteArray)} (h : FoundD x L) (i : Nat) : FoundD x (Bfs.round nextD i L) :=
 ⟨Bfs.round_nodup _ h.nodup i, Bfs.round_all nextD (Q := fun z => z.1 ∈ imgs x) (fun i y p hy => nextD_img i y p hy) i h.img⟩
theorem FoundD.run {x : DD} {L : List (DD × ByteArray)} (h : FoundD x L) (n i : Nat) : FoundD x (Bfs.run nextD n i L) :=
 ⟨Bfs.run_nodup _ n i h.nodup, Bfs.run_all nextD (Q := fun z => z.1 ∈ imgs x) (fun i y p hy => nextD_img i y p hy) n i h.img⟩
theorem qDB (x : DD) : FoundD x [(x, ⟨#[]⟩)] := ⟨by simp, fun z hz => by rw [List.mem_singleton] at hz; subst hz; exact imgs_self x⟩
theorem qNB (x : DD) : FoundD x (runD x) := (qDB x).run 24 0
theorem runD_closed (x : DD) {y : DD} (h : y ∈ (runD x).map Prod.fst) (d : Nat) (hd : d < 4) : rolD y d ∈ (runD x).map Prod.fst := by
 obtain ⟨z, hz, rfl⟩ := List.mem_map.1 h
 obtain ⟨j, hj⟩ := List.mem_iff_getElem?.1 hz
 exact Bfs.run_closed nextD 24 0 _ 24 (fun m => ((qDB x).run m 0).len) (by omega) j (by omega) z hj _ (mem_steps z.1 z.2 d 4 0 (by omega) (by omega)) _ rfl
theorem runD_self (x : DD) : x ∈ (runD x).map Prod.fst := Bfs.qgB (Bfs.qMB nextD 24 0 _) (by simp)
def rolls (x : DD) (l : List Nat) : DD := l.foldl rolD x
theorem rolls_put (x : DD) : ∀ (l : List Nat) (p : DD), rolls (putD x p) l = putD x (rolls p l)
 | [], p => rfl
 | d :: l, p => by
  show rolls (rolD (putD x p) d) l = _
  rw [putD_rol]
  exact rolls_put x l (rolD p d)
theorem rolls_mem (x : DD) : ∀ (l : List Nat), (∀ d ∈ l, d < 4) → ∀ y ∈ (runD x).map Prod.fst, rolls y l ∈ (runD x).map Prod.fst
 | [], _, y, h => h
 | d :: l, hl, y, h => rolls_mem x l (fun e he => hl e (by simp [he])) (rolD y d) (runD_closed x h d (hl d (by simp)))
def dirNum (c : UInt8) : Nat := if c = 110 then 0 else if c = 101 then 1 else if c = 115 then 2 else 3
def numsW (w : ByteArray) : List Nat := w.data.toList.map dirNum
theorem dirNum_lt (c : UInt8) : dirNum c < 4 := by
 unfold dirNum
 split
 ·omega
 ·split
  ·omega
  ·split <;> omega
theorem numsW_lt (w : ByteArray) : ∀ d ∈ numsW w, d < 4 := by
 intro d hd
 obtain ⟨c, _, rfl⟩ := List.mem_map.1 hd
 exact dirNum_lt c
theorem rots_words : rots = rotWords.map fun w => rolls plainD (numsW w) := by decide +kernel
theorem imgs_words (x : DD) : imgs x = rotWords.map fun w => rolls x (numsW w) := by
 unfold imgs
 rw [rots_words, List.map_map]
 refine List.map_congr_left fun w _ => ?_
 show putD x (rolls plainD (numsW w)) = _
 rw [← rolls_put, putD_plain]
theorem mem_run (x y : DD) : y ∈ (runD x).map Prod.fst ↔ y ∈ imgs x := by
 constructor
 ·intro h
  obtain ⟨z, hz, rfl⟩ := List.mem_map.1 h
  exact (qNB x).img z hz
 ·intro h
  rw [imgs_words] at h
  obtain ⟨w, _, rfl⟩ := List.mem_map.1 h
  exact rolls_mem x _ (numsW_lt w) x (runD_self x)
def facesD (x : DD) : List Int := [x.f0, x.f1, x.f2, x.f3, x.f4, x.f5]
theorem facesD_inj {x y : DD} (h : facesD x = facesD y) : x = y := by
 unfold facesD at h
 injection h with h0 h
 injection h with h1 h
 injection h with h2 h
 injection h with h3 h
 injection h with h4 h
 injection h with h5 h
 exact qJC h0 h1 h2 h3 h4 h5
def ltD (x y : DD) : Bool := decide (lexI (facesD x) (facesD y) < 0)
theorem ltD_weak : Sorts.Weak ltD := by
 refine ⟨fun a b h => ?_, fun a b c h1 h2 => ?_⟩
 ·unfold ltD at *
  rw [decide_eq_true_eq] at h
  rw [decide_eq_false_iff_not]
  have := (lexI_anti (facesD a) (facesD b) rfl).1 h
  omega
 ·unfold ltD at *
  rw [decide_eq_false_iff_not] at *
  exact qWB (facesD c) (facesD b) (facesD a) rfl rfl h2 h1
theorem qLC (a b : DD) (h1 : ltD a b = false) (h2 : ltD b a = false) : a = b := by
 unfold ltD at *
 rw [decide_eq_false_iff_not] at *
 exact facesD_inj (lexI_tot _ _ rfl h1 h2)
theorem ltD_irrefl (a : DD) : ltD a a = false := by
 unfold ltD
 rw [lexI_self]; rfl
end Go.Proofs.Ytbmiekopflgicaa
namespace Go.Proofs.Ytbmiekopflgicaa
open Go.RowKit Go.Sort Go.Proofs.Ytbmiekopflgicaa.P Go.Proofs.YtbmiekopflgicaaW.PrintWords Go.Proofs.YtbmiekopflgicaaW.PrintLast
set_option linter.unusedVariables false
set_option linter.unusedSimpArgs false
def cD (x : S29) : Array Value := #[.int .i64 x.f0, .int .i64 x.f1, .int .i64 x.f2, .int .i64 x.f3, .int .i64 x.f4, .int .i64 x.f5]
set_option maxHeartbeats 2000000 in
set_option maxRecDepth 100000 in
theorem faces_exact (x : S29) (W : World) :
  Calls Try.prog 51 #[.agg #[.int .i64 x.f0, .int .i64 x.f1, .int .i64 x.f2, .int .i64 x.f3, .int .i64 x.f4, .int .i64 x.f5]] W fun e w' => e = .returned (.slice (some ⟨W.heap.size + 1, 0, none⟩) 6 6) ∧ w' = (W.alloc (.cells (cD x) 29)).alloc (.cells (cD x) 3) := by
 have hu := Try.underlying29
 go_enter Try.func51, Try.ntmps51
 go_wp2
 go_ret
 exact ⟨rfl, rfl⟩
theorem lit6 {w : World} {g : Nat} {x : S29} {t : TypeId} {fr : Nat × Nat} (h : w.heap[g]? = some (.cells (cD x) t fr)) : Kd.C (Kd.int .i64) w (some ⟨g, 0, none⟩) 6 (facesD x) := by
 refine ⟨rfl, by decide, fun _ => ⟨⟨g, 0, none⟩, rfl, fun j p hp => ⟨[.int .i64 p], rfl, rfl, fun i u hu => ?_⟩⟩⟩
 have hi : i = 0 ∧ u = .int .i64 p := by
  cases i with
  | zero => simp at hu; exact ⟨rfl, hu.symm⟩
  | succ i => simp at hu
 obtain ⟨rfl, rfl⟩ := hi
 have e : (⟨g, 0, none⟩ : Addr).add (j * (Kd.int .i64).sz + 0) = ⟨g, j, none⟩ := by
  rw [show j * (Kd.int .i64).sz + 0 = j from Nat.mul_one j, add_plain]
 rw [e]
 simp only [World.cell?, h]
 unfold facesD at hp
 rcases j with _ | _ | _ | _ | _ | _ | j
 ·simp at hp; subst hp; rfl
 ·simp at hp; subst hp; rfl
 ·simp at hp; subst hp; rfl
 ·simp at hp; subst hp; rfl
 ·simp at hp; subst hp; rfl
 ·simp at hp; subst hp; rfl
 ·simp at hp
theorem hpAlloc {w : World} {g : Nat} {o o1 : Obj} (h : w.heap[g]? = some o) : (w.alloc o1).heap[g]? = some o := by
 have hg : g < w.heap.size := (Array.getElem?_eq_some_iff.1 h).1
 show (w.heap.push o1)[g]? = _
 rw [Array.getElem?_push, if_neg (by omega)]
 exact h
theorem hpTopA (w : World) (o : Obj) : (w.alloc o).heap[w.heap.size]? = some o := by
 show (w.heap.push o)[w.heap.size]? = _
 rw [Array.getElem?_push, if_pos rfl]
theorem hpTopB (w : World) (o1 o : Obj) : ((w.alloc o1).alloc o).heap[w.heap.size + 1]? = some o := by
 show ((w.heap.push o1).push o)[w.heap.size + 1]? = _
 rw [Array.getElem?_push, if_pos (by rw [Array.size_push])]
def odT1 : Bool × List (List Nat × List Nat) := (true, [([], []), ([0], [0]), ([], []), ([2, 1], [2]), ([1, 3, 3], [1, 3]), ([4, 4, 0, 1, 2, 3, 4], [4])])
def odB1 : List Nat := [0, 1, 0, 7, 15, 31]
theorem odTab1 : rtab .any (opsOf Try.f71 1) = odT1 := by kernel_rfl
theorem odBits1 : waitsOk odT1.2 odB1 = true := by kernel_rfl
def odI (x y : S29) (r : Int) (W : World) (b : Nat → Bool) (a : Act) (w' : World) : Prop := ∃ s4 s5 s6 s7 s8 s9 : Value, a = { tmps := #[.agg (cD x), .agg (cD y), .pointer (some ⟨W.heap.size, 0, none⟩), .pointer (some ⟨W.heap.size + 1, 0, none⟩), s4, s5, s6, s7, s8, s9], defers := [] } ∧
 (∃ q os, w' = grow (W.drewN q) os) ∧ w'.heap[W.heap.size]? = some (.cells (cD x) 29) ∧ w'.heap[W.heap.size + 1]? = some (.cells (cD y) 29) ∧
 (b 0 = true → s5 = .agg (cD x)) ∧
 (b 1 = true → ∃ g, s6 = .slice (some ⟨g, 0, none⟩) 6 6 ∧ w'.heap[g]? = some (.cells (cD x) 3)) ∧
 (b 2 = true → s7 = .agg (cD y)) ∧
 (b 3 = true → ∃ g, s8 = .slice (some ⟨g, 0, none⟩) 6 6 ∧ w'.heap[g]? = some (.cells (cD y) 3)) ∧
 (b 4 = true → s9 = .int .i64 r) ∧ (b 5 = true → s4 = .int .i64 r)
theorem cells6 {w : World} {g : Nat} {x : S29} {t : TypeId} {fr : Nat × Nat} (h : w.heap[g]? = some (.cells (cD x) t fr)) : w.cell? ⟨g, 0, none⟩ = some (.int .i64 x.f0) ∧ w.cell? ⟨g, 1, none⟩ = some (.int .i64 x.f1) ∧ w.cell? ⟨g, 2, none⟩ = some (.int .i64 x.f2) ∧ w.cell? ⟨g, 3, none⟩ = some (.int .i64 x.f3) ∧ w.cell? ⟨g, 4, none⟩ = some (.int .i64 x.f4) ∧ w.cell? ⟨g, 5, none⟩ = some (.int .i64 x.f5) := by
 simp only [World.cell?, h]
 exact ⟨rfl, rfl, rfl, rfl, rfl, rfl⟩
set_option maxHeartbeats 4000000 in
set_option maxRecDepth 100000 in
theorem orderDie_grow (k : Nat) (x y : S29) (r : Int) (h : qW.f k (facesD x) (facesD y) = some r) (W : World) :
  Calls Try.prog 71 #[.agg #[.int .i64 x.f0, .int .i64 x.f1, .int .i64 x.f2, .int .i64 x.f3, .int .i64 x.f4, .int .i64 x.f5], .agg #[.int .i64 y.f0, .int .i64 y.f1, .int .i64 y.f2, .int .i64 y.f3, .int .i64 y.f4, .int .i64 y.f5]] W fun e w' => e = .returned (.int .i64 r) ∧ ∃ q os', w' = grow (W.drewN q) os' := by
 have hu := Try.underlying29
 have H := Lib.hid h
 clear h
 go_enter Try.func71, Try.ntmps71
 go_wp2
 refine qyA (n := 6) (S := fun _ => True) (ds := []) #[false, false, false, false, false, false] (by kernel_rfl) rfl rfl trivial (fun _ => ?_)
 refine qbA odTab1 odBits1 (fun HT_ HW_ => ?_)
 refine inv_ (B := odB1) [0, 1, 2, 3, 4, 5] (odI x y r W) HT_.out HW_.out (by kernel_rfl) (by kernel_rfl) ?h0 (qUA ?s0 (qUA ?s1 (qUA ?s2 (qUA ?s3 (qUA ?s4 (qUA ?s5 steps_nil)))))) ?hend
 case h0 =>
  refine ⟨_, _, _, _, _, _, rfl, ⟨1, #[.cells (cD x) 29, .cells (cD y) 29], ?_⟩, ?_, ?_, by simp, by simp, by simp, by simp, by simp, by simp⟩
  ·rw [alloc_eq_grow, alloc_eq_grow, grow_grow]; rfl
  ·exact hpAlloc (hpTopA W _)
  ·exact hpTopB W _ _
 case s0 =>
  rintro b a w' ⟨s4, s5, s6, s7, s8, s9, rfl, ⟨q, os, hw⟩, hx, hy, h0, h1, h2, h3, h4, h5⟩ hi hp hn
  have n1 := hn 1 (by decide)
  obtain ⟨c0, c1, c2, c3, c4, c5⟩ := cells6 hx
  have HW0 := Aside0.mk hw
  clear hw
  refine ⟨_, rfl, fun K hK => ?_⟩
  refine qjB (w1 := w') (v := .agg (cD x)) rfl rfl ?hr ?_
  case hr => first | (go_simp; done) | (go_simp; rfl)
  refine hK _ _ ⟨s4, .agg (cD x), s6, s7, s8, s9, by rfl, ⟨q, os, HW0.out⟩, hx, hy, fun _ => rfl, fun h => h1 (by simpa [up] using h), fun h => h2 (by simpa [up] using h), fun h => h3 (by simpa [up] using h), fun h => h4 (by simpa [up] using h), fun h => h5 (by simpa [up] using h)⟩
 case s1 =>
  rintro b a w' ⟨s4, s5, s6, s7, s8, s9, rfl, ⟨q, os, hw⟩, hx, hy, h0, h1, h2, h3, h4, h5⟩ hi hp hn
  have p0 := hp 0 (by decide)
  obtain rfl := h0 p0
  refine ⟨_, rfl, fun K hK => ?_⟩
  refine goes_ Try.func51 (by kernel_rfl) rfl #[.agg (cD x)] (by rfl) rfl rfl (by (try simp only [List.map_toArray, List.map_cons, List.map_nil]); first | done | rfl | simp) ?_
  refine (faces_exact x w').mono ?_
  rintro e w1 ⟨rfl, rfl⟩
  refine ⟨_, rfl, hK _ _ ⟨s4, .agg (cD x), .slice (some ⟨w'.heap.size + 1, 0, none⟩) 6 6, s7, s8, s9, by rfl, ⟨q, os ++ (#[.cells (cD x) 29] ++ #[.cells (cD x) 3]), by rw [alloc_eq_grow, alloc_eq_grow, grow_grow, hw, grow_grow]⟩, hpAlloc (hpAlloc hx), hpAlloc (hpAlloc hy), fun _ => rfl, fun _ => ⟨_, rfl, ?_⟩, fun h => h2 (by simpa [up] using h), fun h => ?_, fun h => h4 (by simpa [up] using h), fun h => h5 (by simpa [up] using h)⟩⟩
  ·exact hpTopB w' _ _
  ·obtain ⟨g, e, hg⟩ := h3 (by simpa [up] using h)
   exact ⟨g, e, hpAlloc (hpAlloc hg)⟩
 case s2 =>
  rintro b a w' ⟨s4, s5, s6, s7, s8, s9, rfl, ⟨q, os, hw⟩, hx, hy, h0, h1, h2, h3, h4, h5⟩ hi hp hn
  obtain ⟨c0, c1, c2, c3, c4, c5⟩ := cells6 hy
  have HW0 := Aside0.mk hw
  clear hw
  refine ⟨_, rfl, fun K hK => ?_⟩
  refine qjB (w1 := w') (v := .agg (cD y)) rfl rfl ?hr ?_
  case hr => first | (go_simp; done) | (go_simp; rfl)
  refine hK _ _ ⟨s4, s5, s6, .agg (cD y), s8, s9, by rfl, ⟨q, os, HW0.out⟩, hx, hy, fun h => h0 (by simpa [up] using h), fun h => h1 (by simpa [up] using h), fun _ => rfl, fun h => h3 (by simpa [up] using h), fun h => h4 (by simpa [up] using h), fun h => h5 (by simpa [up] using h)⟩
 case s3 =>
  rintro b a w' ⟨s4, s5, s6, s7, s8, s9, rfl, ⟨q, os, hw⟩, hx, hy, h0, h1, h2, h3, h4, h5⟩ hi hp hn
  have p2 := hp 2 (by decide)
  obtain rfl := h2 p2
  refine ⟨_, rfl, fun K hK => ?_⟩
  refine goes_ Try.func51 (by kernel_rfl) rfl #[.agg (cD y)] (by rfl) rfl rfl (by (try simp only [List.map_toArray, List.map_cons, List.map_nil]); first | done | rfl | simp) ?_
  refine (faces_exact y w').mono ?_
  rintro e w1 ⟨rfl, rfl⟩
  refine ⟨_, rfl, hK _ _ ⟨s4, s5, s6, .agg (cD y), .slice (some ⟨w'.heap.size + 1, 0, none⟩) 6 6, s9, by rfl, ⟨q, os ++ (#[.cells (cD y) 29] ++ #[.cells (cD y) 3]), by rw [alloc_eq_grow, alloc_eq_grow, grow_grow, hw, grow_grow]⟩, hpAlloc (hpAlloc hx), hpAlloc (hpAlloc hy), fun h => h0 (by simpa [up] using h), fun h => ?_, fun _ => rfl, fun _ => ⟨_, rfl, ?_⟩, fun h => h4 (by simpa [up] using h), fun h => h5 (by simpa [up] using h)⟩⟩
  ·obtain ⟨g, e, hg⟩ := h1 (by simpa [up] using h)
   exact ⟨g, e, hpAlloc (hpAlloc hg)⟩
  ·exact hpTopB w' _ _
 case s4 =>
  rintro b a w' ⟨s4, s5, s6, s7, s8, s9, rfl, ⟨q, os, hw⟩, hx, hy, h0, h1, h2, h3, h4, h5⟩ hi hp hn
  have p1 := hp 1 (by decide)
  have p3 := hp 3 (by decide)
  obtain ⟨g1, rfl, hg1⟩ := h1 p1
  obtain ⟨g3, rfl, hg3⟩ := h3 p3
  refine ⟨_, rfl, fun K hK => ?_⟩
  refine goes_ Try.func75 (by kernel_rfl) rfl #[.slice (some ⟨g1, 0, none⟩) 6 6, .slice (some ⟨g3, 0, none⟩) 6 6] (by rfl) rfl rfl (by (try simp only [List.map_toArray, List.map_cons, List.map_nil]); first | done | rfl | simp) ?_
  refine (qW.calls k _ _ (facesD x) _ _ (facesD y) r _ (lit6 hg1) (Nat.le_refl 6) (lit6 hg3) (Nat.le_refl 6) H.out).mono ?_
  rintro e w1 ⟨rfl, ⟨nd, rfl⟩⟩
  refine ⟨_, rfl, hK _ _ ⟨s4, s5, _, s7, _, .int .i64 r, by rfl, ⟨q + nd, os, by rw [hw, ← World.drewN_drewN]; rfl⟩, hx, hy, fun h => h0 (by simpa [up] using h), fun _ => ⟨g1, rfl, hg1⟩, fun h => h2 (by simpa [up] using h), fun _ => ⟨g3, rfl, hg3⟩, fun _ => rfl, fun h => h5 (by simpa [up] using h)⟩⟩
 case s5 =>
  rintro b a w' ⟨s4, s5, s6, s7, s8, s9, rfl, ⟨q, os, hw⟩, hx, hy, h0, h1, h2, h3, h4, h5⟩ hi hp hn
  have p4 := hp 4 (by decide)
  obtain rfl := h4 p4
  have HW0 := Aside0.mk hw
  clear hw
  refine ⟨_, rfl, fun K hK => ?_⟩
  refine qjB (w1 := w') (v := .int .i64 r) rfl rfl ?hr ?_
  case hr => first | (go_simp; done) | (go_simp; rfl)
  refine hK _ _ ⟨.int .i64 r, s5, s6, s7, s8, _, by rfl, ⟨q, os, HW0.out⟩, hx, hy, fun h => h0 (by simpa [up] using h), fun h => h1 (by simpa [up] using h), fun h => h2 (by simpa [up] using h), fun h => h3 (by simpa [up] using h), fun h => h4 (by simpa [up] using h), fun _ => rfl⟩
 case hend =>
  rintro b a w1 hall ⟨s4, s5, s6, s7, s8, s9, rfl, hw, hx, hy, h0, h1, h2, h3, h4, h5⟩
  obtain rfl := h5 (hall 5 (by decide))
  have HW1 := Aside0.mk hw
  clear h0 h1 h2 h3 h4 h5 hall hw hx hy
  go_wp2
  go_ret
  exact ⟨rfl, HW1.out⟩
end Go.Proofs.Ytbmiekopflgicaa
namespace Go.Proofs.Ytbmiekopflgicaa
open Go.RowKit Go.Proofs.Ytbmiekopflgicaa.P Go.Proofs.YtbmiekopflgicaaW.PrintWords Go.Proofs.YtbmiekopflgicaaW.PrintLast
set_option linter.unusedVariables false
set_option linter.unusedSimpArgs false
theorem cmp_eq (a b : Int) : qVA.f a b = some (cmpI a b) := by
 unfold qVA.f qj.f cmpI
 simp only [bne_self_eq_false, Option.bind_some]
 rw [if_neg (by decide), if_neg (by decide)]
 split
 ·rfl
 ·split <;> rfl
theorem rd_is (l : List Int) (i : Nat) {x : Int} (h : i < l.length) (e : l[i] = x) : rd l (i : Int) = x := by
 unfold rd
 rw [Int.toNat_natCast, List.getD_eq_getElem?_getD, List.getElem?_eq_getElem h, e]; rfl
theorem compare_loop (l m : List Int) (hl : l.length ≤ 100000) (hm : m.length ≤ 100000) : ∀ (u v : List Int) (i : Nat), l.drop i = u → m.drop i = v → i ≤ l.length → i ≤ m.length →
  Ev (fun k => qW.l0 k l m l (l.length : Int) (i : Int)) (lexI u v)
 | [], v, i, hu, hv, h1, h2 => by
  have hi := Sorts.qAB hu
  refine Ev.step (f := fun k => _) (fun k => by rw [qW.l0]) (Ev.neg (by omega) ?_)
  match v, hv with
  | [], hv =>
   have := Sorts.qAB hv
   exact Ev.neg (by omega) (Ev.now _)
  | b :: v, hv =>
   obtain ⟨h3, _, _⟩ := Sorts.qqA hv
   exact Ev.pos (by omega) (Ev.now _)
 | a :: u, v, i, hu, hv, h1, h2 => by
  obtain ⟨h3, e3, hu'⟩ := Sorts.qqA hu
  have ea := rd_is l i h3 e3
  have w : wrap64 ((i : Int) + 1) = ((i + 1 : Nat) : Int) := by unfold wrap64; omega
  clear hu e3
  refine Ev.step (f := fun k => _) (fun k => by rw [qW.l0]) ?_
  rw [w, ea]
  refine Ev.pos (by omega) (Ev.pos (by omega) (Ev.pos (by omega) ?_))
  match v, hv with
  | [], hv =>
   have := Sorts.qAB hv
   exact Ev.pos (by omega) (Ev.now _)
  | b :: v, hv =>
   obtain ⟨h4, e4, hv'⟩ := Sorts.qqA hv
   have eb := rd_is m i h4 e4
   have ih := compare_loop l m hl hm u v (i + 1) hu' hv' (by omega) (by omega)
   clear hv e4 hu' hv'
   rw [eb]
   refine Ev.neg (by omega) (Ev.pos (by omega) (Ev.bindc (cmp_eq a b) ?_))
   rw [lexI]
   by_cases h0 : cmpI a b = 0
   ·rw [if_pos h0]
    exact Ev.pos h0 ih
   ·rw [if_neg h0]
    exact Ev.neg h0 (Ev.now _)
theorem compare_ev (l m : List Int) (hl : l.length ≤ 100000) (hm : m.length ≤ 100000) : Ev (fun k => qW.f k l m) (lexI l m) :=
 compare_loop l m hl hm l m 0 rfl rfl (by omega) (by omega)
theorem rdDD (l : List DD) (t : DD) (i : Nat) (h : l[i]? = some t) : qB l (i : Int) = t := by
 unfold qB
 rw [Int.toNat_natCast, List.getD_eq_getElem?_getD, h]; rfl
theorem rdWD (l : List ByteArray) (t : ByteArray) (i : Nat) (h : l[i]? = some t) : rdOf ByteArray.empty l (i : Int) = t := by
 unfold rdOf
 rw [Int.toNat_natCast, List.getD_eq_getElem?_getD, h]; rfl
abbrev dds (L : List (DD × ByteArray)) : List DD := L.map Prod.fst
abbrev wsd (L : List (DD × ByteArray)) : List ByteArray := L.map Prod.snd
theorem putD_get {L : List (DD × ByteArray)} {i : Nat} {x : DD × ByteArray} (h : L[i]? = some x) (y : Option DD) (p : ByteArray) : (Bfs.put L y p)[i]? = some x := by
 obtain ⟨t, ht⟩ := Bfs.put_prefix L y p
 rw [← ht, List.getElem?_append_left (List.getElem?_eq_some_iff.1 h).1]
 exact h
theorem specDie_rol (x : DD) (d : Nat) (h : d < 4) : qoA.f x.f0 x.f1 x.f2 x.f3 x.f4 x.f5 (d : Int) = some ((rolD x d).f0, (rolD x d).f1, (rolD x d).f2, (rolD x d).f3, (rolD x d).f4, (rolD x d).f5) := by
 have : d = 0 ∨ d = 1 ∨ d = 2 ∨ d = 3 := by omega
 rcases this with rfl | rfl | rfl | rfl <;> simp [qoA.f, rolD]
theorem same_die (b z : DD) : (b.f0 == z.f0 && (b.f1 == z.f1 && (b.f2 == z.f2 && (b.f3 == z.f3 && (b.f4 == z.f4 && (b.f5 == z.f5)))))) = decide (z = b) := by
 by_cases hzb : z = b
 ·subst hzb; simp
 ·rw [decide_eq_false hzb]
  cases hx : (b.f0 == z.f0 && (b.f1 == z.f1 && (b.f2 == z.f2 && (b.f3 == z.f3 && (b.f4 == z.f4 && (b.f5 == z.f5)))))) with
  | false => rfl
  | true =>
   simp only [Bool.and_eq_true, beq_iff_eq] at hx
   exact absurd (qJC hx.1.symm hx.2.1.symm hx.2.2.1.symm hx.2.2.2.1.symm hx.2.2.2.2.1.symm hx.2.2.2.2.2.symm) hzb
theorem search_found (at_ d : Int) (B : List DD) (hB : B.length ≤ 24) (ws : List ByteArray) (z : DD) (R : List DD × List ByteArray) :
  ∀ (l : List DD) (j : Nat) (f : Bool), B.drop j = l → j ≤ B.length →
   (∀ f', (f' = (f || decide (z ∈ l))) → Ev (fun k => qQ.l2 k B ws at_ d f' (B.length : Int) (B.length : Int) z.f0 z.f1 z.f2 z.f3 z.f4 z.f5) R) →
   Ev (fun k => qQ.l2 k B ws at_ d f (B.length : Int) (j : Int) z.f0 z.f1 z.f2 z.f3 z.f4 z.f5) R
 | [], j, f, hd, hj, h => by
  have := Sorts.qAB hd
  obtain rfl : j = B.length := by omega
  exact h f (by simp)
 | b :: l, j, f, hd, hj, h => by
  obtain ⟨hlt, hc, hd'⟩ := Sorts.qqA hd
  have e := rdDD B b j (by rw [← hc]; exact List.getElem?_eq_getElem hlt)
  have ih := fun f' hf => search_found at_ d B hB ws z R l (j + 1) f' hd' (by omega) hf
  have w : wrap64 ((j : Int) + 1) = ((j + 1 : Nat) : Int) := by unfold wrap64; omega
  clear hd hd' hc
  refine Ev.step (f := fun k => _) (fun k => by rw [qQ.l2]) ?_
  rw [w, e]
  refine Ev.pos (by omega) (Ev.pos (by omega) (Ev.pos (by omega) ?_))
  cases f with
  | true =>
   refine Ev.pos rfl (ih true fun f' hf => h f' ?_)
   rw [hf]; rfl
  | false =>
   refine Ev.neg (by decide) ?_
   rw [same_die]
   refine ih _ fun f' hf => h f' ?_
   rw [hf, Bool.false_or]
   by_cases hzb : z = b
   ·subst hzb; simp
   ·simp [hzb]
theorem qVB (x : DD) (at_ : Nat) (R : List DD × List ByteArray) : ∀ (n d : Nat) (L : List (DD × ByteArray)) (b : DD) (w : ByteArray), d + n = 4 → L[at_]? = some (b, w) → FoundD x L → w.size ≤ 147 →
  (Ev (fun k => qQ.l0 k (dds (Bfs.puts L (stepsD b w n d))) (wsd (Bfs.puts L (stepsD b w n d))) ((at_ + 1 : Nat) : Int)) R) →
  Ev (fun k => qQ.l1 k (dds L) (wsd L) (at_ : Int) (d : Int)) R
 | 0, d, L, b, w, hd, hat, hF, hw, h => by
  have hl := hF.len
  have hlt := (List.getElem?_eq_some_iff.1 hat).1
  have w1 : wrap64 ((at_ : Int) + 1) = ((at_ + 1 : Nat) : Int) := by unfold wrap64; omega
  refine Ev.step (f := fun k => _) (fun k => by rw [qQ.l1]) ?_
  rw [w1]
  exact Ev.neg (by omega) h
 | n + 1, d, L, b, w, hd, hat, hF, hw, h => by
  have hl := hF.len
  have hlt := (List.getElem?_eq_some_iff.1 hat).1
  have w1 : wrap64 ((d : Int) + 1) = ((d + 1 : Nat) : Int) := by unfold wrap64; omega
  have eb := rdDD (dds L) b at_ (by rw [List.getElem?_map, hat]; rfl)
  have ew := rdWD (wsd L) w at_ (by rw [List.getElem?_map, hat]; rfl)
  have h1 := qdB d (by omega)
  have hlen : (dds L).length = L.length := List.length_map _
  have hlen2 : (wsd L).length = L.length := List.length_map _
  have him : b ∈ imgs x := hF.img (b, w) (List.mem_of_getElem? hat)
  refine Ev.step (f := fun k => _) (fun k => by rw [qQ.l1]) ?_
  rw [eb]
  refine Ev.pos (by omega) (Ev.pos (by omega) (Ev.pos (by omega) (Ev.bindc (specDie_rol b d (by omega)) ?_)))
  rw [stepsD] at h
  show Ev (fun k => qQ.l2 k (dds L) (wsd L) (at_ : Int) (d : Int) false ((dds L).length : Int) ((0 : Nat) : Int) (rolD b d).f0 (rolD b d).f1 (rolD b d).f2 (rolD b d).f3 (rolD b d).f4 (rolD b d).f5) R
  refine search_found _ _ (dds L) (by omega) (wsd L) (rolD b d) R (dds L) 0 false rfl (by omega) fun f' hf => ?_
  rw [Bool.false_or] at hf
  refine Ev.step (f := fun k => _) (fun k => by rw [qQ.l2]) ?_
  rw [w1, ew]
  refine Ev.neg (by omega) ?_
  by_cases hm : rolD b d ∈ dds L
  ·rw [decide_eq_true hm] at hf
   subst hf
   have e : Bfs.put L (some (rolD b d)) (w ++ dirW d) = L := Bfs.put_met hm _
   rw [Bfs.puts, e] at h
   exact Ev.pos rfl (qVB x at_ R n (d + 1) L b w (by omega) hat hF hw h)
  ·rw [decide_eq_false hm] at hf
   subst hf
   have e : Bfs.put L (some (rolD b d)) (w ++ dirW d) = L ++ [(rolD b d, w ++ dirW d)] := Bfs.put_new hm _
   have hF2 := hF.put (some (rolD b d)) (w ++ dirW d) (fun z hz => by cases hz; exact qmB him d (by omega))
   have hg2 := putD_get hat (some (rolD b d)) (w ++ dirW d)
   rw [Bfs.puts, e] at h
   rw [e] at hF2 hg2
   refine Ev.neg (by decide) (Ev.pos (by omega) (Ev.pos (by omega) (Ev.pos (by omega) (Ev.bindc (show qjA.f = some dirsW from rfl) (Ev.pos (by omega) (Ev.pos (by omega) (Ev.pos (by rw [show dirsW.size = 4 from rfl]; omega) ?_)))))))
   rw [Int.toNat_natCast, Int.toNat_natCast]
   refine Ev.pos (by show w.size + (dirW d).size ≤ _; omega) (Ev.pos (by omega) ?_)
   have := qVB x at_ R n (d + 1) (L ++ [(rolD b d, w ++ dirW d)]) b w (by omega) hg2 hF2 hw h
   rw [show dds (L ++ [(rolD b d, w ++ dirW d)]) = dds L ++ [rolD b d] by simp [dds], show wsd (L ++ [(rolD b d, w ++ dirW d)]) = wsd L ++ [w ++ dirW d] by simp [wsd]] at this
   exact this
def ShortD (L : List (DD × ByteArray)) (n : Nat) : Prop := ∀ x ∈ L, x.2.size ≤ n
theorem ShortD.round {L : List (DD × ByteArray)} {i : Nat} (h : ShortD L i) : ShortD (Bfs.round nextD i L) (i + 1) := by
 unfold Bfs.round
 split
 ·exact fun x hx => Nat.le_succ_of_le (h x hx)
 ·rename_i x hx
  have hxs := h x (List.mem_of_getElem? hx)
  refine Bfs.qCC (Q := fun y => y.2.size ≤ i + 1) _ (fun y hy => Nat.le_succ_of_le (h y hy)) ?_
  intro s hs z hz
  obtain ⟨e, he, rfl⟩ := qoB x.1 x.2 4 0 rfl s hs
  show (x.2 ++ dirW e).size ≤ _
  rw [ByteArray.size_append, qdB e he]
  omega
theorem qsB {L : List (DD × ByteArray)} {i : Nat} {b : DD} {w : ByteArray} (h : L[i]? = some (b, w)) : Bfs.round nextD i L = Bfs.puts L (stepsD b w 4 0) := by
 unfold Bfs.round; rw [h]; rfl
theorem search_run (x : DD) : ∀ (n i : Nat) (L : List (DD × ByteArray)), FoundD x L → ShortD L i → i ≤ L.length → 24 ≤ i + n →
  Ev (fun k => qQ.l0 k (dds L) (wsd L) (i : Int)) (dds (Bfs.run nextD n i L), wsd (Bfs.run nextD n i L))
 | 0, i, L, hF, hS, hi, hn => by
  have hl := hF.len
  refine Ev.step (f := fun k => _) (fun k => by rw [qQ.l0]) ?_
  exact Ev.neg (by rw [List.length_map]; omega) (Ev.now _)
 | n + 1, i, L, hF, hS, hi, hn => by
  have hl := hF.len
  refine Ev.step (f := fun k => _) (fun k => by rw [qQ.l0]) ?_
  rw [Bfs.run]
  by_cases hlt : i < L.length
  ·rw [if_pos hlt]
   refine Ev.pos (by rw [List.length_map]; omega) ?_
   have hat : L[i]? = some (L[i].1, L[i].2) := List.getElem?_eq_getElem hlt
   have ih := search_run x n (i + 1) (Bfs.round nextD i L) (hF.round i) hS.round (by have := (Bfs.qKB nextD i L).length_le; omega) (by omega)
   rw [qsB hat] at ih
   rw [qsB hat]
   exact qVB x i _ 4 0 L _ _ rfl hat hF (by have := hS _ (List.getElem_mem hlt); omega) ih
  ·rw [if_neg hlt]
   exact Ev.neg (by rw [List.length_map]; omega) (Ev.now _)
theorem diSearch_ev (x : DD) : Ev (fun k => qQ.f k x.f0 x.f1 x.f2 x.f3 x.f4 x.f5) (dds (runD x), wsd (runD x)) :=
 search_run x 24 0 [(x, ⟨#[]⟩)] (qDB x) (fun z hz => by rw [List.mem_singleton] at hz; subst hz; exact Nat.le_refl _) (by simp) (by omega)
theorem rd_isD (l : List Int) (i : Nat) {x : Int} (h : i < l.length) (e : l[i] = x) : rd l (i : Int) = x := by
 unfold rd
 rw [Int.toNat_natCast, List.getD_eq_getElem?_getD, List.getElem?_eq_getElem h, e]; rfl
theorem less_loop (l m : List Int) (hl : l.length ≤ 100000) (hm : m.length = l.length) : ∀ (u v : List Int) (i : Nat), l.drop i = u → m.drop i = v → i ≤ l.length →
  Ev (fun k => qZ.l0 k l m (l.length : Int) (i : Int)) (decide (lexI u v < 0))
 | [], v, i, hu, hv, h1 => by
  have hi := Sorts.qAB hu
  have hv' : v = [] := by rw [← hv]; exact List.drop_eq_nil_of_le (by omega)
  subst hv'
  refine Ev.step (f := fun k => _) (fun k => by rw [qZ.l0]) ?_
  exact Ev.neg (by omega) (Ev.some_ rfl)
 | a :: u, v, i, hu, hv, h1 => by
  obtain ⟨h3, e3, hu'⟩ := Sorts.qqA hu
  have ea := rd_isD l i h3 e3
  have w : wrap64 ((i : Int) + 1) = ((i + 1 : Nat) : Int) := by unfold wrap64; omega
  clear hu e3
  refine Ev.step (f := fun k => _) (fun k => by rw [qZ.l0]) ?_
  rw [w, ea]
  refine Ev.pos (by omega) (Ev.pos (by omega) (Ev.pos (by omega) (Ev.pos (by omega) ?_)))
  match v, hv with
  | [], hv =>
   have := Sorts.qAB hv
   omega
  | b :: v, hv =>
   obtain ⟨h4, e4, hv'⟩ := Sorts.qqA hv
   have eb := rd_isD m i h4 e4
   have ih := less_loop l m hl hm u v (i + 1) hu' hv' (by omega)
   clear hv e4 hu' hv'
   rw [eb]
   have hn := qkA a b u v
   by_cases h0 : a = b
   ·refine Ev.pos h0 ?_
    rw [show decide (lexI (a :: u) (b :: v) < 0) = decide (lexI u v < 0) from decide_eq_decide.2 (by omega)]
    exact ih
   ·refine Ev.neg h0 (Ev.some_ ?_)
    exact decide_eq_decide.2 (by omega)
theorem diLess_ev (x y : DD) : Ev (fun k => qZ.f k x.f0 x.f1 x.f2 x.f3 x.f4 x.f5 y.f0 y.f1 y.f2 y.f3 y.f4 y.f5) (ltD x y) := by
 unfold qZ.f
 exact Ev.bindc (show qIA.f _ _ _ _ _ _ = some (facesD x) from rfl) (Ev.bindc (show qIA.f _ _ _ _ _ _ = some (facesD y) from rfl) (less_loop (facesD x) (facesD y) (by simp [facesD]) rfl (facesD x) (facesD y) 0 rfl rfl (by simp)))
theorem ways_ins (B : List DD) (i : Int) (x : DD) (acc : List DD) (ha : acc.length ≤ 100) (R : List DD) (h : Ev (fun k => qN.l0 k (Sorts.ins ltD x acc) B (B.length : Int) (wrap64 (i + 1))) R) (d : Nat) :
  ∀ j : Nat, j ≤ Sorts.less ltD x acc → Sorts.less ltD x acc - j = d → Ev (fun k => qN.l1 k acc (j : Int) B (B.length : Int) i x.f0 x.f1 x.f2 x.f3 x.f4 x.f5) R := by
 have hle := Sorts.less_le (lt := ltD) x acc
 have fin : Ev (fun k => qN.l1 k acc (Sorts.less ltD x acc : Int) B (B.length : Int) i x.f0 x.f1 x.f2 x.f3 x.f4 x.f5) R := by
  have hi := Sorts.ins_eq (lt := ltD) x acc
  have e : (([] : List DD) ++ acc.take (Sorts.less ltD x acc)) ++ [x] ++ acc.drop (Sorts.less ltD x acc) = Sorts.ins ltD x acc := by
   rw [hi]; simp
  have l1 : (acc.take (Sorts.less ltD x acc)).length = Sorts.less ltD x acc := by rw [List.length_take]; omega
  have l2 : (acc.drop (Sorts.less ltD x acc)).length = acc.length - Sorts.less ltD x acc := List.length_drop
  rw [← e] at h
  refine Ev.step (f := fun k => _) (fun k => by rw [qN.l1]) ?_
  by_cases hlt : Sorts.less ltD x acc < acc.length
  ·have hs := Sorts.less_stop (lt := ltD) x acc hlt
   refine Ev.pos (by omega) (Ev.pos (by omega) ?_)
   rw [rdDD acc _ _ (List.getElem?_eq_getElem hlt)]
   have hd := diLess_ev (acc[Sorts.less ltD x acc]) x
   rw [hs] at hd
   refine Ev.bind hd (Ev.neg (by decide) ?_)
   rw [Int.toNat_natCast]
   refine Ev.bindc rfl (Ev.pos (by omega) (Ev.bindc rfl (Ev.pos (by rw [l1]; simp; omega) (Ev.bindc rfl (Ev.bindc rfl (Ev.pos (by simp [l1]; omega) (Ev.bindc rfl (Ev.bindc rfl (Ev.pos (by simp [l1, l2]; omega) h)))))))))
  ·refine Ev.neg (by omega) ?_
   rw [Int.toNat_natCast]
   refine Ev.bindc rfl (Ev.pos (by omega) (Ev.pos (by omega) (Ev.bindc rfl (Ev.pos (by rw [l1]; simp; omega) (Ev.bindc rfl (Ev.bindc rfl (Ev.pos (by simp [l1]; omega) (Ev.bindc rfl (Ev.bindc rfl (Ev.pos (by simp [l1, l2]; omega) h))))))))))
 induction d with
 | zero =>
  intro j hj hd
  obtain rfl : j = Sorts.less ltD x acc := by omega
  exact fin
 | succ d ih =>
  intro j hj hd
  have hlt : j < acc.length := by omega
  have hs := Sorts.less_lt (lt := ltD) x acc j hlt (by omega)
  have w : wrap64 ((j : Int) + 1) = ((j + 1 : Nat) : Int) := by unfold wrap64; omega
  have ihh := ih (j + 1) (by omega) (by omega)
  clear ih fin h
  refine Ev.step (f := fun k => _) (fun k => by rw [qN.l1]) ?_
  refine Ev.pos (by omega) (Ev.pos (by omega) ?_)
  rw [rdDD acc _ _ (List.getElem?_eq_getElem hlt), w]
  have hd := diLess_ev (acc[j]) x
  rw [hs] at hd
  exact Ev.bind hd (Ev.pos rfl ihh)
theorem ways_loop (B : List DD) (hB : B.length ≤ 24) : ∀ (l : List DD) (i : Nat) (acc : List DD), B.drop i = l → i ≤ B.length → acc.length ≤ i →
  Ev (fun k => qN.l0 k acc B (B.length : Int) (i : Int)) (Sorts.insAll ltD acc l)
 | [], i, acc, hd, hi, ha => by
  have := Sorts.qAB hd
  refine Ev.step (f := fun k => _) (fun k => by rw [qN.l0]) ?_
  exact Ev.neg (by omega) (Ev.now _)
 | x :: l, i, acc, hd, hi, ha => by
  obtain ⟨hlt, hc, hd'⟩ := Sorts.qqA hd
  have e := rdDD B x i (by rw [← hc]; exact List.getElem?_eq_getElem hlt)
  have hl : (Sorts.ins ltD x acc).length = acc.length + 1 := by
   have := (Sorts.qlB ltD x acc).length_eq
   simpa using this
  have ih := ways_loop B hB l (i + 1) (Sorts.ins ltD x acc) hd' (by omega) (by omega)
  have w : wrap64 ((i : Int) + 1) = ((i + 1 : Nat) : Int) := by unfold wrap64; omega
  clear hd hd' hc
  refine Ev.step (f := fun k => _) (fun k => by rw [qN.l0]) ?_
  rw [e]
  refine Ev.pos (by omega) (Ev.pos (by omega) (Ev.pos (by omega) ?_))
  rw [← w] at ih
  exact ways_ins B (i : Int) x acc (by omega) _ ih _ 0 (by omega) rfl
def waysD (x : DD) : List DD := Sorts.insAll ltD [] (dds (runD x))
theorem qwB (x : DD) : Ev (fun k => qN.f k x.f0 x.f1 x.f2 x.f3 x.f4 x.f5) (waysD x) := by
 have hl : (dds (runD x)).length ≤ 24 := by rw [List.length_map]; exact (qNB x).len
 unfold qN.f
 exact Ev.bind (diSearch_ev x) (ways_loop _ hl _ 0 [] rfl (by omega) (by simp))
theorem qfB (x : DD) : (waysD x).Perm (dds (runD x)) := by
 have := Sorts.insAll_perm ltD (dds (runD x)) []
 rwa [List.append_nil] at this
theorem waysD_mem (x y : DD) : y ∈ waysD x ↔ y ∈ imgs x := (qfB x).mem_iff.trans (mem_run x y)
theorem waysD_nodup (x : DD) : (waysD x).Nodup := (qfB x).nodup_iff.2 (qNB x).nodup
theorem waysD_sorted (x : DD) : (waysD x).Pairwise (fun a b => ltD b a = false) := Sorts.insAll_sorted ltD_weak _ [] List.Pairwise.nil
theorem qnB (x : DD) : 1 ≤ (waysD x).length ∧ (waysD x).length ≤ 24 := by
 have h1 := (qfB x).length_eq
 have h2 := (qNB x).len
 rw [List.length_map] at h1
 have h3 := List.length_pos_of_mem ((waysD_mem x x).2 (imgs_self x))
 omega
def dedD : List DD → List DD
 | [] => []
 | [x] => [x]
 | x :: y :: l => if x = y then dedD (y :: l) else x :: dedD (y :: l)
theorem qEC : ∀ (l : List DD) (z : DD), z ∈ dedD l ↔ z ∈ l
 | [], z => Iff.rfl
 | [x], z => Iff.rfl
 | x :: y :: l, z => by
  have ih := qEC (y :: l) z
  unfold dedD
  split
  ·rename_i h
   subst h
   rw [ih]; simp
  ·rw [List.mem_cons, ih, List.mem_cons (b := x)]
theorem dedD_sorted : ∀ (l : List DD), l.Pairwise (fun a b => ltD b a = false) → (dedD l).Pairwise (fun a b => ltD b a = false ∧ a ≠ b)
 | [], _ => List.Pairwise.nil
 | [x], _ => List.pairwise_singleton _ _
 | x :: y :: l, h => by
  obtain ⟨h1, h2⟩ := List.pairwise_cons.1 h
  have ih := dedD_sorted (y :: l) h2
  unfold dedD
  split
  ·exact ih
  ·rename_i hne
   refine List.pairwise_cons.2 ⟨fun z hz => ?_, ih⟩
   rw [qEC] at hz
   refine ⟨h1 z hz, fun e => ?_⟩
   subst e
   rcases List.mem_cons.1 hz with e | hz
   ·exact hne e
   ·have a1 := (List.pairwise_cons.1 h2).1 x hz
    have a2 := h1 y List.mem_cons_self
    exact hne (qLC _ _ a1 a2)
theorem dedD_sort (x : DD) : dedD (Sorts.sorted ltD (imgs x)) = waysD x := by
 have hs := dedD_sorted _ (Sorts.sorted_sorted ltD_weak (imgs x))
 refine Sorts.one (lt := ltD) (hs.imp fun h => h.1) (waysD_sorted x) ?_ (fun a _ b _ h1 h2 => qLC a b h1 h2)
 rw [List.perm_ext_iff_of_nodup (hs.imp fun h => h.2) (waysD_nodup x)]
 intro z
 rw [qEC, waysD_mem, (Sorts.sorted_perm ltD (imgs x)).mem_iff]
end Go.Proofs.Ytbmiekopflgicaa
namespace Go.Proofs.Ytbmiekopflgicaa
open Go.RowKit Go.Proofs.Ytbmiekopflgicaa.P Go.Proofs.YtbmiekopflgicaaW.PrintWords Go.Proofs.YtbmiekopflgicaaW.PrintLast
open Go.Lib (keeps compactUpTo)
set_option linter.unusedVariables false
set_option linter.unusedSimpArgs false
instance instDie0 : Inhabited DD := ⟨⟨0, 0, 0, 0, 0, 0⟩⟩
theorem keeps_zero (d : Array DD) : keeps d 0 = true := by simp [keeps]
theorem keeps_one (x y : DD) (l : List DD) : keeps (x :: y :: l).toArray 1 = decide (y ≠ x) := by simp [keeps]
theorem keeps_two (x y : DD) (l : List DD) (j : Nat) : keeps (x :: y :: l).toArray (j + 2) = keeps (y :: l).toArray (j + 1) := by simp [keeps]
theorem compact_two (x y : DD) (l : List DD) : Lib.compact (x :: y :: l) = if x = y then Lib.compact (y :: l) else x :: Lib.compact (y :: l) := by
 have e1 : Lib.compact (y :: l) = y :: (((List.range l.length).filter fun j => keeps (y :: l).toArray (j + 1)).map fun j => (y :: l).toArray[j + 1]!) := by
  unfold Lib.compact compactUpTo
  rw [show (y :: l).length = l.length + 1 from rfl, List.range_succ_eq_map, List.filter_cons, if_pos (keeps_zero _), List.map_cons, List.filter_map, List.map_map]
  rfl
 have e2 : Lib.compact (x :: y :: l) = x :: (if y ≠ x then [y] else []) ++ (((List.range l.length).filter fun j => keeps (y :: l).toArray (j + 1)).map fun j => (y :: l).toArray[j + 1]!) := by
  unfold Lib.compact compactUpTo
  rw [show (x :: y :: l).length = (l.length + 1) + 1 from rfl, List.range_succ_eq_map, List.filter_cons, if_pos (keeps_zero _), List.map_cons, List.filter_map, List.map_map, List.range_succ_eq_map, List.filter_cons]
  have h0 : (keeps (x :: y :: l).toArray ∘ Nat.succ) 0 = decide (y ≠ x) := keeps_one x y l
  rw [h0, List.filter_map]
  have h2 : ((keeps (x :: y :: l).toArray ∘ Nat.succ) ∘ Nat.succ) = fun j => keeps (y :: l).toArray (j + 1) := by
   funext j
   exact keeps_two x y l j
  rw [h2]
  have h3 : ∀ L : List Nat, ((L.map Nat.succ).map ((fun j => (x :: y :: l).toArray[j]!) ∘ Nat.succ)) = L.map fun j => (y :: l).toArray[j + 1]! := by
   intro L
   rw [List.map_map]
   refine List.map_congr_left fun j _ => ?_
   simp
  by_cases h : y = x
  ·subst h
   simp only [ne_eq, not_true_eq_false, decide_false, if_false, Bool.false_eq_true]
   rw [h3]; simp
  ·simp only [ne_eq, h, not_false_eq_true, decide_true, if_true, List.map_cons]
   rw [h3]; simp
 rw [e2, e1]
 by_cases h : x = y
 ·subst h; simp
 ·rw [if_neg h, if_pos (fun e => h e.symm)]; rfl
theorem compact_ded : ∀ l : List DD, Lib.compact l = dedD l
 | [] => rfl
 | [x] => by simp [Lib.compact, compactUpTo, keeps, dedD]
 | x :: y :: l => by
  rw [compact_two, compact_ded (y :: l)]
  rw [dedD]
end Go.Proofs.Ytbmiekopflgicaa
namespace Go.Proofs.Ytbmiekopflgicaa
open Go.RowKit Go.Sort Go.Proofs.Ytbmiekopflgicaa.P Go.Proofs.YtbmiekopflgicaaW.PrintWords Go.Proofs.YtbmiekopflgicaaW.PrintLast
set_option linter.unusedVariables false
set_option linter.unusedSimpArgs false
def encDX (x : S29) : List Value := [.int .i64 x.f0, .int .i64 x.f1, .int .i64 x.f2, .int .i64 x.f3, .int .i64 x.f4, .int .i64 x.f5]
def ordDie (x y : S29) : Int := lexI (facesD x) (facesD y)
theorem ordDie_run (x y : S29) : ∃ k, qW.f k (facesD x) (facesD y) = some (ordDie x y) := by
 obtain ⟨k, hk⟩ := compare_ev (facesD x) (facesD y) (by simp [facesD]) (by simp [facesD])
 exact ⟨k, hk k (Nat.le_refl k)⟩
theorem cmpLaysDie (blk off size : Nat) (w : World) : CmpLays Try.prog 71 #[] encDX 6 ordDie blk off size w := fun m os dk _ x y => by
 obtain ⟨k, hk⟩ := ordDie_run x y
 exact orderDie_grow k x y _ hk _
theorem ltOf_ordDie : ltOf ordDie = ltD := rfl
theorem swoDie : SWO (ltOf ordDie) where
 irrefl := fun x => ltD_irrefl x
 trans := fun x y z h1 h2 => by
  rw [ltOf_ordDie] at *
  unfold ltD at *
  rw [decide_eq_true_eq] at *
  exact lexI_trans (facesD x) (facesD y) (facesD z) rfl rfl h1 h2
 ntrans := fun x y z h1 h2 => by
  rw [ltOf_ordDie] at *
  unfold ltD at *
  rw [decide_eq_false_iff_not] at *
  exact qWB (facesD x) (facesD y) (facesD z) rfl rfl h1 h2
theorem totDie (x y : S29) (h1 : (ltOf ordDie) x y = false) (h2 : (ltOf ordDie) y x = false) : x = y := qLC x y h1 h2
theorem qvB (x : S29) (m : Nat) (h : m < 6) : (encDX x)[m]? = some ((encDX x)[m]!) := by
 have hm : m < (encDX x).length := h
 rw [List.getElem?_eq_getElem hm, getElem!_pos (encDX x) m hm]
theorem sortD_holds {R : S29 → List Value → Prop} (hR : ∀ x cs, R x cs → cs = encDX x) {w : World} {g : Nat} {cur : Array Value} {t : TypeId} {xs : List S29} {inner : List Value} (hh : w.heap[g]? = some (.cells cur t (0, 0))) (ht : cur.toList.take (xs.length * 6) = inner) (hr : Reps R 6 xs inner) : HoldsK encDX 6 w g 0 xs.toArray := by
 intro t' ht'
 rw [size_flatK] at ht'
 have hlt : t' < xs.length * 6 := by simpa using ht'
 have hj : t' / 6 < xs.length := by omega
 have hc := hR _ _ (hr.2 (t' / 6) xs[t' / 6] (List.getElem?_eq_getElem hj))
 have h1 : cur[t']? = (encDX xs[t' / 6])[t' % 6]? := by
  rw [← hc, List.getElem?_take, if_pos (Nat.mod_lt _ (by decide)), List.getElem?_drop, show t' / 6 * 6 + t' % 6 = t' by omega, ← ht, List.getElem?_take, if_pos hlt, Array.getElem?_toList]
 have e : xs.toArray[t' / 6]! = xs[t' / 6] := by simp [hj]
 refine ⟨?_, by simp [World.frozen?, hh]⟩
 rw [get_flatK _ _ _ _ ht', e]
 simp only [World.cell?, hh, Nat.zero_add]
 rw [h1, qvB _ _ (Nat.mod_lt _ (by decide))]
 rfl
theorem sortD_put {cur : Array Value} {ys : List S29} {n : Nat} (hlen : ys.length = n) (hc : n * 6 ≤ cur.size) (w : World) (base : Nat) (ok : Nat → Prop) :
  Reps (k29.M w base ok) 6 ys ((putCells id 0 (flatK encDX 6 ys.toArray) cur).toList.take (n * 6)) := by
 have hsz : (putCells id 0 (flatK encDX 6 ys.toArray) cur).toList.length = cur.size := by simp [putCells]
 refine ⟨by rw [List.length_take, hsz, hlen]; omega, fun j x hx => ?_⟩
 have hj : j < ys.length := (List.getElem?_eq_some_iff.1 hx).1
 have hv : ys[j] = x := by rw [List.getElem?_eq_getElem hj] at hx; injection hx
 have e : (((putCells id 0 (flatK encDX 6 ys.toArray) cur).toList.take (n * 6)).drop (j * 6)).take 6 = encDX x := by
  refine List.ext_getElem? fun i => ?_
  rw [List.getElem?_take]
  by_cases hi : i < 6
  ·rw [if_pos hi, List.getElem?_drop, List.getElem?_take, if_pos (by omega), Array.getElem?_toList]
   have hk : j * 6 + i < (flatK encDX 6 ys.toArray).size := by rw [size_flatK]; simp; omega
   have hk2 : j * 6 + i < ys.toArray.size * 6 := by simp; omega
   simp only [putCells, Array.getElem?_mapIdx]
   rw [Array.getElem?_eq_getElem (show j * 6 + i < cur.size by omega), Option.map_some, if_pos ⟨Nat.zero_le _, by omega⟩, Nat.sub_zero, get_flatK _ _ _ _ hk2, show (j * 6 + i) / 6 = j by omega, show (j * 6 + i) % 6 = i by omega]
   have e2 : ys.toArray[j]! = x := by simp [hj, hv]
   rw [e2, qvB _ _ hi]
   rfl
  ·rw [if_neg hi, List.getElem?_eq_none (by show 6 ≤ i; omega)]
 rw [e]
 exact qdA w base ok x
def qqB.f (l0 : List S29) : Option (List S29) := if l0.length < 4611686018427387904 then some (l0.mergeSort fun x y => !(ltOf ordDie) y x) else none
theorem qqB.calls (P0_ : Nat → Prop) (u9000_ : Value) (l0 : List S29) (r : List S29) (w0 w : World) (hB : Below w0.heap.size w0 w) (ho0 : Kd.R k29 29 w w0.heap.size P0_ u9000_ l0) (h : qqB.f l0 = some r) :
  Calls Try.prog 70 #[u9000_, .func (.func 71) #[] #[]] w fun e w' => e = .returned (.tuple #[]) ∧ Kd.R k29 29 w' w0.heap.size (fun k_ => (P0_ k_ ∨ w.heap.size ≤ k_)) u9000_ r ∧ Below w0.heap.size w0 w' ∧ Kept w w' (fun k_ => P0_ k_) := by
 unfold qqB.f at h
 by_cases hs : l0.length < 4611686018427387904
 case neg => rw [if_neg hs] at h; cases h
 rw [if_pos hs] at h
 obtain rfl := Option.some.inj h
 obtain ⟨hok, inner, hown, hr⟩ := ho0
 have hsz : k29.sz = 6 := rfl
 rcases hown.2 with ⟨hv, hn⟩ | ⟨g, cap, cur, hv, hbase, hheap, hncap, hmax, hsize, htake⟩
 ·subst hv
  have hl : l0 = [] := List.eq_nil_of_length_eq_zero hn
  subst hl
  refine (AnyF.slices_SortFunc_none Try.sortD none 0 (.func (.func 71) #[] #[]) w).mono fun e w' hq => ?_
  obtain ⟨he, rfl⟩ := hq
  exact ⟨he, by simpa using Kd.R_nil k29 29 w' w0.heap.size _, hB, Kept.refl _ _⟩
 ·subst hv
  rw [hsz] at htake hsize hr
  have hg : g < w.heap.size := by
   rcases Nat.lt_or_ge g w.heap.size with h1 | h1
   ·exact h1
   ·rw [Array.getElem?_eq_none h1] at hheap; cases hheap
  have eg := Go.Proofs.enters_of Try.func71 (by kernel_rfl) rfl
  have hH : HoldsK encDX 6 w g 0 l0.toArray := sortD_holds (fun x cs hx => qaA hx) hheap htake hr
  have hcall := AnyQ.slices_SortFunc_total Try.sortD 6 Try.isAgg29 Try.sizeOf29 encDX (fun _ => rfl) (fun x v hv => by simp [encDX] at hv; rcases hv with rfl | rfl | rfl | rfl | rfl | rfl <;> rfl) ordDie swoDie 71 #[] g 0 cap l0.toArray w eg (cmpLaysDie g 0 _ w) hH hg (by simpa using hs) totDie
  have hcall2 : Calls Try.prog 70 #[.slice (some ⟨g, 0, none⟩) l0.length cap, .func (.func 71) #[] #[]] w _ := hcall
  refine hcall2.mono fun e w' hq => ?_
  obtain ⟨he, n, os, rfl⟩ := hq
  have hlen : (l0.mergeSort fun x y => !(ltOf ordDie) y x).length = l0.length := List.length_mergeSort l0
  have hoth : ∀ k, k < w.heap.size → k ≠ g → (sortWorldK encDX 6 w g 0 n (l0.mergeSort fun x y => !(ltOf ordDie) y x).toArray os).heap[k]? = w.heap[k]? := by
   intro k hk hne
   unfold sortWorldK putRowK
   rw [heap_grow_old _ _ (by simpa using hk)]
   simp only [putRow, mapBlock, Array.getElem?_modify, if_neg (Ne.symm hne), heap_ahead]
  have hown' : (sortWorldK encDX 6 w g 0 n (l0.mergeSort fun x y => !(ltOf ordDie) y x).toArray os).heap[g]? = some (.cells (putCells id 0 (flatK encDX 6 (l0.mergeSort fun x y => !(ltOf ordDie) y x).toArray) cur) 29 (0, 0)) := by
   unfold sortWorldK putRowK
   rw [heap_grow_old _ _ (by simpa using hg)]
   simp only [putRow, mapBlock, Array.getElem?_modify, heap_ahead, hheap, if_true, Option.map_some, onCells]
  have hle : l0.length * 6 ≤ cur.size := by rw [hsize]; exact Nat.mul_le_mul_right 6 hncap
  refine ⟨he, ⟨fun k hk => .inl (hok k hk), _, ⟨?_, .inr ⟨g, cap, _, by rw [hlen], hbase, hown', by rw [hlen]; exact hncap, hmax, by rw [hsz, ← hsize]; simp [putCells], by rw [hsz, hlen]⟩⟩, sortD_put hlen hle _ _ _⟩, ⟨hB.os, hB.tape, hB.output, Nat.le_trans hB.size (by unfold sortWorldK putRowK; simp), ?_⟩, ⟨by unfold sortWorldK putRowK; simp, ?_⟩⟩
  ·rw [hsz, hlen, List.length_take]
   simp [putCells]
   omega
  ·intro k hk
   rw [hoth k (Nat.lt_of_lt_of_le hk hB.size) (by omega)]
   exact hB.block k hk
  ·intro k hk hn
   exact hoth k hk (fun e => hn (e ▸ hok g rfl))
end Go.Proofs.Ytbmiekopflgicaa
