/- The program's PlanToCells returns what the reference's returns, for all texts, dice and cells (the law lets longer ones by). No further condition. -/
import Derived.Test.YthhiiceligjleaaGreatDoorKFnExactPlanToCells1

namespace Go.Proofs.YthhiiceligjleaaGreatDoor.P
open Go.RowKit Go.Proofs.YthhiiceligjleaaGreatDoorW.PrintWords Go.Proofs.YthhiiceligjleaaGreatDoorW.PrintLast Go.Proofs.YthhiiceligjleaaGreatDoorW.PrintMore
attribute [local go_sem] qh qf qr qq qZ qY qg qe
set_option linter.unusedVariables false
set_option linter.unusedSimpArgs false
mutual
def qU.l0 : Nat → List (S51) → List (S51) → Int → Int → Option ((List (S51)))
 | 0, _, _, _, _ => none
 | k + 1, x5, x13, x16, x17 => if x17 < x16 then (if 0 ≤ x17 then (if x17 < (x13.length : Int) then (qU.l1 k x5 0 x13 x16 x17 ((qC x13 x17).f0) ((qC x13 x17).f1) ((qC x13 x17).f2) ((qC x13 x17).f3) ((qC x13 x17).f4) ((qC x13 x17).f5)) else (none)) else (none)) else (some x5)
def qU.l1 : Nat → List (S51) → Int → List (S51) → Int → Int → Int → Int → Int → Int → Int → Int → Option ((List (S51)))
 | 0, _, _, _, _, _, _, _, _, _, _, _ => none
 | k + 1, x5, x8, x13, x16, x17, x196000, x196001, x196002, x196003, x196004, x196005 => if x8 < (x5.length : Int) then (if 0 ≤ x8 then ((qj.f k ((qC x5 x8).f0) ((qC x5 x8).f1) ((qC x5 x8).f2) ((qC x5 x8).f3) ((qC x5 x8).f4) ((qC x5 x8).f5) x196000 x196001 x196002 x196003 x196004 x196005).bind fun t197 => (if t197 = true then (qU.l1 k x5 (wrap64 (x8 + 1)) x13 x16 x17 x196000 x196001 x196002 x196003 x196004 x196005) else ((some (([] : List (S51)) : List (S51))).bind fun y198 => (if x8 ≤ (x5.length : Int) then ((some (x5.take (x8 : Int).toNat : List (S51))).bind fun y201 => (if y198.length + y201.length < 2932031007402 then ((some (y198 ++ y201 : List (S51))).bind fun y205 => ((some (([(⟨x196000, x196001, x196002, x196003, x196004, x196005⟩ : S51)] : List (S51)) : List (S51))).bind fun y208 => (if y205.length + y208.length < 2932031007402 then ((some (y205 ++ y208 : List (S51))).bind fun y211 => ((some (x5.drop (x8 : Int).toNat : List (S51))).bind fun y214 => (if y211.length + y214.length < 2932031007402 then (qU.l0 k (y211 ++ y214) x13 x16 (wrap64 (x17 + 1))) else (none)))) else (none)))) else (none))) else (none))))) else (none)) else ((some (([] : List (S51)) : List (S51))).bind fun y221 => (if 0 ≤ x8 then (if x8 ≤ (x5.length : Int) then ((some (x5.take (x8 : Int).toNat : List (S51))).bind fun y224 => (if y221.length + y224.length < 2932031007402 then ((some (y221 ++ y224 : List (S51))).bind fun y228 => ((some (([(⟨x196000, x196001, x196002, x196003, x196004, x196005⟩ : S51)] : List (S51)) : List (S51))).bind fun y231 => (if y228.length + y231.length < 2932031007402 then ((some (y228 ++ y231 : List (S51))).bind fun y234 => ((some (x5.drop (x8 : Int).toNat : List (S51))).bind fun y237 => (if y234.length + y237.length < 2932031007402 then (qU.l0 k (y234 ++ y237) x13 x16 (wrap64 (x17 + 1))) else (none)))) else (none)))) else (none))) else (none)) else (none)))
end
def qU.f (k : Nat) (a0_0 : Int) (a0_1 : Int) (a0_2 : Int) (a0_3 : Int) (a0_4 : Int) (a0_5 : Int) : Option ((List (S51))) := (qN.f k a0_0 a0_1 a0_2 a0_3 a0_4 a0_5).bind fun bt188 => (qU.l0 k ([] : List (S51)) bt188.1 (bt188.1.length : Int) 0)
def qU.T7 : Bool × List (List Nat × List Nat) := (true, [([], []), ([], []), ([1], [1]), ([0, 2], [0, 2]), ([3], [3]), ([4], [4]), ([4], [4]), ([5, 6, 4], [4, 5, 6]), ([7, 4], [4, 7]), ([4], [4]), ([8, 9, 4, 4], [4, 8, 9]), ([4, 10], [4, 10])])
def qU.B7 : List Nat := [0, 0, 2, 7, 15, 31, 31, 127, 255, 31, 1023, 2047]
theorem qU.tab7 : rtab .any (opsOf Tryz.f62 7) = qU.T7 := by kernel_rfl
theorem qU.bits7 : waitsOk qU.T7.2 qU.B7 = true := by kernel_rfl
def qU.T9 : Bool × List (List Nat × List Nat) := (true, [([], []), ([], []), ([], []), ([1, 2], [1, 2]), ([0, 3], [0, 3]), ([], []), ([5], [5]), ([4, 6, 4], [4, 6]), ([7, 7, 0, 1, 2, 3, 4, 5, 6, 7], [7])])
def qU.B9 : List Nat := [0, 0, 0, 6, 15, 0, 32, 127, 255]
theorem qU.tab9 : rtab .any (opsOf Tryz.f62 9) = qU.T9 := by kernel_rfl
theorem qU.bits9 : waitsOk qU.T9.2 qU.B9 = true := by kernel_rfl
set_option maxHeartbeats 8000000 in
set_option maxRecDepth 100000 in
theorem qU.calls (k : Nat) (a0_0 : Int) (a0_1 : Int) (a0_2 : Int) (a0_3 : Int) (a0_4 : Int) (a0_5 : Int) (r : List (S51)) (w : World) (h : qU.f k a0_0 a0_1 a0_2 a0_3 a0_4 a0_5 = some r) :
  Calls Tryz.prog 62 #[.agg #[.int .i64 a0_0, .int .i64 a0_1, .int .i64 a0_2, .int .i64 a0_3, .int .i64 a0_4, .int .i64 a0_5]] w fun e w' => ∃ v0_ : Value, e = .returned (v0_) ∧ Kd.R k51 51 w' w.heap.size (fun _ => True) v0_ r ∧ Below w.heap.size w w' := by
 have hu51 := Tryz.underlying51
 have HB := aM (Below.refl w.heap.size w)
 have H : ((qN.f k a0_0 a0_1 a0_2 a0_3 a0_4 a0_5).bind fun bt188 => (qU.l0 k ([] : List (S51)) bt188.1 (bt188.1.length : Int) 0)) = some r := h
 clear h
 replace H := bO H
 obtain ⟨⟨t188, t191⟩, A2, H⟩ := H
 dsimp only at H A2
 have H' := aM H
 clear H
 go_enter Tryz.func62, Tryz.ntmps62
 go_wp2_with (first | ((with_reducible refine qH (N := 1) rfl ?_); refine bE (N := 1) (cs := #[.int .i64 a0_0, .int .i64 a0_1, .int .i64 a0_2, .int .i64 a0_3, .int .i64 a0_4, .int .i64 a0_5]) (t := 51) ?_; intro gb187 hg w3 hbox hb; have BK187 := aM (hbox); have GW187 := aM ((gg hg)); have GE187 := aM ((gg hg)); replace HB := aM (qB bl hb); clear hb hbox hg; (refine cb6 BK187 ?_; intro hcz4_0 hcz4_1 hcz4_2 hcz4_3 hcz4_4 hcz4_5); (refine cz6 BK187 ?_; intro hfz4_0 hfz4_1 hfz4_2 hfz4_3 hfz4_4 hfz4_5)) | ((with_reducible refine qE (f := 79) rfl ?_); refine qm (some 12) rfl rfl Tryz.func79 (by kernel_rfl) rfl #[.agg #[.int .i64 a0_0, .int .i64 a0_1, .int .i64 a0_2, .int .i64 a0_3, .int .i64 a0_4, .int .i64 a0_5]] rfl gA ?_; (with_reducible refine (qN.calls k a0_0 a0_1 a0_2 a0_3 a0_4 a0_5 t188 t191 _ A2.out).mono ?_); rintro e w5 ⟨v189, v192, rfl, ho0, ho1, hb⟩; refine ⟨_, rfl, ?_⟩; have HO190 := aM (Kd.qz (Kd.qaB ho0 (rB BK187)) (qJ bl)); have HO193 := aM (Kd.qz ho1 (qJ bl)); replace BK187 := aM (bb BK187 hb); replace HB := aM (qB bl hb); (try clear hb); (try clear hb2); (try clear hk); (try clear hi); (try clear ho0); (try clear ho1); obtain ⟨Ao6, co6, eo6⟩ := Kd.qDA HO190.out; subst eo6))
 go_loopg [5, 17] k (fun kq v5 v17 w' => ∃ (x5_1 : List (S51)) (x17_1 : Int), v17 = .int .i64 x17_1 ∧ Aside0 (qU.l0 kq x5_1 t188 (t188.length : Int) x17_1 = some r) ∧ Aside0 (kq ≤ k) ∧ Aside0 (Kd.R k51 51 w' w.heap.size (fun k_ => some k_ ≠ ((.slice Ao6 t188.length co6) : Value).ownBlock ∧ k_ ≠ gb187) v5 x5_1) ∧ Aside0 (Kd.R k51 51 w' w.heap.size (fun k_ => some k_ ≠ (v5 : Value).ownBlock ∧ k_ ≠ gb187) (.slice Ao6 t188.length co6) t188) ∧ Aside0 (w'.heap[gb187]? = some (.cells #[.int .i64 a0_0, .int .i64 a0_1, .int .i64 a0_2, .int .i64 a0_3, .int .i64 a0_4, .int .i64 a0_5] 51 (0, 0))) ∧ Aside0 (Below w.heap.size w w'))
 case atStart => exact ⟨(([] : List (S51))), (0), sD, H', ⟨Nat.le_refl _⟩, ⟨nK⟩, ⟨by (with_reducible repeat (first | apply Kd.qQ | apply Kd.qR | apply Kd.qS)); exact Kd.qa HO190.out (fun _ hk => ⟨(by simp [Value.ownBlock]), hk.2⟩)⟩, ⟨rB BK187⟩, ⟨bl⟩⟩
 case round =>
  clear H'; (try clear p2); (try clear c6); (try clear hcz4_0 hcz4_1 hcz4_2 hcz4_3 hcz4_4 hcz4_5); (try clear hfz4_0 hfz4_1 hfz4_2 hfz4_3 hfz4_4 hfz4_5)
  obtain ⟨x5_1, x17_1, rfl, HA, HK1, HO_5, HO_13, BK187, HB⟩ := hrel
  cases gk with
  | zero => exact absurd HA.out (by simp [qU.l0])
  | succ k1 =>
   have H := HA.out
   clear HA
   simp only [qU.l0] at H
   by_cases c7 : x17_1 < (t188.length : Int)
   ·rw [if_pos c7] at H
    have c7b0 := decide_eq_true c7
    clear c7
    by_cases c8 : 0 ≤ x17_1
    case neg => exact nN c8 H
    rw [if_pos c8] at H
    have c8b0 := decide_eq_true c8
    clear c8
    by_cases c9 : x17_1 < (t188.length : Int)
    case neg => exact nN c9 H
    rw [if_pos c9] at H
    have c9b0 := decide_eq_true c9
    clear c9
    have H' := aM H
    clear H
    have p194 : 0 ≤ (x17_1 : Int) := of_decide_eq_true am
    have q194 : x17_1 < (t188.length : Int) := of_decide_eq_true am
    obtain ⟨ad194, e194, hx194_0, hx194_1, hx194_2, hx194_3, hx194_4, hx194_5⟩ := qwD (Kd.qO HO_13.out).2.2 x17_1 p194 q194
    cases e194
    replace p194 := eq_true p194
    replace q194 := eq_true q194
    go_wp2_with (first | ((with_reducible refine qH (N := 7) rfl ?_); refine bE (N := 7) (cs := #[.int .i64 0, .int .i64 0, .int .i64 0, .int .i64 0, .int .i64 0, .int .i64 0]) (t := 51) ?_; intro gb195 hg w10 hbox hb; have BK195 := aM (hbox); have GW195 := aM ((gg hg)); have GE195 := aM ((gg hg)); have NB187_195 := aM ((nl BK187 hg)); have NB195_187 := aM ((nr BK187 hg)); replace HO_5 := aM (Kd.qc (Kd.qzC (rR HO_5) gb195 (Nat.le_of_eq hg.symm)) hb); replace HO_13 := aM (Kd.qc (Kd.qzC (rR HO_13) gb195 (Nat.le_of_eq hg.symm)) hb); replace BK187 := aM (bb BK187 hb); replace HB := aM (qB bl hb); clear hb hbox hg; have hnb11 := NB195_187.out; have hnc11 := NB187_195.out; (refine cb6 BK195 ?_; intro hcz12_0 hcz12_1 hcz12_2 hcz12_3 hcz12_4 hcz12_5); (refine cz6 BK195 ?_; intro hfz12_0 hfz12_1 hfz12_2 hfz12_3 hfz12_4 hfz12_5)))
    go_loopg [8] k1 (fun kq v8 w' => ∃ (x8_2 : Int), v8 = .int .i64 x8_2 ∧ Aside0 (qU.l1 kq x5_1 x8_2 t188 (t188.length : Int) x17_1 ((qC t188 x17_1).f0) ((qC t188 x17_1).f1) ((qC t188 x17_1).f2) ((qC t188 x17_1).f3) ((qC t188 x17_1).f4) ((qC t188 x17_1).f5) = some r) ∧ Aside0 (kq ≤ k1) ∧ Aside0 (Kd.R k51 51 w' w.heap.size (fun k_ => some k_ ≠ ((.slice (some ad194) t188.length co6) : Value).ownBlock ∧ k_ ≠ gb187 ∧ k_ ≠ gb195) u5 x5_1) ∧ Aside0 (Kd.R k51 51 w' w.heap.size (fun k_ => some k_ ≠ (u5 : Value).ownBlock ∧ k_ ≠ gb187 ∧ k_ ≠ gb195) (.slice (some ad194) t188.length co6) t188) ∧ Aside0 (w'.heap[gb187]? = some (.cells #[.int .i64 a0_0, .int .i64 a0_1, .int .i64 a0_2, .int .i64 a0_3, .int .i64 a0_4, .int .i64 a0_5] 51 (0, 0))) ∧ Aside0 (w'.heap[gb195]? = some (.cells #[.int .i64 ((qC t188 x17_1).f0), .int .i64 ((qC t188 x17_1).f1), .int .i64 ((qC t188 x17_1).f2), .int .i64 ((qC t188 x17_1).f3), .int .i64 ((qC t188 x17_1).f4), .int .i64 ((qC t188 x17_1).f5)] 51 (0, 0))) ∧ Aside0 (Below w.heap.size w w'))
    case atStart => exact ⟨(0), sD, H', ⟨Nat.le_refl _⟩, ⟨by (with_reducible repeat (first | apply Kd.qQ | apply Kd.qR | apply Kd.qS)); exact Kd.qa (Kd.R_far (p := ⟨gb195, 5, none⟩) (Kd.R_far (p := ⟨gb195, 4, none⟩) (Kd.R_far (p := ⟨gb195, 3, none⟩) (Kd.R_far (p := ⟨gb195, 2, none⟩) (Kd.R_far (p := ⟨gb195, 1, none⟩) (Kd.R_far (p := ⟨gb195, 0, none⟩) (Kd.qa HO_5.out (fun k_ hk => (⟨hk, hk.2⟩ : _ ∧ k_ ≠ gb195))) (fun _ hk => hk.2) (.int .i64 ((qC t188 x17_1).f0))) (fun _ hk => hk.2) (.int .i64 ((qC t188 x17_1).f1))) (fun _ hk => hk.2) (.int .i64 ((qC t188 x17_1).f2))) (fun _ hk => hk.2) (.int .i64 ((qC t188 x17_1).f3))) (fun _ hk => hk.2) (.int .i64 ((qC t188 x17_1).f4))) (fun _ hk => hk.2) (.int .i64 ((qC t188 x17_1).f5))) (fun _ hk => ⟨hk.1.1.1, ⟨hk.1.1.2, hk.1.2⟩⟩)⟩, ⟨by (with_reducible repeat (first | apply Kd.qQ | apply Kd.qR | apply Kd.qS)); exact Kd.qa (Kd.R_far (p := ⟨gb195, 5, none⟩) (Kd.R_far (p := ⟨gb195, 4, none⟩) (Kd.R_far (p := ⟨gb195, 3, none⟩) (Kd.R_far (p := ⟨gb195, 2, none⟩) (Kd.R_far (p := ⟨gb195, 1, none⟩) (Kd.R_far (p := ⟨gb195, 0, none⟩) (Kd.qa HO_13.out (fun k_ hk => (⟨hk, hk.2⟩ : _ ∧ k_ ≠ gb195))) (fun _ hk => hk.2) (.int .i64 ((qC t188 x17_1).f0))) (fun _ hk => hk.2) (.int .i64 ((qC t188 x17_1).f1))) (fun _ hk => hk.2) (.int .i64 ((qC t188 x17_1).f2))) (fun _ hk => hk.2) (.int .i64 ((qC t188 x17_1).f3))) (fun _ hk => hk.2) (.int .i64 ((qC t188 x17_1).f4))) (fun _ hk => hk.2) (.int .i64 ((qC t188 x17_1).f5))) (fun _ hk => ⟨hk.1.1.1, ⟨hk.1.1.2, hk.1.2⟩⟩)⟩, ⟨bF BK187 NB187_195⟩, ⟨by (with_reducible repeat (first | refine qG ?_ _ | refine qD ?_ | refine qF ?_ _)); exact bP6 BK195⟩, ⟨bl⟩⟩
    case round =>
     clear H'; (try clear c1); (try clear p1); (try clear q1); (try clear hx1); (try clear p2); (try clear c6); (try clear c7); (try clear c7b0); (try clear c8); (try clear c8b0); (try clear c9); (try clear c9b0); (try clear c11); (try clear hcz12_0 hcz12_1 hcz12_2 hcz12_3 hcz12_4 hcz12_5); (try clear hcz4_0 hcz4_1 hcz4_2 hcz4_3 hcz4_4 hcz4_5); (try clear hfz12_0 hfz12_1 hfz12_2 hfz12_3 hfz12_4 hfz12_5); (try clear hfz4_0 hfz4_1 hfz4_2 hfz4_3 hfz4_4 hfz4_5); (try clear hx194_0); (try clear hx194_1); (try clear hx194_2); (try clear hx194_3); (try clear hx194_4); (try clear hx194_5); (try clear p194); (try clear p2); (try clear q194)
     obtain ⟨x8_2, rfl, HA, HK2, HO_5, HO_13, BK187, BK195, HB⟩ := hrel
     cases gk with
     | zero => exact absurd HA.out (by simp [qU.l1])
     | succ k2 =>
      have H := HA.out
      clear HA
      simp only [qU.l1] at H
      by_cases c13 : x8_2 < (x5_1.length : Int)
      ·rw [if_pos c13] at H
       have c13b0 := decide_eq_true c13
       clear c13
       by_cases c14 : 0 ≤ x8_2
       case neg => exact nN c14 H
       rw [if_pos c14] at H
       have c14b0 := decide_eq_true c14
       clear c14
       replace H := bO H
       obtain ⟨t197, A15, H⟩ := H
       by_cases c16 : t197 = true
       ·subst c16
        replace H := iT H
        have H' := aM H
        clear H
        try go_wp2
        replace HO_5 := aM (Kd.qS HO_5.out)
        replace HO_13 := aM (Kd.qS HO_13.out)
        replace BK187 := aM (qD BK187.out)
        replace BK195 := aM (qD BK195.out)
        replace HB := aM (qi HB.out)
        obtain ⟨Ao18, co18, eo18⟩ := Kd.qDA HO_5.out
        (first | subst eo18 | (injection eo18 with f1_ f2_ f3_; have f4_ := f1_.symm; have f5_ := f3_.symm; clear f1_ f2_ f3_; subst f4_; subst f5_))
        have p196 : 0 ≤ (x8_2 : Int) := of_decide_eq_true am
        have q196 : x8_2 < (x5_1.length : Int) := of_decide_eq_true am
        obtain ⟨ad196, e196, hx196_0, hx196_1, hx196_2, hx196_3, hx196_4, hx196_5⟩ := qwD (Kd.qO HO_5.out).2.2 x8_2 p196 q196
        cases e196
        replace p196 := eq_true p196
        replace q196 := eq_true q196
        refine qJB (n := 12) (S := fun w' => w'.cell? ⟨gb195, 0, none⟩ = some (.int .i64 ((qC t188 x17_1).f0)) ∧ w'.cell? ⟨gb195, 1, none⟩ = some (.int .i64 ((qC t188 x17_1).f1)) ∧ w'.cell? ⟨gb195, 2, none⟩ = some (.int .i64 ((qC t188 x17_1).f2)) ∧ w'.cell? ⟨gb195, 3, none⟩ = some (.int .i64 ((qC t188 x17_1).f3)) ∧ w'.cell? ⟨gb195, 4, none⟩ = some (.int .i64 ((qC t188 x17_1).f4)) ∧ w'.cell? ⟨gb195, 5, none⟩ = some (.int .i64 ((qC t188 x17_1).f5)) ∧ w'.cell? (ad196.add ((x8_2).toNat * 6)) = some (.int .i64 ((qC x5_1 x8_2).f0)) ∧ w'.cell? ⟨(ad196.add ((x8_2).toNat * 6)).block, (ad196.add ((x8_2).toNat * 6)).off + 1, none⟩ = some (.int .i64 ((qC x5_1 x8_2).f1)) ∧ w'.cell? ⟨(ad196.add ((x8_2).toNat * 6)).block, (ad196.add ((x8_2).toNat * 6)).off + 2, none⟩ = some (.int .i64 ((qC x5_1 x8_2).f2)) ∧ w'.cell? ⟨(ad196.add ((x8_2).toNat * 6)).block, (ad196.add ((x8_2).toNat * 6)).off + 3, none⟩ = some (.int .i64 ((qC x5_1 x8_2).f3)) ∧ w'.cell? ⟨(ad196.add ((x8_2).toNat * 6)).block, (ad196.add ((x8_2).toNat * 6)).off + 4, none⟩ = some (.int .i64 ((qC x5_1 x8_2).f4)) ∧ w'.cell? ⟨(ad196.add ((x8_2).toNat * 6)).block, (ad196.add ((x8_2).toNat * 6)).off + 5, none⟩ = some (.int .i64 ((qC x5_1 x8_2).f5))) (ds := []) #[false, false, false, false, false, false, false, false, false, false, false, false] (by kernel_rfl) rfl rfl ⟨bc BK195 0, bc BK195 1, bc BK195 2, bc BK195 3, bc BK195 4, bc BK195 5, hx196_0, hx196_1, hx196_2, hx196_3, hx196_4, hx196_5⟩ (fun hHeld => ?_); refine qNA qU.tab7 qU.bits7 (fun HT_ HW_ => ?_)
        generalize wr.drew = w17 at HO_5 HO_13 BK187 BK195 HB hx196_0 hx196_1 hx196_2 hx196_3 hx196_4 hx196_5 hHeld ⊢
        refine pS (i := 0) (N := some 21) #[true, false, false, false, false, false, false, false, false, false, false, false] HT_ ?_
        refine pS (i := 1) (N := some 22) #[true, true, false, false, false, false, false, false, false, false, false, false] HT_ ?_
        refine pS (i := 2) (N := some 23) #[true, true, true, false, false, false, false, false, false, false, false, false] HT_ ?_
        refine pS (i := 3) (N := some 24) #[true, true, true, true, false, false, false, false, false, false, false, false] HT_ ?_
        refine pS (i := 4) (N := some 25) #[true, true, true, true, true, false, false, false, false, false, false, false] HT_ ?_
        refine pS (i := 5) (N := some 26) #[true, true, true, true, true, true, false, false, false, false, false, false] HT_ ?_
        refine pS (i := 6) (N := some 27) #[true, true, true, true, true, true, true, false, false, false, false, false] HT_ ?_
        refine pS (i := 7) (N := some 28) #[true, true, true, true, true, true, true, true, false, false, false, false] HT_ ?_
        refine tS (i := 8) (N := some 29) #[true, true, true, true, true, true, true, true, true, false, false, false] HT_ HW_ hHeld ?_
        refine tS (i := 9) (N := some 30) #[true, true, true, true, true, true, true, true, true, true, false, false] HT_ HW_ hHeld ?_
        refine one_ (i := 10) (N := some 31) #[true, true, true, true, true, true, true, true, true, true, true, false] rfl rfl (qcA HT_.out (by kernel_rfl)) (by decide) (fun K hK => ?_)
        refine goes_ Tryz.func80 (by kernel_rfl) rfl #[.agg #[.int .i64 ((qC x5_1 x8_2).f0), .int .i64 ((qC x5_1 x8_2).f1), .int .i64 ((qC x5_1 x8_2).f2), .int .i64 ((qC x5_1 x8_2).f3), .int .i64 ((qC x5_1 x8_2).f4), .int .i64 ((qC x5_1 x8_2).f5)], .agg #[.int .i64 ((qC t188 x17_1).f0), .int .i64 ((qC t188 x17_1).f1), .int .i64 ((qC t188 x17_1).f2), .int .i64 ((qC t188 x17_1).f3), .int .i64 ((qC t188 x17_1).f4), .int .i64 ((qC t188 x17_1).f5)]] (by rfl) rfl rfl gA ?_
        with_reducible refine (qj.calls k2 ((qC x5_1 x8_2).f0) ((qC x5_1 x8_2).f1) ((qC x5_1 x8_2).f2) ((qC x5_1 x8_2).f3) ((qC x5_1 x8_2).f4) ((qC x5_1 x8_2).f5) ((qC t188 x17_1).f0) ((qC t188 x17_1).f1) ((qC t188 x17_1).f2) ((qC t188 x17_1).f3) ((qC t188 x17_1).f4) ((qC t188 x17_1).f5) true _ A15.out).mono ?_
        rintro e w19 ⟨rfl, hb⟩
        have HS6_ := (hb.cell (World.block_lt_of_cell? _ _ (hHeld.2.2.2.2.2.2.1))).trans (hHeld.2.2.2.2.2.2.1)
        have HS7_ := (hb.cell (World.block_lt_of_cell? _ _ (hHeld.2.2.2.2.2.2.2.1))).trans (hHeld.2.2.2.2.2.2.2.1)
        have HS8_ := (hb.cell (World.block_lt_of_cell? _ _ (hHeld.2.2.2.2.2.2.2.2.1))).trans (hHeld.2.2.2.2.2.2.2.2.1)
        have HS9_ := (hb.cell (World.block_lt_of_cell? _ _ (hHeld.2.2.2.2.2.2.2.2.2.1))).trans (hHeld.2.2.2.2.2.2.2.2.2.1)
        have HS10_ := (hb.cell (World.block_lt_of_cell? _ _ (hHeld.2.2.2.2.2.2.2.2.2.2.1))).trans (hHeld.2.2.2.2.2.2.2.2.2.2.1)
        have HS11_ := (hb.cell (World.block_lt_of_cell? _ _ (hHeld.2.2.2.2.2.2.2.2.2.2.2))).trans (hHeld.2.2.2.2.2.2.2.2.2.2.2)
        refine ⟨_, rfl, ?_⟩
        replace HO_5 := aM (Kd.qc (rR HO_5) hb)
        replace HO_13 := aM (Kd.qc (rR HO_13) hb)
        replace BK187 := aM (bb BK187 hb)
        replace BK195 := aM (bb BK195 hb)
        replace HB := aM (qB bl hb); (try clear hb); (try clear hb2); (try clear hk); (try clear hi)
        refine hK.out _ _ ⟨bc BK195 0, bc BK195 1, bc BK195 2, bc BK195 3, bc BK195 4, bc BK195 5, HS6_, HS7_, HS8_, HS9_, HS10_, HS11_⟩ (fun hHeld => ?_)
        clear hK K
        refine norm_ (a' := ?_) ?_ ?_
        rotate_left
        ·show Act.put _ (some 31) _ = _
         simp only [Act.put, List.setIfInBounds_toArray, List.set_cons_zero, List.set_cons_succ, i64_w, i32_w]
         rfl
        refine pS (i := 11) (N := some 32) #[true, true, true, true, true, true, true, true, true, true, true, true] HT_ ?_
        refine done_ (qvA HT_.out (by kernel_rfl)) ?_
        try go_wp2
        go_roundg k2
        case measure => have := HK1.out; have := HK2.out; omega
        case rel => exact ⟨(wrap64 (x8_2 + 1)), sD, H', ⟨by have := HK1.out; have := HK2.out; omega⟩, ⟨rR HO_5⟩, ⟨rR HO_13⟩, ⟨rB BK187⟩, ⟨rB BK195⟩, ⟨bl⟩⟩
       ·replace c16 := Bool.eq_false_iff.mpr c16
        subst c16
        replace H := iF H
        replace H := bS H
        obtain ⟨y198, Ny198, H⟩ := H
        have c20b0 := eq_true (of_decide_eq_true am : 0 ≤ x8_2)
        by_cases c21 : x8_2 ≤ (x5_1.length : Int)
        case neg => exact nN c21 H
        rw [if_pos c21] at H
        have c21b0 := eq_true c21
        have c21b1 := decide_eq_true c21
        clear c21
        replace H := bS H
        obtain ⟨y201, Ny201, H⟩ := H
        by_cases c22 : y198.length + y201.length < 2932031007402
        case neg => exact nN c22 H
        rw [if_pos c22] at H
        have LMc22 := aM c22
        clear c22
        replace H := bS H
        obtain ⟨y205, Ny205, H⟩ := H
        replace H := bS H
        obtain ⟨y208, Ny208, H⟩ := H
        by_cases c23 : y205.length + y208.length < 2932031007402
        case neg => exact nN c23 H
        rw [if_pos c23] at H
        have LMc23 := aM c23
        clear c23
        replace H := bS H
        obtain ⟨y211, Ny211, H⟩ := H
        have c24b0 := eq_true (of_decide_eq_true am : 0 ≤ x8_2)
        have c25b0 := eq_true (of_decide_eq_true am : x8_2 ≤ (x5_1.length : Int))
        replace H := bS H
        obtain ⟨y214, Ny214, H⟩ := H
        by_cases c26 : y211.length + y214.length < 2932031007402
        case neg => exact nN c26 H
        rw [if_pos c26] at H
        have LMc26 := aM c26
        clear c26
        obtain ⟨y218, hy218⟩ : ∃ y_ : List (S51), y_ = (y211 ++ y214) := ⟨_, rfl⟩
        replace H : (qU.l0 k2 y218 t188 (t188.length : Int) (wrap64 (x17_1 + 1))) = some r := by first | (rw [hy218]; with_reducible exact H) | (have H2_ := (Option.bind_some _ _).symm.trans H; rw [hy218]; with_reducible exact H2_) | (have H2_ := (Option.bind_some _ _).symm.trans H; with_reducible exact H2_) | with_reducible exact H | (rw [hy218]; exact H) | exact H
        have Ny218 := aM hy218
        clear hy218
        have H' := aM H
        clear H
        try go_wp2
        replace HO_5 := aM (Kd.qS HO_5.out)
        replace HO_13 := aM (Kd.qS HO_13.out)
        replace BK187 := aM (qD BK187.out)
        replace BK195 := aM (qD BK195.out)
        replace HB := aM (qi HB.out)
        obtain ⟨Ao28, co28, eo28⟩ := Kd.qDA HO_5.out
        (first | subst eo28 | (injection eo28 with f1_ f2_ f3_; have f4_ := f1_.symm; have f5_ := f3_.symm; clear f1_ f2_ f3_; subst f4_; subst f5_))
        have p196 : 0 ≤ (x8_2 : Int) := of_decide_eq_true am
        have q196 : x8_2 < (x5_1.length : Int) := of_decide_eq_true am
        obtain ⟨ad196, e196, hx196_0, hx196_1, hx196_2, hx196_3, hx196_4, hx196_5⟩ := qwD (Kd.qO HO_5.out).2.2 x8_2 p196 q196
        cases e196
        replace p196 := eq_true p196
        replace q196 := eq_true q196
        refine qJB (n := 12) (S := fun w' => w'.cell? ⟨gb195, 0, none⟩ = some (.int .i64 ((qC t188 x17_1).f0)) ∧ w'.cell? ⟨gb195, 1, none⟩ = some (.int .i64 ((qC t188 x17_1).f1)) ∧ w'.cell? ⟨gb195, 2, none⟩ = some (.int .i64 ((qC t188 x17_1).f2)) ∧ w'.cell? ⟨gb195, 3, none⟩ = some (.int .i64 ((qC t188 x17_1).f3)) ∧ w'.cell? ⟨gb195, 4, none⟩ = some (.int .i64 ((qC t188 x17_1).f4)) ∧ w'.cell? ⟨gb195, 5, none⟩ = some (.int .i64 ((qC t188 x17_1).f5)) ∧ w'.cell? (ad196.add ((x8_2).toNat * 6)) = some (.int .i64 ((qC x5_1 x8_2).f0)) ∧ w'.cell? ⟨(ad196.add ((x8_2).toNat * 6)).block, (ad196.add ((x8_2).toNat * 6)).off + 1, none⟩ = some (.int .i64 ((qC x5_1 x8_2).f1)) ∧ w'.cell? ⟨(ad196.add ((x8_2).toNat * 6)).block, (ad196.add ((x8_2).toNat * 6)).off + 2, none⟩ = some (.int .i64 ((qC x5_1 x8_2).f2)) ∧ w'.cell? ⟨(ad196.add ((x8_2).toNat * 6)).block, (ad196.add ((x8_2).toNat * 6)).off + 3, none⟩ = some (.int .i64 ((qC x5_1 x8_2).f3)) ∧ w'.cell? ⟨(ad196.add ((x8_2).toNat * 6)).block, (ad196.add ((x8_2).toNat * 6)).off + 4, none⟩ = some (.int .i64 ((qC x5_1 x8_2).f4)) ∧ w'.cell? ⟨(ad196.add ((x8_2).toNat * 6)).block, (ad196.add ((x8_2).toNat * 6)).off + 5, none⟩ = some (.int .i64 ((qC x5_1 x8_2).f5))) (ds := []) #[false, false, false, false, false, false, false, false, false, false, false, false] (by kernel_rfl) rfl rfl ⟨bc BK195 0, bc BK195 1, bc BK195 2, bc BK195 3, bc BK195 4, bc BK195 5, hx196_0, hx196_1, hx196_2, hx196_3, hx196_4, hx196_5⟩ (fun hHeld => ?_); refine qNA qU.tab7 qU.bits7 (fun HT_ HW_ => ?_)
        generalize wr.drew = w27 at HO_5 HO_13 BK187 BK195 HB hx196_0 hx196_1 hx196_2 hx196_3 hx196_4 hx196_5 hHeld ⊢
        refine pS (i := 0) (N := some 21) #[true, false, false, false, false, false, false, false, false, false, false, false] HT_ ?_
        refine pS (i := 1) (N := some 22) #[true, true, false, false, false, false, false, false, false, false, false, false] HT_ ?_
        refine pS (i := 2) (N := some 23) #[true, true, true, false, false, false, false, false, false, false, false, false] HT_ ?_
        refine pS (i := 3) (N := some 24) #[true, true, true, true, false, false, false, false, false, false, false, false] HT_ ?_
        refine pS (i := 4) (N := some 25) #[true, true, true, true, true, false, false, false, false, false, false, false] HT_ ?_
        refine pS (i := 5) (N := some 26) #[true, true, true, true, true, true, false, false, false, false, false, false] HT_ ?_
        refine pS (i := 6) (N := some 27) #[true, true, true, true, true, true, true, false, false, false, false, false] HT_ ?_
        refine pS (i := 7) (N := some 28) #[true, true, true, true, true, true, true, true, false, false, false, false] HT_ ?_
        refine tS (i := 8) (N := some 29) #[true, true, true, true, true, true, true, true, true, false, false, false] HT_ HW_ hHeld ?_
        refine tS (i := 9) (N := some 30) #[true, true, true, true, true, true, true, true, true, true, false, false] HT_ HW_ hHeld ?_
        refine one_ (i := 10) (N := some 31) #[true, true, true, true, true, true, true, true, true, true, true, false] rfl rfl (qcA HT_.out (by kernel_rfl)) (by decide) (fun K hK => ?_)
        refine goes_ Tryz.func80 (by kernel_rfl) rfl #[.agg #[.int .i64 ((qC x5_1 x8_2).f0), .int .i64 ((qC x5_1 x8_2).f1), .int .i64 ((qC x5_1 x8_2).f2), .int .i64 ((qC x5_1 x8_2).f3), .int .i64 ((qC x5_1 x8_2).f4), .int .i64 ((qC x5_1 x8_2).f5)], .agg #[.int .i64 ((qC t188 x17_1).f0), .int .i64 ((qC t188 x17_1).f1), .int .i64 ((qC t188 x17_1).f2), .int .i64 ((qC t188 x17_1).f3), .int .i64 ((qC t188 x17_1).f4), .int .i64 ((qC t188 x17_1).f5)]] (by rfl) rfl rfl gA ?_
        with_reducible refine (qj.calls k2 ((qC x5_1 x8_2).f0) ((qC x5_1 x8_2).f1) ((qC x5_1 x8_2).f2) ((qC x5_1 x8_2).f3) ((qC x5_1 x8_2).f4) ((qC x5_1 x8_2).f5) ((qC t188 x17_1).f0) ((qC t188 x17_1).f1) ((qC t188 x17_1).f2) ((qC t188 x17_1).f3) ((qC t188 x17_1).f4) ((qC t188 x17_1).f5) false _ A15.out).mono ?_
        rintro e w29 ⟨rfl, hb⟩
        have HS6_ := (hb.cell (World.block_lt_of_cell? _ _ (hHeld.2.2.2.2.2.2.1))).trans (hHeld.2.2.2.2.2.2.1)
        have HS7_ := (hb.cell (World.block_lt_of_cell? _ _ (hHeld.2.2.2.2.2.2.2.1))).trans (hHeld.2.2.2.2.2.2.2.1)
        have HS8_ := (hb.cell (World.block_lt_of_cell? _ _ (hHeld.2.2.2.2.2.2.2.2.1))).trans (hHeld.2.2.2.2.2.2.2.2.1)
        have HS9_ := (hb.cell (World.block_lt_of_cell? _ _ (hHeld.2.2.2.2.2.2.2.2.2.1))).trans (hHeld.2.2.2.2.2.2.2.2.2.1)
        have HS10_ := (hb.cell (World.block_lt_of_cell? _ _ (hHeld.2.2.2.2.2.2.2.2.2.2.1))).trans (hHeld.2.2.2.2.2.2.2.2.2.2.1)
        have HS11_ := (hb.cell (World.block_lt_of_cell? _ _ (hHeld.2.2.2.2.2.2.2.2.2.2.2))).trans (hHeld.2.2.2.2.2.2.2.2.2.2.2)
        refine ⟨_, rfl, ?_⟩
        replace HO_5 := aM (Kd.qc (rR HO_5) hb)
        replace HO_13 := aM (Kd.qc (rR HO_13) hb)
        replace BK187 := aM (bb BK187 hb)
        replace BK195 := aM (bb BK195 hb)
        replace HB := aM (qB bl hb); (try clear hb); (try clear hb2); (try clear hk); (try clear hi)
        refine hK.out _ _ ⟨bc BK195 0, bc BK195 1, bc BK195 2, bc BK195 3, bc BK195 4, bc BK195 5, HS6_, HS7_, HS8_, HS9_, HS10_, HS11_⟩ (fun hHeld => ?_)
        clear hK K
        refine norm_ (a' := ?_) ?_ ?_
        rotate_left
        ·show Act.put _ (some 31) _ = _
         simp only [Act.put, List.setIfInBounds_toArray, List.set_cons_zero, List.set_cons_succ, i64_w, i32_w]
         rfl
        refine pS (i := 11) (N := some 32) #[true, true, true, true, true, true, true, true, true, true, true, true] HT_ ?_
        refine done_ (qvA HT_.out (by kernel_rfl)) ?_
        try go_wp2
        replace HO_5 := aM (Kd.qS HO_5.out)
        replace HO_13 := aM (Kd.qS HO_13.out)
        replace BK187 := aM (qD BK187.out)
        replace BK195 := aM (qD BK195.out)
        replace HB := aM (qi HB.out)
        have q31 : (x8_2 : Int) ≤ ((x5_1.length : Int) : Int) := of_decide_eq_true am
        obtain ⟨i031, hi031, _, hsz31, _⟩ := info_parts info51
        have hroom31 : x5_1.length ≤ co28 := (Kd.qO HO_5.out).2.1
        have hC31 : Kd.C k51 _ (some ad196) x5_1.length x5_1 := (Kd.qO HO_5.out).2.2
        have hcut31 := qEE (P := Tryz.prog) 103 51 .i64 Tryz.underlying103 hi031 (some ad196) x5_1.length co28 x8_2 (of_decide_eq_true am) q31 hroom31
        have hr31 := Kd.qgC (m := (x8_2 : Int).toNat) hC31 (by omega)
        have hy31 : y201.length = (x8_2 : Int).toNat := (by rw [Ny201.out, List.length_take]; omega)
        rw [← Ny201.out] at hr31
        rw [← hy31] at hcut31
        have HR204 := aM hr31
        have HC204 := aM (show y201.length ≤ co28 from by omega)
        clear hr31 hC31 hroom31 hi031 hsz31
        have KY31 := aM hy31
        clear hy31
        have KL31 := aM (show (x8_2 : Int).toNat ≤ x5_1.length from by omega)
        replace q31 := eq_true q31
        refine qJB (n := 9) (S := fun w' => w'.cell? ⟨gb195, 0, none⟩ = some (.int .i64 ((qC t188 x17_1).f0)) ∧ w'.cell? ⟨gb195, 1, none⟩ = some (.int .i64 ((qC t188 x17_1).f1)) ∧ w'.cell? ⟨gb195, 2, none⟩ = some (.int .i64 ((qC t188 x17_1).f2)) ∧ w'.cell? ⟨gb195, 3, none⟩ = some (.int .i64 ((qC t188 x17_1).f3)) ∧ w'.cell? ⟨gb195, 4, none⟩ = some (.int .i64 ((qC t188 x17_1).f4)) ∧ w'.cell? ⟨gb195, 5, none⟩ = some (.int .i64 ((qC t188 x17_1).f5))) (ds := []) #[false, false, false, false, false, false, false, false, false] (by kernel_rfl) rfl rfl ⟨bc BK195 0, bc BK195 1, bc BK195 2, bc BK195 3, bc BK195 4, bc BK195 5⟩ (fun hHeld => ?_); refine qNA qU.tab9 qU.bits9 (fun HT_ HW_ => ?_)
        generalize w29.drew = w30 at HO_5 HO_13 BK187 BK195 HB HR204 hHeld ⊢
        refine pS (i := 1) (N := some 36) #[false, true, false, false, false, false, false, false, false] HT_ ?_
        refine pS (i := 2) (N := some 37) #[false, true, true, false, false, false, false, false, false] HT_ ?_
        refine pS (i := 3) (N := some 38) #[false, true, true, true, false, false, false, false, false] HT_ ?_
        refine tS (i := 5) (N := some 40) #[false, true, true, true, false, true, false, false, false] HT_ HW_ hHeld ?_
        refine join_ (σ := Value × Value × Value) 2 #[true, true, true, true, true, true, true, false, false] (fun s_ => [(35, s_.1), (39, s_.2.1), (41, s_.2.2)]) (fun s_ w' => (w'.cell? ⟨gb195, 0, none⟩ = some (.int .i64 ((qC t188 x17_1).f0)) ∧ w'.cell? ⟨gb195, 1, none⟩ = some (.int .i64 ((qC t188 x17_1).f1)) ∧ w'.cell? ⟨gb195, 2, none⟩ = some (.int .i64 ((qC t188 x17_1).f2)) ∧ w'.cell? ⟨gb195, 3, none⟩ = some (.int .i64 ((qC t188 x17_1).f3)) ∧ w'.cell? ⟨gb195, 4, none⟩ = some (.int .i64 ((qC t188 x17_1).f4)) ∧ w'.cell? ⟨gb195, 5, none⟩ = some (.int .i64 ((qC t188 x17_1).f5))) ∧ (Kd.R k51 51 w' w.heap.size (fun k_ => some k_ ≠ (s_.2.2 : Value).ownBlock ∧ some k_ ≠ (.slice (some ad194) t188.length co6 : Value).ownBlock ∧ some k_ ≠ (.slice (some ad196) x5_1.length co28 : Value).ownBlock ∧ k_ ≠ gb187 ∧ k_ ≠ gb195) s_.2.1 y205) ∧ (Kd.R k51 51 w' w.heap.size (fun k_ => some k_ ≠ (s_.2.1 : Value).ownBlock ∧ some k_ ≠ (.slice (some ad194) t188.length co6 : Value).ownBlock ∧ some k_ ≠ (.slice (some ad196) x5_1.length co28 : Value).ownBlock ∧ k_ ≠ gb187 ∧ k_ ≠ gb195) s_.2.2 y208) ∧ (Kd.R k51 51 w' w.heap.size (fun k_ => some k_ ≠ (s_.2.1 : Value).ownBlock ∧ some k_ ≠ (s_.2.2 : Value).ownBlock ∧ some k_ ≠ (.slice (some ad196) x5_1.length co28 : Value).ownBlock ∧ k_ ≠ gb187 ∧ k_ ≠ gb195) (.slice (some ad194) t188.length co6) t188) ∧ (Kd.R k51 51 w' w.heap.size (fun k_ => some k_ ≠ (s_.2.1 : Value).ownBlock ∧ some k_ ≠ (s_.2.2 : Value).ownBlock ∧ some k_ ≠ (.slice (some ad194) t188.length co6 : Value).ownBlock ∧ k_ ≠ gb187 ∧ k_ ≠ gb195) (.slice (some ad196) x5_1.length co28) x5_1) ∧ (w'.heap[gb187]? = some (.cells #[.int .i64 a0_0, .int .i64 a0_1, .int .i64 a0_2, .int .i64 a0_3, .int .i64 a0_4, .int .i64 a0_5] 51 (0, 0))) ∧ (w'.heap[gb195]? = some (.cells #[.int .i64 ((qC t188 x17_1).f0), .int .i64 ((qC t188 x17_1).f1), .int .i64 ((qC t188 x17_1).f2), .int .i64 ((qC t188 x17_1).f3), .int .i64 ((qC t188 x17_1).f4), .int .i64 ((qC t188 x17_1).f5)] 51 (0, 0))) ∧ (Below w.heap.size w w')) ?_ ?_
        rotate_left
        ·intro hCont
         refine two_ (i := 0) (j := 6) (Ni := some 35) (Nj := some 41) #[true, true, true, true, false, true, false, false, false] #[false, true, true, true, false, true, true, false, false] rfl rfl rfl rfl (qID HT_.out (by kernel_rfl)) (by decide) (by decide) (fun K hK => ?_) (fun K hK => ?_)
         ·skip
          refine Kd.qtA k51 _ 51 ?hg (N := 35) ?hd (xs := ([] : List (S51))) (inner := []) (ok := fun _ => True) (okp := fun _ => True) ?hr ?hp (fun _ hk => hk) trivial (Below.refl _ _) (Nat.le_refl _) (by simp) ?_; (case hd => rfl); (case hg => rfl); (case hr => exact gS); (case hp => exact (Reps.none _ _))
          intro v199 w32 ho33 hb hg_ hnew_
          clear hg_ hnew_
          (first | rw [← Ny198.out] at ho33 | (simp only [Int.reduceToNat] at ho33; rw [← Ny198.out] at ho33))
          have HO200 := aM (Kd.qz (Kd.qaB (Kd.qaB (Kd.qBB (Kd.qBB ho33 (Kd.R_lt (rR HO_5))) (Kd.R_lt (rR HO_13))) (rB BK187)) (rB BK195)) (qJ bl))
          replace HO_5 := aM (Kd.qPA (rR HO_5) (Kd.qkA ho33) hb)
          replace HO_13 := aM (Kd.qPA (rR HO_13) (Kd.qkA ho33) hb)
          replace BK187 := aM (bb BK187 hb)
          replace BK195 := aM (bb BK195 hb)
          replace HR204 := aM (Kd.qV (by repeat (first | (with_reducible exact HR204.out) | (with_reducible refine Kd.qL ?_ _) | (with_reducible refine Kd.qK ?_ _) | (with_reducible refine Kd.qX ?_) | exact HR204.out)) hb)
          replace HB := aM (qB bl hb)
          clear hb ho33
          refine hK.out _ _ ⟨bc BK195 0, bc BK195 1, bc BK195 2, bc BK195 3, bc BK195 4, bc BK195 5⟩ (fun hHeld => ?_)
          clear hK K
          refine norm_ (a' := ?_) ?_ ?_
          rotate_left
          ·show Act.put _ (some 35) _ = _
           simp only [Act.put, List.setIfInBounds_toArray, List.set_cons_zero, List.set_cons_succ, i64_w, i32_w]
           rfl
          refine two_ (i := 4) (j := 6) (Ni := some 39) (Nj := some 41) #[true, true, true, true, true, true, false, false, false] #[true, true, true, true, false, true, true, false, false] rfl rfl rfl rfl (qID HT_.out (by kernel_rfl)) (by decide) (by decide) (fun K hK => ?_) (fun K hK => ?_)
          ·skip
           refine Kd.qKA k51 (w0 := w) w.heap.size (by rfl) (.tmp 35) (.tmp 38) 103 51 (.agg #[(.int .i64 0), (.int .i64 0), (.int .i64 0), (.int .i64 0), (.int .i64 0), (.int .i64 0)]) 48 rfl Tryz.underlying103 info51 rfl (by decide) (by omega) v199 y198 y201 _ _ _ (fun k_ => some k_ ≠ (.slice (some ad196) x5_1.length co28 : Value).ownBlock ∧ some k_ ≠ (.slice (some ad194) t188.length co6 : Value).ownBlock ∧ k_ ≠ gb187 ∧ k_ ≠ gb195) (fun _ => False) rfl rfl ?aO ?aR (fun _ _ h => h) (fun _ h => h.elim) ?aF ?aB ?aS ?aL ?_
           (case aR => repeat (first | exact (by repeat (first | (with_reducible exact HR204.out) | (with_reducible refine Kd.qL ?_ _) | (with_reducible refine Kd.qK ?_ _) | (with_reducible refine Kd.qX ?_) | exact HR204.out)) | (with_reducible refine Kd.qL ?_ _) | (with_reducible refine Kd.qK ?_ _) | (with_reducible refine Kd.qX ?_)))
           (case aB => exact bl)
           (case aF => exact (fun k_ hk => ⟨Kd.fresh' (Kd.R_lt (rR HO_5)) k_ hk, Kd.fresh' (Kd.R_lt (rR HO_13)) k_ hk, Kd.freshB (rB BK187) k_ hk, Kd.freshB (rB BK195) k_ hk⟩))
           (case aO => exact (by (with_reducible repeat (first | apply Kd.qQ | apply Kd.qR | apply Kd.qS)); exact Kd.qa HO200.out (fun _ hk => ⟨hk.1.1.1.2, ⟨hk.1.1.2, ⟨hk.1.2, hk.2⟩⟩⟩)))
           (case aS => exact (qJ bl))
           (case aL => have := LMc22.out; omega)
           intro v206 w34 ho hb hg hat
           rw [← Ny205.out] at ho
           have HO207 := aM (ho)
           replace HO_13 := aM (Kd.qUA (ok := (fun k_ => some k_ ≠ (.slice (some ad196) x5_1.length co28 : Value).ownBlock ∧ k_ ≠ gb187 ∧ k_ ≠ gb195)) (rR HO_13) hg hat)
           replace BK187 := aM (qn (rB BK187) hg (Kd.qVB HO200.out (fun _ hk => hk.1.2)))
           replace BK195 := aM (qn (rB BK195) hg (Kd.qVB HO200.out (fun _ hk => hk.2)))
           replace HB := aM (hb)
           replace HR204 := aM ((show Kd.C k51 w34 (some ad196) y201.length y201 from by rw [Ny201.out]; exact Kd.qgC (m := (x8_2 : Int).toNat) ((Kd.qO (Kd.qUA (ok := (fun k_ => some k_ ≠ (.slice (some ad194) t188.length co6 : Value).ownBlock ∧ k_ ≠ gb187 ∧ k_ ≠ gb195)) (rR HO_5) hg hat)).2.2) KL31.out))
           replace HO_5 := aM (Kd.qUA (ok := (fun k_ => some k_ ≠ (.slice (some ad194) t188.length co6 : Value).ownBlock ∧ k_ ≠ gb187 ∧ k_ ≠ gb195)) (rR HO_5) hg hat)
           clear HO200
           clear ho hb hg hat
           refine hK.out _ _ ⟨bc BK195 0, bc BK195 1, bc BK195 2, bc BK195 3, bc BK195 4, bc BK195 5⟩ (fun hHeld => ?_)
           clear hK K
           refine norm_ (a' := ?_) ?_ ?_
           rotate_left
           ·show Act.put _ (some 39) _ = _
            simp only [Act.put, List.setIfInBounds_toArray, List.set_cons_zero, List.set_cons_succ, i64_w, i32_w]
            rfl
           refine one_ (i := 6) (N := some 41) #[true, true, true, true, true, true, true, false, false] rfl rfl (qcA HT_.out (by kernel_rfl)) (by decide) (fun K hK => ?_)
           refine Kd.qtA k51 _ 51 ?hg (N := 41) ?hd (xs := ([(⟨((qC t188 x17_1).f0), ((qC t188 x17_1).f1), ((qC t188 x17_1).f2), ((qC t188 x17_1).f3), ((qC t188 x17_1).f4), ((qC t188 x17_1).f5)⟩ : S51)] : List (S51))) (inner := [.int .i64 ((qC t188 x17_1).f0), .int .i64 ((qC t188 x17_1).f1), .int .i64 ((qC t188 x17_1).f2), .int .i64 ((qC t188 x17_1).f3), .int .i64 ((qC t188 x17_1).f4), .int .i64 ((qC t188 x17_1).f5)]) (ok := fun _ => True) (okp := fun _ => True) ?hr ?hp (fun _ hk => hk) trivial (Below.refl _ _) (Nat.le_refl _) (by simp) ?_; (case hd => rfl); (case hg => rfl); (case hr => exact gS); (case hp => exact (Reps.c6 (show Kd.M k51 _ _ _ (⟨((qC t188 x17_1).f0), ((qC t188 x17_1).f1), ((qC t188 x17_1).f2), ((qC t188 x17_1).f3), ((qC t188 x17_1).f4), ((qC t188 x17_1).f5)⟩ : S51) [.int .i64 ((qC t188 x17_1).f0), .int .i64 ((qC t188 x17_1).f1), .int .i64 ((qC t188 x17_1).f2), .int .i64 ((qC t188 x17_1).f3), .int .i64 ((qC t188 x17_1).f4), .int .i64 ((qC t188 x17_1).f5)] from (qeC _ _ _ (⟨((qC t188 x17_1).f0), ((qC t188 x17_1).f1), ((qC t188 x17_1).f2), ((qC t188 x17_1).f3), ((qC t188 x17_1).f4), ((qC t188 x17_1).f5)⟩ : S51) )) (Reps.none _ _)))
           intro v209 w35 ho36 hb hg_ hnew_
           clear hg_ hnew_
           (first | rw [← Ny208.out] at ho36 | (simp only [Int.reduceToNat] at ho36; rw [← Ny208.out] at ho36))
           have HO210 := aM (Kd.qz (Kd.qaB (Kd.qaB (Kd.qBB (Kd.qBB (Kd.qBB ho36 (Kd.R_lt (rR HO_5))) (Kd.R_lt (rR HO_13))) (Kd.R_lt (rR HO207))) (rB BK187)) (rB BK195)) (qJ bl))
           replace HO_5 := aM (Kd.qPA (rR HO_5) (Kd.qkA ho36) hb)
           replace HO_13 := aM (Kd.qPA (rR HO_13) (Kd.qkA ho36) hb)
           replace HO207 := aM (Kd.qPA (rR HO207) (Kd.qkA ho36) hb)
           replace BK187 := aM (bb BK187 hb)
           replace BK195 := aM (bb BK195 hb)
           replace HR204 := aM (Kd.qV (by repeat (first | (with_reducible exact HR204.out) | (with_reducible refine Kd.qL ?_ _) | (with_reducible refine Kd.qK ?_ _) | (with_reducible refine Kd.qX ?_) | exact HR204.out)) hb)
           replace HB := aM (qB bl hb)
           clear hb ho36
           refine hK.out _ _ ⟨bc BK195 0, bc BK195 1, bc BK195 2, bc BK195 3, bc BK195 4, bc BK195 5⟩ (fun hHeld => ?_)
           clear hK K
           refine norm_ (a' := ?_) ?_ ?_
           rotate_left
           ·show Act.put _ (some 41) _ = _
            simp only [Act.put, List.setIfInBounds_toArray, List.set_cons_zero, List.set_cons_succ, i64_w, i32_w]
            rfl
           exact norm_ (by simp only [putAll, Act.put, List.setIfInBounds_toArray, List.set_cons_zero, List.set_cons_succ]) (hCont (v199, v206, v209) _ ⟨hHeld, (by (with_reducible repeat (first | apply Kd.qQ | apply Kd.qR | apply Kd.qS)); exact Kd.qa HO207.out (fun _ hk => ⟨hk.2, ⟨hk.1.2.1, ⟨hk.1.1, ⟨hk.1.2.2.1, hk.1.2.2.2⟩⟩⟩⟩)), (by (with_reducible repeat (first | apply Kd.qQ | apply Kd.qR | apply Kd.qS)); exact Kd.qa HO210.out (fun _ hk => ⟨hk.1.1.2, ⟨hk.1.1.1.2, ⟨hk.1.1.1.1.2, ⟨hk.1.2, hk.2⟩⟩⟩⟩)), (by (with_reducible repeat (first | apply Kd.qQ | apply Kd.qR | apply Kd.qS)); exact Kd.qa HO_13.out (fun _ hk => ⟨hk.1.2, ⟨hk.2, ⟨hk.1.1.1, ⟨hk.1.1.2.1, hk.1.1.2.2⟩⟩⟩⟩)), (by (with_reducible repeat (first | apply Kd.qQ | apply Kd.qR | apply Kd.qS)); exact Kd.qa HO_5.out (fun _ hk => ⟨hk.1.2, ⟨hk.2, ⟨hk.1.1.1, ⟨hk.1.1.2.1, hk.1.1.2.2⟩⟩⟩⟩)), (rB BK187), (rB BK195), bl⟩)
          ·skip
           refine Kd.qtA k51 _ 51 ?hg (N := 41) ?hd (xs := ([(⟨((qC t188 x17_1).f0), ((qC t188 x17_1).f1), ((qC t188 x17_1).f2), ((qC t188 x17_1).f3), ((qC t188 x17_1).f4), ((qC t188 x17_1).f5)⟩ : S51)] : List (S51))) (inner := [.int .i64 ((qC t188 x17_1).f0), .int .i64 ((qC t188 x17_1).f1), .int .i64 ((qC t188 x17_1).f2), .int .i64 ((qC t188 x17_1).f3), .int .i64 ((qC t188 x17_1).f4), .int .i64 ((qC t188 x17_1).f5)]) (ok := fun _ => True) (okp := fun _ => True) ?hr ?hp (fun _ hk => hk) trivial (Below.refl _ _) (Nat.le_refl _) (by simp) ?_; (case hd => rfl); (case hg => rfl); (case hr => exact gS); (case hp => exact (Reps.c6 (show Kd.M k51 _ _ _ (⟨((qC t188 x17_1).f0), ((qC t188 x17_1).f1), ((qC t188 x17_1).f2), ((qC t188 x17_1).f3), ((qC t188 x17_1).f4), ((qC t188 x17_1).f5)⟩ : S51) [.int .i64 ((qC t188 x17_1).f0), .int .i64 ((qC t188 x17_1).f1), .int .i64 ((qC t188 x17_1).f2), .int .i64 ((qC t188 x17_1).f3), .int .i64 ((qC t188 x17_1).f4), .int .i64 ((qC t188 x17_1).f5)] from (qeC _ _ _ (⟨((qC t188 x17_1).f0), ((qC t188 x17_1).f1), ((qC t188 x17_1).f2), ((qC t188 x17_1).f3), ((qC t188 x17_1).f4), ((qC t188 x17_1).f5)⟩ : S51) )) (Reps.none _ _)))
           intro v209 w34 ho35 hb hg_ hnew_
           clear hg_ hnew_
           (first | rw [← Ny208.out] at ho35 | (simp only [Int.reduceToNat] at ho35; rw [← Ny208.out] at ho35))
           have HO210 := aM (Kd.qz (Kd.qaB (Kd.qaB (Kd.qBB (Kd.qBB (Kd.qBB ho35 (Kd.R_lt (rR HO_5))) (Kd.R_lt (rR HO_13))) (Kd.R_lt (rR HO200))) (rB BK187)) (rB BK195)) (qJ bl))
           replace HO_5 := aM (Kd.qPA (rR HO_5) (Kd.qkA ho35) hb)
           replace HO_13 := aM (Kd.qPA (rR HO_13) (Kd.qkA ho35) hb)
           replace HO200 := aM (Kd.qPA (rR HO200) (Kd.qkA ho35) hb)
           replace BK187 := aM (bb BK187 hb)
           replace BK195 := aM (bb BK195 hb)
           replace HR204 := aM (Kd.qV (by repeat (first | (with_reducible exact HR204.out) | (with_reducible refine Kd.qL ?_ _) | (with_reducible refine Kd.qK ?_ _) | (with_reducible refine Kd.qX ?_) | exact HR204.out)) hb)
           replace HB := aM (qB bl hb)
           clear hb ho35
           refine hK.out _ _ ⟨bc BK195 0, bc BK195 1, bc BK195 2, bc BK195 3, bc BK195 4, bc BK195 5⟩ (fun hHeld => ?_)
           clear hK K
           refine norm_ (a' := ?_) ?_ ?_
           rotate_left
           ·show Act.put _ (some 41) _ = _
            simp only [Act.put, List.setIfInBounds_toArray, List.set_cons_zero, List.set_cons_succ, i64_w, i32_w]
            rfl
           refine one_ (i := 4) (N := some 39) #[true, true, true, true, true, true, true, false, false] rfl rfl (qcA HT_.out (by kernel_rfl)) (by decide) (fun K hK => ?_)
           refine Kd.qKA k51 (w0 := w) w.heap.size (by rfl) (.tmp 35) (.tmp 38) 103 51 (.agg #[(.int .i64 0), (.int .i64 0), (.int .i64 0), (.int .i64 0), (.int .i64 0), (.int .i64 0)]) 48 rfl Tryz.underlying103 info51 rfl (by decide) (by omega) v199 y198 y201 _ _ _ (fun k_ => some k_ ≠ (.slice (some ad196) x5_1.length co28 : Value).ownBlock ∧ some k_ ≠ (.slice (some ad194) t188.length co6 : Value).ownBlock ∧ some k_ ≠ (v209 : Value).ownBlock ∧ k_ ≠ gb187 ∧ k_ ≠ gb195) (fun _ => False) rfl rfl ?aO ?aR (fun _ _ h => h) (fun _ h => h.elim) ?aF ?aB ?aS ?aL ?_
           (case aR => repeat (first | exact (by repeat (first | (with_reducible exact HR204.out) | (with_reducible refine Kd.qL ?_ _) | (with_reducible refine Kd.qK ?_ _) | (with_reducible refine Kd.qX ?_) | exact HR204.out)) | (with_reducible refine Kd.qL ?_ _) | (with_reducible refine Kd.qK ?_ _) | (with_reducible refine Kd.qX ?_)))
           (case aB => exact bl)
           (case aF => exact (fun k_ hk => ⟨Kd.fresh' (Kd.R_lt (rR HO_5)) k_ hk, Kd.fresh' (Kd.R_lt (rR HO_13)) k_ hk, Kd.fresh' (Kd.R_lt (rR HO210)) k_ hk, Kd.freshB (rB BK187) k_ hk, Kd.freshB (rB BK195) k_ hk⟩))
           (case aO => exact (by (with_reducible repeat (first | apply Kd.qQ | apply Kd.qR | apply Kd.qS)); exact Kd.qa HO200.out (fun _ hk => ⟨hk.1.1.1.1.2, ⟨hk.1.1.1.2, ⟨hk.2, ⟨hk.1.1.2, hk.1.2⟩⟩⟩⟩)))
           (case aS => exact (qJ bl))
           (case aL => have := LMc22.out; omega)
           intro v206 w36 ho hb hg hat
           rw [← Ny205.out] at ho
           have HO207 := aM (ho)
           replace HO_13 := aM (Kd.qUA (ok := (fun k_ => some k_ ≠ (.slice (some ad196) x5_1.length co28 : Value).ownBlock ∧ some k_ ≠ (v209 : Value).ownBlock ∧ k_ ≠ gb187 ∧ k_ ≠ gb195)) (by (with_reducible repeat (first | apply Kd.qQ | apply Kd.qR | apply Kd.qS)); exact Kd.qa HO_13.out (fun _ hk => ⟨⟨hk.1.1.1, ⟨hk.2, ⟨hk.1.1.2.1, hk.1.1.2.2⟩⟩⟩, hk.1.2⟩)) hg hat)
           replace BK187 := aM (qn (rB BK187) hg (Kd.qVB HO200.out (fun _ hk => hk.1.1.2)))
           replace BK195 := aM (qn (rB BK195) hg (Kd.qVB HO200.out (fun _ hk => hk.1.2)))
           replace HO210 := aM (Kd.qUA (ok := (fun k_ => some k_ ≠ (.slice (some ad196) x5_1.length co28 : Value).ownBlock ∧ some k_ ≠ (.slice (some ad194) t188.length co6 : Value).ownBlock ∧ k_ ≠ gb187 ∧ k_ ≠ gb195)) (by (with_reducible repeat (first | apply Kd.qQ | apply Kd.qR | apply Kd.qS)); exact Kd.qa HO210.out (fun _ hk => ⟨⟨hk.1.1.1.1.2, ⟨hk.1.1.1.2, ⟨hk.1.2, hk.2⟩⟩⟩, hk.1.1.2⟩)) hg hat)
           replace HB := aM (hb)
           replace HR204 := aM ((show Kd.C k51 w36 (some ad196) y201.length y201 from by rw [Ny201.out]; exact Kd.qgC (m := (x8_2 : Int).toNat) ((Kd.qO (Kd.qUA (ok := (fun k_ => some k_ ≠ (.slice (some ad194) t188.length co6 : Value).ownBlock ∧ some k_ ≠ (v209 : Value).ownBlock ∧ k_ ≠ gb187 ∧ k_ ≠ gb195)) (by (with_reducible repeat (first | apply Kd.qQ | apply Kd.qR | apply Kd.qS)); exact Kd.qa HO_5.out (fun _ hk => ⟨⟨hk.1.1.1, ⟨hk.2, ⟨hk.1.1.2.1, hk.1.1.2.2⟩⟩⟩, hk.1.2⟩)) hg hat)).2.2) KL31.out))
           replace HO_5 := aM (Kd.qUA (ok := (fun k_ => some k_ ≠ (.slice (some ad194) t188.length co6 : Value).ownBlock ∧ some k_ ≠ (v209 : Value).ownBlock ∧ k_ ≠ gb187 ∧ k_ ≠ gb195)) (by (with_reducible repeat (first | apply Kd.qQ | apply Kd.qR | apply Kd.qS)); exact Kd.qa HO_5.out (fun _ hk => ⟨⟨hk.1.1.1, ⟨hk.2, ⟨hk.1.1.2.1, hk.1.1.2.2⟩⟩⟩, hk.1.2⟩)) hg hat)
           clear HO200
           clear ho hb hg hat
           refine hK.out _ _ ⟨bc BK195 0, bc BK195 1, bc BK195 2, bc BK195 3, bc BK195 4, bc BK195 5⟩ (fun hHeld => ?_)
           clear hK K
           refine norm_ (a' := ?_) ?_ ?_
           rotate_left
           ·show Act.put _ (some 39) _ = _
            simp only [Act.put, List.setIfInBounds_toArray, List.set_cons_zero, List.set_cons_succ, i64_w, i32_w]
            rfl
           exact norm_ (by simp only [putAll, Act.put, List.setIfInBounds_toArray, List.set_cons_zero, List.set_cons_succ]) (hCont (v199, v206, v209) _ ⟨hHeld, (by (with_reducible repeat (first | apply Kd.qQ | apply Kd.qR | apply Kd.qS)); exact Kd.qa HO207.out (fun _ hk => ⟨hk.2.2.1, ⟨hk.2.1, ⟨hk.1, ⟨hk.2.2.2.1, hk.2.2.2.2⟩⟩⟩⟩)), (by (with_reducible repeat (first | apply Kd.qQ | apply Kd.qR | apply Kd.qS)); exact Kd.qa HO210.out (fun _ hk => ⟨hk.2, ⟨hk.1.2.1, ⟨hk.1.1, ⟨hk.1.2.2.1, hk.1.2.2.2⟩⟩⟩⟩)), (by (with_reducible repeat (first | apply Kd.qQ | apply Kd.qR | apply Kd.qS)); exact Kd.qa HO_13.out (fun _ hk => ⟨hk.2, ⟨hk.1.2.1, ⟨hk.1.1, ⟨hk.1.2.2.1, hk.1.2.2.2⟩⟩⟩⟩)), (by (with_reducible repeat (first | apply Kd.qQ | apply Kd.qR | apply Kd.qS)); exact Kd.qa HO_5.out (fun _ hk => ⟨hk.2, ⟨hk.1.2.1, ⟨hk.1.1, ⟨hk.1.2.2.1, hk.1.2.2.2⟩⟩⟩⟩)), (rB BK187), (rB BK195), bl⟩)
         ·skip
          refine Kd.qtA k51 _ 51 ?hg (N := 41) ?hd (xs := ([(⟨((qC t188 x17_1).f0), ((qC t188 x17_1).f1), ((qC t188 x17_1).f2), ((qC t188 x17_1).f3), ((qC t188 x17_1).f4), ((qC t188 x17_1).f5)⟩ : S51)] : List (S51))) (inner := [.int .i64 ((qC t188 x17_1).f0), .int .i64 ((qC t188 x17_1).f1), .int .i64 ((qC t188 x17_1).f2), .int .i64 ((qC t188 x17_1).f3), .int .i64 ((qC t188 x17_1).f4), .int .i64 ((qC t188 x17_1).f5)]) (ok := fun _ => True) (okp := fun _ => True) ?hr ?hp (fun _ hk => hk) trivial (Below.refl _ _) (Nat.le_refl _) (by simp) ?_; (case hd => rfl); (case hg => rfl); (case hr => exact gS); (case hp => exact (Reps.c6 (show Kd.M k51 _ _ _ (⟨((qC t188 x17_1).f0), ((qC t188 x17_1).f1), ((qC t188 x17_1).f2), ((qC t188 x17_1).f3), ((qC t188 x17_1).f4), ((qC t188 x17_1).f5)⟩ : S51) [.int .i64 ((qC t188 x17_1).f0), .int .i64 ((qC t188 x17_1).f1), .int .i64 ((qC t188 x17_1).f2), .int .i64 ((qC t188 x17_1).f3), .int .i64 ((qC t188 x17_1).f4), .int .i64 ((qC t188 x17_1).f5)] from (qeC _ _ _ (⟨((qC t188 x17_1).f0), ((qC t188 x17_1).f1), ((qC t188 x17_1).f2), ((qC t188 x17_1).f3), ((qC t188 x17_1).f4), ((qC t188 x17_1).f5)⟩ : S51) )) (Reps.none _ _)))
          intro v209 w32 ho33 hb hg_ hnew_
          clear hg_ hnew_
          (first | rw [← Ny208.out] at ho33 | (simp only [Int.reduceToNat] at ho33; rw [← Ny208.out] at ho33))
          have HO210 := aM (Kd.qz (Kd.qaB (Kd.qaB (Kd.qBB (Kd.qBB ho33 (Kd.R_lt (rR HO_5))) (Kd.R_lt (rR HO_13))) (rB BK187)) (rB BK195)) (qJ bl))
          replace HO_5 := aM (Kd.qPA (rR HO_5) (Kd.qkA ho33) hb)
          replace HO_13 := aM (Kd.qPA (rR HO_13) (Kd.qkA ho33) hb)
          replace BK187 := aM (bb BK187 hb)
          replace BK195 := aM (bb BK195 hb)
          replace HR204 := aM (Kd.qV (by repeat (first | (with_reducible exact HR204.out) | (with_reducible refine Kd.qL ?_ _) | (with_reducible refine Kd.qK ?_ _) | (with_reducible refine Kd.qX ?_) | exact HR204.out)) hb)
          replace HB := aM (qB bl hb)
          clear hb ho33
          refine hK.out _ _ ⟨bc BK195 0, bc BK195 1, bc BK195 2, bc BK195 3, bc BK195 4, bc BK195 5⟩ (fun hHeld => ?_)
          clear hK K
          refine norm_ (a' := ?_) ?_ ?_
          rotate_left
          ·show Act.put _ (some 41) _ = _
           simp only [Act.put, List.setIfInBounds_toArray, List.set_cons_zero, List.set_cons_succ, i64_w, i32_w]
           rfl
          refine one_ (i := 0) (N := some 35) #[true, true, true, true, false, true, true, false, false] rfl rfl (qcA HT_.out (by kernel_rfl)) (by decide) (fun K hK => ?_)
          refine Kd.qtA k51 _ 51 ?hg (N := 35) ?hd (xs := ([] : List (S51))) (inner := []) (ok := fun _ => True) (okp := fun _ => True) ?hr ?hp (fun _ hk => hk) trivial (Below.refl _ _) (Nat.le_refl _) (by simp) ?_; (case hd => rfl); (case hg => rfl); (case hr => exact gS); (case hp => exact (Reps.none _ _))
          intro v199 w34 ho35 hb hg_ hnew_
          clear hg_ hnew_
          (first | rw [← Ny198.out] at ho35 | (simp only [Int.reduceToNat] at ho35; rw [← Ny198.out] at ho35))
          have HO200 := aM (Kd.qz (Kd.qaB (Kd.qaB (Kd.qBB (Kd.qBB (Kd.qBB ho35 (Kd.R_lt (rR HO_5))) (Kd.R_lt (rR HO_13))) (Kd.R_lt (rR HO210))) (rB BK187)) (rB BK195)) (qJ bl))
          replace HO_5 := aM (Kd.qPA (rR HO_5) (Kd.qkA ho35) hb)
          replace HO_13 := aM (Kd.qPA (rR HO_13) (Kd.qkA ho35) hb)
          replace HO210 := aM (Kd.qPA (rR HO210) (Kd.qkA ho35) hb)
          replace BK187 := aM (bb BK187 hb)
          replace BK195 := aM (bb BK195 hb)
          replace HR204 := aM (Kd.qV (by repeat (first | (with_reducible exact HR204.out) | (with_reducible refine Kd.qL ?_ _) | (with_reducible refine Kd.qK ?_ _) | (with_reducible refine Kd.qX ?_) | exact HR204.out)) hb)
          replace HB := aM (qB bl hb)
          clear hb ho35
          refine hK.out _ _ ⟨bc BK195 0, bc BK195 1, bc BK195 2, bc BK195 3, bc BK195 4, bc BK195 5⟩ (fun hHeld => ?_)
          clear hK K
          refine norm_ (a' := ?_) ?_ ?_
          rotate_left
          ·show Act.put _ (some 35) _ = _
           simp only [Act.put, List.setIfInBounds_toArray, List.set_cons_zero, List.set_cons_succ, i64_w, i32_w]
           rfl
          refine one_ (i := 4) (N := some 39) #[true, true, true, true, true, true, true, false, false] rfl rfl (qcA HT_.out (by kernel_rfl)) (by decide) (fun K hK => ?_)
          refine Kd.qKA k51 (w0 := w) w.heap.size (by rfl) (.tmp 35) (.tmp 38) 103 51 (.agg #[(.int .i64 0), (.int .i64 0), (.int .i64 0), (.int .i64 0), (.int .i64 0), (.int .i64 0)]) 48 rfl Tryz.underlying103 info51 rfl (by decide) (by omega) v199 y198 y201 _ _ _ (fun k_ => some k_ ≠ (.slice (some ad196) x5_1.length co28 : Value).ownBlock ∧ some k_ ≠ (.slice (some ad194) t188.length co6 : Value).ownBlock ∧ some k_ ≠ (v209 : Value).ownBlock ∧ k_ ≠ gb187 ∧ k_ ≠ gb195) (fun _ => False) rfl rfl ?aO ?aR (fun _ _ h => h) (fun _ h => h.elim) ?aF ?aB ?aS ?aL ?_
          (case aR => repeat (first | exact (by repeat (first | (with_reducible exact HR204.out) | (with_reducible refine Kd.qL ?_ _) | (with_reducible refine Kd.qK ?_ _) | (with_reducible refine Kd.qX ?_) | exact HR204.out)) | (with_reducible refine Kd.qL ?_ _) | (with_reducible refine Kd.qK ?_ _) | (with_reducible refine Kd.qX ?_)))
          (case aB => exact bl)
          (case aF => exact (fun k_ hk => ⟨Kd.fresh' (Kd.R_lt (rR HO_5)) k_ hk, Kd.fresh' (Kd.R_lt (rR HO_13)) k_ hk, Kd.fresh' (Kd.R_lt (rR HO210)) k_ hk, Kd.freshB (rB BK187) k_ hk, Kd.freshB (rB BK195) k_ hk⟩))
          (case aO => exact (by (with_reducible repeat (first | apply Kd.qQ | apply Kd.qR | apply Kd.qS)); exact Kd.qa HO200.out (fun _ hk => ⟨hk.1.1.1.1.2, ⟨hk.1.1.1.2, ⟨hk.1.1.2, ⟨hk.1.2, hk.2⟩⟩⟩⟩)))
          (case aS => exact (qJ bl))
          (case aL => have := LMc22.out; omega)
          intro v206 w36 ho hb hg hat
          rw [← Ny205.out] at ho
          have HO207 := aM (ho)
          replace HO_13 := aM (Kd.qUA (ok := (fun k_ => some k_ ≠ (.slice (some ad196) x5_1.length co28 : Value).ownBlock ∧ some k_ ≠ (v209 : Value).ownBlock ∧ k_ ≠ gb187 ∧ k_ ≠ gb195)) (by (with_reducible repeat (first | apply Kd.qQ | apply Kd.qR | apply Kd.qS)); exact Kd.qa HO_13.out (fun _ hk => ⟨⟨hk.1.1.1, ⟨hk.1.2, ⟨hk.1.1.2.1, hk.1.1.2.2⟩⟩⟩, hk.2⟩)) hg hat)
          replace BK187 := aM (qn (rB BK187) hg (Kd.qVB HO200.out (fun _ hk => hk.1.2)))
          replace BK195 := aM (qn (rB BK195) hg (Kd.qVB HO200.out (fun _ hk => hk.2)))
          replace HO210 := aM (Kd.qUA (ok := (fun k_ => some k_ ≠ (.slice (some ad196) x5_1.length co28 : Value).ownBlock ∧ some k_ ≠ (.slice (some ad194) t188.length co6 : Value).ownBlock ∧ k_ ≠ gb187 ∧ k_ ≠ gb195)) (by (with_reducible repeat (first | apply Kd.qQ | apply Kd.qR | apply Kd.qS)); exact Kd.qa HO210.out (fun _ hk => ⟨⟨hk.1.1.1.1.2, ⟨hk.1.1.1.2, ⟨hk.1.1.2, hk.1.2⟩⟩⟩, hk.2⟩)) hg hat)
          replace HB := aM (hb)
          replace HR204 := aM ((show Kd.C k51 w36 (some ad196) y201.length y201 from by rw [Ny201.out]; exact Kd.qgC (m := (x8_2 : Int).toNat) ((Kd.qO (Kd.qUA (ok := (fun k_ => some k_ ≠ (.slice (some ad194) t188.length co6 : Value).ownBlock ∧ some k_ ≠ (v209 : Value).ownBlock ∧ k_ ≠ gb187 ∧ k_ ≠ gb195)) (by (with_reducible repeat (first | apply Kd.qQ | apply Kd.qR | apply Kd.qS)); exact Kd.qa HO_5.out (fun _ hk => ⟨⟨hk.1.1.1, ⟨hk.1.2, ⟨hk.1.1.2.1, hk.1.1.2.2⟩⟩⟩, hk.2⟩)) hg hat)).2.2) KL31.out))
          replace HO_5 := aM (Kd.qUA (ok := (fun k_ => some k_ ≠ (.slice (some ad194) t188.length co6 : Value).ownBlock ∧ some k_ ≠ (v209 : Value).ownBlock ∧ k_ ≠ gb187 ∧ k_ ≠ gb195)) (by (with_reducible repeat (first | apply Kd.qQ | apply Kd.qR | apply Kd.qS)); exact Kd.qa HO_5.out (fun _ hk => ⟨⟨hk.1.1.1, ⟨hk.1.2, ⟨hk.1.1.2.1, hk.1.1.2.2⟩⟩⟩, hk.2⟩)) hg hat)
          clear HO200
          clear ho hb hg hat
          refine hK.out _ _ ⟨bc BK195 0, bc BK195 1, bc BK195 2, bc BK195 3, bc BK195 4, bc BK195 5⟩ (fun hHeld => ?_)
          clear hK K
          refine norm_ (a' := ?_) ?_ ?_
          rotate_left
          ·show Act.put _ (some 39) _ = _
           simp only [Act.put, List.setIfInBounds_toArray, List.set_cons_zero, List.set_cons_succ, i64_w, i32_w]
           rfl
          exact norm_ (by simp only [putAll, Act.put, List.setIfInBounds_toArray, List.set_cons_zero, List.set_cons_succ]) (hCont (v199, v206, v209) _ ⟨hHeld, (by (with_reducible repeat (first | apply Kd.qQ | apply Kd.qR | apply Kd.qS)); exact Kd.qa HO207.out (fun _ hk => ⟨hk.2.2.1, ⟨hk.2.1, ⟨hk.1, ⟨hk.2.2.2.1, hk.2.2.2.2⟩⟩⟩⟩)), (by (with_reducible repeat (first | apply Kd.qQ | apply Kd.qR | apply Kd.qS)); exact Kd.qa HO210.out (fun _ hk => ⟨hk.2, ⟨hk.1.2.1, ⟨hk.1.1, ⟨hk.1.2.2.1, hk.1.2.2.2⟩⟩⟩⟩)), (by (with_reducible repeat (first | apply Kd.qQ | apply Kd.qR | apply Kd.qS)); exact Kd.qa HO_13.out (fun _ hk => ⟨hk.2, ⟨hk.1.2.1, ⟨hk.1.1, ⟨hk.1.2.2.1, hk.1.2.2.2⟩⟩⟩⟩)), (by (with_reducible repeat (first | apply Kd.qQ | apply Kd.qR | apply Kd.qS)); exact Kd.qa HO_5.out (fun _ hk => ⟨hk.2, ⟨hk.1.2.1, ⟨hk.1.1, ⟨hk.1.2.2.1, hk.1.2.2.2⟩⟩⟩⟩)), (rB BK187), (rB BK195), bl⟩)
        rintro ⟨v199, v206, v209⟩ w37 ⟨hS_, h0_, h1_, h2_, h3_, h4_, h5_, h6_⟩
        have n0_ : Aside0 (Kd.R k51 51 w37 w.heap.size (fun k_ => some k_ ≠ (v209 : Value).ownBlock ∧ some k_ ≠ (.slice (some ad194) t188.length co6 : Value).ownBlock ∧ some k_ ≠ (.slice (some ad196) x5_1.length co28 : Value).ownBlock ∧ k_ ≠ gb187 ∧ k_ ≠ gb195) v206 y205) := ⟨h0_⟩
        have n1_ : Aside0 (Kd.R k51 51 w37 w.heap.size (fun k_ => some k_ ≠ (v206 : Value).ownBlock ∧ some k_ ≠ (.slice (some ad194) t188.length co6 : Value).ownBlock ∧ some k_ ≠ (.slice (some ad196) x5_1.length co28 : Value).ownBlock ∧ k_ ≠ gb187 ∧ k_ ≠ gb195) v209 y208) := ⟨h1_⟩
        have n2_ : Aside0 (Kd.R k51 51 w37 w.heap.size (fun k_ => some k_ ≠ (v206 : Value).ownBlock ∧ some k_ ≠ (v209 : Value).ownBlock ∧ some k_ ≠ (.slice (some ad196) x5_1.length co28 : Value).ownBlock ∧ k_ ≠ gb187 ∧ k_ ≠ gb195) (.slice (some ad194) t188.length co6) t188) := ⟨h2_⟩
        have n3_ : Aside0 (Kd.R k51 51 w37 w.heap.size (fun k_ => some k_ ≠ (v206 : Value).ownBlock ∧ some k_ ≠ (v209 : Value).ownBlock ∧ some k_ ≠ (.slice (some ad194) t188.length co6 : Value).ownBlock ∧ k_ ≠ gb187 ∧ k_ ≠ gb195) (.slice (some ad196) x5_1.length co28) x5_1) := ⟨h3_⟩
        have n4_ : Aside0 (w37.heap[gb187]? = some (.cells #[.int .i64 a0_0, .int .i64 a0_1, .int .i64 a0_2, .int .i64 a0_3, .int .i64 a0_4, .int .i64 a0_5] 51 (0, 0))) := ⟨h4_⟩
        have n5_ : Aside0 (w37.heap[gb195]? = some (.cells #[.int .i64 ((qC t188 x17_1).f0), .int .i64 ((qC t188 x17_1).f1), .int .i64 ((qC t188 x17_1).f2), .int .i64 ((qC t188 x17_1).f3), .int .i64 ((qC t188 x17_1).f4), .int .i64 ((qC t188 x17_1).f5)] 51 (0, 0))) := ⟨h5_⟩
        have n6_ : Aside0 (Below w.heap.size w w37) := ⟨h6_⟩
        clear HO_5 HO_13 BK187 BK195 HB h0_ h1_ h2_ h3_ h4_ h5_ h6_
        have HO207 := n0_
        have HO210 := n1_
        have HO_13 := n2_
        have HO_5 := n3_
        have BK187 := n4_
        have BK195 := n5_
        have HB := n6_
        clear n0_ n1_ n2_ n3_ n4_ n5_ n6_
        have hHeld : w37.cell? ⟨gb195, 0, none⟩ = some (.int .i64 ((qC t188 x17_1).f0)) ∧ w37.cell? ⟨gb195, 1, none⟩ = some (.int .i64 ((qC t188 x17_1).f1)) ∧ w37.cell? ⟨gb195, 2, none⟩ = some (.int .i64 ((qC t188 x17_1).f2)) ∧ w37.cell? ⟨gb195, 3, none⟩ = some (.int .i64 ((qC t188 x17_1).f3)) ∧ w37.cell? ⟨gb195, 4, none⟩ = some (.int .i64 ((qC t188 x17_1).f4)) ∧ w37.cell? ⟨gb195, 5, none⟩ = some (.int .i64 ((qC t188 x17_1).f5)) := hS_
        obtain ⟨Ao39, co39, eo39⟩ := Kd.qDA HO210.out
        (first | subst eo39 | (injection eo39 with f1_ f2_ f3_; have f4_ := f1_.symm; have f5_ := f3_.symm; clear f1_ f2_ f3_; subst f4_; subst f5_))
        refine norm_ (a' := ?_) ?_ ?_
        rotate_left
        ·simp only [putAll, Act.put, List.setIfInBounds_toArray, List.set_cons_zero, List.set_cons_succ]
         rfl
        refine one_ (i := 7) (N := some 42) #[true, true, true, true, true, true, true, true, false] rfl rfl (qcA HT_.out (by kernel_rfl)) (by decide) (fun K hK => ?_)
        refine Kd.qKA k51 (w0 := w) w.heap.size (by rfl) (.tmp 39) (.tmp 41) 103 51 (.agg #[(.int .i64 0), (.int .i64 0), (.int .i64 0), (.int .i64 0), (.int .i64 0), (.int .i64 0)]) 48 rfl Tryz.underlying103 info51 rfl (by decide) (by omega) v206 y205 y208 _ _ _ (fun k_ => some k_ ≠ (.slice (some ad196) x5_1.length co28 : Value).ownBlock ∧ some k_ ≠ (.slice (some ad194) t188.length co6 : Value).ownBlock ∧ some k_ ≠ (.slice Ao39 y208.length co39 : Value).ownBlock ∧ k_ ≠ gb187 ∧ k_ ≠ gb195) (fun _ => False) rfl rfl ?aO ?aR (fun _ _ h => h) (fun _ h => h.elim) ?aF ?aB ?aS ?aL ?_
        (case aR => repeat (first | exact (Kd.qO HO210.out).2.2 | (with_reducible refine Kd.qL ?_ _) | (with_reducible refine Kd.qK ?_ _) | (with_reducible refine Kd.qX ?_)))
        (case aB => exact bl)
        (case aF => exact (fun k_ hk => ⟨Kd.fresh' (Kd.R_lt (rR HO_5)) k_ hk, Kd.fresh' (Kd.R_lt (rR HO_13)) k_ hk, Kd.fresh' (Kd.R_lt (rR HO210)) k_ hk, Kd.freshB (rB BK187) k_ hk, Kd.freshB (rB BK195) k_ hk⟩))
        (case aO => exact (by (with_reducible repeat (first | apply Kd.qQ | apply Kd.qR | apply Kd.qS)); exact Kd.qa HO207.out (fun _ hk => ⟨hk.2.2.1, ⟨hk.2.1, ⟨hk.1, ⟨hk.2.2.2.1, hk.2.2.2.2⟩⟩⟩⟩)))
        (case aS => exact (qJ bl))
        (case aL => have := LMc23.out; omega)
        intro v212 w38 ho hb hg hat
        rw [← Ny211.out] at ho
        have HO213 := aM (ho)
        replace HO_5 := aM (Kd.qUA (ok := (fun k_ => some k_ ≠ (.slice (some ad194) t188.length co6 : Value).ownBlock ∧ some k_ ≠ (.slice Ao39 y208.length co39 : Value).ownBlock ∧ k_ ≠ gb187 ∧ k_ ≠ gb195)) (by (with_reducible repeat (first | apply Kd.qQ | apply Kd.qR | apply Kd.qS)); exact Kd.qa HO_5.out (fun _ hk => ⟨⟨hk.2.2.1, ⟨hk.2.1, ⟨hk.2.2.2.1, hk.2.2.2.2⟩⟩⟩, hk.1⟩)) hg hat)
        replace HO_13 := aM (Kd.qUA (ok := (fun k_ => some k_ ≠ (.slice (some ad196) x5_1.length co28 : Value).ownBlock ∧ some k_ ≠ (.slice Ao39 y208.length co39 : Value).ownBlock ∧ k_ ≠ gb187 ∧ k_ ≠ gb195)) (by (with_reducible repeat (first | apply Kd.qQ | apply Kd.qR | apply Kd.qS)); exact Kd.qa HO_13.out (fun _ hk => ⟨⟨hk.2.2.1, ⟨hk.2.1, ⟨hk.2.2.2.1, hk.2.2.2.2⟩⟩⟩, hk.1⟩)) hg hat)
        replace BK187 := aM (qn (rB BK187) hg (Kd.qVB HO207.out (fun _ hk => hk.2.2.2.1)))
        replace BK195 := aM (qn (rB BK195) hg (Kd.qVB HO207.out (fun _ hk => hk.2.2.2.2)))
        replace HO210 := aM (Kd.qUA (ok := (fun k_ => some k_ ≠ (.slice (some ad196) x5_1.length co28 : Value).ownBlock ∧ some k_ ≠ (.slice (some ad194) t188.length co6 : Value).ownBlock ∧ k_ ≠ gb187 ∧ k_ ≠ gb195)) (by (with_reducible repeat (first | apply Kd.qQ | apply Kd.qR | apply Kd.qS)); exact Kd.qa HO210.out (fun _ hk => ⟨⟨hk.2.2.1, ⟨hk.2.1, ⟨hk.2.2.2.1, hk.2.2.2.2⟩⟩⟩, hk.1⟩)) hg hat)
        replace HB := aM (hb)
        clear HO207
        clear ho hb hg hat
        refine hK.out _ _ ⟨bc BK195 0, bc BK195 1, bc BK195 2, bc BK195 3, bc BK195 4, bc BK195 5⟩ (fun hHeld => ?_)
        clear hK K
        refine norm_ (a' := ?_) ?_ ?_
        rotate_left
        ·show Act.put _ (some 42) _ = _
         simp only [Act.put, List.setIfInBounds_toArray, List.set_cons_zero, List.set_cons_succ, i64_w, i32_w]
         rfl
        refine pS (i := 8) (N := some 9) #[true, true, true, true, true, true, true, true, true] HT_ ?_
        refine done_ (qvA HT_.out (by kernel_rfl)) ?_
        have q40 : (x8_2 : Int) ≤ ((x5_1.length : Int) : Int) := of_decide_eq_true am
        obtain ⟨i040, hi040, _, hsz40, _⟩ := info_parts info51
        have hroom40 : x5_1.length ≤ co28 := (Kd.qO HO_5.out).2.1
        have hC40 : Kd.C k51 _ (some ad196) x5_1.length x5_1 := (Kd.qO HO_5.out).2.2
        have q040 : (0 : Int) ≤ (x8_2 : Int) := of_decide_eq_true am
        have hcut40 := cut_from (P := Tryz.prog) 103 51 .i64 Tryz.underlying103 hi040 6 hsz40 (some ad196) x5_1.length co28 x8_2 q040 q40
        have hr40 := Kd.qrE (m := (x8_2 : Int).toNat) (c := co28) hC40 (by omega) hroom40
        obtain ⟨A40, hA40⟩ : ∃ A1, A1 = (if co28 = (x8_2 : Int).toNat then (some ad196) else ((some ad196) : Option Addr).map (·.add ((x8_2 : Int).toNat * 6))) := ⟨_, rfl⟩
        obtain ⟨c40, hc40⟩ : ∃ c1, c1 = co28 - (x8_2 : Int).toNat := ⟨_, rfl⟩
        have hy40 : y214.length = x5_1.length - (x8_2 : Int).toNat := (by rw [Ny214.out, List.length_drop] <;> omega)
        rw [show (x5_1).drop (x8_2 : Int).toNat = y214 from Ny214.out.symm] at hr40
        replace hr40 : Kd.C k51 _ A40 y214.length y214 := (by rw [hA40]; exact hr40)
        rw [← hy40, ← hA40, ← hc40] at hcut40
        have HR217 := aM hr40
        have HC217 := aM (show y214.length ≤ c40 from by rw [hy40, hc40]; exact Nat.sub_le_sub_right hroom40 _)
        clear hr40 hC40 hroom40 hi040 hsz40 hc40
        have KY40 := aM hy40
        have KA40 := aM hA40
        clear hy40 hA40
        have KL40 := aM (show (x8_2 : Int).toNat ≤ x5_1.length from by omega)
        replace q40 := eq_true q40
        try go_wp2_with (first | ((with_reducible refine qEB (b := .append) (xs := #[.tmp 43, .tmp 46]) rfl ?_); at_builtin; refine Kd.qFC k51 (w0 := w) w.heap.size rfl (.tmp 43) (.tmp 46) 103 51 (.agg #[(.int .i64 0), (.int .i64 0), (.int .i64 0), (.int .i64 0), (.int .i64 0), (.int .i64 0)]) 48 rfl Tryz.underlying103 info51 rfl (by decide) (by omega) v212 y211 y214 _ _ _ (fun k_ => some k_ ≠ (.slice (some ad196) x5_1.length co28 : Value).ownBlock ∧ some k_ ≠ (.slice (some ad194) t188.length co6 : Value).ownBlock ∧ some k_ ≠ (.slice Ao39 y208.length co39 : Value).ownBlock ∧ k_ ≠ gb187 ∧ k_ ≠ gb195) (fun _ => False) rfl rfl ?aO ?aR (fun _ _ h => h) (fun _ h => h.elim) ?aF ?aB ?aS ?aL ?_; (case aR => repeat (first | exact (by repeat (first | (with_reducible exact HR217.out) | (with_reducible refine Kd.qL ?_ _) | (with_reducible refine Kd.qK ?_ _) | (with_reducible refine Kd.qX ?_) | exact HR217.out)) | (with_reducible refine Kd.qL ?_ _) | (with_reducible refine Kd.qK ?_ _) | (with_reducible refine Kd.qX ?_))); (case aB => exact bl); (case aF => exact (fun k_ hk => ⟨Kd.fresh' (Kd.R_lt (rR HO_5)) k_ hk, Kd.fresh' (Kd.R_lt (rR HO_13)) k_ hk, Kd.fresh' (Kd.R_lt (rR HO210)) k_ hk, Kd.freshB (rB BK187) k_ hk, Kd.freshB (rB BK195) k_ hk⟩)); (case aO => exact (rR HO213)); (case aS => exact (qJ bl)); (case aL => have := LMc26.out; omega); intro v219 w41 ho hb hg hat; rw [← Ny218.out] at ho; have HO220 := aM (ho); replace HO_13 := aM (Kd.qUA (ok := (fun k_ => some k_ ≠ (.slice (some ad196) x5_1.length co28 : Value).ownBlock ∧ some k_ ≠ (.slice Ao39 y208.length co39 : Value).ownBlock ∧ k_ ≠ gb187 ∧ k_ ≠ gb195)) (rR HO_13) hg hat); replace BK187 := aM (qn (rB BK187) hg (Kd.qVB HO213.out (fun _ hk => hk.2.2.2.1))); replace BK195 := aM (qn (rB BK195) hg (Kd.qVB HO213.out (fun _ hk => hk.2.2.2.2))); replace HO210 := aM (Kd.qUA (ok := (fun k_ => some k_ ≠ (.slice (some ad196) x5_1.length co28 : Value).ownBlock ∧ some k_ ≠ (.slice (some ad194) t188.length co6 : Value).ownBlock ∧ k_ ≠ gb187 ∧ k_ ≠ gb195)) (rR HO210) hg hat); replace HB := aM (hb); replace HR217 := aM ((show Kd.C k51 w41 A40 y214.length y214 from by rw [Ny214.out, KA40.out]; exact Kd.qrE (m := (x8_2 : Int).toNat) (c := co28) ((Kd.qO (Kd.qUA (ok := (fun k_ => some k_ ≠ (.slice (some ad194) t188.length co6 : Value).ownBlock ∧ some k_ ≠ (.slice Ao39 y208.length co39 : Value).ownBlock ∧ k_ ≠ gb187 ∧ k_ ≠ gb195)) (rR HO_5) hg hat)).2.2) KL40.out ((Kd.qO (Kd.qUA (ok := (fun k_ => some k_ ≠ (.slice (some ad194) t188.length co6 : Value).ownBlock ∧ some k_ ≠ (.slice Ao39 y208.length co39 : Value).ownBlock ∧ k_ ≠ gb187 ∧ k_ ≠ gb195)) (rR HO_5) hg hat)).2.1))); replace HO_5 := aM (Kd.qUA (ok := (fun k_ => some k_ ≠ (.slice (some ad194) t188.length co6 : Value).ownBlock ∧ some k_ ≠ (.slice Ao39 y208.length co39 : Value).ownBlock ∧ k_ ≠ gb187 ∧ k_ ≠ gb195)) (rR HO_5) hg hat); clear HO213; clear ho hb hg hat))
        go_roundg k2
        case measure => have := HK1.out; have := HK2.out; omega
        case rel => exact ⟨(y218), (wrap64 (x17_1 + 1)), sD, H', ⟨by have := HK1.out; have := HK2.out; omega⟩, ⟨by (with_reducible repeat (first | apply Kd.qQ | apply Kd.qR | apply Kd.qS)); exact Kd.qa HO220.out (fun _ hk => ⟨hk.2.1, hk.2.2.2.1⟩)⟩, ⟨by (with_reducible repeat (first | apply Kd.qQ | apply Kd.qR | apply Kd.qS)); exact Kd.qa HO_13.out (fun _ hk => ⟨hk.2, hk.1.2.2.1⟩)⟩, ⟨rB BK187⟩, ⟨bl⟩⟩
      ·rw [if_neg c13] at H
       have c13b0 := decide_eq_false c13
       clear c13
       replace H := bS H
       obtain ⟨y221, Ny221, H⟩ := H
       by_cases c42 : 0 ≤ x8_2
       case neg => exact nN c42 H
       rw [if_pos c42] at H
       have c42b0 := eq_true c42
       have c42b1 := decide_eq_true c42
       clear c42
       by_cases c43 : x8_2 ≤ (x5_1.length : Int)
       case neg => exact nN c43 H
       rw [if_pos c43] at H
       have c43b0 := eq_true c43
       have c43b1 := decide_eq_true c43
       clear c43
       replace H := bS H
       obtain ⟨y224, Ny224, H⟩ := H
       by_cases c44 : y221.length + y224.length < 2932031007402
       case neg => exact nN c44 H
       rw [if_pos c44] at H
       have LMc44 := aM c44
       clear c44
       replace H := bS H
       obtain ⟨y228, Ny228, H⟩ := H
       replace H := bS H
       obtain ⟨y231, Ny231, H⟩ := H
       by_cases c45 : y228.length + y231.length < 2932031007402
       case neg => exact nN c45 H
       rw [if_pos c45] at H
       have LMc45 := aM c45
       clear c45
       replace H := bS H
       obtain ⟨y234, Ny234, H⟩ := H
       have c46b0 := eq_true (of_decide_eq_true am : 0 ≤ x8_2)
       have c47b0 := eq_true (of_decide_eq_true am : x8_2 ≤ (x5_1.length : Int))
       replace H := bS H
       obtain ⟨y237, Ny237, H⟩ := H
       by_cases c48 : y234.length + y237.length < 2932031007402
       case neg => exact nN c48 H
       rw [if_pos c48] at H
       have LMc48 := aM c48
       clear c48
       obtain ⟨y241, hy241⟩ : ∃ y_ : List (S51), y_ = (y234 ++ y237) := ⟨_, rfl⟩
       replace H : (qU.l0 k2 y241 t188 (t188.length : Int) (wrap64 (x17_1 + 1))) = some r := by first | (rw [hy241]; with_reducible exact H) | (have H2_ := (Option.bind_some _ _).symm.trans H; rw [hy241]; with_reducible exact H2_) | (have H2_ := (Option.bind_some _ _).symm.trans H; with_reducible exact H2_) | with_reducible exact H | (rw [hy241]; exact H) | exact H
       have Ny241 := aM hy241
       clear hy241
       have H' := aM H
       clear H
       try go_wp2
       replace HO_5 := aM (Kd.qS HO_5.out)
       replace HO_13 := aM (Kd.qS HO_13.out)
       replace BK187 := aM (qD BK187.out)
       replace BK195 := aM (qD BK195.out)
       replace HB := aM (qi HB.out)
       obtain ⟨Ao50, co50, eo50⟩ := Kd.qDA HO_5.out
       (first | subst eo50 | (injection eo50 with f1_ f2_ f3_; have f4_ := f1_.symm; have f5_ := f3_.symm; clear f1_ f2_ f3_; subst f4_; subst f5_))
       refine qJB (n := 12) (S := fun w' => True) (ds := []) #[false, false, false, false, false, false, false, false, false, false, false, false] (by kernel_rfl) rfl rfl trivial (fun hHeld => ?_); refine qNA qU.tab7 qU.bits7 (fun HT_ HW_ => ?_)
       generalize wr.drew = w49 at HO_5 HO_13 BK187 BK195 HB hHeld ⊢
       refine pS (i := 0) (N := some 21) #[true, false, false, false, false, false, false, false, false, false, false, false] HT_ ?_
       refine pS (i := 1) (N := some 22) #[true, true, false, false, false, false, false, false, false, false, false, false] HT_ ?_
       refine pS (i := 2) (N := some 23) #[true, true, true, false, false, false, false, false, false, false, false, false] HT_ ?_
       refine pS (i := 3) (N := some 24) #[true, true, true, true, false, false, false, false, false, false, false, false] HT_ ?_
       refine pS (i := 4) (N := some 25) #[true, true, true, true, true, false, false, false, false, false, false, false] HT_ ?_
       refine pure_ (i := 5) (N := some 26) (v := undef) (a' := ?_) #[true, true, true, true, true, true, false, false, false, false, false, false] rfl rfl (qNB HT_.out (by kernel_rfl)) (fun _ _ _ h => h) (Or.inr ⟨by rfl, rfl⟩) ?_ ?_
       rotate_left
       ·simp only [Act.put, List.setIfInBounds_toArray, List.set_cons_zero, List.set_cons_succ, i64_w, i32_w]
        rfl
       refine pure_ (i := 6) (N := some 27) (v := undef) (a' := ?_) #[true, true, true, true, true, true, true, false, false, false, false, false] rfl rfl (qNB HT_.out (by kernel_rfl)) (fun _ _ _ h => h) (Or.inr ⟨by rfl, rfl⟩) ?_ ?_
       rotate_left
       ·simp only [Act.put, List.setIfInBounds_toArray, List.set_cons_zero, List.set_cons_succ, i64_w, i32_w]
        rfl
       refine pure_ (i := 7) (N := some 28) (v := undef) (a' := ?_) #[true, true, true, true, true, true, true, true, false, false, false, false] rfl rfl (qNB HT_.out (by kernel_rfl)) (fun _ _ _ h => h) (Or.inr ⟨by rfl, rfl⟩) ?_ ?_
       rotate_left
       ·simp only [Act.put, List.setIfInBounds_toArray, List.set_cons_zero, List.set_cons_succ, i64_w, i32_w]
        rfl
       refine pure_ (i := 8) (N := some 29) (v := undef) (a' := ?_) #[true, true, true, true, true, true, true, true, true, false, false, false] rfl rfl (qNB HT_.out (by kernel_rfl)) (fun _ _ _ h => h) (Or.inr ⟨by rfl, rfl⟩) ?_ ?_
       rotate_left
       ·simp only [Act.put, List.setIfInBounds_toArray, List.set_cons_zero, List.set_cons_succ, i64_w, i32_w]
        rfl
       refine pure_ (i := 9) (N := some 30) (v := undef) (a' := ?_) #[true, true, true, true, true, true, true, true, true, true, false, false] rfl rfl (qNB HT_.out (by kernel_rfl)) (fun _ _ _ h => h) (Or.inr ⟨by rfl, rfl⟩) ?_ ?_
       rotate_left
       ·simp only [Act.put, List.setIfInBounds_toArray, List.set_cons_zero, List.set_cons_succ, i64_w, i32_w]
        rfl
       refine pure_ (i := 10) (N := some 31) (v := undef) (a' := ?_) #[true, true, true, true, true, true, true, true, true, true, true, false] rfl rfl (qNB HT_.out (by kernel_rfl)) (fun _ _ _ h => h) (Or.inr ⟨by rfl, rfl⟩) ?_ ?_
       rotate_left
       ·simp only [Act.put, List.setIfInBounds_toArray, List.set_cons_zero, List.set_cons_succ, i64_w, i32_w]
        rfl
       refine pS (i := 11) (N := some 32) #[true, true, true, true, true, true, true, true, true, true, true, true] HT_ ?_
       refine done_ (qvA HT_.out (by kernel_rfl)) ?_
       try go_wp2
       replace HO_5 := aM (Kd.qS HO_5.out)
       replace HO_13 := aM (Kd.qS HO_13.out)
       replace BK187 := aM (qD BK187.out)
       replace BK195 := aM (qD BK195.out)
       replace HB := aM (qi HB.out)
       have q52 : (x8_2 : Int) ≤ ((x5_1.length : Int) : Int) := of_decide_eq_true am
       obtain ⟨i052, hi052, _, hsz52, _⟩ := info_parts info51
       have hroom52 : x5_1.length ≤ co50 := (Kd.qO HO_5.out).2.1
       have hC52 : Kd.C k51 _ Ao50 x5_1.length x5_1 := (Kd.qO HO_5.out).2.2
       have hcut52 := qEE (P := Tryz.prog) 103 51 .i64 Tryz.underlying103 hi052 Ao50 x5_1.length co50 x8_2 (of_decide_eq_true am) q52 hroom52
       have hr52 := Kd.qgC (m := (x8_2 : Int).toNat) hC52 (by omega)
       have hy52 : y224.length = (x8_2 : Int).toNat := (by rw [Ny224.out, List.length_take]; omega)
       rw [← Ny224.out] at hr52
       rw [← hy52] at hcut52
       have HR227 := aM hr52
       have HC227 := aM (show y224.length ≤ co50 from by omega)
       clear hr52 hC52 hroom52 hi052 hsz52
       have KY52 := aM hy52
       clear hy52
       have KL52 := aM (show (x8_2 : Int).toNat ≤ x5_1.length from by omega)
       replace q52 := eq_true q52
       refine qJB (n := 9) (S := fun w' => w'.cell? ⟨gb195, 0, none⟩ = some (.int .i64 ((qC t188 x17_1).f0)) ∧ w'.cell? ⟨gb195, 1, none⟩ = some (.int .i64 ((qC t188 x17_1).f1)) ∧ w'.cell? ⟨gb195, 2, none⟩ = some (.int .i64 ((qC t188 x17_1).f2)) ∧ w'.cell? ⟨gb195, 3, none⟩ = some (.int .i64 ((qC t188 x17_1).f3)) ∧ w'.cell? ⟨gb195, 4, none⟩ = some (.int .i64 ((qC t188 x17_1).f4)) ∧ w'.cell? ⟨gb195, 5, none⟩ = some (.int .i64 ((qC t188 x17_1).f5))) (ds := []) #[false, false, false, false, false, false, false, false, false] (by kernel_rfl) rfl rfl ⟨bc BK195 0, bc BK195 1, bc BK195 2, bc BK195 3, bc BK195 4, bc BK195 5⟩ (fun hHeld => ?_); refine qNA qU.tab9 qU.bits9 (fun HT_ HW_ => ?_)
       generalize w49.drew = w51 at HO_5 HO_13 BK187 BK195 HB HR227 hHeld ⊢
       refine pS (i := 1) (N := some 36) #[false, true, false, false, false, false, false, false, false] HT_ ?_
       refine pS (i := 2) (N := some 37) #[false, true, true, false, false, false, false, false, false] HT_ ?_
       refine pS (i := 3) (N := some 38) #[false, true, true, true, false, false, false, false, false] HT_ ?_
       refine tS (i := 5) (N := some 40) #[false, true, true, true, false, true, false, false, false] HT_ HW_ hHeld ?_
       refine join_ (σ := Value × Value × Value) 2 #[true, true, true, true, true, true, true, false, false] (fun s_ => [(35, s_.1), (39, s_.2.1), (41, s_.2.2)]) (fun s_ w' => (w'.cell? ⟨gb195, 0, none⟩ = some (.int .i64 ((qC t188 x17_1).f0)) ∧ w'.cell? ⟨gb195, 1, none⟩ = some (.int .i64 ((qC t188 x17_1).f1)) ∧ w'.cell? ⟨gb195, 2, none⟩ = some (.int .i64 ((qC t188 x17_1).f2)) ∧ w'.cell? ⟨gb195, 3, none⟩ = some (.int .i64 ((qC t188 x17_1).f3)) ∧ w'.cell? ⟨gb195, 4, none⟩ = some (.int .i64 ((qC t188 x17_1).f4)) ∧ w'.cell? ⟨gb195, 5, none⟩ = some (.int .i64 ((qC t188 x17_1).f5))) ∧ (Kd.R k51 51 w' w.heap.size (fun k_ => some k_ ≠ (s_.2.2 : Value).ownBlock ∧ some k_ ≠ (.slice (some ad194) t188.length co6 : Value).ownBlock ∧ some k_ ≠ (.slice Ao50 x5_1.length co50 : Value).ownBlock ∧ k_ ≠ gb187 ∧ k_ ≠ gb195) s_.2.1 y228) ∧ (Kd.R k51 51 w' w.heap.size (fun k_ => some k_ ≠ (s_.2.1 : Value).ownBlock ∧ some k_ ≠ (.slice (some ad194) t188.length co6 : Value).ownBlock ∧ some k_ ≠ (.slice Ao50 x5_1.length co50 : Value).ownBlock ∧ k_ ≠ gb187 ∧ k_ ≠ gb195) s_.2.2 y231) ∧ (Kd.R k51 51 w' w.heap.size (fun k_ => some k_ ≠ (s_.2.1 : Value).ownBlock ∧ some k_ ≠ (s_.2.2 : Value).ownBlock ∧ some k_ ≠ (.slice Ao50 x5_1.length co50 : Value).ownBlock ∧ k_ ≠ gb187 ∧ k_ ≠ gb195) (.slice (some ad194) t188.length co6) t188) ∧ (Kd.R k51 51 w' w.heap.size (fun k_ => some k_ ≠ (s_.2.1 : Value).ownBlock ∧ some k_ ≠ (s_.2.2 : Value).ownBlock ∧ some k_ ≠ (.slice (some ad194) t188.length co6 : Value).ownBlock ∧ k_ ≠ gb187 ∧ k_ ≠ gb195) (.slice Ao50 x5_1.length co50) x5_1) ∧ (w'.heap[gb187]? = some (.cells #[.int .i64 a0_0, .int .i64 a0_1, .int .i64 a0_2, .int .i64 a0_3, .int .i64 a0_4, .int .i64 a0_5] 51 (0, 0))) ∧ (w'.heap[gb195]? = some (.cells #[.int .i64 ((qC t188 x17_1).f0), .int .i64 ((qC t188 x17_1).f1), .int .i64 ((qC t188 x17_1).f2), .int .i64 ((qC t188 x17_1).f3), .int .i64 ((qC t188 x17_1).f4), .int .i64 ((qC t188 x17_1).f5)] 51 (0, 0))) ∧ (Below w.heap.size w w')) ?_ ?_
       rotate_left
       ·intro hCont
        refine two_ (i := 0) (j := 6) (Ni := some 35) (Nj := some 41) #[true, true, true, true, false, true, false, false, false] #[false, true, true, true, false, true, true, false, false] rfl rfl rfl rfl (qID HT_.out (by kernel_rfl)) (by decide) (by decide) (fun K hK => ?_) (fun K hK => ?_)
        ·skip
         refine Kd.qtA k51 _ 51 ?hg (N := 35) ?hd (xs := ([] : List (S51))) (inner := []) (ok := fun _ => True) (okp := fun _ => True) ?hr ?hp (fun _ hk => hk) trivial (Below.refl _ _) (Nat.le_refl _) (by simp) ?_; (case hd => rfl); (case hg => rfl); (case hr => exact gS); (case hp => exact (Reps.none _ _))
         intro v222 w53 ho54 hb hg_ hnew_
         clear hg_ hnew_
         (first | rw [← Ny221.out] at ho54 | (simp only [Int.reduceToNat] at ho54; rw [← Ny221.out] at ho54))
         have HO223 := aM (Kd.qz (Kd.qaB (Kd.qaB (Kd.qBB (Kd.qBB ho54 (Kd.R_lt (rR HO_5))) (Kd.R_lt (rR HO_13))) (rB BK187)) (rB BK195)) (qJ bl))
         replace HO_5 := aM (Kd.qPA (rR HO_5) (Kd.qkA ho54) hb)
         replace HO_13 := aM (Kd.qPA (rR HO_13) (Kd.qkA ho54) hb)
         replace BK187 := aM (bb BK187 hb)
         replace BK195 := aM (bb BK195 hb)
         replace HR227 := aM (Kd.qV (by repeat (first | (with_reducible exact HR227.out) | (with_reducible refine Kd.qL ?_ _) | (with_reducible refine Kd.qK ?_ _) | (with_reducible refine Kd.qX ?_) | exact HR227.out)) hb)
         replace HB := aM (qB bl hb)
         clear hb ho54
         refine hK.out _ _ ⟨bc BK195 0, bc BK195 1, bc BK195 2, bc BK195 3, bc BK195 4, bc BK195 5⟩ (fun hHeld => ?_)
         clear hK K
         refine norm_ (a' := ?_) ?_ ?_
         rotate_left
         ·show Act.put _ (some 35) _ = _
          simp only [Act.put, List.setIfInBounds_toArray, List.set_cons_zero, List.set_cons_succ, i64_w, i32_w]
          rfl
         refine two_ (i := 4) (j := 6) (Ni := some 39) (Nj := some 41) #[true, true, true, true, true, true, false, false, false] #[true, true, true, true, false, true, true, false, false] rfl rfl rfl rfl (qID HT_.out (by kernel_rfl)) (by decide) (by decide) (fun K hK => ?_) (fun K hK => ?_)
         ·skip
          refine Kd.qKA k51 (w0 := w) w.heap.size (by rfl) (.tmp 35) (.tmp 38) 103 51 (.agg #[(.int .i64 0), (.int .i64 0), (.int .i64 0), (.int .i64 0), (.int .i64 0), (.int .i64 0)]) 48 rfl Tryz.underlying103 info51 rfl (by decide) (by omega) v222 y221 y224 _ _ _ (fun k_ => some k_ ≠ (.slice Ao50 x5_1.length co50 : Value).ownBlock ∧ some k_ ≠ (.slice (some ad194) t188.length co6 : Value).ownBlock ∧ k_ ≠ gb187 ∧ k_ ≠ gb195) (fun _ => False) rfl rfl ?aO ?aR (fun _ _ h => h) (fun _ h => h.elim) ?aF ?aB ?aS ?aL ?_
          (case aR => repeat (first | exact (by repeat (first | (with_reducible exact HR227.out) | (with_reducible refine Kd.qL ?_ _) | (with_reducible refine Kd.qK ?_ _) | (with_reducible refine Kd.qX ?_) | exact HR227.out)) | (with_reducible refine Kd.qL ?_ _) | (with_reducible refine Kd.qK ?_ _) | (with_reducible refine Kd.qX ?_)))
          (case aB => exact bl)
          (case aF => exact (fun k_ hk => ⟨Kd.fresh' (Kd.R_lt (rR HO_5)) k_ hk, Kd.fresh' (Kd.R_lt (rR HO_13)) k_ hk, Kd.freshB (rB BK187) k_ hk, Kd.freshB (rB BK195) k_ hk⟩))
          (case aO => exact (by (with_reducible repeat (first | apply Kd.qQ | apply Kd.qR | apply Kd.qS)); exact Kd.qa HO223.out (fun _ hk => ⟨hk.1.1.1.2, ⟨hk.1.1.2, ⟨hk.1.2, hk.2⟩⟩⟩)))
          (case aS => exact (qJ bl))
          (case aL => have := LMc44.out; omega)
          intro v229 w55 ho hb hg hat
          rw [← Ny228.out] at ho
          have HO230 := aM (ho)
          replace HO_13 := aM (Kd.qUA (ok := (fun k_ => some k_ ≠ (.slice Ao50 x5_1.length co50 : Value).ownBlock ∧ k_ ≠ gb187 ∧ k_ ≠ gb195)) (rR HO_13) hg hat)
          replace BK187 := aM (qn (rB BK187) hg (Kd.qVB HO223.out (fun _ hk => hk.1.2)))
          replace BK195 := aM (qn (rB BK195) hg (Kd.qVB HO223.out (fun _ hk => hk.2)))
          replace HB := aM (hb)
          replace HR227 := aM ((show Kd.C k51 w55 Ao50 y224.length y224 from by rw [Ny224.out]; exact Kd.qgC (m := (x8_2 : Int).toNat) ((Kd.qO (Kd.qUA (ok := (fun k_ => some k_ ≠ (.slice (some ad194) t188.length co6 : Value).ownBlock ∧ k_ ≠ gb187 ∧ k_ ≠ gb195)) (rR HO_5) hg hat)).2.2) KL52.out))
          replace HO_5 := aM (Kd.qUA (ok := (fun k_ => some k_ ≠ (.slice (some ad194) t188.length co6 : Value).ownBlock ∧ k_ ≠ gb187 ∧ k_ ≠ gb195)) (rR HO_5) hg hat)
          clear HO223
          clear ho hb hg hat
          refine hK.out _ _ ⟨bc BK195 0, bc BK195 1, bc BK195 2, bc BK195 3, bc BK195 4, bc BK195 5⟩ (fun hHeld => ?_)
          clear hK K
          refine norm_ (a' := ?_) ?_ ?_
          rotate_left
          ·show Act.put _ (some 39) _ = _
           simp only [Act.put, List.setIfInBounds_toArray, List.set_cons_zero, List.set_cons_succ, i64_w, i32_w]
           rfl
          refine one_ (i := 6) (N := some 41) #[true, true, true, true, true, true, true, false, false] rfl rfl (qcA HT_.out (by kernel_rfl)) (by decide) (fun K hK => ?_)
          refine Kd.qtA k51 _ 51 ?hg (N := 41) ?hd (xs := ([(⟨((qC t188 x17_1).f0), ((qC t188 x17_1).f1), ((qC t188 x17_1).f2), ((qC t188 x17_1).f3), ((qC t188 x17_1).f4), ((qC t188 x17_1).f5)⟩ : S51)] : List (S51))) (inner := [.int .i64 ((qC t188 x17_1).f0), .int .i64 ((qC t188 x17_1).f1), .int .i64 ((qC t188 x17_1).f2), .int .i64 ((qC t188 x17_1).f3), .int .i64 ((qC t188 x17_1).f4), .int .i64 ((qC t188 x17_1).f5)]) (ok := fun _ => True) (okp := fun _ => True) ?hr ?hp (fun _ hk => hk) trivial (Below.refl _ _) (Nat.le_refl _) (by simp) ?_; (case hd => rfl); (case hg => rfl); (case hr => exact gS); (case hp => exact (Reps.c6 (show Kd.M k51 _ _ _ (⟨((qC t188 x17_1).f0), ((qC t188 x17_1).f1), ((qC t188 x17_1).f2), ((qC t188 x17_1).f3), ((qC t188 x17_1).f4), ((qC t188 x17_1).f5)⟩ : S51) [.int .i64 ((qC t188 x17_1).f0), .int .i64 ((qC t188 x17_1).f1), .int .i64 ((qC t188 x17_1).f2), .int .i64 ((qC t188 x17_1).f3), .int .i64 ((qC t188 x17_1).f4), .int .i64 ((qC t188 x17_1).f5)] from (qeC _ _ _ (⟨((qC t188 x17_1).f0), ((qC t188 x17_1).f1), ((qC t188 x17_1).f2), ((qC t188 x17_1).f3), ((qC t188 x17_1).f4), ((qC t188 x17_1).f5)⟩ : S51) )) (Reps.none _ _)))
          intro v232 w56 ho57 hb hg_ hnew_
          clear hg_ hnew_
          (first | rw [← Ny231.out] at ho57 | (simp only [Int.reduceToNat] at ho57; rw [← Ny231.out] at ho57))
          have HO233 := aM (Kd.qz (Kd.qaB (Kd.qaB (Kd.qBB (Kd.qBB (Kd.qBB ho57 (Kd.R_lt (rR HO_5))) (Kd.R_lt (rR HO_13))) (Kd.R_lt (rR HO230))) (rB BK187)) (rB BK195)) (qJ bl))
          replace HO_5 := aM (Kd.qPA (rR HO_5) (Kd.qkA ho57) hb)
          replace HO_13 := aM (Kd.qPA (rR HO_13) (Kd.qkA ho57) hb)
          replace HO230 := aM (Kd.qPA (rR HO230) (Kd.qkA ho57) hb)
          replace BK187 := aM (bb BK187 hb)
          replace BK195 := aM (bb BK195 hb)
          replace HR227 := aM (Kd.qV (by repeat (first | (with_reducible exact HR227.out) | (with_reducible refine Kd.qL ?_ _) | (with_reducible refine Kd.qK ?_ _) | (with_reducible refine Kd.qX ?_) | exact HR227.out)) hb)
          replace HB := aM (qB bl hb)
          clear hb ho57
          refine hK.out _ _ ⟨bc BK195 0, bc BK195 1, bc BK195 2, bc BK195 3, bc BK195 4, bc BK195 5⟩ (fun hHeld => ?_)
          clear hK K
          refine norm_ (a' := ?_) ?_ ?_
          rotate_left
          ·show Act.put _ (some 41) _ = _
           simp only [Act.put, List.setIfInBounds_toArray, List.set_cons_zero, List.set_cons_succ, i64_w, i32_w]
           rfl
          exact norm_ (by simp only [putAll, Act.put, List.setIfInBounds_toArray, List.set_cons_zero, List.set_cons_succ]) (hCont (v222, v229, v232) _ ⟨hHeld, (by (with_reducible repeat (first | apply Kd.qQ | apply Kd.qR | apply Kd.qS)); exact Kd.qa HO230.out (fun _ hk => ⟨hk.2, ⟨hk.1.2.1, ⟨hk.1.1, ⟨hk.1.2.2.1, hk.1.2.2.2⟩⟩⟩⟩)), (by (with_reducible repeat (first | apply Kd.qQ | apply Kd.qR | apply Kd.qS)); exact Kd.qa HO233.out (fun _ hk => ⟨hk.1.1.2, ⟨hk.1.1.1.2, ⟨hk.1.1.1.1.2, ⟨hk.1.2, hk.2⟩⟩⟩⟩)), (by (with_reducible repeat (first | apply Kd.qQ | apply Kd.qR | apply Kd.qS)); exact Kd.qa HO_13.out (fun _ hk => ⟨hk.1.2, ⟨hk.2, ⟨hk.1.1.1, ⟨hk.1.1.2.1, hk.1.1.2.2⟩⟩⟩⟩)), (by (with_reducible repeat (first | apply Kd.qQ | apply Kd.qR | apply Kd.qS)); exact Kd.qa HO_5.out (fun _ hk => ⟨hk.1.2, ⟨hk.2, ⟨hk.1.1.1, ⟨hk.1.1.2.1, hk.1.1.2.2⟩⟩⟩⟩)), (rB BK187), (rB BK195), bl⟩)
         ·skip
          refine Kd.qtA k51 _ 51 ?hg (N := 41) ?hd (xs := ([(⟨((qC t188 x17_1).f0), ((qC t188 x17_1).f1), ((qC t188 x17_1).f2), ((qC t188 x17_1).f3), ((qC t188 x17_1).f4), ((qC t188 x17_1).f5)⟩ : S51)] : List (S51))) (inner := [.int .i64 ((qC t188 x17_1).f0), .int .i64 ((qC t188 x17_1).f1), .int .i64 ((qC t188 x17_1).f2), .int .i64 ((qC t188 x17_1).f3), .int .i64 ((qC t188 x17_1).f4), .int .i64 ((qC t188 x17_1).f5)]) (ok := fun _ => True) (okp := fun _ => True) ?hr ?hp (fun _ hk => hk) trivial (Below.refl _ _) (Nat.le_refl _) (by simp) ?_; (case hd => rfl); (case hg => rfl); (case hr => exact gS); (case hp => exact (Reps.c6 (show Kd.M k51 _ _ _ (⟨((qC t188 x17_1).f0), ((qC t188 x17_1).f1), ((qC t188 x17_1).f2), ((qC t188 x17_1).f3), ((qC t188 x17_1).f4), ((qC t188 x17_1).f5)⟩ : S51) [.int .i64 ((qC t188 x17_1).f0), .int .i64 ((qC t188 x17_1).f1), .int .i64 ((qC t188 x17_1).f2), .int .i64 ((qC t188 x17_1).f3), .int .i64 ((qC t188 x17_1).f4), .int .i64 ((qC t188 x17_1).f5)] from (qeC _ _ _ (⟨((qC t188 x17_1).f0), ((qC t188 x17_1).f1), ((qC t188 x17_1).f2), ((qC t188 x17_1).f3), ((qC t188 x17_1).f4), ((qC t188 x17_1).f5)⟩ : S51) )) (Reps.none _ _)))
          intro v232 w55 ho56 hb hg_ hnew_
          clear hg_ hnew_
          (first | rw [← Ny231.out] at ho56 | (simp only [Int.reduceToNat] at ho56; rw [← Ny231.out] at ho56))
          have HO233 := aM (Kd.qz (Kd.qaB (Kd.qaB (Kd.qBB (Kd.qBB (Kd.qBB ho56 (Kd.R_lt (rR HO_5))) (Kd.R_lt (rR HO_13))) (Kd.R_lt (rR HO223))) (rB BK187)) (rB BK195)) (qJ bl))
          replace HO_5 := aM (Kd.qPA (rR HO_5) (Kd.qkA ho56) hb)
          replace HO_13 := aM (Kd.qPA (rR HO_13) (Kd.qkA ho56) hb)
          replace HO223 := aM (Kd.qPA (rR HO223) (Kd.qkA ho56) hb)
          replace BK187 := aM (bb BK187 hb)
          replace BK195 := aM (bb BK195 hb)
          replace HR227 := aM (Kd.qV (by repeat (first | (with_reducible exact HR227.out) | (with_reducible refine Kd.qL ?_ _) | (with_reducible refine Kd.qK ?_ _) | (with_reducible refine Kd.qX ?_) | exact HR227.out)) hb)
          replace HB := aM (qB bl hb)
          clear hb ho56
          refine hK.out _ _ ⟨bc BK195 0, bc BK195 1, bc BK195 2, bc BK195 3, bc BK195 4, bc BK195 5⟩ (fun hHeld => ?_)
          clear hK K
          refine norm_ (a' := ?_) ?_ ?_
          rotate_left
          ·show Act.put _ (some 41) _ = _
           simp only [Act.put, List.setIfInBounds_toArray, List.set_cons_zero, List.set_cons_succ, i64_w, i32_w]
           rfl
          refine one_ (i := 4) (N := some 39) #[true, true, true, true, true, true, true, false, false] rfl rfl (qcA HT_.out (by kernel_rfl)) (by decide) (fun K hK => ?_)
          refine Kd.qKA k51 (w0 := w) w.heap.size (by rfl) (.tmp 35) (.tmp 38) 103 51 (.agg #[(.int .i64 0), (.int .i64 0), (.int .i64 0), (.int .i64 0), (.int .i64 0), (.int .i64 0)]) 48 rfl Tryz.underlying103 info51 rfl (by decide) (by omega) v222 y221 y224 _ _ _ (fun k_ => some k_ ≠ (.slice Ao50 x5_1.length co50 : Value).ownBlock ∧ some k_ ≠ (.slice (some ad194) t188.length co6 : Value).ownBlock ∧ some k_ ≠ (v232 : Value).ownBlock ∧ k_ ≠ gb187 ∧ k_ ≠ gb195) (fun _ => False) rfl rfl ?aO ?aR (fun _ _ h => h) (fun _ h => h.elim) ?aF ?aB ?aS ?aL ?_
          (case aR => repeat (first | exact (by repeat (first | (with_reducible exact HR227.out) | (with_reducible refine Kd.qL ?_ _) | (with_reducible refine Kd.qK ?_ _) | (with_reducible refine Kd.qX ?_) | exact HR227.out)) | (with_reducible refine Kd.qL ?_ _) | (with_reducible refine Kd.qK ?_ _) | (with_reducible refine Kd.qX ?_)))
          (case aB => exact bl)
          (case aF => exact (fun k_ hk => ⟨Kd.fresh' (Kd.R_lt (rR HO_5)) k_ hk, Kd.fresh' (Kd.R_lt (rR HO_13)) k_ hk, Kd.fresh' (Kd.R_lt (rR HO233)) k_ hk, Kd.freshB (rB BK187) k_ hk, Kd.freshB (rB BK195) k_ hk⟩))
          (case aO => exact (by (with_reducible repeat (first | apply Kd.qQ | apply Kd.qR | apply Kd.qS)); exact Kd.qa HO223.out (fun _ hk => ⟨hk.1.1.1.1.2, ⟨hk.1.1.1.2, ⟨hk.2, ⟨hk.1.1.2, hk.1.2⟩⟩⟩⟩)))
          (case aS => exact (qJ bl))
          (case aL => have := LMc44.out; omega)
          intro v229 w57 ho hb hg hat
          rw [← Ny228.out] at ho
          have HO230 := aM (ho)
          replace HO_13 := aM (Kd.qUA (ok := (fun k_ => some k_ ≠ (.slice Ao50 x5_1.length co50 : Value).ownBlock ∧ some k_ ≠ (v232 : Value).ownBlock ∧ k_ ≠ gb187 ∧ k_ ≠ gb195)) (by (with_reducible repeat (first | apply Kd.qQ | apply Kd.qR | apply Kd.qS)); exact Kd.qa HO_13.out (fun _ hk => ⟨⟨hk.1.1.1, ⟨hk.2, ⟨hk.1.1.2.1, hk.1.1.2.2⟩⟩⟩, hk.1.2⟩)) hg hat)
          replace BK187 := aM (qn (rB BK187) hg (Kd.qVB HO223.out (fun _ hk => hk.1.1.2)))
          replace BK195 := aM (qn (rB BK195) hg (Kd.qVB HO223.out (fun _ hk => hk.1.2)))
          replace HO233 := aM (Kd.qUA (ok := (fun k_ => some k_ ≠ (.slice Ao50 x5_1.length co50 : Value).ownBlock ∧ some k_ ≠ (.slice (some ad194) t188.length co6 : Value).ownBlock ∧ k_ ≠ gb187 ∧ k_ ≠ gb195)) (by (with_reducible repeat (first | apply Kd.qQ | apply Kd.qR | apply Kd.qS)); exact Kd.qa HO233.out (fun _ hk => ⟨⟨hk.1.1.1.1.2, ⟨hk.1.1.1.2, ⟨hk.1.2, hk.2⟩⟩⟩, hk.1.1.2⟩)) hg hat)
          replace HB := aM (hb)
          replace HR227 := aM ((show Kd.C k51 w57 Ao50 y224.length y224 from by rw [Ny224.out]; exact Kd.qgC (m := (x8_2 : Int).toNat) ((Kd.qO (Kd.qUA (ok := (fun k_ => some k_ ≠ (.slice (some ad194) t188.length co6 : Value).ownBlock ∧ some k_ ≠ (v232 : Value).ownBlock ∧ k_ ≠ gb187 ∧ k_ ≠ gb195)) (by (with_reducible repeat (first | apply Kd.qQ | apply Kd.qR | apply Kd.qS)); exact Kd.qa HO_5.out (fun _ hk => ⟨⟨hk.1.1.1, ⟨hk.2, ⟨hk.1.1.2.1, hk.1.1.2.2⟩⟩⟩, hk.1.2⟩)) hg hat)).2.2) KL52.out))
          replace HO_5 := aM (Kd.qUA (ok := (fun k_ => some k_ ≠ (.slice (some ad194) t188.length co6 : Value).ownBlock ∧ some k_ ≠ (v232 : Value).ownBlock ∧ k_ ≠ gb187 ∧ k_ ≠ gb195)) (by (with_reducible repeat (first | apply Kd.qQ | apply Kd.qR | apply Kd.qS)); exact Kd.qa HO_5.out (fun _ hk => ⟨⟨hk.1.1.1, ⟨hk.2, ⟨hk.1.1.2.1, hk.1.1.2.2⟩⟩⟩, hk.1.2⟩)) hg hat)
          clear HO223
          clear ho hb hg hat
          refine hK.out _ _ ⟨bc BK195 0, bc BK195 1, bc BK195 2, bc BK195 3, bc BK195 4, bc BK195 5⟩ (fun hHeld => ?_)
          clear hK K
          refine norm_ (a' := ?_) ?_ ?_
          rotate_left
          ·show Act.put _ (some 39) _ = _
           simp only [Act.put, List.setIfInBounds_toArray, List.set_cons_zero, List.set_cons_succ, i64_w, i32_w]
           rfl
          exact norm_ (by simp only [putAll, Act.put, List.setIfInBounds_toArray, List.set_cons_zero, List.set_cons_succ]) (hCont (v222, v229, v232) _ ⟨hHeld, (by (with_reducible repeat (first | apply Kd.qQ | apply Kd.qR | apply Kd.qS)); exact Kd.qa HO230.out (fun _ hk => ⟨hk.2.2.1, ⟨hk.2.1, ⟨hk.1, ⟨hk.2.2.2.1, hk.2.2.2.2⟩⟩⟩⟩)), (by (with_reducible repeat (first | apply Kd.qQ | apply Kd.qR | apply Kd.qS)); exact Kd.qa HO233.out (fun _ hk => ⟨hk.2, ⟨hk.1.2.1, ⟨hk.1.1, ⟨hk.1.2.2.1, hk.1.2.2.2⟩⟩⟩⟩)), (by (with_reducible repeat (first | apply Kd.qQ | apply Kd.qR | apply Kd.qS)); exact Kd.qa HO_13.out (fun _ hk => ⟨hk.2, ⟨hk.1.2.1, ⟨hk.1.1, ⟨hk.1.2.2.1, hk.1.2.2.2⟩⟩⟩⟩)), (by (with_reducible repeat (first | apply Kd.qQ | apply Kd.qR | apply Kd.qS)); exact Kd.qa HO_5.out (fun _ hk => ⟨hk.2, ⟨hk.1.2.1, ⟨hk.1.1, ⟨hk.1.2.2.1, hk.1.2.2.2⟩⟩⟩⟩)), (rB BK187), (rB BK195), bl⟩)
        ·skip
         refine Kd.qtA k51 _ 51 ?hg (N := 41) ?hd (xs := ([(⟨((qC t188 x17_1).f0), ((qC t188 x17_1).f1), ((qC t188 x17_1).f2), ((qC t188 x17_1).f3), ((qC t188 x17_1).f4), ((qC t188 x17_1).f5)⟩ : S51)] : List (S51))) (inner := [.int .i64 ((qC t188 x17_1).f0), .int .i64 ((qC t188 x17_1).f1), .int .i64 ((qC t188 x17_1).f2), .int .i64 ((qC t188 x17_1).f3), .int .i64 ((qC t188 x17_1).f4), .int .i64 ((qC t188 x17_1).f5)]) (ok := fun _ => True) (okp := fun _ => True) ?hr ?hp (fun _ hk => hk) trivial (Below.refl _ _) (Nat.le_refl _) (by simp) ?_; (case hd => rfl); (case hg => rfl); (case hr => exact gS); (case hp => exact (Reps.c6 (show Kd.M k51 _ _ _ (⟨((qC t188 x17_1).f0), ((qC t188 x17_1).f1), ((qC t188 x17_1).f2), ((qC t188 x17_1).f3), ((qC t188 x17_1).f4), ((qC t188 x17_1).f5)⟩ : S51) [.int .i64 ((qC t188 x17_1).f0), .int .i64 ((qC t188 x17_1).f1), .int .i64 ((qC t188 x17_1).f2), .int .i64 ((qC t188 x17_1).f3), .int .i64 ((qC t188 x17_1).f4), .int .i64 ((qC t188 x17_1).f5)] from (qeC _ _ _ (⟨((qC t188 x17_1).f0), ((qC t188 x17_1).f1), ((qC t188 x17_1).f2), ((qC t188 x17_1).f3), ((qC t188 x17_1).f4), ((qC t188 x17_1).f5)⟩ : S51) )) (Reps.none _ _)))
         intro v232 w53 ho54 hb hg_ hnew_
         clear hg_ hnew_
         (first | rw [← Ny231.out] at ho54 | (simp only [Int.reduceToNat] at ho54; rw [← Ny231.out] at ho54))
         have HO233 := aM (Kd.qz (Kd.qaB (Kd.qaB (Kd.qBB (Kd.qBB ho54 (Kd.R_lt (rR HO_5))) (Kd.R_lt (rR HO_13))) (rB BK187)) (rB BK195)) (qJ bl))
         replace HO_5 := aM (Kd.qPA (rR HO_5) (Kd.qkA ho54) hb)
         replace HO_13 := aM (Kd.qPA (rR HO_13) (Kd.qkA ho54) hb)
         replace BK187 := aM (bb BK187 hb)
         replace BK195 := aM (bb BK195 hb)
         replace HR227 := aM (Kd.qV (by repeat (first | (with_reducible exact HR227.out) | (with_reducible refine Kd.qL ?_ _) | (with_reducible refine Kd.qK ?_ _) | (with_reducible refine Kd.qX ?_) | exact HR227.out)) hb)
         replace HB := aM (qB bl hb)
         clear hb ho54
         refine hK.out _ _ ⟨bc BK195 0, bc BK195 1, bc BK195 2, bc BK195 3, bc BK195 4, bc BK195 5⟩ (fun hHeld => ?_)
         clear hK K
         refine norm_ (a' := ?_) ?_ ?_
         rotate_left
         ·show Act.put _ (some 41) _ = _
          simp only [Act.put, List.setIfInBounds_toArray, List.set_cons_zero, List.set_cons_succ, i64_w, i32_w]
          rfl
         refine one_ (i := 0) (N := some 35) #[true, true, true, true, false, true, true, false, false] rfl rfl (qcA HT_.out (by kernel_rfl)) (by decide) (fun K hK => ?_)
         refine Kd.qtA k51 _ 51 ?hg (N := 35) ?hd (xs := ([] : List (S51))) (inner := []) (ok := fun _ => True) (okp := fun _ => True) ?hr ?hp (fun _ hk => hk) trivial (Below.refl _ _) (Nat.le_refl _) (by simp) ?_; (case hd => rfl); (case hg => rfl); (case hr => exact gS); (case hp => exact (Reps.none _ _))
         intro v222 w55 ho56 hb hg_ hnew_
         clear hg_ hnew_
         (first | rw [← Ny221.out] at ho56 | (simp only [Int.reduceToNat] at ho56; rw [← Ny221.out] at ho56))
         have HO223 := aM (Kd.qz (Kd.qaB (Kd.qaB (Kd.qBB (Kd.qBB (Kd.qBB ho56 (Kd.R_lt (rR HO_5))) (Kd.R_lt (rR HO_13))) (Kd.R_lt (rR HO233))) (rB BK187)) (rB BK195)) (qJ bl))
         replace HO_5 := aM (Kd.qPA (rR HO_5) (Kd.qkA ho56) hb)
         replace HO_13 := aM (Kd.qPA (rR HO_13) (Kd.qkA ho56) hb)
         replace HO233 := aM (Kd.qPA (rR HO233) (Kd.qkA ho56) hb)
         replace BK187 := aM (bb BK187 hb)
         replace BK195 := aM (bb BK195 hb)
         replace HR227 := aM (Kd.qV (by repeat (first | (with_reducible exact HR227.out) | (with_reducible refine Kd.qL ?_ _) | (with_reducible refine Kd.qK ?_ _) | (with_reducible refine Kd.qX ?_) | exact HR227.out)) hb)
         replace HB := aM (qB bl hb)
         clear hb ho56
         refine hK.out _ _ ⟨bc BK195 0, bc BK195 1, bc BK195 2, bc BK195 3, bc BK195 4, bc BK195 5⟩ (fun hHeld => ?_)
         clear hK K
         refine norm_ (a' := ?_) ?_ ?_
         rotate_left
         ·show Act.put _ (some 35) _ = _
          simp only [Act.put, List.setIfInBounds_toArray, List.set_cons_zero, List.set_cons_succ, i64_w, i32_w]
          rfl
         refine one_ (i := 4) (N := some 39) #[true, true, true, true, true, true, true, false, false] rfl rfl (qcA HT_.out (by kernel_rfl)) (by decide) (fun K hK => ?_)
         refine Kd.qKA k51 (w0 := w) w.heap.size (by rfl) (.tmp 35) (.tmp 38) 103 51 (.agg #[(.int .i64 0), (.int .i64 0), (.int .i64 0), (.int .i64 0), (.int .i64 0), (.int .i64 0)]) 48 rfl Tryz.underlying103 info51 rfl (by decide) (by omega) v222 y221 y224 _ _ _ (fun k_ => some k_ ≠ (.slice Ao50 x5_1.length co50 : Value).ownBlock ∧ some k_ ≠ (.slice (some ad194) t188.length co6 : Value).ownBlock ∧ some k_ ≠ (v232 : Value).ownBlock ∧ k_ ≠ gb187 ∧ k_ ≠ gb195) (fun _ => False) rfl rfl ?aO ?aR (fun _ _ h => h) (fun _ h => h.elim) ?aF ?aB ?aS ?aL ?_
         (case aR => repeat (first | exact (by repeat (first | (with_reducible exact HR227.out) | (with_reducible refine Kd.qL ?_ _) | (with_reducible refine Kd.qK ?_ _) | (with_reducible refine Kd.qX ?_) | exact HR227.out)) | (with_reducible refine Kd.qL ?_ _) | (with_reducible refine Kd.qK ?_ _) | (with_reducible refine Kd.qX ?_)))
         (case aB => exact bl)
         (case aF => exact (fun k_ hk => ⟨Kd.fresh' (Kd.R_lt (rR HO_5)) k_ hk, Kd.fresh' (Kd.R_lt (rR HO_13)) k_ hk, Kd.fresh' (Kd.R_lt (rR HO233)) k_ hk, Kd.freshB (rB BK187) k_ hk, Kd.freshB (rB BK195) k_ hk⟩))
         (case aO => exact (by (with_reducible repeat (first | apply Kd.qQ | apply Kd.qR | apply Kd.qS)); exact Kd.qa HO223.out (fun _ hk => ⟨hk.1.1.1.1.2, ⟨hk.1.1.1.2, ⟨hk.1.1.2, ⟨hk.1.2, hk.2⟩⟩⟩⟩)))
         (case aS => exact (qJ bl))
         (case aL => have := LMc44.out; omega)
         intro v229 w57 ho hb hg hat
         rw [← Ny228.out] at ho
         have HO230 := aM (ho)
         replace HO_13 := aM (Kd.qUA (ok := (fun k_ => some k_ ≠ (.slice Ao50 x5_1.length co50 : Value).ownBlock ∧ some k_ ≠ (v232 : Value).ownBlock ∧ k_ ≠ gb187 ∧ k_ ≠ gb195)) (by (with_reducible repeat (first | apply Kd.qQ | apply Kd.qR | apply Kd.qS)); exact Kd.qa HO_13.out (fun _ hk => ⟨⟨hk.1.1.1, ⟨hk.1.2, ⟨hk.1.1.2.1, hk.1.1.2.2⟩⟩⟩, hk.2⟩)) hg hat)
         replace BK187 := aM (qn (rB BK187) hg (Kd.qVB HO223.out (fun _ hk => hk.1.2)))
         replace BK195 := aM (qn (rB BK195) hg (Kd.qVB HO223.out (fun _ hk => hk.2)))
         replace HO233 := aM (Kd.qUA (ok := (fun k_ => some k_ ≠ (.slice Ao50 x5_1.length co50 : Value).ownBlock ∧ some k_ ≠ (.slice (some ad194) t188.length co6 : Value).ownBlock ∧ k_ ≠ gb187 ∧ k_ ≠ gb195)) (by (with_reducible repeat (first | apply Kd.qQ | apply Kd.qR | apply Kd.qS)); exact Kd.qa HO233.out (fun _ hk => ⟨⟨hk.1.1.1.1.2, ⟨hk.1.1.1.2, ⟨hk.1.1.2, hk.1.2⟩⟩⟩, hk.2⟩)) hg hat)
         replace HB := aM (hb)
         replace HR227 := aM ((show Kd.C k51 w57 Ao50 y224.length y224 from by rw [Ny224.out]; exact Kd.qgC (m := (x8_2 : Int).toNat) ((Kd.qO (Kd.qUA (ok := (fun k_ => some k_ ≠ (.slice (some ad194) t188.length co6 : Value).ownBlock ∧ some k_ ≠ (v232 : Value).ownBlock ∧ k_ ≠ gb187 ∧ k_ ≠ gb195)) (by (with_reducible repeat (first | apply Kd.qQ | apply Kd.qR | apply Kd.qS)); exact Kd.qa HO_5.out (fun _ hk => ⟨⟨hk.1.1.1, ⟨hk.1.2, ⟨hk.1.1.2.1, hk.1.1.2.2⟩⟩⟩, hk.2⟩)) hg hat)).2.2) KL52.out))
         replace HO_5 := aM (Kd.qUA (ok := (fun k_ => some k_ ≠ (.slice (some ad194) t188.length co6 : Value).ownBlock ∧ some k_ ≠ (v232 : Value).ownBlock ∧ k_ ≠ gb187 ∧ k_ ≠ gb195)) (by (with_reducible repeat (first | apply Kd.qQ | apply Kd.qR | apply Kd.qS)); exact Kd.qa HO_5.out (fun _ hk => ⟨⟨hk.1.1.1, ⟨hk.1.2, ⟨hk.1.1.2.1, hk.1.1.2.2⟩⟩⟩, hk.2⟩)) hg hat)
         clear HO223
         clear ho hb hg hat
         refine hK.out _ _ ⟨bc BK195 0, bc BK195 1, bc BK195 2, bc BK195 3, bc BK195 4, bc BK195 5⟩ (fun hHeld => ?_)
         clear hK K
         refine norm_ (a' := ?_) ?_ ?_
         rotate_left
         ·show Act.put _ (some 39) _ = _
          simp only [Act.put, List.setIfInBounds_toArray, List.set_cons_zero, List.set_cons_succ, i64_w, i32_w]
          rfl
         exact norm_ (by simp only [putAll, Act.put, List.setIfInBounds_toArray, List.set_cons_zero, List.set_cons_succ]) (hCont (v222, v229, v232) _ ⟨hHeld, (by (with_reducible repeat (first | apply Kd.qQ | apply Kd.qR | apply Kd.qS)); exact Kd.qa HO230.out (fun _ hk => ⟨hk.2.2.1, ⟨hk.2.1, ⟨hk.1, ⟨hk.2.2.2.1, hk.2.2.2.2⟩⟩⟩⟩)), (by (with_reducible repeat (first | apply Kd.qQ | apply Kd.qR | apply Kd.qS)); exact Kd.qa HO233.out (fun _ hk => ⟨hk.2, ⟨hk.1.2.1, ⟨hk.1.1, ⟨hk.1.2.2.1, hk.1.2.2.2⟩⟩⟩⟩)), (by (with_reducible repeat (first | apply Kd.qQ | apply Kd.qR | apply Kd.qS)); exact Kd.qa HO_13.out (fun _ hk => ⟨hk.2, ⟨hk.1.2.1, ⟨hk.1.1, ⟨hk.1.2.2.1, hk.1.2.2.2⟩⟩⟩⟩)), (by (with_reducible repeat (first | apply Kd.qQ | apply Kd.qR | apply Kd.qS)); exact Kd.qa HO_5.out (fun _ hk => ⟨hk.2, ⟨hk.1.2.1, ⟨hk.1.1, ⟨hk.1.2.2.1, hk.1.2.2.2⟩⟩⟩⟩)), (rB BK187), (rB BK195), bl⟩)
       rintro ⟨v222, v229, v232⟩ w58 ⟨hS_, h0_, h1_, h2_, h3_, h4_, h5_, h6_⟩
       have n0_ : Aside0 (Kd.R k51 51 w58 w.heap.size (fun k_ => some k_ ≠ (v232 : Value).ownBlock ∧ some k_ ≠ (.slice (some ad194) t188.length co6 : Value).ownBlock ∧ some k_ ≠ (.slice Ao50 x5_1.length co50 : Value).ownBlock ∧ k_ ≠ gb187 ∧ k_ ≠ gb195) v229 y228) := ⟨h0_⟩
       have n1_ : Aside0 (Kd.R k51 51 w58 w.heap.size (fun k_ => some k_ ≠ (v229 : Value).ownBlock ∧ some k_ ≠ (.slice (some ad194) t188.length co6 : Value).ownBlock ∧ some k_ ≠ (.slice Ao50 x5_1.length co50 : Value).ownBlock ∧ k_ ≠ gb187 ∧ k_ ≠ gb195) v232 y231) := ⟨h1_⟩
       have n2_ : Aside0 (Kd.R k51 51 w58 w.heap.size (fun k_ => some k_ ≠ (v229 : Value).ownBlock ∧ some k_ ≠ (v232 : Value).ownBlock ∧ some k_ ≠ (.slice Ao50 x5_1.length co50 : Value).ownBlock ∧ k_ ≠ gb187 ∧ k_ ≠ gb195) (.slice (some ad194) t188.length co6) t188) := ⟨h2_⟩
       have n3_ : Aside0 (Kd.R k51 51 w58 w.heap.size (fun k_ => some k_ ≠ (v229 : Value).ownBlock ∧ some k_ ≠ (v232 : Value).ownBlock ∧ some k_ ≠ (.slice (some ad194) t188.length co6 : Value).ownBlock ∧ k_ ≠ gb187 ∧ k_ ≠ gb195) (.slice Ao50 x5_1.length co50) x5_1) := ⟨h3_⟩
       have n4_ : Aside0 (w58.heap[gb187]? = some (.cells #[.int .i64 a0_0, .int .i64 a0_1, .int .i64 a0_2, .int .i64 a0_3, .int .i64 a0_4, .int .i64 a0_5] 51 (0, 0))) := ⟨h4_⟩
       have n5_ : Aside0 (w58.heap[gb195]? = some (.cells #[.int .i64 ((qC t188 x17_1).f0), .int .i64 ((qC t188 x17_1).f1), .int .i64 ((qC t188 x17_1).f2), .int .i64 ((qC t188 x17_1).f3), .int .i64 ((qC t188 x17_1).f4), .int .i64 ((qC t188 x17_1).f5)] 51 (0, 0))) := ⟨h5_⟩
       have n6_ : Aside0 (Below w.heap.size w w58) := ⟨h6_⟩
       clear HO_5 HO_13 BK187 BK195 HB h0_ h1_ h2_ h3_ h4_ h5_ h6_
       have HO230 := n0_
       have HO233 := n1_
       have HO_13 := n2_
       have HO_5 := n3_
       have BK187 := n4_
       have BK195 := n5_
       have HB := n6_
       clear n0_ n1_ n2_ n3_ n4_ n5_ n6_
       have hHeld : w58.cell? ⟨gb195, 0, none⟩ = some (.int .i64 ((qC t188 x17_1).f0)) ∧ w58.cell? ⟨gb195, 1, none⟩ = some (.int .i64 ((qC t188 x17_1).f1)) ∧ w58.cell? ⟨gb195, 2, none⟩ = some (.int .i64 ((qC t188 x17_1).f2)) ∧ w58.cell? ⟨gb195, 3, none⟩ = some (.int .i64 ((qC t188 x17_1).f3)) ∧ w58.cell? ⟨gb195, 4, none⟩ = some (.int .i64 ((qC t188 x17_1).f4)) ∧ w58.cell? ⟨gb195, 5, none⟩ = some (.int .i64 ((qC t188 x17_1).f5)) := hS_
       obtain ⟨Ao60, co60, eo60⟩ := Kd.qDA HO233.out
       (first | subst eo60 | (injection eo60 with f1_ f2_ f3_; have f4_ := f1_.symm; have f5_ := f3_.symm; clear f1_ f2_ f3_; subst f4_; subst f5_))
       refine norm_ (a' := ?_) ?_ ?_
       rotate_left
       ·simp only [putAll, Act.put, List.setIfInBounds_toArray, List.set_cons_zero, List.set_cons_succ]
        rfl
       refine one_ (i := 7) (N := some 42) #[true, true, true, true, true, true, true, true, false] rfl rfl (qcA HT_.out (by kernel_rfl)) (by decide) (fun K hK => ?_)
       refine Kd.qKA k51 (w0 := w) w.heap.size (by rfl) (.tmp 39) (.tmp 41) 103 51 (.agg #[(.int .i64 0), (.int .i64 0), (.int .i64 0), (.int .i64 0), (.int .i64 0), (.int .i64 0)]) 48 rfl Tryz.underlying103 info51 rfl (by decide) (by omega) v229 y228 y231 _ _ _ (fun k_ => some k_ ≠ (.slice Ao50 x5_1.length co50 : Value).ownBlock ∧ some k_ ≠ (.slice (some ad194) t188.length co6 : Value).ownBlock ∧ some k_ ≠ (.slice Ao60 y231.length co60 : Value).ownBlock ∧ k_ ≠ gb187 ∧ k_ ≠ gb195) (fun _ => False) rfl rfl ?aO ?aR (fun _ _ h => h) (fun _ h => h.elim) ?aF ?aB ?aS ?aL ?_
       (case aR => repeat (first | exact (Kd.qO HO233.out).2.2 | (with_reducible refine Kd.qL ?_ _) | (with_reducible refine Kd.qK ?_ _) | (with_reducible refine Kd.qX ?_)))
       (case aB => exact bl)
       (case aF => exact (fun k_ hk => ⟨Kd.fresh' (Kd.R_lt (rR HO_5)) k_ hk, Kd.fresh' (Kd.R_lt (rR HO_13)) k_ hk, Kd.fresh' (Kd.R_lt (rR HO233)) k_ hk, Kd.freshB (rB BK187) k_ hk, Kd.freshB (rB BK195) k_ hk⟩))
       (case aO => exact (by (with_reducible repeat (first | apply Kd.qQ | apply Kd.qR | apply Kd.qS)); exact Kd.qa HO230.out (fun _ hk => ⟨hk.2.2.1, ⟨hk.2.1, ⟨hk.1, ⟨hk.2.2.2.1, hk.2.2.2.2⟩⟩⟩⟩)))
       (case aS => exact (qJ bl))
       (case aL => have := LMc45.out; omega)
       intro v235 w59 ho hb hg hat
       rw [← Ny234.out] at ho
       have HO236 := aM (ho)
       replace HO_5 := aM (Kd.qUA (ok := (fun k_ => some k_ ≠ (.slice (some ad194) t188.length co6 : Value).ownBlock ∧ some k_ ≠ (.slice Ao60 y231.length co60 : Value).ownBlock ∧ k_ ≠ gb187 ∧ k_ ≠ gb195)) (by (with_reducible repeat (first | apply Kd.qQ | apply Kd.qR | apply Kd.qS)); exact Kd.qa HO_5.out (fun _ hk => ⟨⟨hk.2.2.1, ⟨hk.2.1, ⟨hk.2.2.2.1, hk.2.2.2.2⟩⟩⟩, hk.1⟩)) hg hat)
       replace HO_13 := aM (Kd.qUA (ok := (fun k_ => some k_ ≠ (.slice Ao50 x5_1.length co50 : Value).ownBlock ∧ some k_ ≠ (.slice Ao60 y231.length co60 : Value).ownBlock ∧ k_ ≠ gb187 ∧ k_ ≠ gb195)) (by (with_reducible repeat (first | apply Kd.qQ | apply Kd.qR | apply Kd.qS)); exact Kd.qa HO_13.out (fun _ hk => ⟨⟨hk.2.2.1, ⟨hk.2.1, ⟨hk.2.2.2.1, hk.2.2.2.2⟩⟩⟩, hk.1⟩)) hg hat)
       replace BK187 := aM (qn (rB BK187) hg (Kd.qVB HO230.out (fun _ hk => hk.2.2.2.1)))
       replace BK195 := aM (qn (rB BK195) hg (Kd.qVB HO230.out (fun _ hk => hk.2.2.2.2)))
       replace HO233 := aM (Kd.qUA (ok := (fun k_ => some k_ ≠ (.slice Ao50 x5_1.length co50 : Value).ownBlock ∧ some k_ ≠ (.slice (some ad194) t188.length co6 : Value).ownBlock ∧ k_ ≠ gb187 ∧ k_ ≠ gb195)) (by (with_reducible repeat (first | apply Kd.qQ | apply Kd.qR | apply Kd.qS)); exact Kd.qa HO233.out (fun _ hk => ⟨⟨hk.2.2.1, ⟨hk.2.1, ⟨hk.2.2.2.1, hk.2.2.2.2⟩⟩⟩, hk.1⟩)) hg hat)
       replace HB := aM (hb)
       clear HO230
       clear ho hb hg hat
       refine hK.out _ _ ⟨bc BK195 0, bc BK195 1, bc BK195 2, bc BK195 3, bc BK195 4, bc BK195 5⟩ (fun hHeld => ?_)
       clear hK K
       refine norm_ (a' := ?_) ?_ ?_
       rotate_left
       ·show Act.put _ (some 42) _ = _
        simp only [Act.put, List.setIfInBounds_toArray, List.set_cons_zero, List.set_cons_succ, i64_w, i32_w]
        rfl
       refine pS (i := 8) (N := some 9) #[true, true, true, true, true, true, true, true, true] HT_ ?_
       refine done_ (qvA HT_.out (by kernel_rfl)) ?_
       have q61 : (x8_2 : Int) ≤ ((x5_1.length : Int) : Int) := of_decide_eq_true am
       obtain ⟨i061, hi061, _, hsz61, _⟩ := info_parts info51
       have hroom61 : x5_1.length ≤ co50 := (Kd.qO HO_5.out).2.1
       have hC61 : Kd.C k51 _ Ao50 x5_1.length x5_1 := (Kd.qO HO_5.out).2.2
       have q061 : (0 : Int) ≤ (x8_2 : Int) := of_decide_eq_true am
       have hcut61 := cut_from (P := Tryz.prog) 103 51 .i64 Tryz.underlying103 hi061 6 hsz61 Ao50 x5_1.length co50 x8_2 q061 q61
       have hr61 := Kd.qrE (m := (x8_2 : Int).toNat) (c := co50) hC61 (by omega) hroom61
       obtain ⟨A61, hA61⟩ : ∃ A1, A1 = (if co50 = (x8_2 : Int).toNat then Ao50 else (Ao50 : Option Addr).map (·.add ((x8_2 : Int).toNat * 6))) := ⟨_, rfl⟩
       obtain ⟨c61, hc61⟩ : ∃ c1, c1 = co50 - (x8_2 : Int).toNat := ⟨_, rfl⟩
       have hy61 : y237.length = x5_1.length - (x8_2 : Int).toNat := (by rw [Ny237.out, List.length_drop] <;> omega)
       rw [show (x5_1).drop (x8_2 : Int).toNat = y237 from Ny237.out.symm] at hr61
       replace hr61 : Kd.C k51 _ A61 y237.length y237 := (by rw [hA61]; exact hr61)
       rw [← hy61, ← hA61, ← hc61] at hcut61
       have HR240 := aM hr61
       have HC240 := aM (show y237.length ≤ c61 from by rw [hy61, hc61]; exact Nat.sub_le_sub_right hroom61 _)
       clear hr61 hC61 hroom61 hi061 hsz61 hc61
       have KY61 := aM hy61
       have KA61 := aM hA61
       clear hy61 hA61
       have KL61 := aM (show (x8_2 : Int).toNat ≤ x5_1.length from by omega)
       replace q61 := eq_true q61
       try go_wp2_with (first | ((with_reducible refine qEB (b := .append) (xs := #[.tmp 43, .tmp 46]) rfl ?_); at_builtin; refine Kd.qFC k51 (w0 := w) w.heap.size rfl (.tmp 43) (.tmp 46) 103 51 (.agg #[(.int .i64 0), (.int .i64 0), (.int .i64 0), (.int .i64 0), (.int .i64 0), (.int .i64 0)]) 48 rfl Tryz.underlying103 info51 rfl (by decide) (by omega) v235 y234 y237 _ _ _ (fun k_ => some k_ ≠ (.slice Ao50 x5_1.length co50 : Value).ownBlock ∧ some k_ ≠ (.slice (some ad194) t188.length co6 : Value).ownBlock ∧ some k_ ≠ (.slice Ao60 y231.length co60 : Value).ownBlock ∧ k_ ≠ gb187 ∧ k_ ≠ gb195) (fun _ => False) rfl rfl ?aO ?aR (fun _ _ h => h) (fun _ h => h.elim) ?aF ?aB ?aS ?aL ?_; (case aR => repeat (first | exact (by repeat (first | (with_reducible exact HR240.out) | (with_reducible refine Kd.qL ?_ _) | (with_reducible refine Kd.qK ?_ _) | (with_reducible refine Kd.qX ?_) | exact HR240.out)) | (with_reducible refine Kd.qL ?_ _) | (with_reducible refine Kd.qK ?_ _) | (with_reducible refine Kd.qX ?_))); (case aB => exact bl); (case aF => exact (fun k_ hk => ⟨Kd.fresh' (Kd.R_lt (rR HO_5)) k_ hk, Kd.fresh' (Kd.R_lt (rR HO_13)) k_ hk, Kd.fresh' (Kd.R_lt (rR HO233)) k_ hk, Kd.freshB (rB BK187) k_ hk, Kd.freshB (rB BK195) k_ hk⟩)); (case aO => exact (rR HO236)); (case aS => exact (qJ bl)); (case aL => have := LMc48.out; omega); intro v242 w62 ho hb hg hat; rw [← Ny241.out] at ho; have HO243 := aM (ho); replace HO_13 := aM (Kd.qUA (ok := (fun k_ => some k_ ≠ (.slice Ao50 x5_1.length co50 : Value).ownBlock ∧ some k_ ≠ (.slice Ao60 y231.length co60 : Value).ownBlock ∧ k_ ≠ gb187 ∧ k_ ≠ gb195)) (rR HO_13) hg hat); replace BK187 := aM (qn (rB BK187) hg (Kd.qVB HO236.out (fun _ hk => hk.2.2.2.1))); replace BK195 := aM (qn (rB BK195) hg (Kd.qVB HO236.out (fun _ hk => hk.2.2.2.2))); replace HO233 := aM (Kd.qUA (ok := (fun k_ => some k_ ≠ (.slice Ao50 x5_1.length co50 : Value).ownBlock ∧ some k_ ≠ (.slice (some ad194) t188.length co6 : Value).ownBlock ∧ k_ ≠ gb187 ∧ k_ ≠ gb195)) (rR HO233) hg hat); replace HB := aM (hb); replace HR240 := aM ((show Kd.C k51 w62 A61 y237.length y237 from by rw [Ny237.out, KA61.out]; exact Kd.qrE (m := (x8_2 : Int).toNat) (c := co50) ((Kd.qO (Kd.qUA (ok := (fun k_ => some k_ ≠ (.slice (some ad194) t188.length co6 : Value).ownBlock ∧ some k_ ≠ (.slice Ao60 y231.length co60 : Value).ownBlock ∧ k_ ≠ gb187 ∧ k_ ≠ gb195)) (rR HO_5) hg hat)).2.2) KL61.out ((Kd.qO (Kd.qUA (ok := (fun k_ => some k_ ≠ (.slice (some ad194) t188.length co6 : Value).ownBlock ∧ some k_ ≠ (.slice Ao60 y231.length co60 : Value).ownBlock ∧ k_ ≠ gb187 ∧ k_ ≠ gb195)) (rR HO_5) hg hat)).2.1))); replace HO_5 := aM (Kd.qUA (ok := (fun k_ => some k_ ≠ (.slice (some ad194) t188.length co6 : Value).ownBlock ∧ some k_ ≠ (.slice Ao60 y231.length co60 : Value).ownBlock ∧ k_ ≠ gb187 ∧ k_ ≠ gb195)) (rR HO_5) hg hat); clear HO236; clear ho hb hg hat))
       go_roundg k2
       case measure => have := HK1.out; have := HK2.out; omega
       case rel => exact ⟨(y241), (wrap64 (x17_1 + 1)), sD, H', ⟨by have := HK1.out; have := HK2.out; omega⟩, ⟨by (with_reducible repeat (first | apply Kd.qQ | apply Kd.qR | apply Kd.qS)); exact Kd.qa HO243.out (fun _ hk => ⟨hk.2.1, hk.2.2.2.1⟩)⟩, ⟨by (with_reducible repeat (first | apply Kd.qQ | apply Kd.qR | apply Kd.qS)); exact Kd.qa HO_13.out (fun _ hk => ⟨hk.2, hk.1.2.2.1⟩)⟩, ⟨rB BK187⟩, ⟨bl⟩⟩
   ·rw [if_neg c7] at H
    have c7b0 := decide_eq_false c7
    clear c7
    obtain rfl := Option.some.inj H
    go_wp2
    go_ret
    exact ⟨_, sR, by (with_reducible repeat (first | apply Kd.qQ | apply Kd.qR | apply Kd.qS)); exact Kd.qa HO_5.out (fun _ hk => trivial), bl⟩
def qSA.l0 : Nat → Int → List Int → Int → Int → Option (Int)
 | 0, _, _, _, _ => none
 | k + 1, x5, x18, x19, x20 => if x20 < x19 then (if 0 ≤ x20 then (if x20 < (x18.length : Int) then (qSA.l0 k (wrap64 ((wrap64 (10 * x5)) + (rd x18 x20))) x18 x19 (wrap64 (x20 + 1))) else (none)) else (none)) else (some x5)
def qSA.f (k : Nat) (a0_0 : Int) (a0_1 : Int) (l0_2 : List Int) (a1_0 : Int) (a1_1 : Int) (a1_2 : Int) (a1_3 : Int) (a1_4 : Int) (a1_5 : Int) (a1_6 : Int) (a1_7 : Int) : Option (Int) := (qQA.f a1_2 a1_3 a1_4 a1_5 a1_6 a1_7).bind fun t246 => (qSA.l0 k (wrap64 ((wrap64 (a1_1 * a0_0)) + a1_0)) t246 (t246.length : Int) 0)
set_option maxHeartbeats 8000000 in
set_option maxRecDepth 100000 in
theorem qSA.calls (k : Nat) (a0_0 : Int) (a0_1 : Int) (A0_2 : Option Addr) (c0_2 : Nat) (l0_2 : List Int) (a1_0 : Int) (a1_1 : Int) (a1_2 : Int) (a1_3 : Int) (a1_4 : Int) (a1_5 : Int) (a1_6 : Int) (a1_7 : Int) (r : Int) (w : World) (hr0_2 : Kd.C (Kd.int .u8) w A0_2 l0_2.length l0_2) (hc0_2 : l0_2.length ≤ c0_2) (h : qSA.f k a0_0 a0_1 l0_2 a1_0 a1_1 a1_2 a1_3 a1_4 a1_5 a1_6 a1_7 = some r) :
  Calls Tryz.prog 63 #[.agg #[.int .i64 a0_0, .int .i64 a0_1, .slice A0_2 l0_2.length c0_2], .agg #[.int .i64 a1_0, .int .i64 a1_1, .int .i64 a1_2, .int .i64 a1_3, .int .i64 a1_4, .int .i64 a1_5, .int .i64 a1_6, .int .i64 a1_7]] w fun e w' => e = .returned (.int .i64 r) ∧ Below w.heap.size w w' := by
 have hu40 := Tryz.underlying40
 have hu53 := Tryz.underlying53
 have hu51 := Tryz.underlying51
 have HR0_2 := aM hr0_2
 have HC0_2 := aM hc0_2
 clear hr0_2 hc0_2
 have HB := aM (Below.refl w.heap.size w)
 have H : ((qQA.f a1_2 a1_3 a1_4 a1_5 a1_6 a1_7).bind fun t246 => (qSA.l0 k (wrap64 ((wrap64 (a1_1 * a0_0)) + a1_0)) t246 (t246.length : Int) 0)) = some r := h
 clear h
 replace H := bO H
 obtain ⟨t246, A3, H⟩ := H
 have H' := aM H
 clear H
 go_enter Tryz.func63, Tryz.ntmps63
 go_wp2_with (first | ((with_reducible refine qH (N := 2) rfl ?_); refine bE (N := 2) (cs := #[.int .i64 a0_0, .int .i64 a0_1, .slice A0_2 l0_2.length c0_2]) (t := 40) ?_; intro gb244 hg w4 hbox hb; have BK244 := aM (hbox); have GW244 := aM ((gg hg)); have GE244 := aM ((gg hg)); replace HB := aM (qB bl hb); clear hb hbox hg) | ((with_reducible refine qH (N := 3) rfl ?_); refine bE (N := 3) (cs := #[.int .i64 a1_0, .int .i64 a1_1, .int .i64 a1_2, .int .i64 a1_3, .int .i64 a1_4, .int .i64 a1_5, .int .i64 a1_6, .int .i64 a1_7]) (t := 53) ?_; intro gb245 hg w5 hbox hb; have BK245 := aM (hbox); have GW245 := aM ((gg hg)); have GE245 := aM ((gg hg)); have NB244_245 := aM ((nl BK244 hg)); have NB245_244 := aM ((nr BK244 hg)); replace BK244 := aM (bb BK244 hb); replace HB := aM (qB bl hb); clear hb hbox hg; have hnb6 := NB245_244.out; have hnc6 := NB244_245.out; (refine cb8 BK245 ?_; intro hcz7_0 hcz7_1 hcz7_2 hcz7_3 hcz7_4 hcz7_5 hcz7_6 hcz7_7); (refine cz8 BK245 ?_; intro hfz7_0 hfz7_1 hfz7_2 hfz7_3 hfz7_4 hfz7_5 hfz7_6 hfz7_7); (refine cb3 BK244 ?_; intro hcz8_0 hcz8_1 hcz8_2); (refine cz3 BK244 ?_; intro hfz8_0 hfz8_1 hfz8_2)) | ((with_reducible refine qE (f := 78) rfl ?_); refine qm (some 18) rfl rfl Tryz.func78 (by kernel_rfl) rfl #[.agg #[.int .i64 a1_2, .int .i64 a1_3, .int .i64 a1_4, .int .i64 a1_5, .int .i64 a1_6, .int .i64 a1_7]] rfl gA ?_; (with_reducible refine (qQA.calls a1_2 a1_3 a1_4 a1_5 a1_6 a1_7 t246 _ A3.out).mono ?_); rintro e w9 ⟨v247, rfl, ho0, hb⟩; refine ⟨_, rfl, ?_⟩; have HO248 := aM (Kd.qz ho0 (qJ bl)); replace BK244 := aM (bb BK244 hb); replace BK245 := aM (bb BK245 hb); replace HB := aM (qB bl hb); (try clear hb); (try clear hb2); (try clear hk); (try clear hi); (try clear ho0); obtain ⟨Ao10, co10, eo10⟩ := Kd.qDA HO248.out; subst eo10))
 go_loopg [5, 20] k (fun kq v5 v20 w' => ∃ (x5_1 : Int) (x20_1 : Int), v5 = .int .i64 x5_1 ∧ v20 = .int .i64 x20_1 ∧ Aside0 (qSA.l0 kq x5_1 t246 (t246.length : Int) x20_1 = some r) ∧ Aside0 (kq ≤ k) ∧ Aside0 (Kd.R (Kd.int .i64) 3 w' w.heap.size (fun _ => True) (.slice Ao10 t246.length co10) t246) ∧ Aside0 (w'.heap[gb244]? = some (.cells #[.int .i64 a0_0, .int .i64 a0_1, (.slice A0_2 l0_2.length c0_2)] 40 (0, 0))) ∧ Aside0 (w'.heap[gb245]? = some (.cells #[.int .i64 a1_0, .int .i64 a1_1, .int .i64 a1_2, .int .i64 a1_3, .int .i64 a1_4, .int .i64 a1_5, .int .i64 a1_6, .int .i64 a1_7] 53 (0, 0))) ∧ Aside0 (Below w.heap.size w w'))
 case atStart => exact ⟨(wrap64 ((wrap64 (a1_1 * a0_0)) + a1_0)), (0), sD, sD, H', ⟨Nat.le_refl _⟩, ⟨rR HO248⟩, ⟨rB BK244⟩, ⟨rB BK245⟩, ⟨bl⟩⟩
 case round =>
  clear H'; (try clear p2); (try clear c6); (try clear p6); (try clear c7); (try clear hcz7_0 hcz7_1 hcz7_2 hcz7_3 hcz7_4 hcz7_5 hcz7_6 hcz7_7); (try clear hcz8_0 hcz8_1 hcz8_2); (try clear hfz7_0 hfz7_1 hfz7_2 hfz7_3 hfz7_4 hfz7_5 hfz7_6 hfz7_7); (try clear hfz8_0 hfz8_1 hfz8_2)
  obtain ⟨x5_1, x20_1, rfl, rfl, HA, HK1, HO_18, BK244, BK245, HB⟩ := hrel
  cases gk with
  | zero => exact absurd HA.out (by simp [qSA.l0])
  | succ k1 =>
   have H := HA.out
   clear HA
   simp only [qSA.l0] at H
   by_cases c11 : x20_1 < (t246.length : Int)
   ·rw [if_pos c11] at H
    have c11b0 := decide_eq_true c11
    clear c11
    by_cases c12 : 0 ≤ x20_1
    case neg => exact nN c12 H
    rw [if_pos c12] at H
    have c12b0 := decide_eq_true c12
    clear c12
    by_cases c13 : x20_1 < (t246.length : Int)
    case neg => exact nN c13 H
    rw [if_pos c13] at H
    have c13b0 := decide_eq_true c13
    clear c13
    have H' := aM H
    clear H
    have p249 : 0 ≤ (x20_1 : Int) := of_decide_eq_true am
    have q249 : x20_1 < (t246.length : Int) := of_decide_eq_true am
    obtain ⟨ad249, e249, hx249_0⟩ := Kd.qHB (Kd.qO HO_18.out).2.2 x20_1 p249 q249
    cases e249
    replace p249 := eq_true p249
    replace q249 := eq_true q249
    go_wp2
    go_roundg k1
    case measure => have := HK1.out; omega
    case rel => exact ⟨(wrap64 ((wrap64 (10 * x5_1)) + (rd t246 x20_1))), (wrap64 (x20_1 + 1)), sD, sD, H', ⟨by have := HK1.out; omega⟩, ⟨rR HO_18⟩, ⟨rB BK244⟩, ⟨rB BK245⟩, ⟨bl⟩⟩
   ·rw [if_neg c11] at H
    have c11b0 := decide_eq_false c11
    clear c11
    obtain rfl := Option.some.inj H
    go_wp2
    go_ret
    exact ⟨sR, bl⟩
def qZA.l0 : Nat → List Int → List (S51) → Int → Int → Int → Int → List Int → Option (List Int)
 | 0, _, _, _, _, _, _, _ => none
 | k + 1, x5, x10, x11, x12, x251000, x251001, x251002 => if x12 < x11 then (if 0 ≤ x12 then (if x12 < (x10.length : Int) then ((qSA.f k x251000 x251001 x251002 0 0 ((qC x10 x12).f0) ((qC x10 x12).f1) ((qC x10 x12).f2) ((qC x10 x12).f3) ((qC x10 x12).f4) ((qC x10 x12).f5)).bind fun t257 => (if x5.length < 17592186044416 then (qZA.l0 k (x5 ++ [t257]) x10 x11 (wrap64 (x12 + 1)) x251000 x251001 x251002) else (none))) else (none)) else (none)) else (some x5)
def qZA.f (k : Nat) (a0_0 : Int) (a0_1 : Int) (l0_2 : List Int) (a1_0 : Int) (a1_1 : Int) (a1_2 : Int) (a1_3 : Int) (a1_4 : Int) (a1_5 : Int) (a1_6 : Int) (a1_7 : Int) : Option (List Int) := (qU.f k a1_2 a1_3 a1_4 a1_5 a1_6 a1_7).bind fun t252 => (qZA.l0 k ([] : List Int) t252 (t252.length : Int) 0 a0_0 a0_1 l0_2)
set_option maxHeartbeats 8000000 in
set_option maxRecDepth 100000 in
theorem qZA.calls (k : Nat) (a0_0 : Int) (a0_1 : Int) (A0_2 : Option Addr) (c0_2 : Nat) (l0_2 : List Int) (a1_0 : Int) (a1_1 : Int) (a1_2 : Int) (a1_3 : Int) (a1_4 : Int) (a1_5 : Int) (a1_6 : Int) (a1_7 : Int) (r : List Int) (w : World) (hr0_2 : Kd.C (Kd.int .u8) w A0_2 l0_2.length l0_2) (hc0_2 : l0_2.length ≤ c0_2) (h : qZA.f k a0_0 a0_1 l0_2 a1_0 a1_1 a1_2 a1_3 a1_4 a1_5 a1_6 a1_7 = some r) :
  Calls Tryz.prog 45 #[.agg #[.int .i64 a0_0, .int .i64 a0_1, .slice A0_2 l0_2.length c0_2], .agg #[.int .i64 a1_0, .int .i64 a1_1, .int .i64 a1_2, .int .i64 a1_3, .int .i64 a1_4, .int .i64 a1_5, .int .i64 a1_6, .int .i64 a1_7]] w fun e w' => ∃ v0_ : Value, e = .returned (v0_) ∧ Kd.R (Kd.int .i64) 3 w' w.heap.size (fun _ => True) v0_ r ∧ Below w.heap.size w w' := by
 have hu40 := Tryz.underlying40
 have hu53 := Tryz.underlying53
 have hu51 := Tryz.underlying51
 have HR0_2 := aM hr0_2
 have HC0_2 := aM hc0_2
 clear hr0_2 hc0_2
 have HB := aM (Below.refl w.heap.size w)
 have H : ((qU.f k a1_2 a1_3 a1_4 a1_5 a1_6 a1_7).bind fun t252 => (qZA.l0 k ([] : List Int) t252 (t252.length : Int) 0 a0_0 a0_1 l0_2)) = some r := h
 clear h
 replace H := bO H
 obtain ⟨t252, A3, H⟩ := H
 have H' := aM H
 clear H
 go_enter Tryz.func45, Tryz.ntmps45
 go_wp2_with (first | ((with_reducible refine qH (N := 2) rfl ?_); refine bE (N := 2) (cs := #[.int .i64 a0_0, .int .i64 a0_1, .slice A0_2 l0_2.length c0_2]) (t := 40) ?_; intro gb250 hg w4 hbox hb; have BK250 := aM (hbox); have GW250 := aM ((gg hg)); have GE250 := aM ((gg hg)); replace HB := aM (qB bl hb); clear hb hbox hg) | ((with_reducible refine qH (N := 3) rfl ?_); refine bE (N := 3) (cs := #[.int .i64 a1_0, .int .i64 a1_1, .int .i64 a1_2, .int .i64 a1_3, .int .i64 a1_4, .int .i64 a1_5, .int .i64 a1_6, .int .i64 a1_7]) (t := 53) ?_; intro gb251 hg w5 hbox hb; have BK251 := aM (hbox); have GW251 := aM ((gg hg)); have GE251 := aM ((gg hg)); have NB250_251 := aM ((nl BK250 hg)); have NB251_250 := aM ((nr BK250 hg)); replace BK250 := aM (bb BK250 hb); replace HB := aM (qB bl hb); clear hb hbox hg; have hnb6 := NB251_250.out; have hnc6 := NB250_251.out; (refine cb8 BK251 ?_; intro hcz7_0 hcz7_1 hcz7_2 hcz7_3 hcz7_4 hcz7_5 hcz7_6 hcz7_7); (refine cz8 BK251 ?_; intro hfz7_0 hfz7_1 hfz7_2 hfz7_3 hfz7_4 hfz7_5 hfz7_6 hfz7_7)) | ((with_reducible refine qE (f := 62) rfl ?_); refine qm (some 10) rfl rfl Tryz.func62 (by kernel_rfl) rfl #[.agg #[.int .i64 a1_2, .int .i64 a1_3, .int .i64 a1_4, .int .i64 a1_5, .int .i64 a1_6, .int .i64 a1_7]] rfl gA ?_; (with_reducible refine (qU.calls k a1_2 a1_3 a1_4 a1_5 a1_6 a1_7 t252 _ A3.out).mono ?_); rintro e w8 ⟨v253, rfl, ho0, hb⟩; refine ⟨_, rfl, ?_⟩; have HO254 := aM (Kd.qz ho0 (qJ bl)); replace BK250 := aM (bb BK250 hb); replace BK251 := aM (bb BK251 hb); replace HB := aM (qB bl hb); (try clear hb); (try clear hb2); (try clear hk); (try clear hi); (try clear ho0); obtain ⟨Ao9, co9, eo9⟩ := Kd.qDA HO254.out; subst eo9))
 go_loopg [5, 12] k (fun kq v5 v12 w' => ∃ (x5_1 : List Int) (x12_1 : Int), v12 = .int .i64 x12_1 ∧ Aside0 (qZA.l0 kq x5_1 t252 (t252.length : Int) x12_1 a0_0 a0_1 l0_2 = some r) ∧ Aside0 (kq ≤ k) ∧ Aside0 (Kd.R (Kd.int .i64) 3 w' w.heap.size (fun _ => True) v5 x5_1) ∧ Aside0 (Kd.R k51 51 w' w.heap.size (fun _ => True) (.slice Ao9 t252.length co9) t252) ∧ Aside0 (w'.heap[gb250]? = some (.cells #[.int .i64 a0_0, .int .i64 a0_1, (.slice A0_2 l0_2.length c0_2)] 40 (0, 0))) ∧ Aside0 (w'.heap[gb251]? = some (.cells #[.int .i64 a1_0, .int .i64 a1_1, .int .i64 a1_2, .int .i64 a1_3, .int .i64 a1_4, .int .i64 a1_5, .int .i64 a1_6, .int .i64 a1_7] 53 (0, 0))) ∧ Aside0 (Below w.heap.size w w'))
 case atStart => exact ⟨(([] : List Int)), (0), sD, H', ⟨Nat.le_refl _⟩, ⟨nK⟩, ⟨rR HO254⟩, ⟨rB BK250⟩, ⟨rB BK251⟩, ⟨bl⟩⟩
 case round =>
  clear H'; (try clear p2); (try clear c4); (try clear c6); (try clear hcz7_0 hcz7_1 hcz7_2 hcz7_3 hcz7_4 hcz7_5 hcz7_6 hcz7_7); (try clear hfz7_0 hfz7_1 hfz7_2 hfz7_3 hfz7_4 hfz7_5 hfz7_6 hfz7_7)
  obtain ⟨x5_1, x12_1, rfl, HA, HK1, HO_5, HO_10, BK250, BK251, HB⟩ := hrel
  cases gk with
  | zero => exact absurd HA.out (by simp [qZA.l0])
  | succ k1 =>
   have H := HA.out
   clear HA
   simp only [qZA.l0] at H
   by_cases c10 : x12_1 < (t252.length : Int)
   ·rw [if_pos c10] at H
    have c10b0 := decide_eq_true c10
    clear c10
    by_cases c11 : 0 ≤ x12_1
    case neg => exact nN c11 H
    rw [if_pos c11] at H
    have c11b0 := decide_eq_true c11
    clear c11
    by_cases c12 : x12_1 < (t252.length : Int)
    case neg => exact nN c12 H
    rw [if_pos c12] at H
    have c12b0 := decide_eq_true c12
    clear c12
    replace H := bO H
    obtain ⟨t257, A13, H⟩ := H
    by_cases c14 : x5_1.length < 17592186044416
    case neg => exact nN c14 H
    rw [if_pos c14] at H
    have LMc14 := aM c14
    clear c14
    obtain ⟨y258, hy258⟩ : ∃ y_ : List Int, y_ = (x5_1 ++ [t257]) := ⟨_, rfl⟩
    replace H : (qZA.l0 k1 y258 t252 (t252.length : Int) (wrap64 (x12_1 + 1)) a0_0 a0_1 l0_2) = some r := by first | (rw [hy258]; with_reducible exact H) | (have H2_ := (Option.bind_some _ _).symm.trans H; rw [hy258]; with_reducible exact H2_) | (have H2_ := (Option.bind_some _ _).symm.trans H; with_reducible exact H2_) | with_reducible exact H | (rw [hy258]; exact H) | exact H
    have Ny258 := aM hy258
    clear hy258
    have H' := aM H
    clear H
    have p255 : 0 ≤ (x12_1 : Int) := of_decide_eq_true am
    have q255 : x12_1 < (t252.length : Int) := of_decide_eq_true am
    obtain ⟨ad255, e255, hx255_0, hx255_1, hx255_2, hx255_3, hx255_4, hx255_5⟩ := qwD (Kd.qO HO_10.out).2.2 x12_1 p255 q255
    cases e255
    replace p255 := eq_true p255
    replace q255 := eq_true q255
    go_wp2_with (first | ((with_reducible refine qH (N := 7) rfl ?_); refine bE (N := 7) (cs := #[.int .i64 0, .int .i64 0, .int .i64 0, .int .i64 0, .int .i64 0, .int .i64 0]) (t := 51) ?_; intro gb256 hg w15 hbox hb; have BK256 := aM (hbox); have GW256 := aM ((gg hg)); have GE256 := aM ((gg hg)); have NB250_256 := aM ((nl BK250 hg)); have NB256_250 := aM ((nr BK250 hg)); have NB251_256 := aM ((nl BK251 hg)); have NB256_251 := aM ((nr BK251 hg)); replace HO_5 := aM (Kd.qc (rR HO_5) hb); replace HO_10 := aM (Kd.qc (Kd.qzC (rR HO_10) gb256 (Nat.le_of_eq hg.symm)) hb); replace BK250 := aM (bb BK250 hb); replace BK251 := aM (bb BK251 hb); replace HB := aM (qB bl hb); clear hb hbox hg; have hnb16 := NB256_250.out; have hnc16 := NB250_256.out; have hnb17 := NB256_251.out; have hnc17 := NB251_256.out; (refine cb6 BK256 ?_; intro _ _ _ _ _ _); (refine cz6 BK256 ?_; intro _ _ _ _ _ _); have hnb19 := NB250_251.out; have hnc19 := NB251_250.out; (refine cb3 BK250 ?_; intro _ _ _); (refine cz3 BK250 ?_; intro _ _ _)) | ((with_reducible refine qE (f := 63) rfl ?_); refine qm (some 20) rfl rfl Tryz.func63 (by kernel_rfl) rfl #[.agg #[.int .i64 a0_0, .int .i64 a0_1, .slice A0_2 l0_2.length c0_2], .agg #[.int .i64 0, .int .i64 0, .int .i64 ((qC t252 x12_1).f0), .int .i64 ((qC t252 x12_1).f1), .int .i64 ((qC t252 x12_1).f2), .int .i64 ((qC t252 x12_1).f3), .int .i64 ((qC t252 x12_1).f4), .int .i64 ((qC t252 x12_1).f5)]] rfl gA ?_; (with_reducible refine (qSA.calls k1 a0_0 a0_1 _ _ l0_2 0 0 ((qC t252 x12_1).f0) ((qC t252 x12_1).f1) ((qC t252 x12_1).f2) ((qC t252 x12_1).f3) ((qC t252 x12_1).f4) ((qC t252 x12_1).f5) t257 _ ?side1 ?side2 A13.out).mono ?_); (case side1 => exact Kd.qV HR0_2.out bl); (case side2 => exact HC0_2.out); rintro e w21 ⟨rfl, hb⟩; refine ⟨_, rfl, ?_⟩; replace HO_5 := aM (Kd.qc (by (with_reducible repeat (first | apply Kd.qQ | apply Kd.qR | apply Kd.qS)); exact (Kd.qa (Kd.R_far (p := ⟨gb256, 5, none⟩) (Kd.R_far (p := ⟨gb256, 4, none⟩) (Kd.R_far (p := ⟨gb256, 3, none⟩) (Kd.R_far (p := ⟨gb256, 2, none⟩) (Kd.R_far (p := ⟨gb256, 1, none⟩) (Kd.R_far (p := ⟨gb256, 0, none⟩) (Kd.qLB HO_5.out BK256.out (by decide)) (fun _ hk => hk.2) (.int .i64 ((qC t252 x12_1).f0))) (fun _ hk => hk.2) (.int .i64 ((qC t252 x12_1).f1))) (fun _ hk => hk.2) (.int .i64 ((qC t252 x12_1).f2))) (fun _ hk => hk.2) (.int .i64 ((qC t252 x12_1).f3))) (fun _ hk => hk.2) (.int .i64 ((qC t252 x12_1).f4))) (fun _ hk => hk.2) (.int .i64 ((qC t252 x12_1).f5))) (fun _ h_ => h_.1))) hb); replace HO_10 := aM (Kd.qc (by (with_reducible repeat (first | apply Kd.qQ | apply Kd.qR | apply Kd.qS)); exact (Kd.qa (Kd.R_far (p := ⟨gb256, 5, none⟩) (Kd.R_far (p := ⟨gb256, 4, none⟩) (Kd.R_far (p := ⟨gb256, 3, none⟩) (Kd.R_far (p := ⟨gb256, 2, none⟩) (Kd.R_far (p := ⟨gb256, 1, none⟩) (Kd.R_far (p := ⟨gb256, 0, none⟩) (Kd.qa HO_10.out (fun k_ hk => (⟨hk, hk.2⟩ : _ ∧ k_ ≠ gb256))) (fun _ hk => hk.2) (.int .i64 ((qC t252 x12_1).f0))) (fun _ hk => hk.2) (.int .i64 ((qC t252 x12_1).f1))) (fun _ hk => hk.2) (.int .i64 ((qC t252 x12_1).f2))) (fun _ hk => hk.2) (.int .i64 ((qC t252 x12_1).f3))) (fun _ hk => hk.2) (.int .i64 ((qC t252 x12_1).f4))) (fun _ hk => hk.2) (.int .i64 ((qC t252 x12_1).f5))) (fun _ h_ => h_.1))) hb); replace BK250 := aM (qCA (g := gb250) (o := .cells #[.int .i64 a0_0, .int .i64 a0_1, .slice A0_2 l0_2.length c0_2] 40 (0, 0)) (bF BK250 NB250_256) hb); replace BK251 := aM (qCA (g := gb251) (o := .cells #[.int .i64 a1_0, .int .i64 a1_1, .int .i64 a1_2, .int .i64 a1_3, .int .i64 a1_4, .int .i64 a1_5, .int .i64 a1_6, .int .i64 a1_7] 53 (0, 0)) (bF BK251 NB251_256) hb); replace BK256 := aM (qCA (g := gb256) (o := .cells #[.int .i64 ((qC t252 x12_1).f0), .int .i64 ((qC t252 x12_1).f1), .int .i64 ((qC t252 x12_1).f2), .int .i64 ((qC t252 x12_1).f3), .int .i64 ((qC t252 x12_1).f4), .int .i64 ((qC t252 x12_1).f5)] 51 (0, 0)) (by (with_reducible repeat (first | refine qG ?_ _ | refine qD ?_ | refine qF ?_ _)); exact bP6 BK256) hb); replace HB := aM (qB bl hb); (try clear hb); (try clear hb2); (try clear hk); (try clear hi)) | ((with_reducible refine qEB (b := .append) (xs := #[.tmp 16, .tmp 21]) rfl ?_); at_builtin; refine Kd.qiD (Kd.int .i64) (w0 := w) w.heap.size rfl (.tmp 16) (.tmp 21) 69 3 (.int .i64 0) 8 rfl Tryz.underlying69 info3 rfl (by decide) (by omega) u5 x5_1 t257 [.int .i64 t257] (fun _ => True) (fun _ => False) rfl rfl ?aP (fun _ hk => hk.elim) ?aF ?aO ?aB ?aS ?aL ?_; (case aP => exact rfl); (case aB => exact bl); (case aF => exact (fun _ _ => trivial)); (case aO => exact (rR HO_5)); (case aS => exact (qJ bl)); (case aL => have := LMc14.out; omega); intro v259 w22 ho hb hg hat; rw [← Ny258.out] at ho; have HO260 := aM (ho); replace HO_10 := aM (Kd.qXB (rR HO_10) (Kd.qIB (rR HO_5)) (by decide) hg); replace BK250 := aM (qn (rB BK250) hg (Kd.R_ne HO_5.out BK250.out (by decide))); replace BK251 := aM (qn (rB BK251) hg (Kd.R_ne HO_5.out BK251.out (by decide))); replace BK256 := aM (qn (rB BK256) hg (Kd.R_ne HO_5.out BK256.out (by decide))); replace HB := aM (hb); clear HO_5; clear ho hb hg hat))
    go_roundg k1
    case measure => have := HK1.out; omega
    case rel => exact ⟨(y258), (wrap64 (x12_1 + 1)), sD, H', ⟨by have := HK1.out; omega⟩, ⟨rR HO260⟩, ⟨by (with_reducible repeat (first | apply Kd.qQ | apply Kd.qR | apply Kd.qS)); exact Kd.qa HO_10.out (fun _ hk => trivial)⟩, ⟨rB BK250⟩, ⟨rB BK251⟩, ⟨bl⟩⟩
   ·rw [if_neg c10] at H
    have c10b0 := decide_eq_false c10
    clear c10
    obtain rfl := Option.some.inj H
    go_wp2
    go_ret
    exact ⟨_, sR, by (with_reducible repeat (first | apply Kd.qQ | apply Kd.qR | apply Kd.qS)); exact HO_5.out, bl⟩
def qWA.l0 : Nat → Int → List Int → Int → Int → Option (Int)
 | 0, _, _, _, _ => none
 | k + 1, x1, x7, x8, x9 => if x9 < x8 then (if 0 ≤ x9 then (if x9 < (x7.length : Int) then (if (rd x7 x9) = x1 then (some x9) else (qWA.l0 k x1 x7 x8 (wrap64 (x9 + 1)))) else (none)) else (none)) else (some (-1))
def qWA.f (k : Nat) (l0 : List Int) (a1 : Int) : Option (Int) := qWA.l0 k a1 l0 (l0.length : Int) 0
set_option maxHeartbeats 8000000 in
set_option maxRecDepth 100000 in
theorem qWA.calls (k : Nat) (A0 : Option Addr) (c0 : Nat) (l0 : List Int) (a1 : Int) (r : Int) (w : World) (hr0 : Kd.C (Kd.int .i64) w A0 l0.length l0) (hc0 : l0.length ≤ c0) (h : qWA.f k l0 a1 = some r) :
  Calls Tryz.prog 64 #[.slice A0 l0.length c0, .int .i64 a1] w fun e w' => e = .returned (.int .i64 r) ∧ Drawn0 w w' := by
 have HR0 := aM hr0
 have HC0 := aM hc0
 clear hr0 hc0
 have H : (qWA.l0 k a1 l0 (l0.length : Int) 0) = some r := h
 clear h
 have H' := aM H
 clear H
 go_enter Tryz.func64, Tryz.ntmps64
 go_wp2
 go_loopg [9] k (fun kq v9 w' => ∃ (x9_1 : Int), v9 = .int .i64 x9_1 ∧ Aside0 (qWA.l0 kq a1 l0 (l0.length : Int) x9_1 = some r) ∧ Aside0 (kq ≤ k) ∧ Drawn0 w w')
 case atStart => exact ⟨(0), sD, H', ⟨Nat.le_refl _⟩, dR⟩
 case round =>
  clear H'; (try clear p2)
  obtain ⟨x9_1, rfl, HA, HK1, ⟨m1, rfl⟩⟩ := hrel
  cases gk with
  | zero => exact absurd HA.out (by simp [qWA.l0])
  | succ k1 =>
   have H := HA.out
   clear HA
   simp only [qWA.l0] at H
   by_cases c3 : x9_1 < (l0.length : Int)
   ·rw [if_pos c3] at H
    have c3b0 := decide_eq_true c3
    clear c3
    by_cases c4 : 0 ≤ x9_1
    case neg => exact nN c4 H
    rw [if_pos c4] at H
    have c4b0 := decide_eq_true c4
    clear c4
    by_cases c5 : x9_1 < (l0.length : Int)
    case neg => exact nN c5 H
    rw [if_pos c5] at H
    have c5b0 := decide_eq_true c5
    clear c5
    by_cases c6 : (rd l0 x9_1) = a1
    ·rw [if_pos c6] at H
     have c6b0 := beq_iff_eq.mpr c6
     have c6b1 := bne_eq_false_iff_eq.mpr c6
     clear c6
     obtain rfl := Option.some.inj H
     have p261 : 0 ≤ (x9_1 : Int) := of_decide_eq_true am
     have q261 : x9_1 < (l0.length : Int) := of_decide_eq_true am
     obtain ⟨ad261, e261, hx261_0⟩ := Kd.qHB HR0.out x9_1 p261 q261
     cases e261
     replace p261 := eq_true p261
     replace q261 := eq_true q261
     go_wp2
     go_ret
     exact ⟨by first | rfl | (simp; done) | (simp [*]; done), dR⟩
    ·rw [if_neg c6] at H
     have c6b0 := beq_eq_false_iff_ne.mpr c6
     have c6b1 := bne_iff_ne.mpr c6
     have H' := aM H
     clear H
     have p261 : 0 ≤ (x9_1 : Int) := of_decide_eq_true am
     have q261 : x9_1 < (l0.length : Int) := of_decide_eq_true am
     obtain ⟨ad261, e261, hx261_0⟩ := Kd.qHB HR0.out x9_1 p261 q261
     cases e261
     replace p261 := eq_true p261
     replace q261 := eq_true q261
     go_wp2
     go_roundg k1
     case measure => have := HK1.out; omega
     case rel => exact ⟨(wrap64 (x9_1 + 1)), sD, H', ⟨by have := HK1.out; omega⟩, dR⟩
   ·rw [if_neg c3] at H
    have c3b0 := decide_eq_false c3
    clear c3
    obtain rfl := Option.some.inj H
    go_wp2
    go_ret
    exact ⟨by first | rfl | (simp; done) | (simp [*]; done), dR⟩
def qy.l0 : Nat → List (List Int) → Int → List (S53) → Int → Int → Int → Int → List Int → Option (Int)
 | 0, _, _, _, _, _, _, _, _ => none
 | k + 1, x1, x7, x10, x11, x12, x263000, x263001, x263002 => if x12 < x11 then (if 0 ≤ x12 then (if x12 < (x10.length : Int) then (if x12 < (x1.length : Int) then ((qSA.f k x263000 x263001 x263002 0 0 ((qA x10 x12).f2.f0) ((qA x10 x12).f2.f1) ((qA x10 x12).f2.f2) ((qA x10 x12).f2.f3) ((qA x10 x12).f2.f4) ((qA x10 x12).f2.f5)).bind fun t266 => ((qWA.f k (rd_L7 x1 x12) t266).bind fun t267 => (qy.l0 k x1 (wrap64 ((wrap64 ((wrap64 ((wrap64 ((wrap64 (x7 * (x263002.length : Int))) + (wrap64 (((qA x10 x12).f1) * x263000)))) + ((qA x10 x12).f0))) * 24)) + t267)) x10 x11 (wrap64 (x12 + 1)) x263000 x263001 x263002))) else (none)) else (none)) else (none)) else (some x7)
def qy.f (k : Nat) (a0_0 : Int) (a0_1 : Int) (l0_2 : List Int) (l1 : List (List Int)) (l2 : List (S53)) : Option (Int) := qy.l0 k l1 0 l2 (l2.length : Int) 0 a0_0 a0_1 l0_2
def qy.T5 : Bool × List (List Nat × List Nat) := (true, [([], []), ([], []), ([1], [1]), ([2], [2]), ([0, 3], [0, 3]), ([], []), ([5], [5]), ([], []), ([7], [7]), ([6, 8], [6, 8]), ([4, 9], [4, 9]), ([], []), ([11], [11]), ([10, 12], [10, 12]), ([13], [13]), ([], []), ([], []), ([15, 16], [15, 16]), ([17], [17]), ([], []), ([], []), ([20], [20]), ([21], [21]), ([19, 22], [19, 22]), ([18, 23, 23], [18, 23]), ([14, 24], [14, 24]), ([25, 24, 0, 1, 2, 3, 4, 5, 6, 7, 8, 9, 10, 11, 12, 13, 14, 15, 16, 17, 18, 19, 20, 21, 22, 23, 24, 25], [0, 25])])
def qy.B5 : List Nat := [0, 0, 2, 6, 15, 0, 32, 0, 128, 480, 1023, 0, 2048, 8191, 16383, 0, 0, 98304, 229376, 0, 0, 1048576, 3145728, 7864320, 16744448, 33554431, 67108863]
theorem qy.tab5 : rtab .any (opsOf Tryz.f46 5) = qy.T5 := by kernel_rfl
theorem qy.bits5 : waitsOk qy.T5.2 qy.B5 = true := by kernel_rfl
set_option maxHeartbeats 8000000 in
set_option maxRecDepth 100000 in
theorem qy.calls (k : Nat) (a0_0 : Int) (a0_1 : Int) (A0_2 : Option Addr) (c0_2 : Nat) (l0_2 : List Int) (A1 : Option Addr) (c1 : Nat) (l1 : List (List Int)) (A2 : Option Addr) (c2 : Nat) (l2 : List (S53)) (r : Int) (w : World) (hr0_2 : Kd.C (Kd.int .u8) w A0_2 l0_2.length l0_2) (hc0_2 : l0_2.length ≤ c0_2) (hr1 : Kd.C (Kd.slice 3 (Kd.int .i64)) w A1 l1.length l1) (hc1 : l1.length ≤ c1) (hr2 : Kd.C k53 w A2 l2.length l2) (hc2 : l2.length ≤ c2) (h : qy.f k a0_0 a0_1 l0_2 l1 l2 = some r) :
  Calls Tryz.prog 46 #[.agg #[.int .i64 a0_0, .int .i64 a0_1, .slice A0_2 l0_2.length c0_2], .slice A1 l1.length c1, .slice A2 l2.length c2] w fun e w' => e = .returned (.int .i64 r) ∧ Below w.heap.size w w' := by
 have hu40 := Tryz.underlying40
 have hu53 := Tryz.underlying53
 have hu51 := Tryz.underlying51
 have HR0_2 := aM hr0_2
 have HC0_2 := aM hc0_2
 clear hr0_2 hc0_2
 have HR1 := aM hr1
 have HC1 := aM hc1
 clear hr1 hc1
 have HR2 := aM hr2
 have HC2 := aM hc2
 clear hr2 hc2
 have HB := aM (Below.refl w.heap.size w)
 have H : (qy.l0 k l1 0 l2 (l2.length : Int) 0 a0_0 a0_1 l0_2) = some r := h
 clear h
 have H' := aM H
 clear H
 go_enter Tryz.func46, Tryz.ntmps46
 go_wp2_with (first | ((with_reducible refine qH (N := 3) rfl ?_); refine bE (N := 3) (cs := #[.int .i64 a0_0, .int .i64 a0_1, .slice A0_2 l0_2.length c0_2]) (t := 40) ?_; intro gb262 hg w4 hbox hb; have BK262 := aM (hbox); have GW262 := aM ((gg hg)); have GE262 := aM ((gg hg)); replace HB := aM (qB bl hb); clear hb hbox hg))
 go_loopg [7, 12] k (fun kq v7 v12 w' => ∃ (x7_1 : Int) (x12_1 : Int), v7 = .int .i64 x7_1 ∧ v12 = .int .i64 x12_1 ∧ Aside0 (qy.l0 kq l1 x7_1 l2 (l2.length : Int) x12_1 a0_0 a0_1 l0_2 = some r) ∧ Aside0 (kq ≤ k) ∧ Aside0 (w'.heap[gb262]? = some (.cells #[.int .i64 a0_0, .int .i64 a0_1, (.slice A0_2 l0_2.length c0_2)] 40 (0, 0))) ∧ Aside0 (Below w.heap.size w w'))
 case atStart => exact ⟨(0), (0), sD, sD, H', ⟨Nat.le_refl _⟩, ⟨rB BK262⟩, ⟨bl⟩⟩
 case round =>
  clear H'; (try clear c1); (try clear c2); (try clear p2); (try clear c4)
  obtain ⟨x7_1, x12_1, rfl, rfl, HA, HK1, BK262, HB⟩ := hrel
  cases gk with
  | zero => exact absurd HA.out (by simp [qy.l0])
  | succ k1 =>
   have H := HA.out
   clear HA
   simp only [qy.l0] at H
   by_cases c5 : x12_1 < (l2.length : Int)
   ·rw [if_pos c5] at H
    have c5b0 := decide_eq_true c5
    clear c5
    by_cases c6 : 0 ≤ x12_1
    case neg => exact nN c6 H
    rw [if_pos c6] at H
    have c6b0 := decide_eq_true c6
    clear c6
    by_cases c7 : x12_1 < (l2.length : Int)
    case neg => exact nN c7 H
    rw [if_pos c7] at H
    have c7b0 := decide_eq_true c7
    clear c7
    by_cases c8 : x12_1 < (l1.length : Int)
    case neg => exact nN c8 H
    rw [if_pos c8] at H
    have c8b0 := decide_eq_true c8
    clear c8
    replace H := bO H
    obtain ⟨t266, A9, H⟩ := H
    replace H := bO H
    obtain ⟨t267, A10, H⟩ := H
    have H' := aM H
    clear H
    have p263 : 0 ≤ (x12_1 : Int) := of_decide_eq_true am
    have q263 : x12_1 < (l2.length : Int) := of_decide_eq_true am
    obtain ⟨ad263, e263, hx263_0, hx263_1, hx263_2, hx263_3, hx263_4, hx263_5, hx263_6, hx263_7⟩ := qYB HR2.out x12_1 p263 q263
    cases e263
    replace hx263_0 := hB HB hx263_0
    replace hx263_1 := hB HB hx263_1
    replace hx263_2 := hB HB hx263_2
    replace hx263_3 := hB HB hx263_3
    replace hx263_4 := hB HB hx263_4
    replace hx263_5 := hB HB hx263_5
    replace hx263_6 := hB HB hx263_6
    replace hx263_7 := hB HB hx263_7
    replace p263 := eq_true p263
    replace q263 := eq_true q263
    try go_wp2_with (first | ((with_reducible refine qH (N := 9) rfl ?_); refine bE (N := 9) (cs := #[.int .i64 0, .int .i64 0, .int .i64 0, .int .i64 0, .int .i64 0, .int .i64 0, .int .i64 0, .int .i64 0]) (t := 53) ?_; intro gb264 hg w11 hbox hb; have BK264 := aM (hbox); have GW264 := aM ((gg hg)); have GE264 := aM ((gg hg)); have NB262_264 := aM ((nl BK262 hg)); have NB264_262 := aM ((nr BK262 hg)); replace BK262 := aM (bb BK262 hb); replace HB := aM (qB bl hb); clear hb hbox hg; have hnb12 := NB264_262.out; have hnc12 := NB262_264.out; (refine cb8 BK264 ?_; intro _ _ _ _ _ _ _ _); (refine cz8 BK264 ?_; intro _ _ _ _ _ _ _ _)))
    have n0_ : Aside0 (((((((((w11.setCell ⟨gb264, 0, none⟩ (.int .i64 ((qA l2 x12_1).f0))).setCell ⟨gb264, 1, none⟩ (.int .i64 ((qA l2 x12_1).f1))).setCell ⟨gb264, 2, none⟩ (.int .i64 ((qA l2 x12_1).f2.f0))).setCell ⟨gb264, 3, none⟩ (.int .i64 ((qA l2 x12_1).f2.f1))).setCell ⟨gb264, 4, none⟩ (.int .i64 ((qA l2 x12_1).f2.f2))).setCell ⟨gb264, 5, none⟩ (.int .i64 ((qA l2 x12_1).f2.f3))).setCell ⟨gb264, 6, none⟩ (.int .i64 ((qA l2 x12_1).f2.f4))).setCell ⟨gb264, 7, none⟩ (.int .i64 ((qA l2 x12_1).f2.f5))).heap[gb262]? = some (.cells #[.int .i64 a0_0, .int .i64 a0_1, .slice A0_2 l0_2.length c0_2] 40 (0, 0))) := ⟨bF BK262 NB262_264⟩
    have n1_ : Aside0 (((((((((w11.setCell ⟨gb264, 0, none⟩ (.int .i64 ((qA l2 x12_1).f0))).setCell ⟨gb264, 1, none⟩ (.int .i64 ((qA l2 x12_1).f1))).setCell ⟨gb264, 2, none⟩ (.int .i64 ((qA l2 x12_1).f2.f0))).setCell ⟨gb264, 3, none⟩ (.int .i64 ((qA l2 x12_1).f2.f1))).setCell ⟨gb264, 4, none⟩ (.int .i64 ((qA l2 x12_1).f2.f2))).setCell ⟨gb264, 5, none⟩ (.int .i64 ((qA l2 x12_1).f2.f3))).setCell ⟨gb264, 6, none⟩ (.int .i64 ((qA l2 x12_1).f2.f4))).setCell ⟨gb264, 7, none⟩ (.int .i64 ((qA l2 x12_1).f2.f5))).heap[gb264]? = some (.cells #[.int .i64 ((qA l2 x12_1).f0), .int .i64 ((qA l2 x12_1).f1), .int .i64 ((qA l2 x12_1).f2.f0), .int .i64 ((qA l2 x12_1).f2.f1), .int .i64 ((qA l2 x12_1).f2.f2), .int .i64 ((qA l2 x12_1).f2.f3), .int .i64 ((qA l2 x12_1).f2.f4), .int .i64 ((qA l2 x12_1).f2.f5)] 53 (0, 0))) := ⟨by (with_reducible repeat (first | refine qG ?_ _ | refine qD ?_ | refine qF ?_ _)); exact bP8 BK264⟩
    have n2_ : Aside0 (Below w.heap.size w ((((((((w11.setCell ⟨gb264, 0, none⟩ (.int .i64 ((qA l2 x12_1).f0))).setCell ⟨gb264, 1, none⟩ (.int .i64 ((qA l2 x12_1).f1))).setCell ⟨gb264, 2, none⟩ (.int .i64 ((qA l2 x12_1).f2.f0))).setCell ⟨gb264, 3, none⟩ (.int .i64 ((qA l2 x12_1).f2.f1))).setCell ⟨gb264, 4, none⟩ (.int .i64 ((qA l2 x12_1).f2.f2))).setCell ⟨gb264, 5, none⟩ (.int .i64 ((qA l2 x12_1).f2.f3))).setCell ⟨gb264, 6, none⟩ (.int .i64 ((qA l2 x12_1).f2.f4))).setCell ⟨gb264, 7, none⟩ (.int .i64 ((qA l2 x12_1).f2.f5)))) := ⟨bl⟩
    (try clear BK262); (try clear BK264); (try clear HB)
    generalize ((((((((w11.setCell ⟨gb264, 0, none⟩ (.int .i64 ((qA l2 x12_1).f0))).setCell ⟨gb264, 1, none⟩ (.int .i64 ((qA l2 x12_1).f1))).setCell ⟨gb264, 2, none⟩ (.int .i64 ((qA l2 x12_1).f2.f0))).setCell ⟨gb264, 3, none⟩ (.int .i64 ((qA l2 x12_1).f2.f1))).setCell ⟨gb264, 4, none⟩ (.int .i64 ((qA l2 x12_1).f2.f2))).setCell ⟨gb264, 5, none⟩ (.int .i64 ((qA l2 x12_1).f2.f3))).setCell ⟨gb264, 6, none⟩ (.int .i64 ((qA l2 x12_1).f2.f4))).setCell ⟨gb264, 7, none⟩ (.int .i64 ((qA l2 x12_1).f2.f5))) = w14 at n0_ n1_ n2_ ⊢
    have BK262 := n0_
    have BK264 := n1_
    have HB := n2_
    clear n0_ n1_ n2_
    replace BK262 := aM (qD BK262.out)
    replace BK264 := aM (qD BK264.out)
    replace HB := aM (qi HB.out)
    have p265 : 0 ≤ (x12_1 : Int) := of_decide_eq_true am
    have q265 : x12_1 < (l1.length : Int) := of_decide_eq_true am
    obtain ⟨ad265, A265_0, c265_0, e265, hx265_0, hl265_0, hi265_0⟩ := at_L7 HR1.out x12_1 p265 q265
    have hw265_0 := hx265_0
    cases e265
    replace hx265_0 := hB HB hx265_0
    have HR265_0 := aM hi265_0
    have HC265_0 := aM hl265_0
    clear hi265_0 hl265_0
    replace p265 := eq_true p265
    replace q265 := eq_true q265
    refine qJB (n := 27) (S := fun w' => w'.cell? ⟨gb262, 0, none⟩ = some (.int .i64 a0_0) ∧ w'.cell? ⟨gb262, 1, none⟩ = some (.int .i64 a0_1) ∧ w'.cell? ⟨gb262, 2, none⟩ = some (.slice A0_2 l0_2.length c0_2) ∧ w'.cell? ⟨gb264, 0, none⟩ = some (.int .i64 ((qA l2 x12_1).f0)) ∧ w'.cell? ⟨gb264, 1, none⟩ = some (.int .i64 ((qA l2 x12_1).f1)) ∧ w'.cell? ⟨gb264, 2, none⟩ = some (.int .i64 ((qA l2 x12_1).f2.f0)) ∧ w'.cell? ⟨gb264, 3, none⟩ = some (.int .i64 ((qA l2 x12_1).f2.f1)) ∧ w'.cell? ⟨gb264, 4, none⟩ = some (.int .i64 ((qA l2 x12_1).f2.f2)) ∧ w'.cell? ⟨gb264, 5, none⟩ = some (.int .i64 ((qA l2 x12_1).f2.f3)) ∧ w'.cell? ⟨gb264, 6, none⟩ = some (.int .i64 ((qA l2 x12_1).f2.f4)) ∧ w'.cell? ⟨gb264, 7, none⟩ = some (.int .i64 ((qA l2 x12_1).f2.f5)) ∧ w'.cell? (ad265.add (x12_1).toNat) = some (.slice A265_0 (rd_L7 l1 x12_1).length c265_0)) (ds := []) #[false, false, false, false, false, false, false, false, false, false, false, false, false, false, false, false, false, false, false, false, false, false, false, false, false, false, false] (by kernel_rfl) rfl rfl ⟨bc BK262 0, bc BK262 1, bc BK262 2, bc BK264 0, bc BK264 1, bc BK264 2, bc BK264 3, bc BK264 4, bc BK264 5, bc BK264 6, bc BK264 7, (hB HB hw265_0 :)⟩ (fun hHeld => ?_); refine qNA qy.tab5 qy.bits5 (fun HT_ HW_ => ?_)
    generalize w14.drew = w15 at BK262 BK264 HB HR265_0 hx265_0 hHeld ⊢
    refine pS (i := 0) (N := some 17) #[true, false, false, false, false, false, false, false, false, false, false, false, false, false, false, false, false, false, false, false, false, false, false, false, false, false, false] HT_ ?_
    refine pS (i := 1) (N := some 18) #[true, true, false, false, false, false, false, false, false, false, false, false, false, false, false, false, false, false, false, false, false, false, false, false, false, false, false] HT_ ?_
    refine pS (i := 5) (N := some 22) #[true, true, false, false, false, true, false, false, false, false, false, false, false, false, false, false, false, false, false, false, false, false, false, false, false, false, false] HT_ ?_
    refine pS (i := 7) (N := some 24) #[true, true, false, false, false, true, false, true, false, false, false, false, false, false, false, false, false, false, false, false, false, false, false, false, false, false, false] HT_ ?_
    refine pS (i := 11) (N := some 28) #[true, true, false, false, false, true, false, true, false, false, false, true, false, false, false, false, false, false, false, false, false, false, false, false, false, false, false] HT_ ?_
    refine pS (i := 15) (N := some 32) #[true, true, false, false, false, true, false, true, false, false, false, true, false, false, false, true, false, false, false, false, false, false, false, false, false, false, false] HT_ ?_
    refine pS (i := 16) (N := some 33) #[true, true, false, false, false, true, false, true, false, false, false, true, false, false, false, true, true, false, false, false, false, false, false, false, false, false, false] HT_ ?_
    refine pS (i := 17) (N := some 34) #[true, true, false, false, false, true, false, true, false, false, false, true, false, false, false, true, true, true, false, false, false, false, false, false, false, false, false] HT_ ?_
    refine pS (i := 20) (N := some 37) #[true, true, false, false, false, true, false, true, false, false, false, true, false, false, false, true, true, true, false, false, true, false, false, false, false, false, false] HT_ ?_
    refine tS (i := 2) (N := some 19) #[true, true, true, false, false, true, false, true, false, false, false, true, false, false, false, true, true, true, false, false, true, false, false, false, false, false, false] HT_ HW_ hHeld ?_
    refine pS (i := 3) (N := some 20) #[true, true, true, true, false, true, false, true, false, false, false, true, false, false, false, true, true, true, false, false, true, false, false, false, false, false, false] HT_ ?_
    refine pS (i := 4) (N := some 21) #[true, true, true, true, true, true, false, true, false, false, false, true, false, false, false, true, true, true, false, false, true, false, false, false, false, false, false] HT_ ?_
    refine tS (i := 6) (N := some 23) #[true, true, true, true, true, true, true, true, false, false, false, true, false, false, false, true, true, true, false, false, true, false, false, false, false, false, false] HT_ HW_ hHeld ?_
    refine tS (i := 8) (N := some 25) #[true, true, true, true, true, true, true, true, true, false, false, true, false, false, false, true, true, true, false, false, true, false, false, false, false, false, false] HT_ HW_ hHeld ?_
    refine pS (i := 9) (N := some 26) #[true, true, true, true, true, true, true, true, true, true, false, true, false, false, false, true, true, true, false, false, true, false, false, false, false, false, false] HT_ ?_
    refine pS (i := 10) (N := some 27) #[true, true, true, true, true, true, true, true, true, true, true, true, false, false, false, true, true, true, false, false, true, false, false, false, false, false, false] HT_ ?_
    refine tS (i := 12) (N := some 29) #[true, true, true, true, true, true, true, true, true, true, true, true, true, false, false, true, true, true, false, false, true, false, false, false, false, false, false] HT_ HW_ hHeld ?_
    refine pS (i := 13) (N := some 30) #[true, true, true, true, true, true, true, true, true, true, true, true, true, true, false, true, true, true, false, false, true, false, false, false, false, false, false] HT_ ?_
    refine pS (i := 14) (N := some 31) #[true, true, true, true, true, true, true, true, true, true, true, true, true, true, true, true, true, true, false, false, true, false, false, false, false, false, false] HT_ ?_
    refine tS (i := 18) (N := some 35) #[true, true, true, true, true, true, true, true, true, true, true, true, true, true, true, true, true, true, true, false, true, false, false, false, false, false, false] HT_ HW_ hHeld ?_
    refine tS (i := 19) (N := some 36) #[true, true, true, true, true, true, true, true, true, true, true, true, true, true, true, true, true, true, true, true, true, false, false, false, false, false, false] HT_ HW_ hHeld ?_
    refine tS (i := 21) (N := some 38) #[true, true, true, true, true, true, true, true, true, true, true, true, true, true, true, true, true, true, true, true, true, true, false, false, false, false, false] HT_ HW_ hHeld ?_
    refine pS (i := 22) (N := some 39) #[true, true, true, true, true, true, true, true, true, true, true, true, true, true, true, true, true, true, true, true, true, true, true, false, false, false, false] HT_ ?_
    refine one_ (i := 23) (N := some 40) #[true, true, true, true, true, true, true, true, true, true, true, true, true, true, true, true, true, true, true, true, true, true, true, true, false, false, false] rfl rfl (qcA HT_.out (by kernel_rfl)) (by decide) (fun K hK => ?_)
    refine goes_ Tryz.func63 (by kernel_rfl) rfl #[.agg #[.int .i64 a0_0, .int .i64 a0_1, .slice A0_2 l0_2.length c0_2], .agg #[.int .i64 0, .int .i64 0, .int .i64 ((qA l2 x12_1).f2.f0), .int .i64 ((qA l2 x12_1).f2.f1), .int .i64 ((qA l2 x12_1).f2.f2), .int .i64 ((qA l2 x12_1).f2.f3), .int .i64 ((qA l2 x12_1).f2.f4), .int .i64 ((qA l2 x12_1).f2.f5)]] (by rfl) rfl rfl gA ?_
    with_reducible refine (qSA.calls k1 a0_0 a0_1 _ _ l0_2 0 0 ((qA l2 x12_1).f2.f0) ((qA l2 x12_1).f2.f1) ((qA l2 x12_1).f2.f2) ((qA l2 x12_1).f2.f3) ((qA l2 x12_1).f2.f4) ((qA l2 x12_1).f2.f5) t266 _ ?side1 ?side2 A9.out).mono ?_
    (case side1 => repeat (first | exact (Kd.qV HR0_2.out HB.out) | (with_reducible refine Kd.qL ?_ _) | (with_reducible refine Kd.qK ?_ _) | (with_reducible refine Kd.qX ?_)))
    (case side2 => exact HC0_2.out)
    rintro e w16 ⟨rfl, hb⟩
    refine ⟨_, rfl, ?_⟩
    replace BK262 := aM (bb BK262 hb)
    replace BK264 := aM (bb BK264 hb)
    replace HB := aM (qB bl hb); (try clear hb); (try clear hb2); (try clear hk); (try clear hi)
    refine hK.out _ _ ⟨bc BK262 0, bc BK262 1, bc BK262 2, bc BK264 0, bc BK264 1, bc BK264 2, bc BK264 3, bc BK264 4, bc BK264 5, bc BK264 6, bc BK264 7, (hB HB hw265_0 :)⟩ (fun hHeld => ?_)
    clear hK K
    refine norm_ (a' := ?_) ?_ ?_
    rotate_left
    ·show Act.put _ (some 40) _ = _
     simp only [Act.put, List.setIfInBounds_toArray, List.set_cons_zero, List.set_cons_succ, i64_w, i32_w]
     rfl
    refine one_ (i := 24) (N := some 41) #[true, true, true, true, true, true, true, true, true, true, true, true, true, true, true, true, true, true, true, true, true, true, true, true, true, false, false] rfl rfl (qcA HT_.out (by kernel_rfl)) (by decide) (fun K hK => ?_)
    refine goes_ Tryz.func64 (by kernel_rfl) rfl #[.slice A265_0 (rd_L7 l1 x12_1).length c265_0, .int .i64 t266] (by rfl) rfl rfl gA ?_
    with_reducible refine (qWA.calls k1 _ _ (rd_L7 l1 x12_1) t266 t267 _ ?side1 ?side2 A10.out).mono ?_
    (case side1 => repeat (first | exact (Kd.qV HR265_0.out HB.out) | (with_reducible refine Kd.qL ?_ _) | (with_reducible refine Kd.qK ?_ _) | (with_reducible refine Kd.qX ?_)))
    (case side2 => exact HC265_0.out)
    rintro e w' ⟨rfl, ⟨nd, rfl⟩⟩
    refine ⟨_, rfl, ?_⟩
    refine hK.out _ _ ⟨bc BK262 0, bc BK262 1, bc BK262 2, bc BK264 0, bc BK264 1, bc BK264 2, bc BK264 3, bc BK264 4, bc BK264 5, bc BK264 6, bc BK264 7, (hB HB hw265_0 :)⟩ (fun hHeld => ?_)
    clear hK K
    refine norm_ (a' := ?_) ?_ ?_
    rotate_left
    ·show Act.put _ (some 41) _ = _
     simp only [Act.put, List.setIfInBounds_toArray, List.set_cons_zero, List.set_cons_succ, i64_w, i32_w]
     rfl
    refine pS (i := 25) (N := some 42) #[true, true, true, true, true, true, true, true, true, true, true, true, true, true, true, true, true, true, true, true, true, true, true, true, true, true, false] HT_ ?_
    refine pS (i := 26) (N := some 7) #[true, true, true, true, true, true, true, true, true, true, true, true, true, true, true, true, true, true, true, true, true, true, true, true, true, true, true] HT_ ?_
    refine done_ (qvA HT_.out (by kernel_rfl)) ?_
    try go_wp2
    go_roundg k1
    case measure => have := HK1.out; omega
    case rel => exact ⟨(wrap64 ((wrap64 ((wrap64 ((wrap64 ((wrap64 (x7_1 * (l0_2.length : Int))) + (wrap64 (((qA l2 x12_1).f1) * a0_0)))) + ((qA l2 x12_1).f0))) * 24)) + t267)), (wrap64 (x12_1 + 1)), sD, sD, H', ⟨by have := HK1.out; omega⟩, ⟨rB BK262⟩, ⟨bl⟩⟩
   ·rw [if_neg c5] at H
    have c5b0 := decide_eq_false c5
    clear c5
    obtain rfl := Option.some.inj H
    go_wp2
    go_ret
    exact ⟨sR, bl⟩
def qcB.f (a0 : Int) (a1 : Int) (a2 : Int) : Option (Int × Int) := if a2 = 0 then (some (a0, wrap64 (a1 - 1))) else (if a2 = 1 then (some (wrap64 (a0 + 1), a1)) else (if a2 = 2 then (some (a0, wrap64 (a1 + 1))) else (some (wrap64 (a0 - 1), a1))))
set_option maxHeartbeats 8000000 in
set_option maxRecDepth 100000 in
theorem qcB.calls (a0 : Int) (a1 : Int) (a2 : Int) (r1 : Int) (r2 : Int) (w : World) (h : qcB.f a0 a1 a2 = some (r1, r2)) :
  Calls Tryz.prog 81 #[.int .i64 a0, .int .i64 a1, .int .i64 a2] w fun e w' => e = .returned (.tuple #[.int .i64 r1, .int .i64 r2]) ∧ Drawn0 w w' := by
 have H : (if a2 = 0 then (some (a0, wrap64 (a1 - 1))) else (if a2 = 1 then (some (wrap64 (a0 + 1), a1)) else (if a2 = 2 then (some (a0, wrap64 (a1 + 1))) else (some (wrap64 (a0 - 1), a1))))) = some (r1, r2) := h
 clear h
 by_cases c4 : a2 = 0
 ·rw [if_pos c4] at H
  have c4b0 := beq_iff_eq.mpr c4
  have c4b1 := bne_eq_false_iff_eq.mpr c4
  clear c4
  simp only [Option.some.injEq, Prod.mk.injEq] at H
  obtain ⟨rfl, rfl⟩ := H
  go_enter Tryz.func81, Tryz.ntmps81
  go_wp2
  go_ret2
  exact ⟨by first | rfl | (simp; done) | (simp [*]; done), dR⟩
 ·rw [if_neg c4] at H
  have c4b0 := beq_eq_false_iff_ne.mpr c4
  have c4b1 := bne_iff_ne.mpr c4
  by_cases c5 : a2 = 1
  ·rw [if_pos c5] at H
   have c5b0 := beq_iff_eq.mpr c5
   have c5b1 := bne_eq_false_iff_eq.mpr c5
   clear c5
   simp only [Option.some.injEq, Prod.mk.injEq] at H
   obtain ⟨rfl, rfl⟩ := H
   go_enter Tryz.func81, Tryz.ntmps81
   go_wp2
   go_ret2
   exact ⟨by first | rfl | (simp; done) | (simp [*]; done), dR⟩
  ·rw [if_neg c5] at H
   have c5b0 := beq_eq_false_iff_ne.mpr c5
   have c5b1 := bne_iff_ne.mpr c5
   by_cases c6 : a2 = 2
   ·rw [if_pos c6] at H
    have c6b0 := beq_iff_eq.mpr c6
    have c6b1 := bne_eq_false_iff_eq.mpr c6
    clear c6
    simp only [Option.some.injEq, Prod.mk.injEq] at H
    obtain ⟨rfl, rfl⟩ := H
    go_enter Tryz.func81, Tryz.ntmps81
    go_wp2
    go_ret2
    exact ⟨by first | rfl | (simp; done) | (simp [*]; done), dR⟩
   ·rw [if_neg c6] at H
    have c6b0 := beq_eq_false_iff_ne.mpr c6
    have c6b1 := bne_iff_ne.mpr c6
    simp only [Option.some.injEq, Prod.mk.injEq] at H
    obtain ⟨rfl, rfl⟩ := H
    go_enter Tryz.func81, Tryz.ntmps81
    go_wp2
    go_ret2
    exact ⟨by first | rfl | (simp; done) | (simp [*]; done), dR⟩
def qAB.f (a0_0 : Int) (a0_1 : Int) (l0_2 : List Int) (a1_0 : Int) (a1_1 : Int) (a1_2 : Int) (a1_3 : Int) (a1_4 : Int) (a1_5 : Int) (a1_6 : Int) (a1_7 : Int) (a2 : Int) : Option (Int × Int × Int × Int × Int × Int × Int × Int × Bool) := (qcB.f a1_0 a1_1 a2).bind fun bt271 => ((qpA.f a0_0 a0_1 l0_2 bt271.1 bt271.2).bind fun t273 => (if t273 = true then ((qFB.f a1_2 a1_3 a1_4 a1_5 a1_6 a1_7 a2).bind fun bt274 => (some (bt271.1, bt271.2, bt274.1, bt274.2.1, bt274.2.2.1, bt274.2.2.2.1, bt274.2.2.2.2.1, bt274.2.2.2.2.2, true))) else (some (0, 0, 0, 0, 0, 0, 0, 0, false))))
set_option maxHeartbeats 8000000 in
set_option maxRecDepth 100000 in
theorem qAB.calls (a0_0 : Int) (a0_1 : Int) (A0_2 : Option Addr) (c0_2 : Nat) (l0_2 : List Int) (a1_0 : Int) (a1_1 : Int) (a1_2 : Int) (a1_3 : Int) (a1_4 : Int) (a1_5 : Int) (a1_6 : Int) (a1_7 : Int) (a2 : Int) (r1 : Int) (r2 : Int) (r3 : Int) (r4 : Int) (r5 : Int) (r6 : Int) (r7 : Int) (r8 : Int) (r9 : Bool) (w : World) (hr0_2 : Kd.C (Kd.int .u8) w A0_2 l0_2.length l0_2) (hc0_2 : l0_2.length ≤ c0_2) (h : qAB.f a0_0 a0_1 l0_2 a1_0 a1_1 a1_2 a1_3 a1_4 a1_5 a1_6 a1_7 a2 = some (r1, r2, r3, r4, r5, r6, r7, r8, r9)) :
  Calls Tryz.prog 65 #[.agg #[.int .i64 a0_0, .int .i64 a0_1, .slice A0_2 l0_2.length c0_2], .agg #[.int .i64 a1_0, .int .i64 a1_1, .int .i64 a1_2, .int .i64 a1_3, .int .i64 a1_4, .int .i64 a1_5, .int .i64 a1_6, .int .i64 a1_7], .int .i64 a2] w fun e w' => e = .returned (.tuple #[.agg #[.int .i64 r1, .int .i64 r2, .int .i64 r3, .int .i64 r4, .int .i64 r5, .int .i64 r6, .int .i64 r7, .int .i64 r8], .bool r9]) ∧ Below w.heap.size w w' := by
 have hu40 := Tryz.underlying40
 have hu53 := Tryz.underlying53
 have hu51 := Tryz.underlying51
 have HR0_2 := aM hr0_2
 have HC0_2 := aM hc0_2
 clear hr0_2 hc0_2
 have HB := aM (Below.refl w.heap.size w)
 have H : ((qcB.f a1_0 a1_1 a2).bind fun bt271 => ((qpA.f a0_0 a0_1 l0_2 bt271.1 bt271.2).bind fun t273 => (if t273 = true then ((qFB.f a1_2 a1_3 a1_4 a1_5 a1_6 a1_7 a2).bind fun bt274 => (some (bt271.1, bt271.2, bt274.1, bt274.2.1, bt274.2.2.1, bt274.2.2.2.1, bt274.2.2.2.2.1, bt274.2.2.2.2.2, true))) else (some (0, 0, 0, 0, 0, 0, 0, 0, false))))) = some (r1, r2, r3, r4, r5, r6, r7, r8, r9) := h
 clear h
 replace H := bO H
 obtain ⟨⟨t271, t272⟩, A4, H⟩ := H
 dsimp only at H A4
 replace H := bO H
 obtain ⟨t273, A5, H⟩ := H
 by_cases c6 : t273 = true
 ·subst c6
  replace H := iT H
  replace H := bO H
  obtain ⟨⟨t274, t275, t276, t277, t278, t279⟩, A7, H⟩ := H
  dsimp only at H A7
  simp only [Option.some.injEq, Prod.mk.injEq] at H
  obtain ⟨rfl, rfl, rfl, rfl, rfl, rfl, rfl, rfl, rfl⟩ := H
  go_enter Tryz.func65, Tryz.ntmps65
  go_wp2_with (first | ((with_reducible refine qH (N := 3) rfl ?_); refine bE (N := 3) (cs := #[.int .i64 a0_0, .int .i64 a0_1, .slice A0_2 l0_2.length c0_2]) (t := 40) ?_; intro gb268 hg w8 hbox hb; have BK268 := aM (hbox); have GW268 := aM ((gg hg)); have GE268 := aM ((gg hg)); replace HB := aM (qB bl hb); clear hb hbox hg) | ((with_reducible refine qH (N := 4) rfl ?_); refine bE (N := 4) (cs := #[.int .i64 a1_0, .int .i64 a1_1, .int .i64 a1_2, .int .i64 a1_3, .int .i64 a1_4, .int .i64 a1_5, .int .i64 a1_6, .int .i64 a1_7]) (t := 53) ?_; intro gb269 hg w9 hbox hb; have BK269 := aM (hbox); have GW269 := aM ((gg hg)); have GE269 := aM ((gg hg)); have NB268_269 := aM ((nl BK268 hg)); have NB269_268 := aM ((nr BK268 hg)); replace BK268 := aM (bb BK268 hb); replace HB := aM (qB bl hb); clear hb hbox hg) | ((with_reducible refine qH (N := 6) rfl ?_); refine bE (N := 6) (cs := #[.int .i64 0, .int .i64 0, .int .i64 0, .int .i64 0, .int .i64 0, .int .i64 0, .int .i64 0, .int .i64 0]) (t := 53) ?_; intro gb270 hg w10 hbox hb; have BK270 := aM (hbox); have GW270 := aM ((gg hg)); have GE270 := aM ((gg hg)); have NB268_270 := aM ((nl BK268 hg)); have NB270_268 := aM ((nr BK268 hg)); have NB269_270 := aM ((nl BK269 hg)); have NB270_269 := aM ((nr BK269 hg)); replace BK268 := aM (bb BK268 hb); replace BK269 := aM (bb BK269 hb); replace HB := aM (qB bl hb); clear hb hbox hg; have hnb11 := NB269_268.out; have hnc11 := NB268_269.out; have hnb12 := NB269_270.out; have hnc12 := NB270_269.out; (refine cb8 BK269 ?_; intro _ _ _ _ _ _ _ _); (refine cz8 BK269 ?_; intro _ _ _ _ _ _ _ _)) | ((with_reducible refine qE (f := 81) rfl ?_); refine qm (some 16) rfl rfl Tryz.func81 (by kernel_rfl) rfl #[.int .i64 a1_0, .int .i64 a1_1, .int .i64 a2] rfl gA ?_; (with_reducible refine (qcB.calls a1_0 a1_1 a2 t271 t272 _ A4.out).mono ?_); rintro e w' ⟨rfl, ⟨nd, rfl⟩⟩; refine ⟨_, rfl, ?_⟩; (try (rw [qvC w10]; generalize hq_ : World.drewN w10 _ = w10; have n0_ : Aside0 (w10.heap[gb268]? = some (.cells #[.int .i64 a0_0, .int .i64 a0_1, .slice A0_2 l0_2.length c0_2] 40 (0, 0))) := ⟨by rw [← hq_]; exact (rB BK268)⟩; have n1_ : Aside0 (w10.heap[gb269]? = some (.cells #[.int .i64 a1_0, .int .i64 a1_1, .int .i64 a1_2, .int .i64 a1_3, .int .i64 a1_4, .int .i64 a1_5, .int .i64 a1_6, .int .i64 a1_7] 53 (0, 0))) := ⟨by rw [← hq_]; exact (rB BK269)⟩; have n2_ : Aside0 (w10.heap[gb270]? = some (.cells #[.int .i64 0, .int .i64 0, .int .i64 0, .int .i64 0, .int .i64 0, .int .i64 0, .int .i64 0, .int .i64 0] 53 (0, 0))) := ⟨by rw [← hq_]; exact (rB BK270)⟩; have n3_ : Aside0 (Below w.heap.size w w10) := ⟨by rw [← hq_]; exact bl⟩; clear BK268 BK269 BK270 HB hq_; have BK268 := n0_; have BK269 := n1_; have BK270 := n2_; have HB := n3_; clear n0_ n1_ n2_ n3_)); have hnb14 := NB268_270.out; have hnc14 := NB270_268.out; (refine cb3 BK268 ?_; intro _ _ _); (refine cz3 BK268 ?_; intro _ _ _)) | ((with_reducible refine qE (f := 60) rfl ?_); refine qm (some 22) rfl rfl Tryz.func60 (by kernel_rfl) rfl #[.agg #[.int .i64 a0_0, .int .i64 a0_1, .slice A0_2 l0_2.length c0_2], .int .i64 t271, .int .i64 t272] rfl gA ?_; (with_reducible refine (qpA.calls a0_0 a0_1 _ _ l0_2 t271 t272 true _ ?side1 ?side2 A5.out).mono ?_); (case side1 => repeat (first | exact (Kd.qV HR0_2.out HB.out) | (with_reducible refine Kd.qL ?_ _) | (with_reducible refine Kd.qK ?_ _) | (with_reducible refine Kd.qX ?_))); (case side2 => exact HC0_2.out); rintro e w16 ⟨rfl, hb⟩; refine ⟨_, rfl, ?_⟩; replace BK268 := aM (bb BK268 hb); replace BK269 := aM (bb BK269 hb); replace BK270 := aM (bb BK270 hb); replace HB := aM (qB bl hb); (try clear hb); (try clear hb2); (try clear hk); (try clear hi); (refine cb8 BK269 ?_; intro _ _ _ _ _ _ _ _); (refine cz8 BK269 ?_; intro _ _ _ _ _ _ _ _)) | ((with_reducible refine qE (f := 82) rfl ?_); refine qm (some 30) rfl rfl Tryz.func82 (by kernel_rfl) rfl #[.agg #[.int .i64 a1_2, .int .i64 a1_3, .int .i64 a1_4, .int .i64 a1_5, .int .i64 a1_6, .int .i64 a1_7], .int .i64 a2] rfl gA ?_; (with_reducible refine (qFB.calls a1_2 a1_3 a1_4 a1_5 a1_6 a1_7 a2 t274 t275 t276 t277 t278 t279 _ A7.out).mono ?_); rintro e w18 ⟨rfl, hb⟩; refine ⟨_, rfl, ?_⟩; replace BK268 := aM (bb BK268 hb); replace BK269 := aM (bb BK269 hb); replace BK270 := aM (bb BK270 hb); replace HB := aM (qB bl hb); (try clear hb); (try clear hb2); (try clear hk); (try clear hi); (refine cb8 BK270 ?_; intro _ _ _ _ _ _ _ _); (refine cz8 BK270 ?_; intro _ _ _ _ _ _ _ _)))
  refine bodyPost_ret (qyA rfl _ _ gb270 53 #[.int .i64 t271, .int .i64 t272, .int .i64 t274, .int .i64 t275, .int .i64 t276, .int .i64 t277, .int .i64 t278, .int .i64 t279] (0, 0) _ rfl (by (with_reducible repeat (first | refine qG ?_ _ | refine qD ?_ | refine qF ?_ _)); exact bP8 BK270) Tryz.underlying53 rfl (by kernel_rfl)) rfl ?_
  exact ⟨sR, bl⟩
 ·replace c6 := Bool.eq_false_iff.mpr c6
  subst c6
  replace H := iF H
  simp only [Option.some.injEq, Prod.mk.injEq] at H
  obtain ⟨rfl, rfl, rfl, rfl, rfl, rfl, rfl, rfl, rfl⟩ := H
  go_enter Tryz.func65, Tryz.ntmps65
  go_wp2_with (first | ((with_reducible refine qH (N := 3) rfl ?_); refine bE (N := 3) (cs := #[.int .i64 a0_0, .int .i64 a0_1, .slice A0_2 l0_2.length c0_2]) (t := 40) ?_; intro gb268 hg w20 hbox hb; have BK268 := aM (hbox); have GW268 := aM ((gg hg)); have GE268 := aM ((gg hg)); replace HB := aM (qB bl hb); clear hb hbox hg) | ((with_reducible refine qH (N := 4) rfl ?_); refine bE (N := 4) (cs := #[.int .i64 a1_0, .int .i64 a1_1, .int .i64 a1_2, .int .i64 a1_3, .int .i64 a1_4, .int .i64 a1_5, .int .i64 a1_6, .int .i64 a1_7]) (t := 53) ?_; intro gb269 hg w21 hbox hb; have BK269 := aM (hbox); have GW269 := aM ((gg hg)); have GE269 := aM ((gg hg)); have NB268_269 := aM ((nl BK268 hg)); have NB269_268 := aM ((nr BK268 hg)); replace BK268 := aM (bb BK268 hb); replace HB := aM (qB bl hb); clear hb hbox hg) | ((with_reducible refine qH (N := 6) rfl ?_); refine bE (N := 6) (cs := #[.int .i64 0, .int .i64 0, .int .i64 0, .int .i64 0, .int .i64 0, .int .i64 0, .int .i64 0, .int .i64 0]) (t := 53) ?_; intro gb270 hg w22 hbox hb; have BK270 := aM (hbox); have GW270 := aM ((gg hg)); have GE270 := aM ((gg hg)); have NB268_270 := aM ((nl BK268 hg)); have NB270_268 := aM ((nr BK268 hg)); have NB269_270 := aM ((nl BK269 hg)); have NB270_269 := aM ((nr BK269 hg)); replace BK268 := aM (bb BK268 hb); replace BK269 := aM (bb BK269 hb); replace HB := aM (qB bl hb); clear hb hbox hg; have hnb23 := NB269_268.out; have hnc23 := NB268_269.out; have hnb24 := NB269_270.out; have hnc24 := NB270_269.out; (refine cb8 BK269 ?_; intro _ _ _ _ _ _ _ _); (refine cz8 BK269 ?_; intro _ _ _ _ _ _ _ _)) | ((with_reducible refine qE (f := 81) rfl ?_); refine qm (some 16) rfl rfl Tryz.func81 (by kernel_rfl) rfl #[.int .i64 a1_0, .int .i64 a1_1, .int .i64 a2] rfl gA ?_; (with_reducible refine (qcB.calls a1_0 a1_1 a2 t271 t272 _ A4.out).mono ?_); rintro e w' ⟨rfl, ⟨nd, rfl⟩⟩; refine ⟨_, rfl, ?_⟩; (try (rw [qvC w22]; generalize hq_ : World.drewN w22 _ = w22; have n0_ : Aside0 (w22.heap[gb268]? = some (.cells #[.int .i64 a0_0, .int .i64 a0_1, .slice A0_2 l0_2.length c0_2] 40 (0, 0))) := ⟨by rw [← hq_]; exact (rB BK268)⟩; have n1_ : Aside0 (w22.heap[gb269]? = some (.cells #[.int .i64 a1_0, .int .i64 a1_1, .int .i64 a1_2, .int .i64 a1_3, .int .i64 a1_4, .int .i64 a1_5, .int .i64 a1_6, .int .i64 a1_7] 53 (0, 0))) := ⟨by rw [← hq_]; exact (rB BK269)⟩; have n2_ : Aside0 (w22.heap[gb270]? = some (.cells #[.int .i64 0, .int .i64 0, .int .i64 0, .int .i64 0, .int .i64 0, .int .i64 0, .int .i64 0, .int .i64 0] 53 (0, 0))) := ⟨by rw [← hq_]; exact (rB BK270)⟩; have n3_ : Aside0 (Below w.heap.size w w22) := ⟨by rw [← hq_]; exact bl⟩; clear BK268 BK269 BK270 HB hq_; have BK268 := n0_; have BK269 := n1_; have BK270 := n2_; have HB := n3_; clear n0_ n1_ n2_ n3_)); have hnb26 := NB268_270.out; have hnc26 := NB270_268.out; (refine cb3 BK268 ?_; intro _ _ _); (refine cz3 BK268 ?_; intro _ _ _)) | ((with_reducible refine qE (f := 60) rfl ?_); refine qm (some 22) rfl rfl Tryz.func60 (by kernel_rfl) rfl #[.agg #[.int .i64 a0_0, .int .i64 a0_1, .slice A0_2 l0_2.length c0_2], .int .i64 t271, .int .i64 t272] rfl gA ?_; (with_reducible refine (qpA.calls a0_0 a0_1 _ _ l0_2 t271 t272 false _ ?side1 ?side2 A5.out).mono ?_); (case side1 => repeat (first | exact (Kd.qV HR0_2.out HB.out) | (with_reducible refine Kd.qL ?_ _) | (with_reducible refine Kd.qK ?_ _) | (with_reducible refine Kd.qX ?_))); (case side2 => exact HC0_2.out); rintro e w28 ⟨rfl, hb⟩; refine ⟨_, rfl, ?_⟩; replace BK268 := aM (bb BK268 hb); replace BK269 := aM (bb BK269 hb); replace BK270 := aM (bb BK270 hb); replace HB := aM (qB bl hb); (try clear hb); (try clear hb2); (try clear hk); (try clear hi); (refine cb8 BK270 ?_; intro _ _ _ _ _ _ _ _); (refine cz8 BK270 ?_; intro _ _ _ _ _ _ _ _)))
  refine bodyPost_ret (qyA rfl _ _ gb270 53 #[.int .i64 0, .int .i64 0, .int .i64 0, .int .i64 0, .int .i64 0, .int .i64 0, .int .i64 0, .int .i64 0] (0, 0) _ rfl (by (with_reducible repeat (first | refine qG ?_ _ | refine qD ?_ | refine qF ?_ _)); exact bP8 BK270) Tryz.underlying53 rfl (by kernel_rfl)) rfl ?_
  exact ⟨sR, bl⟩
def qTA.f (k : Nat) (a0_0 : Int) (a0_1 : Int) (l0_2 : List Int) (l1 : List (S53)) (a2 : Int) (a3 : Int) : Option ((List (S53)) × Bool) := if 0 ≤ a2 then (if a2 < (l1.length : Int) then ((qAB.f a0_0 a0_1 l0_2 ((qA l1 a2).f0) ((qA l1 a2).f1) ((qA l1 a2).f2.f0) ((qA l1 a2).f2.f1) ((qA l1 a2).f2.f2) ((qA l1 a2).f2.f3) ((qA l1 a2).f2.f4) ((qA l1 a2).f2.f5) a3).bind fun bt282 => (if bt282.2.2.2.2.2.2.2.2 = true then ((qVA.f k l1 bt282.1 bt282.2.1).bind fun t292 => (if t292 ≥ 0 then (some (([] : List (S53)), false)) else ((some (([] : List (S53)) : List (S53))).bind fun y293 => (if y293.length + l1.length < 2199023255552 then ((some (y293 ++ l1 : List (S53))).bind fun y296 => (if a2 < (y296.length : Int) then (some ((y296.set (a2 : Int).toNat (⟨bt282.1, bt282.2.1, (⟨bt282.2.2.1, bt282.2.2.2.1, bt282.2.2.2.2.1, bt282.2.2.2.2.2.1, bt282.2.2.2.2.2.2.1, bt282.2.2.2.2.2.2.2.1⟩ : S51)⟩ : S53)), true)) else (none))) else (none))))) else (some (([] : List (S53)), false)))) else (none)) else (none)
def qTA.T1 : Bool × List (List Nat × List Nat) := (true, [([], []), ([], []), ([], []), ([1, 2], [1, 2]), ([3], [3]), ([], []), ([0, 4, 5], [0, 4, 5]), ([6], [6]), ([7], [7]), ([7], [7]), ([], []), ([10, 8, 6, 0, 1, 2, 3, 4, 5, 6, 7, 8, 10], [8, 10]), ([9, 11, 0, 1, 2, 3, 4, 5, 6, 7, 8, 9, 10, 11], [9])])
def qTA.B1 : List Nat := [0, 0, 0, 6, 14, 0, 63, 127, 255, 255, 0, 1535, 4095]
theorem qTA.tab1 : rtab .any (opsOf Tryz.f47 1) = qTA.T1 := by kernel_rfl
theorem qTA.bits1 : waitsOk qTA.T1.2 qTA.B1 = true := by kernel_rfl
set_option maxHeartbeats 8000000 in
set_option maxRecDepth 100000 in
theorem qTA.calls (k : Nat) (a0_0 : Int) (a0_1 : Int) (A0_2 : Option Addr) (c0_2 : Nat) (l0_2 : List Int) (A1 : Option Addr) (c1 : Nat) (l1 : List (S53)) (a2 : Int) (a3 : Int) (r1 : List (S53)) (r2 : Bool) (w : World) (hr0_2 : Kd.C (Kd.int .u8) w A0_2 l0_2.length l0_2) (hc0_2 : l0_2.length ≤ c0_2) (hr1 : Kd.C k53 w A1 l1.length l1) (hc1 : l1.length ≤ c1) (h : qTA.f k a0_0 a0_1 l0_2 l1 a2 a3 = some (r1, r2)) :
  Calls Tryz.prog 47 #[.agg #[.int .i64 a0_0, .int .i64 a0_1, .slice A0_2 l0_2.length c0_2], .slice A1 l1.length c1, .int .i64 a2, .int .i64 a3] w fun e w' => ∃ v0_ : Value, e = .returned (.tuple #[v0_, .bool r2]) ∧ Kd.R k53 53 w' w.heap.size (fun _ => True) v0_ r1 ∧ Below w.heap.size w w' := by
 have hu40 := Tryz.underlying40
 have hu53 := Tryz.underlying53
 have HR0_2 := aM hr0_2
 have HC0_2 := aM hc0_2
 clear hr0_2 hc0_2
 have HR1 := aM hr1
 have HC1 := aM hc1
 clear hr1 hc1
 have HB := aM (Below.refl w.heap.size w)
 have H : (if 0 ≤ a2 then (if a2 < (l1.length : Int) then ((qAB.f a0_0 a0_1 l0_2 ((qA l1 a2).f0) ((qA l1 a2).f1) ((qA l1 a2).f2.f0) ((qA l1 a2).f2.f1) ((qA l1 a2).f2.f2) ((qA l1 a2).f2.f3) ((qA l1 a2).f2.f4) ((qA l1 a2).f2.f5) a3).bind fun bt282 => (if bt282.2.2.2.2.2.2.2.2 = true then ((qVA.f k l1 bt282.1 bt282.2.1).bind fun t292 => (if t292 ≥ 0 then (some (([] : List (S53)), false)) else ((some (([] : List (S53)) : List (S53))).bind fun y293 => (if y293.length + l1.length < 2199023255552 then ((some (y293 ++ l1 : List (S53))).bind fun y296 => (if a2 < (y296.length : Int) then (some ((y296.set (a2 : Int).toNat (⟨bt282.1, bt282.2.1, (⟨bt282.2.2.1, bt282.2.2.2.1, bt282.2.2.2.2.1, bt282.2.2.2.2.2.1, bt282.2.2.2.2.2.2.1, bt282.2.2.2.2.2.2.2.1⟩ : S51)⟩ : S53)), true)) else (none))) else (none))))) else (some (([] : List (S53)), false)))) else (none)) else (none)) = some (r1, r2) := h
 clear h
 by_cases c5 : 0 ≤ a2
 ·rw [if_pos c5] at H
  have c5b0 := decide_eq_true c5
  clear c5
  by_cases c6 : a2 < (l1.length : Int)
  case neg => exact nN c6 H
  rw [if_pos c6] at H
  have c6b0 := decide_eq_true c6
  clear c6
  replace H := bO H
  obtain ⟨⟨t282, t283, t284, t285, t286, t287, t288, t289, t290⟩, A7, H⟩ := H
  dsimp only at H A7
  by_cases c8 : t290 = true
  ·subst c8
   replace H := iT H
   replace H := bO H
   obtain ⟨t292, A9, H⟩ := H
   by_cases c10 : t292 ≥ 0
   ·rw [if_pos c10] at H
    have c10b0 := decide_eq_true c10
    clear c10
    simp only [Option.some.injEq, Prod.mk.injEq] at H
    obtain ⟨rfl, rfl⟩ := H
    go_enter Tryz.func47, Tryz.ntmps47
    try go_wp2_with (first | ((with_reducible refine qH (N := 4) rfl ?_); refine bE (N := 4) (cs := #[.int .i64 a0_0, .int .i64 a0_1, .slice A0_2 l0_2.length c0_2]) (t := 40) ?_; intro gb280 hg w11 hbox hb; have BK280 := aM (hbox); have GW280 := aM ((gg hg)); have GE280 := aM ((gg hg)); replace HB := aM (qB bl hb); clear hb hbox hg))
    replace BK280 := aM (qD BK280.out)
    replace HB := aM (qi HB.out)
    have p281 : 0 ≤ (a2 : Int) := of_decide_eq_true am
    have q281 : a2 < (l1.length : Int) := of_decide_eq_true am
    obtain ⟨ad281, e281, hx281_0, hx281_1, hx281_2, hx281_3, hx281_4, hx281_5, hx281_6, hx281_7⟩ := qYB HR1.out a2 p281 q281
    have hw281_7 := hx281_7
    have hw281_6 := hx281_6
    have hw281_5 := hx281_5
    have hw281_4 := hx281_4
    have hw281_3 := hx281_3
    have hw281_2 := hx281_2
    have hw281_1 := hx281_1
    have hw281_0 := hx281_0
    cases e281
    replace hx281_0 := hB HB hx281_0
    replace hx281_1 := hB HB hx281_1
    replace hx281_2 := hB HB hx281_2
    replace hx281_3 := hB HB hx281_3
    replace hx281_4 := hB HB hx281_4
    replace hx281_5 := hB HB hx281_5
    replace hx281_6 := hB HB hx281_6
    replace hx281_7 := hB HB hx281_7
    replace p281 := eq_true p281
    replace q281 := eq_true q281
    refine qJB (n := 13) (S := fun w' => w'.cell? ⟨gb280, 0, none⟩ = some (.int .i64 a0_0) ∧ w'.cell? ⟨gb280, 1, none⟩ = some (.int .i64 a0_1) ∧ w'.cell? ⟨gb280, 2, none⟩ = some (.slice A0_2 l0_2.length c0_2) ∧ w'.cell? (ad281.add ((a2).toNat * 8)) = some (.int .i64 ((qA l1 a2).f0)) ∧ w'.cell? ⟨(ad281.add ((a2).toNat * 8)).block, (ad281.add ((a2).toNat * 8)).off + 1, none⟩ = some (.int .i64 ((qA l1 a2).f1)) ∧ w'.cell? ⟨(ad281.add ((a2).toNat * 8)).block, (ad281.add ((a2).toNat * 8)).off + 2, none⟩ = some (.int .i64 ((qA l1 a2).f2.f0)) ∧ w'.cell? ⟨(ad281.add ((a2).toNat * 8)).block, (ad281.add ((a2).toNat * 8)).off + 3, none⟩ = some (.int .i64 ((qA l1 a2).f2.f1)) ∧ w'.cell? ⟨(ad281.add ((a2).toNat * 8)).block, (ad281.add ((a2).toNat * 8)).off + 4, none⟩ = some (.int .i64 ((qA l1 a2).f2.f2)) ∧ w'.cell? ⟨(ad281.add ((a2).toNat * 8)).block, (ad281.add ((a2).toNat * 8)).off + 5, none⟩ = some (.int .i64 ((qA l1 a2).f2.f3)) ∧ w'.cell? ⟨(ad281.add ((a2).toNat * 8)).block, (ad281.add ((a2).toNat * 8)).off + 6, none⟩ = some (.int .i64 ((qA l1 a2).f2.f4)) ∧ w'.cell? ⟨(ad281.add ((a2).toNat * 8)).block, (ad281.add ((a2).toNat * 8)).off + 7, none⟩ = some (.int .i64 ((qA l1 a2).f2.f5))) (ds := []) #[false, false, false, false, false, false, false, false, false, false, false, false, false] (by kernel_rfl) rfl rfl ⟨bc BK280 0, bc BK280 1, bc BK280 2, (hB HB hw281_0 :), (hB HB hw281_1 :), (hB HB hw281_2 :), (hB HB hw281_3 :), (hB HB hw281_4 :), (hB HB hw281_5 :), (hB HB hw281_6 :), (hB HB hw281_7 :)⟩ (fun hHeld => ?_); refine qNA qTA.tab1 qTA.bits1 (fun HT_ HW_ => ?_)
    generalize w11.drew = w12 at BK280 HB hx281_0 hx281_1 hx281_2 hx281_3 hx281_4 hx281_5 hx281_6 hx281_7 hHeld ⊢
    refine pS (i := 1) (N := some 15) #[false, true, false, false, false, false, false, false, false, false, false, false, false] HT_ ?_
    refine pS (i := 2) (N := some 16) #[false, true, true, false, false, false, false, false, false, false, false, false, false] HT_ ?_
    refine pS (i := 3) (N := some 17) #[false, true, true, true, false, false, false, false, false, false, false, false, false] HT_ ?_
    refine pS (i := 5) (N := some 19) #[false, true, true, true, false, true, false, false, false, false, false, false, false] HT_ ?_
    refine tS (i := 0) (N := some 14) #[true, true, true, true, false, true, false, false, false, false, false, false, false] HT_ HW_ hHeld ?_
    refine tS (i := 4) (N := some 18) #[true, true, true, true, true, true, false, false, false, false, false, false, false] HT_ HW_ hHeld ?_
    refine join_ (σ := Nat) 2 #[true, true, true, true, true, true, true, true, true, true, true, false, false] (fun s_ => [(20, .tuple #[.agg #[.int .i64 t282, .int .i64 t283, .int .i64 t284, .int .i64 t285, .int .i64 t286, .int .i64 t287, .int .i64 t288, .int .i64 t289], .bool true]), (10, .pointer (some ⟨s_, 0, none⟩)), (13, .tuple #[.agg #[.int .i64 t282, .int .i64 t283, .int .i64 t284, .int .i64 t285, .int .i64 t286, .int .i64 t287, .int .i64 t288, .int .i64 t289], .bool true]), (21, .agg #[.int .i64 t282, .int .i64 t283, .int .i64 t284, .int .i64 t285, .int .i64 t286, .int .i64 t287, .int .i64 t288, .int .i64 t289]), (22, .bool true)]) (fun s_ w' => (w'.cell? ⟨gb280, 0, none⟩ = some (.int .i64 a0_0) ∧ w'.cell? ⟨gb280, 1, none⟩ = some (.int .i64 a0_1) ∧ w'.cell? ⟨gb280, 2, none⟩ = some (.slice A0_2 l0_2.length c0_2) ∧ w'.cell? (ad281.add ((a2).toNat * 8)) = some (.int .i64 ((qA l1 a2).f0)) ∧ w'.cell? ⟨(ad281.add ((a2).toNat * 8)).block, (ad281.add ((a2).toNat * 8)).off + 1, none⟩ = some (.int .i64 ((qA l1 a2).f1)) ∧ w'.cell? ⟨(ad281.add ((a2).toNat * 8)).block, (ad281.add ((a2).toNat * 8)).off + 2, none⟩ = some (.int .i64 ((qA l1 a2).f2.f0)) ∧ w'.cell? ⟨(ad281.add ((a2).toNat * 8)).block, (ad281.add ((a2).toNat * 8)).off + 3, none⟩ = some (.int .i64 ((qA l1 a2).f2.f1)) ∧ w'.cell? ⟨(ad281.add ((a2).toNat * 8)).block, (ad281.add ((a2).toNat * 8)).off + 4, none⟩ = some (.int .i64 ((qA l1 a2).f2.f2)) ∧ w'.cell? ⟨(ad281.add ((a2).toNat * 8)).block, (ad281.add ((a2).toNat * 8)).off + 5, none⟩ = some (.int .i64 ((qA l1 a2).f2.f3)) ∧ w'.cell? ⟨(ad281.add ((a2).toNat * 8)).block, (ad281.add ((a2).toNat * 8)).off + 6, none⟩ = some (.int .i64 ((qA l1 a2).f2.f4)) ∧ w'.cell? ⟨(ad281.add ((a2).toNat * 8)).block, (ad281.add ((a2).toNat * 8)).off + 7, none⟩ = some (.int .i64 ((qA l1 a2).f2.f5))) ∧ (w'.heap[gb280]? = some (.cells #[.int .i64 a0_0, .int .i64 a0_1, .slice A0_2 l0_2.length c0_2] 40 (0, 0))) ∧ (w'.heap[s_]? = some (.cells #[.int .i64 0, .int .i64 0, .int .i64 0, .int .i64 0, .int .i64 0, .int .i64 0, .int .i64 0, .int .i64 0] 53 (0, 0))) ∧ (w.heap.size ≤ s_) ∧ (w.heap.size ≤ s_) ∧ (gb280 ≠ s_) ∧ (s_ ≠ gb280) ∧ (Below w.heap.size w w')) ?_ ?_
    rotate_left
    ·intro hCont
     refine two_ (i := 6) (j := 10) (Ni := some 20) (Nj := some 10) #[true, true, true, true, true, true, true, false, false, false, false, false, false] #[true, true, true, true, true, true, false, false, false, false, true, false, false] rfl rfl rfl rfl (qID HT_.out (by kernel_rfl)) (by decide) (by decide) (fun K hK => ?_) (fun K hK => ?_)
     ·skip
      refine goes_ Tryz.func65 (by kernel_rfl) rfl #[.agg #[.int .i64 a0_0, .int .i64 a0_1, .slice A0_2 l0_2.length c0_2], .agg #[.int .i64 ((qA l1 a2).f0), .int .i64 ((qA l1 a2).f1), .int .i64 ((qA l1 a2).f2.f0), .int .i64 ((qA l1 a2).f2.f1), .int .i64 ((qA l1 a2).f2.f2), .int .i64 ((qA l1 a2).f2.f3), .int .i64 ((qA l1 a2).f2.f4), .int .i64 ((qA l1 a2).f2.f5)], .int .i64 a3] (by rfl) rfl rfl gA ?_
      with_reducible refine (qAB.calls a0_0 a0_1 _ _ l0_2 ((qA l1 a2).f0) ((qA l1 a2).f1) ((qA l1 a2).f2.f0) ((qA l1 a2).f2.f1) ((qA l1 a2).f2.f2) ((qA l1 a2).f2.f3) ((qA l1 a2).f2.f4) ((qA l1 a2).f2.f5) a3 t282 t283 t284 t285 t286 t287 t288 t289 true _ ?side1 ?side2 A7.out).mono ?_
      (case side1 => repeat (first | exact (Kd.qV HR0_2.out HB.out) | (with_reducible refine Kd.qL ?_ _) | (with_reducible refine Kd.qK ?_ _) | (with_reducible refine Kd.qX ?_)))
      (case side2 => exact HC0_2.out)
      rintro e w13 ⟨rfl, hb⟩
      refine ⟨_, rfl, ?_⟩
      replace BK280 := aM (bb BK280 hb)
      replace HB := aM (qB bl hb); (try clear hb); (try clear hb2); (try clear hk); (try clear hi)
      refine hK.out _ _ ⟨bc BK280 0, bc BK280 1, bc BK280 2, (hB HB hw281_0 :), (hB HB hw281_1 :), (hB HB hw281_2 :), (hB HB hw281_3 :), (hB HB hw281_4 :), (hB HB hw281_5 :), (hB HB hw281_6 :), (hB HB hw281_7 :)⟩ (fun hHeld => ?_)
      clear hK K
      refine norm_ (a' := ?_) ?_ ?_
      rotate_left
      ·show Act.put _ (some 20) _ = _
       simp only [Act.put, List.setIfInBounds_toArray, List.set_cons_zero, List.set_cons_succ, i64_w, i32_w]
       rfl
      refine pS (i := 7) (N := some 13) #[true, true, true, true, true, true, true, true, false, false, false, false, false] HT_ ?_
      refine pS (i := 8) (N := some 21) #[true, true, true, true, true, true, true, true, true, false, false, false, false] HT_ ?_
      refine pS (i := 9) (N := some 22) #[true, true, true, true, true, true, true, true, true, true, false, false, false] HT_ ?_
      refine one_ (i := 10) (N := some 10) #[true, true, true, true, true, true, true, true, true, true, true, false, false] rfl rfl (qcA HT_.out (by kernel_rfl)) (by decide) (fun K hK => ?_)
      refine qxC ?hg (N := 10) ?hd (cs := #[.int .i64 0, .int .i64 0, .int .i64 0, .int .i64 0, .int .i64 0, .int .i64 0, .int .i64 0, .int .i64 0]) (t := 53) ?hr ?_; (case hd => rfl); (case hg => rfl); (case hr => exact gS)
      intro gb291 hg w14 hbox hb
      have BK291 := aM (hbox)
      have GW291 := aM ((gg hg))
      have GE291 := aM ((gg hg))
      have NB280_291 := aM ((nl BK280 hg))
      have NB291_280 := aM ((nr BK280 hg))
      replace BK280 := aM (bb BK280 hb)
      replace HB := aM (qB bl hb)
      clear hb hbox hg
      refine hK.out _ _ ⟨bc BK280 0, bc BK280 1, bc BK280 2, (hB HB hw281_0 :), (hB HB hw281_1 :), (hB HB hw281_2 :), (hB HB hw281_3 :), (hB HB hw281_4 :), (hB HB hw281_5 :), (hB HB hw281_6 :), (hB HB hw281_7 :)⟩ (fun hHeld => ?_)
      clear hK K
      refine norm_ (a' := ?_) ?_ ?_
      rotate_left
      ·show Act.put _ (some 10) _ = _
       simp only [Act.put, List.setIfInBounds_toArray, List.set_cons_zero, List.set_cons_succ, i64_w, i32_w]
       rfl
      exact norm_ (by simp only [putAll, Act.put, List.setIfInBounds_toArray, List.set_cons_zero, List.set_cons_succ]) (hCont (gb291) _ ⟨hHeld, (rB BK280), (rB BK291), GW291.out, GE291.out, NB280_291.out, NB291_280.out, bl⟩)
     ·skip
      refine qxC ?hg (N := 10) ?hd (cs := #[.int .i64 0, .int .i64 0, .int .i64 0, .int .i64 0, .int .i64 0, .int .i64 0, .int .i64 0, .int .i64 0]) (t := 53) ?hr ?_; (case hd => rfl); (case hg => rfl); (case hr => exact gS)
      intro gb291 hg w13 hbox hb
      have BK291 := aM (hbox)
      have GW291 := aM ((gg hg))
      have GE291 := aM ((gg hg))
      have NB280_291 := aM ((nl BK280 hg))
      have NB291_280 := aM ((nr BK280 hg))
      replace BK280 := aM (bb BK280 hb)
      replace HB := aM (qB bl hb)
      clear hb hbox hg
      refine hK.out _ _ ⟨bc BK280 0, bc BK280 1, bc BK280 2, (hB HB hw281_0 :), (hB HB hw281_1 :), (hB HB hw281_2 :), (hB HB hw281_3 :), (hB HB hw281_4 :), (hB HB hw281_5 :), (hB HB hw281_6 :), (hB HB hw281_7 :)⟩ (fun hHeld => ?_)
      clear hK K
      refine norm_ (a' := ?_) ?_ ?_
      rotate_left
      ·show Act.put _ (some 10) _ = _
       simp only [Act.put, List.setIfInBounds_toArray, List.set_cons_zero, List.set_cons_succ, i64_w, i32_w]
       rfl
      refine one_ (i := 6) (N := some 20) #[true, true, true, true, true, true, true, false, false, false, true, false, false] rfl rfl (qcA HT_.out (by kernel_rfl)) (by decide) (fun K hK => ?_)
      refine goes_ Tryz.func65 (by kernel_rfl) rfl #[.agg #[.int .i64 a0_0, .int .i64 a0_1, .slice A0_2 l0_2.length c0_2], .agg #[.int .i64 ((qA l1 a2).f0), .int .i64 ((qA l1 a2).f1), .int .i64 ((qA l1 a2).f2.f0), .int .i64 ((qA l1 a2).f2.f1), .int .i64 ((qA l1 a2).f2.f2), .int .i64 ((qA l1 a2).f2.f3), .int .i64 ((qA l1 a2).f2.f4), .int .i64 ((qA l1 a2).f2.f5)], .int .i64 a3] (by rfl) rfl rfl gA ?_
      with_reducible refine (qAB.calls a0_0 a0_1 _ _ l0_2 ((qA l1 a2).f0) ((qA l1 a2).f1) ((qA l1 a2).f2.f0) ((qA l1 a2).f2.f1) ((qA l1 a2).f2.f2) ((qA l1 a2).f2.f3) ((qA l1 a2).f2.f4) ((qA l1 a2).f2.f5) a3 t282 t283 t284 t285 t286 t287 t288 t289 true _ ?side1 ?side2 A7.out).mono ?_
      (case side1 => repeat (first | exact (Kd.qV HR0_2.out HB.out) | (with_reducible refine Kd.qL ?_ _) | (with_reducible refine Kd.qK ?_ _) | (with_reducible refine Kd.qX ?_)))
      (case side2 => exact HC0_2.out)
      rintro e w14 ⟨rfl, hb⟩
      refine ⟨_, rfl, ?_⟩
      replace BK280 := aM (bb BK280 hb)
      replace BK291 := aM (bb BK291 hb)
      replace HB := aM (qB bl hb); (try clear hb); (try clear hb2); (try clear hk); (try clear hi)
      refine hK.out _ _ ⟨bc BK280 0, bc BK280 1, bc BK280 2, (hB HB hw281_0 :), (hB HB hw281_1 :), (hB HB hw281_2 :), (hB HB hw281_3 :), (hB HB hw281_4 :), (hB HB hw281_5 :), (hB HB hw281_6 :), (hB HB hw281_7 :)⟩ (fun hHeld => ?_)
      clear hK K
      refine norm_ (a' := ?_) ?_ ?_
      rotate_left
      ·show Act.put _ (some 20) _ = _
       simp only [Act.put, List.setIfInBounds_toArray, List.set_cons_zero, List.set_cons_succ, i64_w, i32_w]
       rfl
      refine pS (i := 7) (N := some 13) #[true, true, true, true, true, true, true, true, false, false, true, false, false] HT_ ?_
      refine pS (i := 8) (N := some 21) #[true, true, true, true, true, true, true, true, true, false, true, false, false] HT_ ?_
      refine pS (i := 9) (N := some 22) #[true, true, true, true, true, true, true, true, true, true, true, false, false] HT_ ?_
      exact norm_ (by simp only [putAll, Act.put, List.setIfInBounds_toArray, List.set_cons_zero, List.set_cons_succ]) (hCont (gb291) _ ⟨hHeld, (rB BK280), (rB BK291), GW291.out, GE291.out, NB280_291.out, NB291_280.out, bl⟩)
    rintro gb291 w15 ⟨hS_, h0_, h1_, h2_, h3_, h4_, h5_, h6_⟩
    have n0_ : Aside0 (w15.heap[gb280]? = some (.cells #[.int .i64 a0_0, .int .i64 a0_1, .slice A0_2 l0_2.length c0_2] 40 (0, 0))) := ⟨h0_⟩
    have n1_ : Aside0 (w15.heap[gb291]? = some (.cells #[.int .i64 0, .int .i64 0, .int .i64 0, .int .i64 0, .int .i64 0, .int .i64 0, .int .i64 0, .int .i64 0] 53 (0, 0))) := ⟨h1_⟩
    have n2_ : Aside0 (w.heap.size ≤ gb291) := ⟨h2_⟩
    have n3_ : Aside0 (w.heap.size ≤ gb291) := ⟨h3_⟩
    have n4_ : Aside0 (gb280 ≠ gb291) := ⟨h4_⟩
    have n5_ : Aside0 (gb291 ≠ gb280) := ⟨h5_⟩
    have n6_ : Aside0 (Below w.heap.size w w15) := ⟨h6_⟩
    clear BK280 HB h0_ h1_ h2_ h3_ h4_ h5_ h6_
    have BK280 := n0_
    have BK291 := n1_
    have GW291 := n2_
    have GE291 := n3_
    have NB280_291 := n4_
    have NB291_280 := n5_
    have HB := n6_
    clear n0_ n1_ n2_ n3_ n4_ n5_ n6_
    have hHeld : w15.cell? ⟨gb280, 0, none⟩ = some (.int .i64 a0_0) ∧ w15.cell? ⟨gb280, 1, none⟩ = some (.int .i64 a0_1) ∧ w15.cell? ⟨gb280, 2, none⟩ = some (.slice A0_2 l0_2.length c0_2) ∧ w15.cell? (ad281.add ((a2).toNat * 8)) = some (.int .i64 ((qA l1 a2).f0)) ∧ w15.cell? ⟨(ad281.add ((a2).toNat * 8)).block, (ad281.add ((a2).toNat * 8)).off + 1, none⟩ = some (.int .i64 ((qA l1 a2).f1)) ∧ w15.cell? ⟨(ad281.add ((a2).toNat * 8)).block, (ad281.add ((a2).toNat * 8)).off + 2, none⟩ = some (.int .i64 ((qA l1 a2).f2.f0)) ∧ w15.cell? ⟨(ad281.add ((a2).toNat * 8)).block, (ad281.add ((a2).toNat * 8)).off + 3, none⟩ = some (.int .i64 ((qA l1 a2).f2.f1)) ∧ w15.cell? ⟨(ad281.add ((a2).toNat * 8)).block, (ad281.add ((a2).toNat * 8)).off + 4, none⟩ = some (.int .i64 ((qA l1 a2).f2.f2)) ∧ w15.cell? ⟨(ad281.add ((a2).toNat * 8)).block, (ad281.add ((a2).toNat * 8)).off + 5, none⟩ = some (.int .i64 ((qA l1 a2).f2.f3)) ∧ w15.cell? ⟨(ad281.add ((a2).toNat * 8)).block, (ad281.add ((a2).toNat * 8)).off + 6, none⟩ = some (.int .i64 ((qA l1 a2).f2.f4)) ∧ w15.cell? ⟨(ad281.add ((a2).toNat * 8)).block, (ad281.add ((a2).toNat * 8)).off + 7, none⟩ = some (.int .i64 ((qA l1 a2).f2.f5)) := hS_
    refine norm_ (a' := ?_) ?_ ?_
    rotate_left
    ·simp only [putAll, Act.put, List.setIfInBounds_toArray, List.set_cons_zero, List.set_cons_succ]
     rfl
    refine one_ (i := 11) (N := none) #[true, true, true, true, true, true, true, true, true, true, true, true, false] rfl rfl (qcA HT_.out (by kernel_rfl)) (by decide) (fun K hK => ?_)
    have hs16 : w15.cell? ⟨gb291, 0, none⟩ = some (.int .i64 0) := bc BK291 0
    have hfs16 := qb BK291.out 0
    have hns16_0 := NB280_291.out
    have hms16_0 := NB291_280.out
    have hs17 : w15.cell? ⟨gb291, 1, none⟩ = some (.int .i64 0) := bc BK291 1
    have hfs17 := qb BK291.out 1
    have hns17_0 := NB280_291.out
    have hms17_0 := NB291_280.out
    have hs18 : w15.cell? ⟨gb291, 2, none⟩ = some (.int .i64 0) := bc BK291 2
    have hfs18 := qb BK291.out 2
    have hns18_0 := NB280_291.out
    have hms18_0 := NB291_280.out
    have hs19 : w15.cell? ⟨gb291, 3, none⟩ = some (.int .i64 0) := bc BK291 3
    have hfs19 := qb BK291.out 3
    have hns19_0 := NB280_291.out
    have hms19_0 := NB291_280.out
    have hs20 : w15.cell? ⟨gb291, 4, none⟩ = some (.int .i64 0) := bc BK291 4
    have hfs20 := qb BK291.out 4
    have hns20_0 := NB280_291.out
    have hms20_0 := NB291_280.out
    have hs21 : w15.cell? ⟨gb291, 5, none⟩ = some (.int .i64 0) := bc BK291 5
    have hfs21 := qb BK291.out 5
    have hns21_0 := NB280_291.out
    have hms21_0 := NB291_280.out
    have hs22 : w15.cell? ⟨gb291, 6, none⟩ = some (.int .i64 0) := bc BK291 6
    have hfs22 := qb BK291.out 6
    have hns22_0 := NB280_291.out
    have hms22_0 := NB291_280.out
    have hs23 : w15.cell? ⟨gb291, 7, none⟩ = some (.int .i64 0) := bc BK291 7
    have hfs23 := qb BK291.out 7
    have hns23_0 := NB280_291.out
    have hms23_0 := NB291_280.out
    refine skip_ (w1 := ?_) (by rfl) rfl ?_ ?_
    rotate_left
    ·go_simp
     rfl
    refine hK.out _ _ ⟨(cf8 NB280_291.out (hHeld.1)), (cf8 NB280_291.out (hHeld.2.1)), (cf8 NB280_291.out (hHeld.2.2.1)), (cf8 (nB hw281_0 GW291 :) (hHeld.2.2.2.1)), (cf8 (nB hw281_1 GW291 :) (hHeld.2.2.2.2.1)), (cf8 (nB hw281_2 GW291 :) (hHeld.2.2.2.2.2.1)), (cf8 (nB hw281_3 GW291 :) (hHeld.2.2.2.2.2.2.1)), (cf8 (nB hw281_4 GW291 :) (hHeld.2.2.2.2.2.2.2.1)), (cf8 (nB hw281_5 GW291 :) (hHeld.2.2.2.2.2.2.2.2.1)), (cf8 (nB hw281_6 GW291 :) (hHeld.2.2.2.2.2.2.2.2.2.1)), (cf8 (nB hw281_7 GW291 :) (hHeld.2.2.2.2.2.2.2.2.2.2))⟩ (fun hHeld => ?_)
    clear hK K
    refine pS (i := 12) (N := some 11) #[true, true, true, true, true, true, true, true, true, true, true, true, true] HT_ ?_
    refine done_ (qvA HT_.out (by kernel_rfl)) ?_
    have hnb24 := NB291_280.out
    have hnc24 := NB280_291.out
    (refine cb8 BK291 ?_; intro _ _ _ _ _ _ _ _)
    (refine cz8 BK291 ?_; intro _ _ _ _ _ _ _ _)
    try go_wp2_with (first | (go_at_call 44; (with_reducible refine (qVA.calls k _ _ l1 t282 t283 t292 _ ?side1 ?side2 A9.out).mono ?_); (case side1 => exact Kd.qV HR1.out bl); (case side2 => exact HC1.out); rintro e w26 ⟨rfl, hb⟩; replace BK280 := aM (qCA (g := gb280) (o := .cells #[.int .i64 a0_0, .int .i64 a0_1, .slice A0_2 l0_2.length c0_2] 40 (0, 0)) (bF BK280 NB280_291) hb); replace BK291 := aM (qCA (g := gb291) (o := .cells #[.int .i64 t282, .int .i64 t283, .int .i64 t284, .int .i64 t285, .int .i64 t286, .int .i64 t287, .int .i64 t288, .int .i64 t289] 53 (0, 0)) (by (with_reducible repeat (first | refine qG ?_ _ | refine qD ?_ | refine qF ?_ _)); exact bP8 BK291) hb); replace HB := aM (qB bl hb); (try clear hb); (try clear hb2); (try clear hk); (try clear hi)))
    go_ret2
    exact ⟨_, sR, nK, bl⟩
   ·rw [if_neg c10] at H
    have c10b0 := decide_eq_false c10
    clear c10
    replace H := bS H
    obtain ⟨y293, Ny293, H⟩ := H
    by_cases c27 : y293.length + l1.length < 2199023255552
    case neg => exact nN c27 H
    rw [if_pos c27] at H
    have LMc27 := aM c27
    clear c27
    replace H := bS H
    obtain ⟨y296, Ny296, H⟩ := H
    by_cases c28 : a2 < (y296.length : Int)
    case neg => exact nN c28 H
    rw [if_pos c28] at H
    have c28b0 := decide_eq_true c28
    clear c28
    obtain ⟨y299, hy299⟩ : ∃ y_ : List (S53), y_ = (y296.set (a2 : Int).toNat (⟨t282, t283, (⟨t284, t285, t286, t287, t288, t289⟩ : S51)⟩ : S53)) := ⟨_, rfl⟩
    replace H : (some (y299, true)) = some (r1, r2) := by first | (rw [hy299]; with_reducible exact H) | (have H2_ := (Option.bind_some _ _).symm.trans H; rw [hy299]; with_reducible exact H2_) | (have H2_ := (Option.bind_some _ _).symm.trans H; with_reducible exact H2_) | with_reducible exact H | (rw [hy299]; exact H) | exact H
    have Ny299 := aM hy299
    clear hy299
    simp only [Option.some.injEq, Prod.mk.injEq] at H
    obtain ⟨rfl, rfl⟩ := H
    go_enter Tryz.func47, Tryz.ntmps47
    try go_wp2_with (first | ((with_reducible refine qH (N := 4) rfl ?_); refine bE (N := 4) (cs := #[.int .i64 a0_0, .int .i64 a0_1, .slice A0_2 l0_2.length c0_2]) (t := 40) ?_; intro gb280 hg w30 hbox hb; have BK280 := aM (hbox); have GW280 := aM ((gg hg)); have GE280 := aM ((gg hg)); replace HB := aM (qB bl hb); clear hb hbox hg))
    replace BK280 := aM (qD BK280.out)
    replace HB := aM (qi HB.out)
    have p281 : 0 ≤ (a2 : Int) := of_decide_eq_true am
    have q281 : a2 < (l1.length : Int) := of_decide_eq_true am
    obtain ⟨ad281, e281, hx281_0, hx281_1, hx281_2, hx281_3, hx281_4, hx281_5, hx281_6, hx281_7⟩ := qYB HR1.out a2 p281 q281
    have hw281_7 := hx281_7
    have hw281_6 := hx281_6
    have hw281_5 := hx281_5
    have hw281_4 := hx281_4
    have hw281_3 := hx281_3
    have hw281_2 := hx281_2
    have hw281_1 := hx281_1
    have hw281_0 := hx281_0
    cases e281
    replace hx281_0 := hB HB hx281_0
    replace hx281_1 := hB HB hx281_1
    replace hx281_2 := hB HB hx281_2
    replace hx281_3 := hB HB hx281_3
    replace hx281_4 := hB HB hx281_4
    replace hx281_5 := hB HB hx281_5
    replace hx281_6 := hB HB hx281_6
    replace hx281_7 := hB HB hx281_7
    replace p281 := eq_true p281
    replace q281 := eq_true q281
    refine qJB (n := 13) (S := fun w' => w'.cell? ⟨gb280, 0, none⟩ = some (.int .i64 a0_0) ∧ w'.cell? ⟨gb280, 1, none⟩ = some (.int .i64 a0_1) ∧ w'.cell? ⟨gb280, 2, none⟩ = some (.slice A0_2 l0_2.length c0_2) ∧ w'.cell? (ad281.add ((a2).toNat * 8)) = some (.int .i64 ((qA l1 a2).f0)) ∧ w'.cell? ⟨(ad281.add ((a2).toNat * 8)).block, (ad281.add ((a2).toNat * 8)).off + 1, none⟩ = some (.int .i64 ((qA l1 a2).f1)) ∧ w'.cell? ⟨(ad281.add ((a2).toNat * 8)).block, (ad281.add ((a2).toNat * 8)).off + 2, none⟩ = some (.int .i64 ((qA l1 a2).f2.f0)) ∧ w'.cell? ⟨(ad281.add ((a2).toNat * 8)).block, (ad281.add ((a2).toNat * 8)).off + 3, none⟩ = some (.int .i64 ((qA l1 a2).f2.f1)) ∧ w'.cell? ⟨(ad281.add ((a2).toNat * 8)).block, (ad281.add ((a2).toNat * 8)).off + 4, none⟩ = some (.int .i64 ((qA l1 a2).f2.f2)) ∧ w'.cell? ⟨(ad281.add ((a2).toNat * 8)).block, (ad281.add ((a2).toNat * 8)).off + 5, none⟩ = some (.int .i64 ((qA l1 a2).f2.f3)) ∧ w'.cell? ⟨(ad281.add ((a2).toNat * 8)).block, (ad281.add ((a2).toNat * 8)).off + 6, none⟩ = some (.int .i64 ((qA l1 a2).f2.f4)) ∧ w'.cell? ⟨(ad281.add ((a2).toNat * 8)).block, (ad281.add ((a2).toNat * 8)).off + 7, none⟩ = some (.int .i64 ((qA l1 a2).f2.f5))) (ds := []) #[false, false, false, false, false, false, false, false, false, false, false, false, false] (by kernel_rfl) rfl rfl ⟨bc BK280 0, bc BK280 1, bc BK280 2, (hB HB hw281_0 :), (hB HB hw281_1 :), (hB HB hw281_2 :), (hB HB hw281_3 :), (hB HB hw281_4 :), (hB HB hw281_5 :), (hB HB hw281_6 :), (hB HB hw281_7 :)⟩ (fun hHeld => ?_); refine qNA qTA.tab1 qTA.bits1 (fun HT_ HW_ => ?_)
    generalize w30.drew = w31 at BK280 HB hx281_0 hx281_1 hx281_2 hx281_3 hx281_4 hx281_5 hx281_6 hx281_7 hHeld ⊢
    refine pS (i := 1) (N := some 15) #[false, true, false, false, false, false, false, false, false, false, false, false, false] HT_ ?_
    refine pS (i := 2) (N := some 16) #[false, true, true, false, false, false, false, false, false, false, false, false, false] HT_ ?_
    refine pS (i := 3) (N := some 17) #[false, true, true, true, false, false, false, false, false, false, false, false, false] HT_ ?_
    refine pS (i := 5) (N := some 19) #[false, true, true, true, false, true, false, false, false, false, false, false, false] HT_ ?_
    refine tS (i := 0) (N := some 14) #[true, true, true, true, false, true, false, false, false, false, false, false, false] HT_ HW_ hHeld ?_
    refine tS (i := 4) (N := some 18) #[true, true, true, true, true, true, false, false, false, false, false, false, false] HT_ HW_ hHeld ?_
    refine join_ (σ := Nat) 2 #[true, true, true, true, true, true, true, true, true, true, true, false, false] (fun s_ => [(20, .tuple #[.agg #[.int .i64 t282, .int .i64 t283, .int .i64 t284, .int .i64 t285, .int .i64 t286, .int .i64 t287, .int .i64 t288, .int .i64 t289], .bool true]), (10, .pointer (some ⟨s_, 0, none⟩)), (13, .tuple #[.agg #[.int .i64 t282, .int .i64 t283, .int .i64 t284, .int .i64 t285, .int .i64 t286, .int .i64 t287, .int .i64 t288, .int .i64 t289], .bool true]), (21, .agg #[.int .i64 t282, .int .i64 t283, .int .i64 t284, .int .i64 t285, .int .i64 t286, .int .i64 t287, .int .i64 t288, .int .i64 t289]), (22, .bool true)]) (fun s_ w' => (w'.cell? ⟨gb280, 0, none⟩ = some (.int .i64 a0_0) ∧ w'.cell? ⟨gb280, 1, none⟩ = some (.int .i64 a0_1) ∧ w'.cell? ⟨gb280, 2, none⟩ = some (.slice A0_2 l0_2.length c0_2) ∧ w'.cell? (ad281.add ((a2).toNat * 8)) = some (.int .i64 ((qA l1 a2).f0)) ∧ w'.cell? ⟨(ad281.add ((a2).toNat * 8)).block, (ad281.add ((a2).toNat * 8)).off + 1, none⟩ = some (.int .i64 ((qA l1 a2).f1)) ∧ w'.cell? ⟨(ad281.add ((a2).toNat * 8)).block, (ad281.add ((a2).toNat * 8)).off + 2, none⟩ = some (.int .i64 ((qA l1 a2).f2.f0)) ∧ w'.cell? ⟨(ad281.add ((a2).toNat * 8)).block, (ad281.add ((a2).toNat * 8)).off + 3, none⟩ = some (.int .i64 ((qA l1 a2).f2.f1)) ∧ w'.cell? ⟨(ad281.add ((a2).toNat * 8)).block, (ad281.add ((a2).toNat * 8)).off + 4, none⟩ = some (.int .i64 ((qA l1 a2).f2.f2)) ∧ w'.cell? ⟨(ad281.add ((a2).toNat * 8)).block, (ad281.add ((a2).toNat * 8)).off + 5, none⟩ = some (.int .i64 ((qA l1 a2).f2.f3)) ∧ w'.cell? ⟨(ad281.add ((a2).toNat * 8)).block, (ad281.add ((a2).toNat * 8)).off + 6, none⟩ = some (.int .i64 ((qA l1 a2).f2.f4)) ∧ w'.cell? ⟨(ad281.add ((a2).toNat * 8)).block, (ad281.add ((a2).toNat * 8)).off + 7, none⟩ = some (.int .i64 ((qA l1 a2).f2.f5))) ∧ (w'.heap[gb280]? = some (.cells #[.int .i64 a0_0, .int .i64 a0_1, .slice A0_2 l0_2.length c0_2] 40 (0, 0))) ∧ (w'.heap[s_]? = some (.cells #[.int .i64 0, .int .i64 0, .int .i64 0, .int .i64 0, .int .i64 0, .int .i64 0, .int .i64 0, .int .i64 0] 53 (0, 0))) ∧ (w.heap.size ≤ s_) ∧ (w.heap.size ≤ s_) ∧ (gb280 ≠ s_) ∧ (s_ ≠ gb280) ∧ (Below w.heap.size w w')) ?_ ?_
    rotate_left
    ·intro hCont
     refine two_ (i := 6) (j := 10) (Ni := some 20) (Nj := some 10) #[true, true, true, true, true, true, true, false, false, false, false, false, false] #[true, true, true, true, true, true, false, false, false, false, true, false, false] rfl rfl rfl rfl (qID HT_.out (by kernel_rfl)) (by decide) (by decide) (fun K hK => ?_) (fun K hK => ?_)
     ·skip
      refine goes_ Tryz.func65 (by kernel_rfl) rfl #[.agg #[.int .i64 a0_0, .int .i64 a0_1, .slice A0_2 l0_2.length c0_2], .agg #[.int .i64 ((qA l1 a2).f0), .int .i64 ((qA l1 a2).f1), .int .i64 ((qA l1 a2).f2.f0), .int .i64 ((qA l1 a2).f2.f1), .int .i64 ((qA l1 a2).f2.f2), .int .i64 ((qA l1 a2).f2.f3), .int .i64 ((qA l1 a2).f2.f4), .int .i64 ((qA l1 a2).f2.f5)], .int .i64 a3] (by rfl) rfl rfl gA ?_
      with_reducible refine (qAB.calls a0_0 a0_1 _ _ l0_2 ((qA l1 a2).f0) ((qA l1 a2).f1) ((qA l1 a2).f2.f0) ((qA l1 a2).f2.f1) ((qA l1 a2).f2.f2) ((qA l1 a2).f2.f3) ((qA l1 a2).f2.f4) ((qA l1 a2).f2.f5) a3 t282 t283 t284 t285 t286 t287 t288 t289 true _ ?side1 ?side2 A7.out).mono ?_
      (case side1 => repeat (first | exact (Kd.qV HR0_2.out HB.out) | (with_reducible refine Kd.qL ?_ _) | (with_reducible refine Kd.qK ?_ _) | (with_reducible refine Kd.qX ?_)))
      (case side2 => exact HC0_2.out)
      rintro e w32 ⟨rfl, hb⟩
      refine ⟨_, rfl, ?_⟩
      replace BK280 := aM (bb BK280 hb)
      replace HB := aM (qB bl hb); (try clear hb); (try clear hb2); (try clear hk); (try clear hi)
      refine hK.out _ _ ⟨bc BK280 0, bc BK280 1, bc BK280 2, (hB HB hw281_0 :), (hB HB hw281_1 :), (hB HB hw281_2 :), (hB HB hw281_3 :), (hB HB hw281_4 :), (hB HB hw281_5 :), (hB HB hw281_6 :), (hB HB hw281_7 :)⟩ (fun hHeld => ?_)
      clear hK K
      refine norm_ (a' := ?_) ?_ ?_
      rotate_left
      ·show Act.put _ (some 20) _ = _
       simp only [Act.put, List.setIfInBounds_toArray, List.set_cons_zero, List.set_cons_succ, i64_w, i32_w]
       rfl
      refine pS (i := 7) (N := some 13) #[true, true, true, true, true, true, true, true, false, false, false, false, false] HT_ ?_
      refine pS (i := 8) (N := some 21) #[true, true, true, true, true, true, true, true, true, false, false, false, false] HT_ ?_
      refine pS (i := 9) (N := some 22) #[true, true, true, true, true, true, true, true, true, true, false, false, false] HT_ ?_
      refine one_ (i := 10) (N := some 10) #[true, true, true, true, true, true, true, true, true, true, true, false, false] rfl rfl (qcA HT_.out (by kernel_rfl)) (by decide) (fun K hK => ?_)
      refine qxC ?hg (N := 10) ?hd (cs := #[.int .i64 0, .int .i64 0, .int .i64 0, .int .i64 0, .int .i64 0, .int .i64 0, .int .i64 0, .int .i64 0]) (t := 53) ?hr ?_; (case hd => rfl); (case hg => rfl); (case hr => exact gS)
      intro gb291 hg w33 hbox hb
      have BK291 := aM (hbox)
      have GW291 := aM ((gg hg))
      have GE291 := aM ((gg hg))
      have NB280_291 := aM ((nl BK280 hg))
      have NB291_280 := aM ((nr BK280 hg))
      replace BK280 := aM (bb BK280 hb)
      replace HB := aM (qB bl hb)
      clear hb hbox hg
      refine hK.out _ _ ⟨bc BK280 0, bc BK280 1, bc BK280 2, (hB HB hw281_0 :), (hB HB hw281_1 :), (hB HB hw281_2 :), (hB HB hw281_3 :), (hB HB hw281_4 :), (hB HB hw281_5 :), (hB HB hw281_6 :), (hB HB hw281_7 :)⟩ (fun hHeld => ?_)
      clear hK K
      refine norm_ (a' := ?_) ?_ ?_
      rotate_left
      ·show Act.put _ (some 10) _ = _
       simp only [Act.put, List.setIfInBounds_toArray, List.set_cons_zero, List.set_cons_succ, i64_w, i32_w]
       rfl
      exact norm_ (by simp only [putAll, Act.put, List.setIfInBounds_toArray, List.set_cons_zero, List.set_cons_succ]) (hCont (gb291) _ ⟨hHeld, (rB BK280), (rB BK291), GW291.out, GE291.out, NB280_291.out, NB291_280.out, bl⟩)
     ·skip
      refine qxC ?hg (N := 10) ?hd (cs := #[.int .i64 0, .int .i64 0, .int .i64 0, .int .i64 0, .int .i64 0, .int .i64 0, .int .i64 0, .int .i64 0]) (t := 53) ?hr ?_; (case hd => rfl); (case hg => rfl); (case hr => exact gS)
      intro gb291 hg w32 hbox hb
      have BK291 := aM (hbox)
      have GW291 := aM ((gg hg))
      have GE291 := aM ((gg hg))
      have NB280_291 := aM ((nl BK280 hg))
      have NB291_280 := aM ((nr BK280 hg))
      replace BK280 := aM (bb BK280 hb)
      replace HB := aM (qB bl hb)
      clear hb hbox hg
      refine hK.out _ _ ⟨bc BK280 0, bc BK280 1, bc BK280 2, (hB HB hw281_0 :), (hB HB hw281_1 :), (hB HB hw281_2 :), (hB HB hw281_3 :), (hB HB hw281_4 :), (hB HB hw281_5 :), (hB HB hw281_6 :), (hB HB hw281_7 :)⟩ (fun hHeld => ?_)
      clear hK K
      refine norm_ (a' := ?_) ?_ ?_
      rotate_left
      ·show Act.put _ (some 10) _ = _
       simp only [Act.put, List.setIfInBounds_toArray, List.set_cons_zero, List.set_cons_succ, i64_w, i32_w]
       rfl
      refine one_ (i := 6) (N := some 20) #[true, true, true, true, true, true, true, false, false, false, true, false, false] rfl rfl (qcA HT_.out (by kernel_rfl)) (by decide) (fun K hK => ?_)
      refine goes_ Tryz.func65 (by kernel_rfl) rfl #[.agg #[.int .i64 a0_0, .int .i64 a0_1, .slice A0_2 l0_2.length c0_2], .agg #[.int .i64 ((qA l1 a2).f0), .int .i64 ((qA l1 a2).f1), .int .i64 ((qA l1 a2).f2.f0), .int .i64 ((qA l1 a2).f2.f1), .int .i64 ((qA l1 a2).f2.f2), .int .i64 ((qA l1 a2).f2.f3), .int .i64 ((qA l1 a2).f2.f4), .int .i64 ((qA l1 a2).f2.f5)], .int .i64 a3] (by rfl) rfl rfl gA ?_
      with_reducible refine (qAB.calls a0_0 a0_1 _ _ l0_2 ((qA l1 a2).f0) ((qA l1 a2).f1) ((qA l1 a2).f2.f0) ((qA l1 a2).f2.f1) ((qA l1 a2).f2.f2) ((qA l1 a2).f2.f3) ((qA l1 a2).f2.f4) ((qA l1 a2).f2.f5) a3 t282 t283 t284 t285 t286 t287 t288 t289 true _ ?side1 ?side2 A7.out).mono ?_
      (case side1 => repeat (first | exact (Kd.qV HR0_2.out HB.out) | (with_reducible refine Kd.qL ?_ _) | (with_reducible refine Kd.qK ?_ _) | (with_reducible refine Kd.qX ?_)))
      (case side2 => exact HC0_2.out)
      rintro e w33 ⟨rfl, hb⟩
      refine ⟨_, rfl, ?_⟩
      replace BK280 := aM (bb BK280 hb)
      replace BK291 := aM (bb BK291 hb)
      replace HB := aM (qB bl hb); (try clear hb); (try clear hb2); (try clear hk); (try clear hi)
      refine hK.out _ _ ⟨bc BK280 0, bc BK280 1, bc BK280 2, (hB HB hw281_0 :), (hB HB hw281_1 :), (hB HB hw281_2 :), (hB HB hw281_3 :), (hB HB hw281_4 :), (hB HB hw281_5 :), (hB HB hw281_6 :), (hB HB hw281_7 :)⟩ (fun hHeld => ?_)
      clear hK K
      refine norm_ (a' := ?_) ?_ ?_
      rotate_left
      ·show Act.put _ (some 20) _ = _
       simp only [Act.put, List.setIfInBounds_toArray, List.set_cons_zero, List.set_cons_succ, i64_w, i32_w]
       rfl
      refine pS (i := 7) (N := some 13) #[true, true, true, true, true, true, true, true, false, false, true, false, false] HT_ ?_
      refine pS (i := 8) (N := some 21) #[true, true, true, true, true, true, true, true, true, false, true, false, false] HT_ ?_
      refine pS (i := 9) (N := some 22) #[true, true, true, true, true, true, true, true, true, true, true, false, false] HT_ ?_
      exact norm_ (by simp only [putAll, Act.put, List.setIfInBounds_toArray, List.set_cons_zero, List.set_cons_succ]) (hCont (gb291) _ ⟨hHeld, (rB BK280), (rB BK291), GW291.out, GE291.out, NB280_291.out, NB291_280.out, bl⟩)
    rintro gb291 w34 ⟨hS_, h0_, h1_, h2_, h3_, h4_, h5_, h6_⟩
    have n0_ : Aside0 (w34.heap[gb280]? = some (.cells #[.int .i64 a0_0, .int .i64 a0_1, .slice A0_2 l0_2.length c0_2] 40 (0, 0))) := ⟨h0_⟩
    have n1_ : Aside0 (w34.heap[gb291]? = some (.cells #[.int .i64 0, .int .i64 0, .int .i64 0, .int .i64 0, .int .i64 0, .int .i64 0, .int .i64 0, .int .i64 0] 53 (0, 0))) := ⟨h1_⟩
    have n2_ : Aside0 (w.heap.size ≤ gb291) := ⟨h2_⟩
    have n3_ : Aside0 (w.heap.size ≤ gb291) := ⟨h3_⟩
    have n4_ : Aside0 (gb280 ≠ gb291) := ⟨h4_⟩
    have n5_ : Aside0 (gb291 ≠ gb280) := ⟨h5_⟩
    have n6_ : Aside0 (Below w.heap.size w w34) := ⟨h6_⟩
    clear BK280 HB h0_ h1_ h2_ h3_ h4_ h5_ h6_
    have BK280 := n0_
    have BK291 := n1_
    have GW291 := n2_
    have GE291 := n3_
    have NB280_291 := n4_
    have NB291_280 := n5_
    have HB := n6_
    clear n0_ n1_ n2_ n3_ n4_ n5_ n6_
    have hHeld : w34.cell? ⟨gb280, 0, none⟩ = some (.int .i64 a0_0) ∧ w34.cell? ⟨gb280, 1, none⟩ = some (.int .i64 a0_1) ∧ w34.cell? ⟨gb280, 2, none⟩ = some (.slice A0_2 l0_2.length c0_2) ∧ w34.cell? (ad281.add ((a2).toNat * 8)) = some (.int .i64 ((qA l1 a2).f0)) ∧ w34.cell? ⟨(ad281.add ((a2).toNat * 8)).block, (ad281.add ((a2).toNat * 8)).off + 1, none⟩ = some (.int .i64 ((qA l1 a2).f1)) ∧ w34.cell? ⟨(ad281.add ((a2).toNat * 8)).block, (ad281.add ((a2).toNat * 8)).off + 2, none⟩ = some (.int .i64 ((qA l1 a2).f2.f0)) ∧ w34.cell? ⟨(ad281.add ((a2).toNat * 8)).block, (ad281.add ((a2).toNat * 8)).off + 3, none⟩ = some (.int .i64 ((qA l1 a2).f2.f1)) ∧ w34.cell? ⟨(ad281.add ((a2).toNat * 8)).block, (ad281.add ((a2).toNat * 8)).off + 4, none⟩ = some (.int .i64 ((qA l1 a2).f2.f2)) ∧ w34.cell? ⟨(ad281.add ((a2).toNat * 8)).block, (ad281.add ((a2).toNat * 8)).off + 5, none⟩ = some (.int .i64 ((qA l1 a2).f2.f3)) ∧ w34.cell? ⟨(ad281.add ((a2).toNat * 8)).block, (ad281.add ((a2).toNat * 8)).off + 6, none⟩ = some (.int .i64 ((qA l1 a2).f2.f4)) ∧ w34.cell? ⟨(ad281.add ((a2).toNat * 8)).block, (ad281.add ((a2).toNat * 8)).off + 7, none⟩ = some (.int .i64 ((qA l1 a2).f2.f5)) := hS_
    refine norm_ (a' := ?_) ?_ ?_
    rotate_left
    ·simp only [putAll, Act.put, List.setIfInBounds_toArray, List.set_cons_zero, List.set_cons_succ]
     rfl
    refine one_ (i := 11) (N := none) #[true, true, true, true, true, true, true, true, true, true, true, true, false] rfl rfl (qcA HT_.out (by kernel_rfl)) (by decide) (fun K hK => ?_)
    have hs35 : w34.cell? ⟨gb291, 0, none⟩ = some (.int .i64 0) := bc BK291 0
    have hfs35 := qb BK291.out 0
    have hns35_0 := NB280_291.out
    have hms35_0 := NB291_280.out
    have hs36 : w34.cell? ⟨gb291, 1, none⟩ = some (.int .i64 0) := bc BK291 1
    have hfs36 := qb BK291.out 1
    have hns36_0 := NB280_291.out
    have hms36_0 := NB291_280.out
    have hs37 : w34.cell? ⟨gb291, 2, none⟩ = some (.int .i64 0) := bc BK291 2
    have hfs37 := qb BK291.out 2
    have hns37_0 := NB280_291.out
    have hms37_0 := NB291_280.out
    have hs38 : w34.cell? ⟨gb291, 3, none⟩ = some (.int .i64 0) := bc BK291 3
    have hfs38 := qb BK291.out 3
    have hns38_0 := NB280_291.out
    have hms38_0 := NB291_280.out
    have hs39 : w34.cell? ⟨gb291, 4, none⟩ = some (.int .i64 0) := bc BK291 4
    have hfs39 := qb BK291.out 4
    have hns39_0 := NB280_291.out
    have hms39_0 := NB291_280.out
    have hs40 : w34.cell? ⟨gb291, 5, none⟩ = some (.int .i64 0) := bc BK291 5
    have hfs40 := qb BK291.out 5
    have hns40_0 := NB280_291.out
    have hms40_0 := NB291_280.out
    have hs41 : w34.cell? ⟨gb291, 6, none⟩ = some (.int .i64 0) := bc BK291 6
    have hfs41 := qb BK291.out 6
    have hns41_0 := NB280_291.out
    have hms41_0 := NB291_280.out
    have hs42 : w34.cell? ⟨gb291, 7, none⟩ = some (.int .i64 0) := bc BK291 7
    have hfs42 := qb BK291.out 7
    have hns42_0 := NB280_291.out
    have hms42_0 := NB291_280.out
    refine skip_ (w1 := ?_) (by rfl) rfl ?_ ?_
    rotate_left
    ·go_simp
     rfl
    refine hK.out _ _ ⟨(cf8 NB280_291.out (hHeld.1)), (cf8 NB280_291.out (hHeld.2.1)), (cf8 NB280_291.out (hHeld.2.2.1)), (cf8 (nB hw281_0 GW291 :) (hHeld.2.2.2.1)), (cf8 (nB hw281_1 GW291 :) (hHeld.2.2.2.2.1)), (cf8 (nB hw281_2 GW291 :) (hHeld.2.2.2.2.2.1)), (cf8 (nB hw281_3 GW291 :) (hHeld.2.2.2.2.2.2.1)), (cf8 (nB hw281_4 GW291 :) (hHeld.2.2.2.2.2.2.2.1)), (cf8 (nB hw281_5 GW291 :) (hHeld.2.2.2.2.2.2.2.2.1)), (cf8 (nB hw281_6 GW291 :) (hHeld.2.2.2.2.2.2.2.2.2.1)), (cf8 (nB hw281_7 GW291 :) (hHeld.2.2.2.2.2.2.2.2.2.2))⟩ (fun hHeld => ?_)
    clear hK K
    refine pS (i := 12) (N := some 11) #[true, true, true, true, true, true, true, true, true, true, true, true, true] HT_ ?_
    refine done_ (qvA HT_.out (by kernel_rfl)) ?_
    have hnb43 := NB291_280.out
    have hnc43 := NB280_291.out
    (refine cb8 BK291 ?_; intro _ _ _ _ _ _ _ _)
    (refine cz8 BK291 ?_; intro _ _ _ _ _ _ _ _)
    try go_wp2_with (first | (go_at_call 44; (with_reducible refine (qVA.calls k _ _ l1 t282 t283 t292 _ ?side1 ?side2 A9.out).mono ?_); (case side1 => exact Kd.qV HR1.out bl); (case side2 => exact HC1.out); rintro e w45 ⟨rfl, hb⟩; replace BK280 := aM (qCA (g := gb280) (o := .cells #[.int .i64 a0_0, .int .i64 a0_1, .slice A0_2 l0_2.length c0_2] 40 (0, 0)) (bF BK280 NB280_291) hb); replace BK291 := aM (qCA (g := gb291) (o := .cells #[.int .i64 t282, .int .i64 t283, .int .i64 t284, .int .i64 t285, .int .i64 t286, .int .i64 t287, .int .i64 t288, .int .i64 t289] 53 (0, 0)) (by (with_reducible repeat (first | refine qG ?_ _ | refine qD ?_ | refine qF ?_ _)); exact bP8 BK291) hb); replace HB := aM (qB bl hb); (try clear hb); (try clear hb2); (try clear hk); (try clear hi)) | ((with_reducible refine qH (N := 34) rfl ?_); refine Kd.R_lit k53 _ 53 ?hg (N := 34) ?hd (xs := ([] : List (S53))) (inner := []) (ok := fun _ => True) (okp := fun _ => True) ?hr ?hp (fun _ hk => hk) trivial (Below.refl _ _) (Nat.le_refl _) (by simp) ?_; (case hd => rfl); (case hg => rfl); (case hr => exact gS); (case hp => exact (Reps.none _ _)); intro v294 w46 ho47 hb hg_ hnew_; clear hg_ hnew_; (first | rw [← Ny293.out] at ho47 | (simp only [Int.reduceToNat] at ho47; rw [← Ny293.out] at ho47)); have HO295 := aM (Kd.qz (Kd.qaB ho47 (rB BK291)) (qJ bl)); replace BK280 := aM (bb BK280 hb); replace BK291 := aM (bb BK291 hb); replace HB := aM (qB bl hb); clear hb ho47) | ((with_reducible refine qEB (b := .append) (xs := #[.tmp 34, .tmp 35]) rfl ?_); at_builtin; refine Kd.qFC k53 (w0 := w) w.heap.size rfl (.tmp 34) (.tmp 35) 26 53 (.agg #[(.int .i64 0), (.int .i64 0), (.int .i64 0), (.int .i64 0), (.int .i64 0), (.int .i64 0), (.int .i64 0), (.int .i64 0)]) 64 rfl Tryz.underlying26 info53 rfl (by decide) (by omega) v294 y293 l1 _ _ _ (fun k_ => k_ ≠ gb291) (fun _ => False) rfl rfl ?aO ?aR (fun _ _ h => h) (fun _ h => h.elim) ?aF ?aB ?aS ?aL ?_; (case aR => repeat (first | exact (Kd.qV HR1.out HB.out) | (with_reducible refine Kd.qL ?_ _) | (with_reducible refine Kd.qK ?_ _) | (with_reducible refine Kd.qX ?_))); (case aB => exact bl); (case aF => exact (fun k_ hk => Kd.freshB (rB BK291) k_ hk)); (case aO => exact (by (with_reducible repeat (first | apply Kd.qQ | apply Kd.qR | apply Kd.qS)); exact Kd.qa HO295.out (fun _ hk => hk.2))); (case aS => exact (qJ bl)); (case aL => have := LMc27.out; omega); intro v297 w48 ho hb hg hat; rw [← Ny296.out] at ho; have HO298 := aM (ho); replace BK280 := aM (qn (rB BK280) hg (Kd.R_ne HO295.out BK280.out (by decide))); replace BK291 := aM (qn (rB BK291) hg (Kd.qVB HO295.out (fun _ hk => hk.2))); replace HB := aM (hb); clear HO295; clear ho hb hg hat; (refine cb8 BK291 ?_; intro _ _ _ _ _ _ _ _); (refine cz8 BK291 ?_; intro _ _ _ _ _ _ _ _); have p29 : 0 ≤ (a2 : Int) := of_decide_eq_true am; have q29 : (a2 : Int) < ((y296.length : Int) : Int) := of_decide_eq_true am; obtain ⟨go29, co29, eo29, gb29, gl29, cl29, HG29⟩ := Kd.qIE HO298.out (by omega); (first | cases eo29 | (injection eo29 with ea_ en_ ec_; (first | subst ea_ | (injection ea_ with ea_; subst ea_)); subst ec_; clear en_)); have GB29 := aM gb29; have GG29 := aM HG29; clear gb29 gl29 HG29; obtain ⟨ce29, hcl29, hM29, hcc29, hfr29⟩ := Kd.qcD HO298.out z53 (a2 : Int) p29 q29; obtain rfl := qWC hM29; have hx29_0 : w48.cell? ⟨go29, (a2 : Int).toNat * 8, none⟩ = some (.int .i64 ((qA y296 a2).f0)) := hcc29 0 _ rfl; have hx29_1 : w48.cell? ⟨go29, (a2 : Int).toNat * 8 + 1, none⟩ = some (.int .i64 ((qA y296 a2).f1)) := hcc29 1 _ rfl; have hx29_2 : w48.cell? ⟨go29, (a2 : Int).toNat * 8 + 2, none⟩ = some (.int .i64 ((qA y296 a2).f2.f0)) := hcc29 2 _ rfl; have hx29_3 : w48.cell? ⟨go29, (a2 : Int).toNat * 8 + 3, none⟩ = some (.int .i64 ((qA y296 a2).f2.f1)) := hcc29 3 _ rfl; have hx29_4 : w48.cell? ⟨go29, (a2 : Int).toNat * 8 + 4, none⟩ = some (.int .i64 ((qA y296 a2).f2.f2)) := hcc29 4 _ rfl; have hx29_5 : w48.cell? ⟨go29, (a2 : Int).toNat * 8 + 5, none⟩ = some (.int .i64 ((qA y296 a2).f2.f3)) := hcc29 5 _ rfl; have hx29_6 : w48.cell? ⟨go29, (a2 : Int).toNat * 8 + 6, none⟩ = some (.int .i64 ((qA y296 a2).f2.f4)) := hcc29 6 _ rfl; have hx29_7 : w48.cell? ⟨go29, (a2 : Int).toNat * 8 + 7, none⟩ = some (.int .i64 ((qA y296 a2).f2.f5)) := hcc29 7 _ rfl; have hf29_0 : w48.frozen? ⟨go29, (a2 : Int).toNat * 8, none⟩ = false := hfr29 0; have hf29_1 : w48.frozen? ⟨go29, (a2 : Int).toNat * 8 + 1, none⟩ = false := hfr29 1; have hf29_2 : w48.frozen? ⟨go29, (a2 : Int).toNat * 8 + 2, none⟩ = false := hfr29 2; have hf29_3 : w48.frozen? ⟨go29, (a2 : Int).toNat * 8 + 3, none⟩ = false := hfr29 3; have hf29_4 : w48.frozen? ⟨go29, (a2 : Int).toNat * 8 + 4, none⟩ = false := hfr29 4; have hf29_5 : w48.frozen? ⟨go29, (a2 : Int).toNat * 8 + 5, none⟩ = false := hfr29 5; have hf29_6 : w48.frozen? ⟨go29, (a2 : Int).toNat * 8 + 6, none⟩ = false := hfr29 6; have hf29_7 : w48.frozen? ⟨go29, (a2 : Int).toNat * 8 + 7, none⟩ = false := hfr29 7; clear hcl29 hcc29 hfr29 hM29; replace p29 := eq_true p29; replace q29 := eq_true q29; have HX50 := aM (show Kd.R k53 53 w48 w.heap.size (fun k_ => k_ ≠ gb291) (.slice (some ⟨go29, 0, none⟩) y296.length co29) y296 from (rR HO298)); obtain ⟨ce50, hcl50, hM50, hcc50, hfr50⟩ := Kd.qcD HX50.out z53 (a2 : Int) (of_decide_eq_true am) (by have h_ : (a2 : Int) < ((y296.length : Int) : Int) := of_decide_eq_true am; first | exact h_ | (have e_ := (Kd.qO HO298.out).1; omega) | simpa using h_); obtain rfl := qWC hM50; have HP50 := Kd.R_seg HX50.out (a2 : Int) (of_decide_eq_true am) (by have h_ : (a2 : Int) < ((y296.length : Int) : Int) := of_decide_eq_true am; first | exact h_ | (have e_ := (Kd.qO HO298.out).1; omega) | simpa using h_) (seg := [.int .i64 t282, .int .i64 t283, .int .i64 t284, .int .i64 t285, .int .i64 t286, .int .i64 t287, .int .i64 t288, .int .i64 t289]) (j := 0) hcl50 hcc50 (show 8 ≤ 8 from by decide) (x' := (⟨t282, t283, (⟨t284, t285, t286, t287, t288, t289⟩ : S51)⟩ : S53)) (qTE _ _ _ (⟨t282, t283, (⟨t284, t285, t286, t287, t288, t289⟩ : S51)⟩ : S53) ) (fun _ hk => hk); have hx50_0 := hcc50 0 _ rfl; (try simp only [show (k53).sz = 8 from rfl, Nat.mul_one, Nat.add_zero] at hx50_0); have hf50_0 := hfr50 0; (try simp only [show (k53).sz = 8 from rfl, Nat.mul_one, Nat.add_zero] at hf50_0); have hx50_1 := hcc50 1 _ rfl; (try simp only [show (k53).sz = 8 from rfl, Nat.mul_one, Nat.add_zero] at hx50_1); have hf50_1 := hfr50 1; (try simp only [show (k53).sz = 8 from rfl, Nat.mul_one, Nat.add_zero] at hf50_1); have hx50_2 := hcc50 2 _ rfl; (try simp only [show (k53).sz = 8 from rfl, Nat.mul_one, Nat.add_zero] at hx50_2); have hf50_2 := hfr50 2; (try simp only [show (k53).sz = 8 from rfl, Nat.mul_one, Nat.add_zero] at hf50_2); have hx50_3 := hcc50 3 _ rfl; (try simp only [show (k53).sz = 8 from rfl, Nat.mul_one, Nat.add_zero] at hx50_3); have hf50_3 := hfr50 3; (try simp only [show (k53).sz = 8 from rfl, Nat.mul_one, Nat.add_zero] at hf50_3); have hx50_4 := hcc50 4 _ rfl; (try simp only [show (k53).sz = 8 from rfl, Nat.mul_one, Nat.add_zero] at hx50_4); have hf50_4 := hfr50 4; (try simp only [show (k53).sz = 8 from rfl, Nat.mul_one, Nat.add_zero] at hf50_4); have hx50_5 := hcc50 5 _ rfl; (try simp only [show (k53).sz = 8 from rfl, Nat.mul_one, Nat.add_zero] at hx50_5); have hf50_5 := hfr50 5; (try simp only [show (k53).sz = 8 from rfl, Nat.mul_one, Nat.add_zero] at hf50_5); have hx50_6 := hcc50 6 _ rfl; (try simp only [show (k53).sz = 8 from rfl, Nat.mul_one, Nat.add_zero] at hx50_6); have hf50_6 := hfr50 6; (try simp only [show (k53).sz = 8 from rfl, Nat.mul_one, Nat.add_zero] at hf50_6); have hx50_7 := hcc50 7 _ rfl; (try simp only [show (k53).sz = 8 from rfl, Nat.mul_one, Nat.add_zero] at hx50_7); have hf50_7 := hfr50 7; (try simp only [show (k53).sz = 8 from rfl, Nat.mul_one, Nat.add_zero] at hf50_7); clear hcl50 hcc50 hfr50 hM50) | ((with_reducible refine qsB (t := 53) (p := 40) rfl ?_); refine qlB (t := 53) (p := 40) (v := ?vo_w51) (w1 := ((((((((w48.setCell ⟨go29, (a2 : Int).toNat * 8, none⟩ (.int .i64 t282)).setCell ⟨go29, (a2 : Int).toNat * 8 + 1, none⟩ (.int .i64 t283)).setCell ⟨go29, (a2 : Int).toNat * 8 + 2, none⟩ (.int .i64 t284)).setCell ⟨go29, (a2 : Int).toNat * 8 + 3, none⟩ (.int .i64 t285)).setCell ⟨go29, (a2 : Int).toNat * 8 + 4, none⟩ (.int .i64 t286)).setCell ⟨go29, (a2 : Int).toNat * 8 + 5, none⟩ (.int .i64 t287)).setCell ⟨go29, (a2 : Int).toNat * 8 + 6, none⟩ (.int .i64 t288)).setCell ⟨go29, (a2 : Int).toNat * 8 + 7, none⟩ (.int .i64 t289))) ?hg ?ho ?hn ?hr ?_; (case ho => rfl); (case hg => rfl); (case hn => rfl); (case hr => exact gS); intro w51 hw; have hg : w48.grownBy w51 (some go29) := (by rw [hw]; exact HP50.2); have hp_ : Kd.R k53 53 w51 w.heap.size (fun k_ => k_ ≠ gb291) (.slice (some ⟨go29, 0, none⟩) y296.length co29) y299 := (by rw [hw, Ny299.out]; exact HP50.1); clear HP50; replace BK280 := aM (qn (rB BK280) hg (Kd.R_ne HO298.out BK280.out (by decide))); replace BK291 := aM (qn (rB BK291) hg (Kd.qVB HO298.out (fun _ hk => hk))); replace HO298 := aM (hp_); replace HB := aM ((by rw [hw]; exact qBA (qBA (qBA (qBA (qBA (qBA (qBA (qBA (HB.out) GB29.out) GB29.out) GB29.out) GB29.out) GB29.out) GB29.out) GB29.out) GB29.out : Below w.heap.size w w51)); clear hg hw hp_))
    go_ret2
    exact ⟨_, sR, by (with_reducible repeat (first | apply Kd.qQ | apply Kd.qR | apply Kd.qS)); exact Kd.qa HO298.out (fun _ hk => trivial), bl⟩
  ·replace c8 := Bool.eq_false_iff.mpr c8
   subst c8
   replace H := iF H
   simp only [Option.some.injEq, Prod.mk.injEq] at H
   obtain ⟨rfl, rfl⟩ := H
   go_enter Tryz.func47, Tryz.ntmps47
   try go_wp2_with (first | ((with_reducible refine qH (N := 4) rfl ?_); refine bE (N := 4) (cs := #[.int .i64 a0_0, .int .i64 a0_1, .slice A0_2 l0_2.length c0_2]) (t := 40) ?_; intro gb280 hg w52 hbox hb; have BK280 := aM (hbox); have GW280 := aM ((gg hg)); have GE280 := aM ((gg hg)); replace HB := aM (qB bl hb); clear hb hbox hg))
   replace BK280 := aM (qD BK280.out)
   replace HB := aM (qi HB.out)
   have p281 : 0 ≤ (a2 : Int) := of_decide_eq_true am
   have q281 : a2 < (l1.length : Int) := of_decide_eq_true am
   obtain ⟨ad281, e281, hx281_0, hx281_1, hx281_2, hx281_3, hx281_4, hx281_5, hx281_6, hx281_7⟩ := qYB HR1.out a2 p281 q281
   have hw281_7 := hx281_7
   have hw281_6 := hx281_6
   have hw281_5 := hx281_5
   have hw281_4 := hx281_4
   have hw281_3 := hx281_3
   have hw281_2 := hx281_2
   have hw281_1 := hx281_1
   have hw281_0 := hx281_0
   cases e281
   replace hx281_0 := hB HB hx281_0
   replace hx281_1 := hB HB hx281_1
   replace hx281_2 := hB HB hx281_2
   replace hx281_3 := hB HB hx281_3
   replace hx281_4 := hB HB hx281_4
   replace hx281_5 := hB HB hx281_5
   replace hx281_6 := hB HB hx281_6
   replace hx281_7 := hB HB hx281_7
   replace p281 := eq_true p281
   replace q281 := eq_true q281
   refine qJB (n := 13) (S := fun w' => w'.cell? ⟨gb280, 0, none⟩ = some (.int .i64 a0_0) ∧ w'.cell? ⟨gb280, 1, none⟩ = some (.int .i64 a0_1) ∧ w'.cell? ⟨gb280, 2, none⟩ = some (.slice A0_2 l0_2.length c0_2) ∧ w'.cell? (ad281.add ((a2).toNat * 8)) = some (.int .i64 ((qA l1 a2).f0)) ∧ w'.cell? ⟨(ad281.add ((a2).toNat * 8)).block, (ad281.add ((a2).toNat * 8)).off + 1, none⟩ = some (.int .i64 ((qA l1 a2).f1)) ∧ w'.cell? ⟨(ad281.add ((a2).toNat * 8)).block, (ad281.add ((a2).toNat * 8)).off + 2, none⟩ = some (.int .i64 ((qA l1 a2).f2.f0)) ∧ w'.cell? ⟨(ad281.add ((a2).toNat * 8)).block, (ad281.add ((a2).toNat * 8)).off + 3, none⟩ = some (.int .i64 ((qA l1 a2).f2.f1)) ∧ w'.cell? ⟨(ad281.add ((a2).toNat * 8)).block, (ad281.add ((a2).toNat * 8)).off + 4, none⟩ = some (.int .i64 ((qA l1 a2).f2.f2)) ∧ w'.cell? ⟨(ad281.add ((a2).toNat * 8)).block, (ad281.add ((a2).toNat * 8)).off + 5, none⟩ = some (.int .i64 ((qA l1 a2).f2.f3)) ∧ w'.cell? ⟨(ad281.add ((a2).toNat * 8)).block, (ad281.add ((a2).toNat * 8)).off + 6, none⟩ = some (.int .i64 ((qA l1 a2).f2.f4)) ∧ w'.cell? ⟨(ad281.add ((a2).toNat * 8)).block, (ad281.add ((a2).toNat * 8)).off + 7, none⟩ = some (.int .i64 ((qA l1 a2).f2.f5))) (ds := []) #[false, false, false, false, false, false, false, false, false, false, false, false, false] (by kernel_rfl) rfl rfl ⟨bc BK280 0, bc BK280 1, bc BK280 2, (hB HB hw281_0 :), (hB HB hw281_1 :), (hB HB hw281_2 :), (hB HB hw281_3 :), (hB HB hw281_4 :), (hB HB hw281_5 :), (hB HB hw281_6 :), (hB HB hw281_7 :)⟩ (fun hHeld => ?_); refine qNA qTA.tab1 qTA.bits1 (fun HT_ HW_ => ?_)
   generalize w52.drew = w53 at BK280 HB hx281_0 hx281_1 hx281_2 hx281_3 hx281_4 hx281_5 hx281_6 hx281_7 hHeld ⊢
   refine pS (i := 1) (N := some 15) #[false, true, false, false, false, false, false, false, false, false, false, false, false] HT_ ?_
   refine pS (i := 2) (N := some 16) #[false, true, true, false, false, false, false, false, false, false, false, false, false] HT_ ?_
   refine pS (i := 3) (N := some 17) #[false, true, true, true, false, false, false, false, false, false, false, false, false] HT_ ?_
   refine pS (i := 5) (N := some 19) #[false, true, true, true, false, true, false, false, false, false, false, false, false] HT_ ?_
   refine tS (i := 0) (N := some 14) #[true, true, true, true, false, true, false, false, false, false, false, false, false] HT_ HW_ hHeld ?_
   refine tS (i := 4) (N := some 18) #[true, true, true, true, true, true, false, false, false, false, false, false, false] HT_ HW_ hHeld ?_
   refine join_ (σ := Nat) 2 #[true, true, true, true, true, true, true, true, true, true, true, false, false] (fun s_ => [(20, .tuple #[.agg #[.int .i64 t282, .int .i64 t283, .int .i64 t284, .int .i64 t285, .int .i64 t286, .int .i64 t287, .int .i64 t288, .int .i64 t289], .bool false]), (10, .pointer (some ⟨s_, 0, none⟩)), (13, .tuple #[.agg #[.int .i64 t282, .int .i64 t283, .int .i64 t284, .int .i64 t285, .int .i64 t286, .int .i64 t287, .int .i64 t288, .int .i64 t289], .bool false]), (21, .agg #[.int .i64 t282, .int .i64 t283, .int .i64 t284, .int .i64 t285, .int .i64 t286, .int .i64 t287, .int .i64 t288, .int .i64 t289]), (22, .bool false)]) (fun s_ w' => (w'.cell? ⟨gb280, 0, none⟩ = some (.int .i64 a0_0) ∧ w'.cell? ⟨gb280, 1, none⟩ = some (.int .i64 a0_1) ∧ w'.cell? ⟨gb280, 2, none⟩ = some (.slice A0_2 l0_2.length c0_2) ∧ w'.cell? (ad281.add ((a2).toNat * 8)) = some (.int .i64 ((qA l1 a2).f0)) ∧ w'.cell? ⟨(ad281.add ((a2).toNat * 8)).block, (ad281.add ((a2).toNat * 8)).off + 1, none⟩ = some (.int .i64 ((qA l1 a2).f1)) ∧ w'.cell? ⟨(ad281.add ((a2).toNat * 8)).block, (ad281.add ((a2).toNat * 8)).off + 2, none⟩ = some (.int .i64 ((qA l1 a2).f2.f0)) ∧ w'.cell? ⟨(ad281.add ((a2).toNat * 8)).block, (ad281.add ((a2).toNat * 8)).off + 3, none⟩ = some (.int .i64 ((qA l1 a2).f2.f1)) ∧ w'.cell? ⟨(ad281.add ((a2).toNat * 8)).block, (ad281.add ((a2).toNat * 8)).off + 4, none⟩ = some (.int .i64 ((qA l1 a2).f2.f2)) ∧ w'.cell? ⟨(ad281.add ((a2).toNat * 8)).block, (ad281.add ((a2).toNat * 8)).off + 5, none⟩ = some (.int .i64 ((qA l1 a2).f2.f3)) ∧ w'.cell? ⟨(ad281.add ((a2).toNat * 8)).block, (ad281.add ((a2).toNat * 8)).off + 6, none⟩ = some (.int .i64 ((qA l1 a2).f2.f4)) ∧ w'.cell? ⟨(ad281.add ((a2).toNat * 8)).block, (ad281.add ((a2).toNat * 8)).off + 7, none⟩ = some (.int .i64 ((qA l1 a2).f2.f5))) ∧ (w'.heap[gb280]? = some (.cells #[.int .i64 a0_0, .int .i64 a0_1, .slice A0_2 l0_2.length c0_2] 40 (0, 0))) ∧ (w'.heap[s_]? = some (.cells #[.int .i64 0, .int .i64 0, .int .i64 0, .int .i64 0, .int .i64 0, .int .i64 0, .int .i64 0, .int .i64 0] 53 (0, 0))) ∧ (w.heap.size ≤ s_) ∧ (w.heap.size ≤ s_) ∧ (gb280 ≠ s_) ∧ (s_ ≠ gb280) ∧ (Below w.heap.size w w')) ?_ ?_
   rotate_left
   ·intro hCont
    refine two_ (i := 6) (j := 10) (Ni := some 20) (Nj := some 10) #[true, true, true, true, true, true, true, false, false, false, false, false, false] #[true, true, true, true, true, true, false, false, false, false, true, false, false] rfl rfl rfl rfl (qID HT_.out (by kernel_rfl)) (by decide) (by decide) (fun K hK => ?_) (fun K hK => ?_)
    ·skip
     refine goes_ Tryz.func65 (by kernel_rfl) rfl #[.agg #[.int .i64 a0_0, .int .i64 a0_1, .slice A0_2 l0_2.length c0_2], .agg #[.int .i64 ((qA l1 a2).f0), .int .i64 ((qA l1 a2).f1), .int .i64 ((qA l1 a2).f2.f0), .int .i64 ((qA l1 a2).f2.f1), .int .i64 ((qA l1 a2).f2.f2), .int .i64 ((qA l1 a2).f2.f3), .int .i64 ((qA l1 a2).f2.f4), .int .i64 ((qA l1 a2).f2.f5)], .int .i64 a3] (by rfl) rfl rfl gA ?_
     with_reducible refine (qAB.calls a0_0 a0_1 _ _ l0_2 ((qA l1 a2).f0) ((qA l1 a2).f1) ((qA l1 a2).f2.f0) ((qA l1 a2).f2.f1) ((qA l1 a2).f2.f2) ((qA l1 a2).f2.f3) ((qA l1 a2).f2.f4) ((qA l1 a2).f2.f5) a3 t282 t283 t284 t285 t286 t287 t288 t289 false _ ?side1 ?side2 A7.out).mono ?_
     (case side1 => repeat (first | exact (Kd.qV HR0_2.out HB.out) | (with_reducible refine Kd.qL ?_ _) | (with_reducible refine Kd.qK ?_ _) | (with_reducible refine Kd.qX ?_)))
     (case side2 => exact HC0_2.out)
     rintro e w54 ⟨rfl, hb⟩
     refine ⟨_, rfl, ?_⟩
     replace BK280 := aM (bb BK280 hb)
     replace HB := aM (qB bl hb); (try clear hb); (try clear hb2); (try clear hk); (try clear hi)
     refine hK.out _ _ ⟨bc BK280 0, bc BK280 1, bc BK280 2, (hB HB hw281_0 :), (hB HB hw281_1 :), (hB HB hw281_2 :), (hB HB hw281_3 :), (hB HB hw281_4 :), (hB HB hw281_5 :), (hB HB hw281_6 :), (hB HB hw281_7 :)⟩ (fun hHeld => ?_)
     clear hK K
     refine norm_ (a' := ?_) ?_ ?_
     rotate_left
     ·show Act.put _ (some 20) _ = _
      simp only [Act.put, List.setIfInBounds_toArray, List.set_cons_zero, List.set_cons_succ, i64_w, i32_w]
      rfl
     refine pS (i := 7) (N := some 13) #[true, true, true, true, true, true, true, true, false, false, false, false, false] HT_ ?_
     refine pS (i := 8) (N := some 21) #[true, true, true, true, true, true, true, true, true, false, false, false, false] HT_ ?_
     refine pS (i := 9) (N := some 22) #[true, true, true, true, true, true, true, true, true, true, false, false, false] HT_ ?_
     refine one_ (i := 10) (N := some 10) #[true, true, true, true, true, true, true, true, true, true, true, false, false] rfl rfl (qcA HT_.out (by kernel_rfl)) (by decide) (fun K hK => ?_)
     refine qxC ?hg (N := 10) ?hd (cs := #[.int .i64 0, .int .i64 0, .int .i64 0, .int .i64 0, .int .i64 0, .int .i64 0, .int .i64 0, .int .i64 0]) (t := 53) ?hr ?_; (case hd => rfl); (case hg => rfl); (case hr => exact gS)
     intro gb291 hg w55 hbox hb
     have BK291 := aM (hbox)
     have GW291 := aM ((gg hg))
     have GE291 := aM ((gg hg))
     have NB280_291 := aM ((nl BK280 hg))
     have NB291_280 := aM ((nr BK280 hg))
     replace BK280 := aM (bb BK280 hb)
     replace HB := aM (qB bl hb)
     clear hb hbox hg
     refine hK.out _ _ ⟨bc BK280 0, bc BK280 1, bc BK280 2, (hB HB hw281_0 :), (hB HB hw281_1 :), (hB HB hw281_2 :), (hB HB hw281_3 :), (hB HB hw281_4 :), (hB HB hw281_5 :), (hB HB hw281_6 :), (hB HB hw281_7 :)⟩ (fun hHeld => ?_)
     clear hK K
     refine norm_ (a' := ?_) ?_ ?_
     rotate_left
     ·show Act.put _ (some 10) _ = _
      simp only [Act.put, List.setIfInBounds_toArray, List.set_cons_zero, List.set_cons_succ, i64_w, i32_w]
      rfl
     exact norm_ (by simp only [putAll, Act.put, List.setIfInBounds_toArray, List.set_cons_zero, List.set_cons_succ]) (hCont (gb291) _ ⟨hHeld, (rB BK280), (rB BK291), GW291.out, GE291.out, NB280_291.out, NB291_280.out, bl⟩)
    ·skip
     refine qxC ?hg (N := 10) ?hd (cs := #[.int .i64 0, .int .i64 0, .int .i64 0, .int .i64 0, .int .i64 0, .int .i64 0, .int .i64 0, .int .i64 0]) (t := 53) ?hr ?_; (case hd => rfl); (case hg => rfl); (case hr => exact gS)
     intro gb291 hg w54 hbox hb
     have BK291 := aM (hbox)
     have GW291 := aM ((gg hg))
     have GE291 := aM ((gg hg))
     have NB280_291 := aM ((nl BK280 hg))
     have NB291_280 := aM ((nr BK280 hg))
     replace BK280 := aM (bb BK280 hb)
     replace HB := aM (qB bl hb)
     clear hb hbox hg
     refine hK.out _ _ ⟨bc BK280 0, bc BK280 1, bc BK280 2, (hB HB hw281_0 :), (hB HB hw281_1 :), (hB HB hw281_2 :), (hB HB hw281_3 :), (hB HB hw281_4 :), (hB HB hw281_5 :), (hB HB hw281_6 :), (hB HB hw281_7 :)⟩ (fun hHeld => ?_)
     clear hK K
     refine norm_ (a' := ?_) ?_ ?_
     rotate_left
     ·show Act.put _ (some 10) _ = _
      simp only [Act.put, List.setIfInBounds_toArray, List.set_cons_zero, List.set_cons_succ, i64_w, i32_w]
      rfl
     refine one_ (i := 6) (N := some 20) #[true, true, true, true, true, true, true, false, false, false, true, false, false] rfl rfl (qcA HT_.out (by kernel_rfl)) (by decide) (fun K hK => ?_)
     refine goes_ Tryz.func65 (by kernel_rfl) rfl #[.agg #[.int .i64 a0_0, .int .i64 a0_1, .slice A0_2 l0_2.length c0_2], .agg #[.int .i64 ((qA l1 a2).f0), .int .i64 ((qA l1 a2).f1), .int .i64 ((qA l1 a2).f2.f0), .int .i64 ((qA l1 a2).f2.f1), .int .i64 ((qA l1 a2).f2.f2), .int .i64 ((qA l1 a2).f2.f3), .int .i64 ((qA l1 a2).f2.f4), .int .i64 ((qA l1 a2).f2.f5)], .int .i64 a3] (by rfl) rfl rfl gA ?_
     with_reducible refine (qAB.calls a0_0 a0_1 _ _ l0_2 ((qA l1 a2).f0) ((qA l1 a2).f1) ((qA l1 a2).f2.f0) ((qA l1 a2).f2.f1) ((qA l1 a2).f2.f2) ((qA l1 a2).f2.f3) ((qA l1 a2).f2.f4) ((qA l1 a2).f2.f5) a3 t282 t283 t284 t285 t286 t287 t288 t289 false _ ?side1 ?side2 A7.out).mono ?_
     (case side1 => repeat (first | exact (Kd.qV HR0_2.out HB.out) | (with_reducible refine Kd.qL ?_ _) | (with_reducible refine Kd.qK ?_ _) | (with_reducible refine Kd.qX ?_)))
     (case side2 => exact HC0_2.out)
     rintro e w55 ⟨rfl, hb⟩
     refine ⟨_, rfl, ?_⟩
     replace BK280 := aM (bb BK280 hb)
     replace BK291 := aM (bb BK291 hb)
     replace HB := aM (qB bl hb); (try clear hb); (try clear hb2); (try clear hk); (try clear hi)
     refine hK.out _ _ ⟨bc BK280 0, bc BK280 1, bc BK280 2, (hB HB hw281_0 :), (hB HB hw281_1 :), (hB HB hw281_2 :), (hB HB hw281_3 :), (hB HB hw281_4 :), (hB HB hw281_5 :), (hB HB hw281_6 :), (hB HB hw281_7 :)⟩ (fun hHeld => ?_)
     clear hK K
     refine norm_ (a' := ?_) ?_ ?_
     rotate_left
     ·show Act.put _ (some 20) _ = _
      simp only [Act.put, List.setIfInBounds_toArray, List.set_cons_zero, List.set_cons_succ, i64_w, i32_w]
      rfl
     refine pS (i := 7) (N := some 13) #[true, true, true, true, true, true, true, true, false, false, true, false, false] HT_ ?_
     refine pS (i := 8) (N := some 21) #[true, true, true, true, true, true, true, true, true, false, true, false, false] HT_ ?_
     refine pS (i := 9) (N := some 22) #[true, true, true, true, true, true, true, true, true, true, true, false, false] HT_ ?_
     exact norm_ (by simp only [putAll, Act.put, List.setIfInBounds_toArray, List.set_cons_zero, List.set_cons_succ]) (hCont (gb291) _ ⟨hHeld, (rB BK280), (rB BK291), GW291.out, GE291.out, NB280_291.out, NB291_280.out, bl⟩)
   rintro gb291 w56 ⟨hS_, h0_, h1_, h2_, h3_, h4_, h5_, h6_⟩
   have n0_ : Aside0 (w56.heap[gb280]? = some (.cells #[.int .i64 a0_0, .int .i64 a0_1, .slice A0_2 l0_2.length c0_2] 40 (0, 0))) := ⟨h0_⟩
   have n1_ : Aside0 (w56.heap[gb291]? = some (.cells #[.int .i64 0, .int .i64 0, .int .i64 0, .int .i64 0, .int .i64 0, .int .i64 0, .int .i64 0, .int .i64 0] 53 (0, 0))) := ⟨h1_⟩
   have n2_ : Aside0 (w.heap.size ≤ gb291) := ⟨h2_⟩
   have n3_ : Aside0 (w.heap.size ≤ gb291) := ⟨h3_⟩
   have n4_ : Aside0 (gb280 ≠ gb291) := ⟨h4_⟩
   have n5_ : Aside0 (gb291 ≠ gb280) := ⟨h5_⟩
   have n6_ : Aside0 (Below w.heap.size w w56) := ⟨h6_⟩
   clear BK280 HB h0_ h1_ h2_ h3_ h4_ h5_ h6_
   have BK280 := n0_
   have BK291 := n1_
   have GW291 := n2_
   have GE291 := n3_
   have NB280_291 := n4_
   have NB291_280 := n5_
   have HB := n6_
   clear n0_ n1_ n2_ n3_ n4_ n5_ n6_
   have hHeld : w56.cell? ⟨gb280, 0, none⟩ = some (.int .i64 a0_0) ∧ w56.cell? ⟨gb280, 1, none⟩ = some (.int .i64 a0_1) ∧ w56.cell? ⟨gb280, 2, none⟩ = some (.slice A0_2 l0_2.length c0_2) ∧ w56.cell? (ad281.add ((a2).toNat * 8)) = some (.int .i64 ((qA l1 a2).f0)) ∧ w56.cell? ⟨(ad281.add ((a2).toNat * 8)).block, (ad281.add ((a2).toNat * 8)).off + 1, none⟩ = some (.int .i64 ((qA l1 a2).f1)) ∧ w56.cell? ⟨(ad281.add ((a2).toNat * 8)).block, (ad281.add ((a2).toNat * 8)).off + 2, none⟩ = some (.int .i64 ((qA l1 a2).f2.f0)) ∧ w56.cell? ⟨(ad281.add ((a2).toNat * 8)).block, (ad281.add ((a2).toNat * 8)).off + 3, none⟩ = some (.int .i64 ((qA l1 a2).f2.f1)) ∧ w56.cell? ⟨(ad281.add ((a2).toNat * 8)).block, (ad281.add ((a2).toNat * 8)).off + 4, none⟩ = some (.int .i64 ((qA l1 a2).f2.f2)) ∧ w56.cell? ⟨(ad281.add ((a2).toNat * 8)).block, (ad281.add ((a2).toNat * 8)).off + 5, none⟩ = some (.int .i64 ((qA l1 a2).f2.f3)) ∧ w56.cell? ⟨(ad281.add ((a2).toNat * 8)).block, (ad281.add ((a2).toNat * 8)).off + 6, none⟩ = some (.int .i64 ((qA l1 a2).f2.f4)) ∧ w56.cell? ⟨(ad281.add ((a2).toNat * 8)).block, (ad281.add ((a2).toNat * 8)).off + 7, none⟩ = some (.int .i64 ((qA l1 a2).f2.f5)) := hS_
   refine norm_ (a' := ?_) ?_ ?_
   rotate_left
   ·simp only [putAll, Act.put, List.setIfInBounds_toArray, List.set_cons_zero, List.set_cons_succ]
    rfl
   refine one_ (i := 11) (N := none) #[true, true, true, true, true, true, true, true, true, true, true, true, false] rfl rfl (qcA HT_.out (by kernel_rfl)) (by decide) (fun K hK => ?_)
   have hs57 : w56.cell? ⟨gb291, 0, none⟩ = some (.int .i64 0) := bc BK291 0
   have hfs57 := qb BK291.out 0
   have hns57_0 := NB280_291.out
   have hms57_0 := NB291_280.out
   have hs58 : w56.cell? ⟨gb291, 1, none⟩ = some (.int .i64 0) := bc BK291 1
   have hfs58 := qb BK291.out 1
   have hns58_0 := NB280_291.out
   have hms58_0 := NB291_280.out
   have hs59 : w56.cell? ⟨gb291, 2, none⟩ = some (.int .i64 0) := bc BK291 2
   have hfs59 := qb BK291.out 2
   have hns59_0 := NB280_291.out
   have hms59_0 := NB291_280.out
   have hs60 : w56.cell? ⟨gb291, 3, none⟩ = some (.int .i64 0) := bc BK291 3
   have hfs60 := qb BK291.out 3
   have hns60_0 := NB280_291.out
   have hms60_0 := NB291_280.out
   have hs61 : w56.cell? ⟨gb291, 4, none⟩ = some (.int .i64 0) := bc BK291 4
   have hfs61 := qb BK291.out 4
   have hns61_0 := NB280_291.out
   have hms61_0 := NB291_280.out
   have hs62 : w56.cell? ⟨gb291, 5, none⟩ = some (.int .i64 0) := bc BK291 5
   have hfs62 := qb BK291.out 5
   have hns62_0 := NB280_291.out
   have hms62_0 := NB291_280.out
   have hs63 : w56.cell? ⟨gb291, 6, none⟩ = some (.int .i64 0) := bc BK291 6
   have hfs63 := qb BK291.out 6
   have hns63_0 := NB280_291.out
   have hms63_0 := NB291_280.out
   have hs64 : w56.cell? ⟨gb291, 7, none⟩ = some (.int .i64 0) := bc BK291 7
   have hfs64 := qb BK291.out 7
   have hns64_0 := NB280_291.out
   have hms64_0 := NB291_280.out
   refine skip_ (w1 := ?_) (by rfl) rfl ?_ ?_
   rotate_left
   ·go_simp
    rfl
   refine hK.out _ _ ⟨(cf8 NB280_291.out (hHeld.1)), (cf8 NB280_291.out (hHeld.2.1)), (cf8 NB280_291.out (hHeld.2.2.1)), (cf8 (nB hw281_0 GW291 :) (hHeld.2.2.2.1)), (cf8 (nB hw281_1 GW291 :) (hHeld.2.2.2.2.1)), (cf8 (nB hw281_2 GW291 :) (hHeld.2.2.2.2.2.1)), (cf8 (nB hw281_3 GW291 :) (hHeld.2.2.2.2.2.2.1)), (cf8 (nB hw281_4 GW291 :) (hHeld.2.2.2.2.2.2.2.1)), (cf8 (nB hw281_5 GW291 :) (hHeld.2.2.2.2.2.2.2.2.1)), (cf8 (nB hw281_6 GW291 :) (hHeld.2.2.2.2.2.2.2.2.2.1)), (cf8 (nB hw281_7 GW291 :) (hHeld.2.2.2.2.2.2.2.2.2.2))⟩ (fun hHeld => ?_)
   clear hK K
   refine pS (i := 12) (N := some 11) #[true, true, true, true, true, true, true, true, true, true, true, true, true] HT_ ?_
   refine done_ (qvA HT_.out (by kernel_rfl)) ?_
   try go_wp2
   go_ret2
   exact ⟨_, sR, nK, bl⟩
 ·rw [if_neg c5] at H
  exact absurd H (by simp)
def qdA.f : Nat → Int → Option (ByteArray)
 | 0, _ => none
 | k + 1, a0 => if a0 < 10 then (some (strOfNums (([(wrap64 (48 + a0)) % 256] : List Int)))) else ((qdA.f k (wrap64 (Int.tdiv a0 10))).bind fun t303 => ((some (([(wrap64 (48 + (Int.tmod a0 10))) % 256] : List Int) : List Int)).bind fun y304 => (if t303.size + (strOfNums y304).size ≤ 9223372036854775807 then (some (t303 ++ (strOfNums y304))) else (none))))
def qdA.T3 : Bool × List (List Nat × List Nat) := (true, [([], []), ([0], [0]), ([1], [1]), ([], []), ([3], [3]), ([4], [4]), ([5], [5]), ([6], [6]), ([7], [7]), ([2, 8], [2, 8]), ([9, 2, 0, 1, 2, 3, 4, 5, 6, 7, 8, 9], [9])])
def qdA.B3 : List Nat := [0, 1, 3, 0, 8, 24, 56, 120, 248, 511, 1023]
theorem qdA.tab3 : rtab .any (opsOf Tryz.f66 3) = qdA.T3 := by kernel_rfl
theorem qdA.bits3 : waitsOk qdA.T3.2 qdA.B3 = true := by kernel_rfl
set_option maxHeartbeats 8000000 in
set_option maxRecDepth 100000 in
theorem qdA.calls (k : Nat) : ∀ (a0 : Int) (r : ByteArray) (w : World) (h : qdA.f k a0 = some r),
  Calls Tryz.prog 66 #[.int .i64 a0] w fun e w' => e = .returned (.string r) ∧ Below w.heap.size w w' := by
 induction k using Nat.strongRecOn with
 | _ k ih =>
 intro a0 r w h
 cases k with
 | zero => exact absurd h (by simp [qdA.f])
 | succ k =>
 simp only [qdA.f] at h
 have HB := aM (Below.refl w.heap.size w)
 have H : (if a0 < 10 then (some (strOfNums (([(wrap64 (48 + a0)) % 256] : List Int)))) else ((qdA.f k (wrap64 (Int.tdiv a0 10))).bind fun t303 => ((some (([(wrap64 (48 + (Int.tmod a0 10))) % 256] : List Int) : List Int)).bind fun y304 => (if t303.size + (strOfNums y304).size ≤ 9223372036854775807 then (some (t303 ++ (strOfNums y304))) else (none))))) = some r := h
 clear h
 by_cases c2 : a0 < 10
 ·rw [if_pos c2] at H
  have c2b0 := decide_eq_true c2
  clear c2
  obtain ⟨y300, hy300⟩ : ∃ y_ : List Int, y_ = (([(wrap64 (48 + a0)) % 256] : List Int)) := ⟨_, rfl⟩
  replace H : (some (strOfNums y300)) = some r := by first | (rw [hy300]; with_reducible exact H) | (have H2_ := (Option.bind_some _ _).symm.trans H; rw [hy300]; with_reducible exact H2_) | (have H2_ := (Option.bind_some _ _).symm.trans H; with_reducible exact H2_) | with_reducible exact H | (rw [hy300]; exact H) | exact H
  have Ny300 := aM hy300
  clear hy300
  obtain rfl := Option.some.inj H
  go_enter Tryz.func66, Tryz.ntmps66
  go_wp2_with (first | ((with_reducible refine qH (N := 8) rfl ?_); refine Kd.R_lit (Kd.int .u8) _ 5 ?hg (N := 8) ?hd (xs := ([(wrap64 (48 + a0)) % 256] : List Int)) (inner := [.int .u8 ((wrap64 (48 + a0)) % 256)]) (ok := fun _ => True) (okp := fun _ => True) ?hr ?hp (fun _ hk => hk) trivial (Below.refl _ _) (Nat.le_refl _) (by simp) ?_; (case hd => rfl); (case hg => rfl); (case hr => exact gS); (case hp => exact (Reps.one (show Kd.M (Kd.int .u8) _ _ _ ((wrap64 (48 + a0)) % 256) [.int .u8 ((wrap64 (48 + a0)) % 256)] from rfl) (Reps.none _ _))); intro v301 w3 ho4 hb hg_ hnew_; clear hg_ hnew_; (first | rw [← Ny300.out] at ho4 | (simp only [Int.reduceToNat] at ho4; rw [← Ny300.out] at ho4)); have HO302 := aM (Kd.qz ho4 (qJ bl)); replace HB := aM (qB bl hb); clear hb ho4; have hcv5 := qTC (P := Tryz.prog) Tryz.underlying38 Tryz.underlying5 Tryz.underlying9 (Kd.qdC HO302.out)))
  go_ret
  exact ⟨sR, bl⟩
 ·rw [if_neg c2] at H
  have c2b0 := decide_eq_false c2
  clear c2
  replace H := bO H
  obtain ⟨t303, A6, H⟩ := H
  replace H := bS H
  obtain ⟨y304, Ny304, H⟩ := H
  by_cases c7 : t303.size + (strOfNums y304).size ≤ 9223372036854775807
  ·rw [if_pos c7] at H
   have c7b0 := eq_true c7
   have c7b1 := decide_eq_true c7
   try have c7b2 : (9223372036854775807 < t303.size + (strOfNums y304).size) = False := eq_false (Nat.not_lt.2 c7)
   obtain rfl := Option.some.inj H
   go_enter Tryz.func66, Tryz.ntmps66
   try go_wp2
   replace HB := aM (qi HB.out)
   refine qJB (n := 11) (S := fun w' => True) (ds := []) #[false, false, false, false, false, false, false, false, false, false, false] (by kernel_rfl) rfl rfl trivial (fun hHeld => ?_); refine qNA qdA.tab3 qdA.bits3 (fun HT_ HW_ => ?_)
   generalize w.drew = w8 at HB hHeld ⊢
   refine pS (i := 0) (N := some 10) #[true, false, false, false, false, false, false, false, false, false, false] HT_ ?_
   refine pS (i := 1) (N := some 11) #[true, true, false, false, false, false, false, false, false, false, false] HT_ ?_
   refine pS (i := 3) (N := some 13) #[true, true, false, true, false, false, false, false, false, false, false] HT_ ?_
   refine pS (i := 4) (N := some 14) #[true, true, false, true, true, false, false, false, false, false, false] HT_ ?_
   refine pS (i := 5) (N := some 15) #[true, true, false, true, true, true, false, false, false, false, false] HT_ ?_
   refine pS (i := 6) (N := some 16) #[true, true, false, true, true, true, true, false, false, false, false] HT_ ?_
   refine join_ (σ := Value) 2 #[true, true, true, true, true, true, true, true, true, false, false] (fun s_ => [(12, .string t303), (17, s_), (18, .string (strOfNums y304))]) (fun s_ w' => (Kd.R (Kd.int .u8) 5 w' w.heap.size (fun _ => True) s_ y304) ∧ (Below w.heap.size w w')) ?_ ?_
   rotate_left
   ·intro hCont
    refine two_ (i := 2) (j := 7) (Ni := some 12) (Nj := some 17) #[true, true, true, true, true, true, true, false, false, false, false] #[true, true, false, true, true, true, true, true, false, false, false] rfl rfl rfl rfl (qID HT_.out (by kernel_rfl)) (by decide) (by decide) (fun K hK => ?_) (fun K hK => ?_)
    ·skip
     refine goes_ Tryz.func66 (by kernel_rfl) rfl #[.int .i64 (wrap64 (Int.tdiv a0 10))] (by rfl) rfl rfl gA ?_
     with_reducible refine (ih k (by omega) (wrap64 (Int.tdiv a0 10)) t303 _ A6.out).mono ?_
     rintro e w9 ⟨rfl, hb⟩
     refine ⟨_, rfl, ?_⟩
     replace HB := aM (qB bl hb); (try clear hb); (try clear hb2); (try clear hk); (try clear hi)
     refine hK.out _ _ trivial (fun hHeld => ?_)
     clear hK K
     refine norm_ (a' := ?_) ?_ ?_
     rotate_left
     ·show Act.put _ (some 12) _ = _
      simp only [Act.put, List.setIfInBounds_toArray, List.set_cons_zero, List.set_cons_succ, i64_w, i32_w]
      rfl
     refine one_ (i := 7) (N := some 17) #[true, true, true, true, true, true, true, true, false, false, false] rfl rfl (qcA HT_.out (by kernel_rfl)) (by decide) (fun K hK => ?_)
     refine Kd.qtA (Kd.int .u8) _ 5 ?hg (N := 17) ?hd (xs := ([(wrap64 (48 + (Int.tmod a0 10))) % 256] : List Int)) (inner := [.int .u8 ((wrap64 (48 + (Int.tmod a0 10))) % 256)]) (ok := fun _ => True) (okp := fun _ => True) ?hr ?hp (fun _ hk => hk) trivial (Below.refl _ _) (Nat.le_refl _) (by simp) ?_; (case hd => rfl); (case hg => rfl); (case hr => exact gS); (case hp => exact (Reps.one (show Kd.M (Kd.int .u8) _ _ _ ((wrap64 (48 + (Int.tmod a0 10))) % 256) [.int .u8 ((wrap64 (48 + (Int.tmod a0 10))) % 256)] from rfl) (Reps.none _ _)))
     intro v305 w10 ho11 hb hg_ hnew_
     clear hg_ hnew_
     (first | rw [← Ny304.out] at ho11 | (simp only [Int.reduceToNat] at ho11; rw [← Ny304.out] at ho11))
     have HO306 := aM (Kd.qz ho11 (qJ bl))
     replace HB := aM (qB bl hb)
     clear hb ho11
     refine hK.out _ _ trivial (fun hHeld => ?_)
     clear hK K
     refine norm_ (a' := ?_) ?_ ?_
     rotate_left
     ·show Act.put _ (some 17) _ = _
      simp only [Act.put, List.setIfInBounds_toArray, List.set_cons_zero, List.set_cons_succ, i64_w, i32_w]
      rfl
     refine one_ (i := 8) (N := some 18) #[true, true, true, true, true, true, true, true, true, false, false] rfl rfl (qcA HT_.out (by kernel_rfl)) (by decide) (fun K hK => ?_)
     have hcv12 := qTC (P := Tryz.prog) Tryz.underlying38 Tryz.underlying5 Tryz.underlying9 (Kd.qdC HO306.out)
     refine qfB (w1 := ?_) (v := ?_) (by rfl) rfl ?_ ?_
     rotate_left 2
     ·go_simp
      constructor
      ·rfl
      ·rfl
     clear hcv12
     refine hK.out _ _ trivial (fun hHeld => ?_)
     clear hK K
     refine norm_ (a' := ?_) ?_ ?_
     rotate_left
     ·show Act.put _ (some 18) _ = _
      simp only [Act.put, List.setIfInBounds_toArray, List.set_cons_zero, List.set_cons_succ, i64_w, i32_w]
      rfl
     exact norm_ (by simp only [putAll, Act.put, List.setIfInBounds_toArray, List.set_cons_zero, List.set_cons_succ]) (hCont (v305) _ ⟨(rR HO306), bl⟩)
    ·skip
     refine Kd.qtA (Kd.int .u8) _ 5 ?hg (N := 17) ?hd (xs := ([(wrap64 (48 + (Int.tmod a0 10))) % 256] : List Int)) (inner := [.int .u8 ((wrap64 (48 + (Int.tmod a0 10))) % 256)]) (ok := fun _ => True) (okp := fun _ => True) ?hr ?hp (fun _ hk => hk) trivial (Below.refl _ _) (Nat.le_refl _) (by simp) ?_; (case hd => rfl); (case hg => rfl); (case hr => exact gS); (case hp => exact (Reps.one (show Kd.M (Kd.int .u8) _ _ _ ((wrap64 (48 + (Int.tmod a0 10))) % 256) [.int .u8 ((wrap64 (48 + (Int.tmod a0 10))) % 256)] from rfl) (Reps.none _ _)))
     intro v305 w9 ho10 hb hg_ hnew_
     clear hg_ hnew_
     (first | rw [← Ny304.out] at ho10 | (simp only [Int.reduceToNat] at ho10; rw [← Ny304.out] at ho10))
     have HO306 := aM (Kd.qz ho10 (qJ bl))
     replace HB := aM (qB bl hb)
     clear hb ho10
     refine hK.out _ _ trivial (fun hHeld => ?_)
     clear hK K
     refine norm_ (a' := ?_) ?_ ?_
     rotate_left
     ·show Act.put _ (some 17) _ = _
      simp only [Act.put, List.setIfInBounds_toArray, List.set_cons_zero, List.set_cons_succ, i64_w, i32_w]
      rfl
     refine two_ (i := 2) (j := 8) (Ni := some 12) (Nj := some 18) #[true, true, true, true, true, true, true, true, false, false, false] #[true, true, false, true, true, true, true, true, true, false, false] rfl rfl rfl rfl (qID HT_.out (by kernel_rfl)) (by decide) (by decide) (fun K hK => ?_) (fun K hK => ?_)
     ·skip
      refine goes_ Tryz.func66 (by kernel_rfl) rfl #[.int .i64 (wrap64 (Int.tdiv a0 10))] (by rfl) rfl rfl gA ?_
      with_reducible refine (ih k (by omega) (wrap64 (Int.tdiv a0 10)) t303 _ A6.out).mono ?_
      rintro e w11 ⟨rfl, hb⟩
      refine ⟨_, rfl, ?_⟩
      replace HO306 := aM (Kd.qc (rR HO306) hb)
      replace HB := aM (qB bl hb); (try clear hb); (try clear hb2); (try clear hk); (try clear hi)
      refine hK.out _ _ trivial (fun hHeld => ?_)
      clear hK K
      refine norm_ (a' := ?_) ?_ ?_
      rotate_left
      ·show Act.put _ (some 12) _ = _
       simp only [Act.put, List.setIfInBounds_toArray, List.set_cons_zero, List.set_cons_succ, i64_w, i32_w]
       rfl
      refine one_ (i := 8) (N := some 18) #[true, true, true, true, true, true, true, true, true, false, false] rfl rfl (qcA HT_.out (by kernel_rfl)) (by decide) (fun K hK => ?_)
      have hcv12 := qTC (P := Tryz.prog) Tryz.underlying38 Tryz.underlying5 Tryz.underlying9 (Kd.qdC HO306.out)
      refine qfB (w1 := ?_) (v := ?_) (by rfl) rfl ?_ ?_
      rotate_left 2
      ·go_simp
       constructor
       ·rfl
       ·rfl
      clear hcv12
      refine hK.out _ _ trivial (fun hHeld => ?_)
      clear hK K
      refine norm_ (a' := ?_) ?_ ?_
      rotate_left
      ·show Act.put _ (some 18) _ = _
       simp only [Act.put, List.setIfInBounds_toArray, List.set_cons_zero, List.set_cons_succ, i64_w, i32_w]
       rfl
      exact norm_ (by simp only [putAll, Act.put, List.setIfInBounds_toArray, List.set_cons_zero, List.set_cons_succ]) (hCont (v305) _ ⟨(rR HO306), bl⟩)
     ·skip
      have hcv11 := qTC (P := Tryz.prog) Tryz.underlying38 Tryz.underlying5 Tryz.underlying9 (Kd.qdC HO306.out)
      refine qfB (w1 := ?_) (v := ?_) (by rfl) rfl ?_ ?_
      rotate_left 2
      ·go_simp
       constructor
       ·rfl
       ·rfl
      clear hcv11
      refine hK.out _ _ trivial (fun hHeld => ?_)
      clear hK K
      refine norm_ (a' := ?_) ?_ ?_
      rotate_left
      ·show Act.put _ (some 18) _ = _
       simp only [Act.put, List.setIfInBounds_toArray, List.set_cons_zero, List.set_cons_succ, i64_w, i32_w]
       rfl
      refine one_ (i := 2) (N := some 12) #[true, true, true, true, true, true, true, true, true, false, false] rfl rfl (qcA HT_.out (by kernel_rfl)) (by decide) (fun K hK => ?_)
      refine goes_ Tryz.func66 (by kernel_rfl) rfl #[.int .i64 (wrap64 (Int.tdiv a0 10))] (by rfl) rfl rfl gA ?_
      with_reducible refine (ih k (by omega) (wrap64 (Int.tdiv a0 10)) t303 _ A6.out).mono ?_
      rintro e w12 ⟨rfl, hb⟩
      refine ⟨_, rfl, ?_⟩
      replace HO306 := aM (Kd.qc (rR HO306) hb)
      replace HB := aM (qB bl hb); (try clear hb); (try clear hb2); (try clear hk); (try clear hi)
      refine hK.out _ _ trivial (fun hHeld => ?_)
      clear hK K
      refine norm_ (a' := ?_) ?_ ?_
      rotate_left
      ·show Act.put _ (some 12) _ = _
       simp only [Act.put, List.setIfInBounds_toArray, List.set_cons_zero, List.set_cons_succ, i64_w, i32_w]
       rfl
      exact norm_ (by simp only [putAll, Act.put, List.setIfInBounds_toArray, List.set_cons_zero, List.set_cons_succ]) (hCont (v305) _ ⟨(rR HO306), bl⟩)
   rintro v305 w13 ⟨h0_, h1_⟩
   have n0_ : Aside0 (Kd.R (Kd.int .u8) 5 w13 w.heap.size (fun _ => True) v305 y304) := ⟨h0_⟩
   have n1_ : Aside0 (Below w.heap.size w w13) := ⟨h1_⟩
   clear HB h0_ h1_
   have HO306 := n0_
   have HB := n1_
   clear n0_ n1_
   have hHeld := trivial
   refine norm_ (a' := ?_) ?_ ?_
   rotate_left
   ·simp only [putAll, Act.put, List.setIfInBounds_toArray, List.set_cons_zero, List.set_cons_succ]
    rfl
   refine pS (i := 9) (N := some 19) #[true, true, true, true, true, true, true, true, true, true, false] HT_ ?_
   refine pS (i := 10) (N := some 2) #[true, true, true, true, true, true, true, true, true, true, true] HT_ ?_
   refine done_ (qvA HT_.out (by kernel_rfl)) ?_
   try go_wp2
   go_ret
   exact ⟨sR, bl⟩
  ·rw [if_neg c7] at H
   exact absurd H (by simp)
def qmB.f (k : Nat) (a0 : Int) (a1 : Int) : Option (ByteArray) := (qdA.f k a0).bind fun t307 => ((qsA.f).bind fun t308 => (if 0 ≤ a1 then (if a1 ≤ (wrap64 (a1 + 1)) then (if (wrap64 (a1 + 1)) ≤ (t308.size : Int) then (if t307.size + (t308.extract (a1 : Int).toNat ((wrap64 (a1 + 1)) : Int).toNat).size ≤ 9223372036854775807 then (some (t307 ++ (t308.extract (a1 : Int).toNat ((wrap64 (a1 + 1)) : Int).toNat))) else (none)) else (none)) else (none)) else (none)))
set_option maxHeartbeats 8000000 in
set_option maxRecDepth 100000 in
theorem qmB.calls (k : Nat) (a0 : Int) (a1 : Int) (r : ByteArray) (w : World) (h : qmB.f k a0 a1 = some r) :
  Calls Tryz.prog 48 #[.int .i64 a0, .int .i64 a1] w fun e w' => e = .returned (.string r) ∧ Below w.heap.size w w' := by
 have HB := aM (Below.refl w.heap.size w)
 have H : ((qdA.f k a0).bind fun t307 => ((qsA.f).bind fun t308 => (if 0 ≤ a1 then (if a1 ≤ (wrap64 (a1 + 1)) then (if (wrap64 (a1 + 1)) ≤ (t308.size : Int) then (if t307.size + (t308.extract (a1 : Int).toNat ((wrap64 (a1 + 1)) : Int).toNat).size ≤ 9223372036854775807 then (some (t307 ++ (t308.extract (a1 : Int).toNat ((wrap64 (a1 + 1)) : Int).toNat))) else (none)) else (none)) else (none)) else (none)))) = some r := h
 clear h
 replace H := bO H
 obtain ⟨t307, A3, H⟩ := H
 replace H := bO H
 obtain ⟨t308, A4, H⟩ := H
 by_cases c5 : 0 ≤ a1
 ·rw [if_pos c5] at H
  have c5b0 := eq_true c5
  have c5b1 := decide_eq_true c5
  clear c5
  by_cases c6 : a1 ≤ (wrap64 (a1 + 1))
  case neg => exact nN c6 H
  rw [if_pos c6] at H
  have c6b0 := eq_true c6
  have c6b1 := decide_eq_true c6
  by_cases c7 : (wrap64 (a1 + 1)) ≤ (t308.size : Int)
  case neg => exact nN c7 H
  rw [if_pos c7] at H
  have c7b0 := eq_true c7
  have c7b1 := decide_eq_true c7
  by_cases c8 : t307.size + (t308.extract (a1 : Int).toNat ((wrap64 (a1 + 1)) : Int).toNat).size ≤ 9223372036854775807
  case neg => exact nN c8 H
  rw [if_pos c8] at H
  have c8b0 := eq_true c8
  have c8b1 := decide_eq_true c8
  try have c8b2 : (9223372036854775807 < t307.size + (t308.extract (a1 : Int).toNat ((wrap64 (a1 + 1)) : Int).toNat).size) = False := eq_false (Nat.not_lt.2 c8)
  obtain rfl := Option.some.inj H
  go_enter Tryz.func48, Tryz.ntmps48
  go_wp2_with (first | ((with_reducible refine qE (f := 66) rfl ?_); refine qm (some 6) rfl rfl Tryz.func66 (by kernel_rfl) rfl #[.int .i64 a0] rfl gA ?_; (with_reducible refine (qdA.calls k a0 t307 _ A3.out).mono ?_); rintro e w9 ⟨rfl, hb⟩; refine ⟨_, rfl, ?_⟩; replace HB := aM (qB bl hb); (try clear hb); (try clear hb2); (try clear hk); (try clear hi)) | ((with_reducible refine qE (f := 67) rfl ?_); refine qm (some 7) rfl rfl Tryz.func67 (by kernel_rfl) rfl #[] rfl gA ?_; (with_reducible refine (qsA.calls  t308 _ A4.out).mono ?_); rintro e w' ⟨rfl, ⟨nd, rfl⟩⟩; refine ⟨_, rfl, ?_⟩))
  go_ret
  exact ⟨sR, bl⟩
 ·rw [if_neg c5] at H
  exact absurd H (by simp)
end Go.Proofs.YthhiiceligjleaaGreatDoor.P
