/- The program's PlanTo returns what the reference's returns, for all texts and dice and goals (the law lets longer texts and lists by). No further condition. -/
import Derived.Test.YthhiiceligjleaaGreatDoorKFnExactPlanTo0

namespace Go.Proofs.YthhiiceligjleaaGreatDoor.P
open Go.RowKit Go.Proofs.YthhiiceligjleaaGreatDoorW.PrintWords Go.Proofs.YthhiiceligjleaaGreatDoorW.PrintLast Go.Proofs.YthhiiceligjleaaGreatDoorW.PrintMore
attribute [local go_sem] ql qj qu qt qd qc qk qi
set_option linter.unusedVariables false
set_option linter.unusedSimpArgs false
def qo.l0 : Nat → List (S53) → List (S53) → Int → Int → Int → Int → List Int → Option (Bool)
 | 0, _, _, _, _, _, _, _ => none
 | k + 1, x1, x11, x12, x13, x125000, x125001, x125002 => if x13 < x12 then (if 0 ≤ x13 then (if x13 < (x11.length : Int) then ((qPB.f k x125000 x125001 x125002 ((qA x11 x13).f0) ((qA x11 x13).f1) ((qA x11 x13).f2.f0) ((qA x11 x13).f2.f1) ((qA x11 x13).f2.f2) ((qA x11 x13).f2.f3) ((qA x11 x13).f2.f4) ((qA x11 x13).f2.f5)).bind fun t128 => (if t128 = true then (if x13 ≤ (x1.length : Int) then ((qTA.f k (x1.take (x13 : Int).toNat) ((qA x11 x13).f0) ((qA x11 x13).f1)).bind fun t133 => (if t133 ≥ 0 then (some false) else (qo.l0 k x1 x11 x12 (wrap64 (x13 + 1)) x125000 x125001 x125002))) else (none)) else (some false))) else (none)) else (none)) else (some true)
def qo.f (k : Nat) (a0_0 : Int) (a0_1 : Int) (l0_2 : List Int) (l1 : List (S53)) : Option (Bool) := (qiA.f (l1.length : Int) 1 3).bind fun t125 => (if t125 = true then (qo.l0 k l1 l1 (l1.length : Int) 0 a0_0 a0_1 l0_2) else (some false))
def qo.T6 : Bool × List (List Nat × List Nat) := (true, [([], []), ([], []), ([0, 1], [0, 1]), ([2], [2]), ([3, 2], [3]), ([4], [4]), ([4], [4]), ([5, 6, 4], [4, 5, 6]), ([4], [4]), ([8, 4], [4, 8]), ([4], [4]), ([10, 4], [4, 10]), ([7, 9, 11, 4, 4], [4, 7, 9, 11]), ([12, 4], [4, 12]), ([4, 13], [4, 13])])
def qo.B6 : List Nat := [0, 0, 3, 7, 15, 31, 31, 127, 31, 287, 31, 1055, 4095, 8191, 16383]
theorem qo.tab6 : rtab .any (opsOf Tryz.f19 6) = qo.T6 := by kernel_rfl
theorem qo.bits6 : waitsOk qo.T6.2 qo.B6 = true := by kernel_rfl
set_option maxHeartbeats 8000000 in
set_option maxRecDepth 100000 in
theorem qo.calls (k : Nat) (a0_0 : Int) (a0_1 : Int) (A0_2 : Option Addr) (c0_2 : Nat) (l0_2 : List Int) (A1 : Option Addr) (c1 : Nat) (l1 : List (S53)) (r : Bool) (w : World) (hr0_2 : Kd.C (Kd.int .u8) w A0_2 l0_2.length l0_2) (hc0_2 : l0_2.length ≤ c0_2) (hr1 : Kd.C k53 w A1 l1.length l1) (hc1 : l1.length ≤ c1) (h : qo.f k a0_0 a0_1 l0_2 l1 = some r) :
  Calls Tryz.prog 19 #[.agg #[.int .i64 a0_0, .int .i64 a0_1, .slice A0_2 l0_2.length c0_2], .slice A1 l1.length c1] w fun e w' => e = .returned (.bool r) ∧ Below w.heap.size w w' := by
 have hu40 := Tryz.underlying40
 have hu53 := Tryz.underlying53
 have HR0_2 := aM hr0_2
 have HC0_2 := aM hc0_2
 clear hr0_2 hc0_2
 have HR1 := aM hr1
 have HC1 := aM hc1
 clear hr1 hc1
 have HB := aM (Below.refl w.heap.size w)
 have H : ((qiA.f (l1.length : Int) 1 3).bind fun t125 => (if t125 = true then (qo.l0 k l1 l1 (l1.length : Int) 0 a0_0 a0_1 l0_2) else (some false))) = some r := h
 clear h
 replace H := bO H
 obtain ⟨t125, A3, H⟩ := H
 by_cases c4 : t125 = true
 ·subst c4
  replace H := iT H
  have H' := aM H
  clear H
  go_enter Tryz.func19, Tryz.ntmps19
  go_wp2_with (first | ((with_reducible refine qJ (N := 2) rfl ?_); refine qI ?hg (N := 2) ?hd (cs := #[.int .i64 a0_0, .int .i64 a0_1, .slice A0_2 l0_2.length c0_2]) (t := 40) ?hr ?_; (case hd => rfl); (case hg => rfl); (case hr => exact gS); intro gb124 hg w5 hbox hb; have BK124 := aM (hbox); have GW124 := aM ((gg hg)); have GE124 := aM ((gg hg)); replace HB := aM (qB bl hb); clear hb hbox hg) | ((with_reducible refine qF (f := 42) rfl ?_); refine qn (some 9) rfl rfl Tryz.func42 (by kernel_rfl) rfl #[.int .i64 (l1.length : Int), .int .i64 1, .int .i64 3] rfl gA ?_; (with_reducible refine (qiA.calls (l1.length : Int) 1 3 true _ A3.out).mono ?_); rintro e w' ⟨rfl, ⟨nd, rfl⟩⟩; refine ⟨_, rfl, ?_⟩))
  go_loopg [13] k (fun kq v13 w' => ∃ (x13_1 : Int), v13 = .int .i64 x13_1 ∧ Aside0 (qo.l0 kq l1 l1 (l1.length : Int) x13_1 a0_0 a0_1 l0_2 = some r) ∧ Aside0 (kq ≤ k) ∧ Aside0 (w'.heap[gb124]? = some (.cells #[.int .i64 a0_0, .int .i64 a0_1, (.slice A0_2 l0_2.length c0_2)] 40 (0, 0))) ∧ Aside0 (Below w.heap.size w w'))
  case atStart => exact ⟨(0), sD, H', ⟨Nat.le_refl _⟩, ⟨rB BK124⟩, ⟨bl⟩⟩
  case round =>
   clear H'; (try clear c1); (try clear p2); (try clear c4)
   obtain ⟨x13_1, rfl, HA, HK1, BK124, HB⟩ := hrel
   cases gk with
   | zero => exact absurd HA.out (by simp [qo.l0])
   | succ k1 =>
    have H := HA.out
    clear HA
    simp only [qo.l0] at H
    by_cases c6 : x13_1 < (l1.length : Int)
    ·rw [if_pos c6] at H
     have c6b0 := decide_eq_true c6
     clear c6
     by_cases c7 : 0 ≤ x13_1
     ·rw [if_pos c7] at H
      have c7b0 := decide_eq_true c7
      clear c7
      by_cases c8 : x13_1 < (l1.length : Int)
      ·rw [if_pos c8] at H
       have c8b0 := decide_eq_true c8
       clear c8
       replace H := bO H
       obtain ⟨t128, A9, H⟩ := H
       by_cases c10 : t128 = true
       ·subst c10
        replace H := iT H
        have c11b0 := eq_true (of_decide_eq_true am : 0 ≤ x13_1)
        by_cases c12 : x13_1 ≤ (l1.length : Int)
        ·rw [if_pos c12] at H
         have c12b0 := eq_true c12
         have c12b1 := decide_eq_true c12
         clear c12
         obtain ⟨y129, hy129⟩ : ∃ y_ : List (S53), y_ = (l1.take (x13_1 : Int).toNat) := ⟨_, rfl⟩
         replace H : ((qTA.f k1 y129 ((qA l1 x13_1).f0) ((qA l1 x13_1).f1)).bind fun t133 => (if t133 ≥ 0 then (some false) else (qo.l0 k1 l1 l1 (l1.length : Int) (wrap64 (x13_1 + 1)) a0_0 a0_1 l0_2))) = some r := by first | (rw [hy129]; with_reducible exact H) | (have H2_ := (Option.bind_some _ _).symm.trans H; rw [hy129]; with_reducible exact H2_) | (have H2_ := (Option.bind_some _ _).symm.trans H; with_reducible exact H2_) | with_reducible exact H | (rw [hy129]; exact H) | exact H
         have Ny129 := aM hy129
         clear hy129
         replace H := bO H
         obtain ⟨t133, A13, H⟩ := H
         by_cases c14 : t133 ≥ 0
         ·rw [if_pos c14] at H
          have c14b0 := decide_eq_true c14
          clear c14
          obtain rfl := Option.some.inj H
          have p126 : 0 ≤ (x13_1 : Int) := of_decide_eq_true am
          have q126 : x13_1 < (l1.length : Int) := of_decide_eq_true am
          obtain ⟨ad126, e126, hx126_0, hx126_1, hx126_2, hx126_3, hx126_4, hx126_5, hx126_6, hx126_7⟩ := qGB HR1.out x13_1 p126 q126
          cases e126
          replace hx126_0 := (HB.out.cell (World.block_lt_of_cell? w _ hx126_0)).trans hx126_0
          replace hx126_1 := (HB.out.cell (World.block_lt_of_cell? w _ hx126_1)).trans hx126_1
          replace hx126_2 := (HB.out.cell (World.block_lt_of_cell? w _ hx126_2)).trans hx126_2
          replace hx126_3 := (HB.out.cell (World.block_lt_of_cell? w _ hx126_3)).trans hx126_3
          replace hx126_4 := (HB.out.cell (World.block_lt_of_cell? w _ hx126_4)).trans hx126_4
          replace hx126_5 := (HB.out.cell (World.block_lt_of_cell? w _ hx126_5)).trans hx126_5
          replace hx126_6 := (HB.out.cell (World.block_lt_of_cell? w _ hx126_6)).trans hx126_6
          replace hx126_7 := (HB.out.cell (World.block_lt_of_cell? w _ hx126_7)).trans hx126_7
          replace p126 := eq_true p126
          replace q126 := eq_true q126
          try go_wp2_with (first | ((with_reducible refine qJ (N := 6) rfl ?_); refine qI ?hg (N := 6) ?hd (cs := #[.int .i64 0, .int .i64 0, .int .i64 0, .int .i64 0, .int .i64 0, .int .i64 0, .int .i64 0, .int .i64 0]) (t := 53) ?hr ?_; (case hd => rfl); (case hg => rfl); (case hr => exact gS); intro gb127 hg w15 hbox hb; have BK127 := aM (hbox); have GW127 := aM ((gg hg)); have GE127 := aM ((gg hg)); have NB124_127 := aM ((nl BK124 hg)); have NB127_124 := aM ((nr BK124 hg)); replace BK124 := aM (bb BK124 hb); replace HB := aM (qB bl hb); clear hb hbox hg; have hnb16 := NB127_124.out; have hnc16 := NB124_127.out; (refine cb8 BK127 ?_; intro _ _ _ _ _ _ _ _); (refine cz8 BK127 ?_; intro _ _ _ _ _ _ _ _)))
          have n0_ : Aside0 (((((((((w15.setCell ⟨gb127, 0, none⟩ (.int .i64 ((qA l1 x13_1).f0))).setCell ⟨gb127, 1, none⟩ (.int .i64 ((qA l1 x13_1).f1))).setCell ⟨gb127, 2, none⟩ (.int .i64 ((qA l1 x13_1).f2.f0))).setCell ⟨gb127, 3, none⟩ (.int .i64 ((qA l1 x13_1).f2.f1))).setCell ⟨gb127, 4, none⟩ (.int .i64 ((qA l1 x13_1).f2.f2))).setCell ⟨gb127, 5, none⟩ (.int .i64 ((qA l1 x13_1).f2.f3))).setCell ⟨gb127, 6, none⟩ (.int .i64 ((qA l1 x13_1).f2.f4))).setCell ⟨gb127, 7, none⟩ (.int .i64 ((qA l1 x13_1).f2.f5))).heap[gb124]? = some (.cells #[.int .i64 a0_0, .int .i64 a0_1, .slice A0_2 l0_2.length c0_2] 40 (0, 0))) := ⟨bF BK124 NB124_127⟩
          have n1_ : Aside0 (((((((((w15.setCell ⟨gb127, 0, none⟩ (.int .i64 ((qA l1 x13_1).f0))).setCell ⟨gb127, 1, none⟩ (.int .i64 ((qA l1 x13_1).f1))).setCell ⟨gb127, 2, none⟩ (.int .i64 ((qA l1 x13_1).f2.f0))).setCell ⟨gb127, 3, none⟩ (.int .i64 ((qA l1 x13_1).f2.f1))).setCell ⟨gb127, 4, none⟩ (.int .i64 ((qA l1 x13_1).f2.f2))).setCell ⟨gb127, 5, none⟩ (.int .i64 ((qA l1 x13_1).f2.f3))).setCell ⟨gb127, 6, none⟩ (.int .i64 ((qA l1 x13_1).f2.f4))).setCell ⟨gb127, 7, none⟩ (.int .i64 ((qA l1 x13_1).f2.f5))).heap[gb127]? = some (.cells #[.int .i64 ((qA l1 x13_1).f0), .int .i64 ((qA l1 x13_1).f1), .int .i64 ((qA l1 x13_1).f2.f0), .int .i64 ((qA l1 x13_1).f2.f1), .int .i64 ((qA l1 x13_1).f2.f2), .int .i64 ((qA l1 x13_1).f2.f3), .int .i64 ((qA l1 x13_1).f2.f4), .int .i64 ((qA l1 x13_1).f2.f5)] 53 (0, 0))) := ⟨by (with_reducible repeat (first | refine qH ?_ _ | refine qE ?_ | refine qG ?_ _)); exact bP8 BK127⟩
          have n2_ : Aside0 (Below w.heap.size w ((((((((w15.setCell ⟨gb127, 0, none⟩ (.int .i64 ((qA l1 x13_1).f0))).setCell ⟨gb127, 1, none⟩ (.int .i64 ((qA l1 x13_1).f1))).setCell ⟨gb127, 2, none⟩ (.int .i64 ((qA l1 x13_1).f2.f0))).setCell ⟨gb127, 3, none⟩ (.int .i64 ((qA l1 x13_1).f2.f1))).setCell ⟨gb127, 4, none⟩ (.int .i64 ((qA l1 x13_1).f2.f2))).setCell ⟨gb127, 5, none⟩ (.int .i64 ((qA l1 x13_1).f2.f3))).setCell ⟨gb127, 6, none⟩ (.int .i64 ((qA l1 x13_1).f2.f4))).setCell ⟨gb127, 7, none⟩ (.int .i64 ((qA l1 x13_1).f2.f5)))) := ⟨bl⟩
          (try clear BK124); (try clear BK127); (try clear HB)
          generalize ((((((((w15.setCell ⟨gb127, 0, none⟩ (.int .i64 ((qA l1 x13_1).f0))).setCell ⟨gb127, 1, none⟩ (.int .i64 ((qA l1 x13_1).f1))).setCell ⟨gb127, 2, none⟩ (.int .i64 ((qA l1 x13_1).f2.f0))).setCell ⟨gb127, 3, none⟩ (.int .i64 ((qA l1 x13_1).f2.f1))).setCell ⟨gb127, 4, none⟩ (.int .i64 ((qA l1 x13_1).f2.f2))).setCell ⟨gb127, 5, none⟩ (.int .i64 ((qA l1 x13_1).f2.f3))).setCell ⟨gb127, 6, none⟩ (.int .i64 ((qA l1 x13_1).f2.f4))).setCell ⟨gb127, 7, none⟩ (.int .i64 ((qA l1 x13_1).f2.f5))) = w18 at n0_ n1_ n2_ ⊢
          have BK124 := n0_
          have BK127 := n1_
          have HB := n2_
          clear n0_ n1_ n2_
          replace BK124 := aM (qE BK124.out)
          replace BK127 := aM (qE BK127.out)
          replace HB := aM (qx HB.out)
          refine qOB (n := 15) (S := fun w' => w'.cell? ⟨gb124, 0, none⟩ = some (.int .i64 a0_0) ∧ w'.cell? ⟨gb124, 1, none⟩ = some (.int .i64 a0_1) ∧ w'.cell? ⟨gb124, 2, none⟩ = some (.slice A0_2 l0_2.length c0_2) ∧ w'.cell? ⟨gb127, 0, none⟩ = some (.int .i64 ((qA l1 x13_1).f0)) ∧ w'.cell? ⟨gb127, 1, none⟩ = some (.int .i64 ((qA l1 x13_1).f1)) ∧ w'.cell? ⟨gb127, 2, none⟩ = some (.int .i64 ((qA l1 x13_1).f2.f0)) ∧ w'.cell? ⟨gb127, 3, none⟩ = some (.int .i64 ((qA l1 x13_1).f2.f1)) ∧ w'.cell? ⟨gb127, 4, none⟩ = some (.int .i64 ((qA l1 x13_1).f2.f2)) ∧ w'.cell? ⟨gb127, 5, none⟩ = some (.int .i64 ((qA l1 x13_1).f2.f3)) ∧ w'.cell? ⟨gb127, 6, none⟩ = some (.int .i64 ((qA l1 x13_1).f2.f4)) ∧ w'.cell? ⟨gb127, 7, none⟩ = some (.int .i64 ((qA l1 x13_1).f2.f5))) (ds := []) #[false, false, false, false, false, false, false, false, false, false, false, false, false, false, false] (by kernel_rfl) rfl rfl ⟨bc BK124 0, bc BK124 1, bc BK124 2, bc BK127 0, bc BK127 1, bc BK127 2, bc BK127 3, bc BK127 4, bc BK127 5, bc BK127 6, bc BK127 7⟩ (fun hHeld => ?_); refine qSA qo.tab6 qo.bits6 (fun HT_ HW_ => ?_)
          generalize w18.drew = w19 at BK124 BK127 HB hHeld ⊢
          refine tS (i := 0) (N := some 18) #[true, false, false, false, false, false, false, false, false, false, false, false, false, false, false] HT_ HW_ hHeld ?_
          refine tS (i := 1) (N := some 19) #[true, true, false, false, false, false, false, false, false, false, false, false, false, false, false] HT_ HW_ hHeld ?_
          refine one_ (i := 2) (N := some 20) #[true, true, true, false, false, false, false, false, false, false, false, false, false, false, false] rfl rfl (qdA HT_.out (by kernel_rfl)) (by decide) (fun K hK => ?_)
          refine goes_ Tryz.func43 (by kernel_rfl) rfl #[.agg #[.int .i64 a0_0, .int .i64 a0_1, .slice A0_2 l0_2.length c0_2], .agg #[.int .i64 ((qA l1 x13_1).f0), .int .i64 ((qA l1 x13_1).f1), .int .i64 ((qA l1 x13_1).f2.f0), .int .i64 ((qA l1 x13_1).f2.f1), .int .i64 ((qA l1 x13_1).f2.f2), .int .i64 ((qA l1 x13_1).f2.f3), .int .i64 ((qA l1 x13_1).f2.f4), .int .i64 ((qA l1 x13_1).f2.f5)]] (by rfl) rfl rfl gA ?_
          with_reducible refine (qPB.calls k1 a0_0 a0_1 _ _ l0_2 ((qA l1 x13_1).f0) ((qA l1 x13_1).f1) ((qA l1 x13_1).f2.f0) ((qA l1 x13_1).f2.f1) ((qA l1 x13_1).f2.f2) ((qA l1 x13_1).f2.f3) ((qA l1 x13_1).f2.f4) ((qA l1 x13_1).f2.f5) true _ ?side1 ?side2 A9.out).mono ?_
          (case side1 => repeat (first | exact (Kd.qY HR0_2.out HB.out) | (with_reducible refine Kd.qS ?_ _) | (with_reducible refine Kd.qR ?_ _) | (with_reducible refine Kd.qe ?_)))
          (case side2 => exact HC0_2.out)
          rintro e w20 ⟨rfl, hb⟩
          refine ⟨_, rfl, ?_⟩
          replace BK124 := aM (bb BK124 hb)
          replace BK127 := aM (bb BK127 hb)
          replace HB := aM (qB bl hb); (try clear hb); (try clear hb2); (try clear hk); (try clear hi)
          have q21 : (x13_1 : Int) ≤ ((l1.length : Int) : Int) := of_decide_eq_true am
          obtain ⟨i021, hi021, _, hsz21, _⟩ := info_parts info53
          have hroom21 : l1.length ≤ c1 := HC1.out
          have hC21 : Kd.C k53 _ (some ad126) l1.length l1 := HR1.out
          have hcut21 := qtD (P := Tryz.prog) 26 53 .i64 Tryz.underlying26 hi021 (some ad126) l1.length c1 x13_1 (of_decide_eq_true am) q21 hroom21
          have hr21 := Kd.qdC (m := (x13_1 : Int).toNat) hC21 (by omega)
          have hy21 : y129.length = (x13_1 : Int).toNat := (by rw [Ny129.out, List.length_take]; omega)
          rw [← Ny129.out] at hr21
          rw [← hy21] at hcut21
          have HR132 := aM hr21
          have HC132 := aM (show y129.length ≤ c1 from by omega)
          clear hr21 hC21 hroom21 hi021 hsz21
          have KY21 := aM hy21
          clear hy21
          replace q21 := eq_true q21
          refine hK.out _ _ ⟨bc BK124 0, bc BK124 1, bc BK124 2, bc BK127 0, bc BK127 1, bc BK127 2, bc BK127 3, bc BK127 4, bc BK127 5, bc BK127 6, bc BK127 7⟩ (fun hHeld => ?_)
          clear hK K
          refine norm_ (a' := ?_) ?_ ?_
          rotate_left
          ·show Act.put _ (some 20) _ = _
           simp only [Act.put, List.setIfInBounds_toArray, List.set_cons_zero, List.set_cons_succ, i64_w, i32_w]
           rfl
          refine pS (i := 3) (N := some 21) #[true, true, true, true, false, false, false, false, false, false, false, false, false, false, false] HT_ ?_
          refine pS (i := 4) (N := some 22) #[true, true, true, true, true, false, false, false, false, false, false, false, false, false, false] HT_ ?_
          refine pS (i := 5) (N := some 23) #[true, true, true, true, true, true, false, false, false, false, false, false, false, false, false] HT_ ?_
          refine pS (i := 6) (N := some 24) #[true, true, true, true, true, true, true, false, false, false, false, false, false, false, false] HT_ ?_
          refine pS (i := 7) (N := some 25) #[true, true, true, true, true, true, true, true, false, false, false, false, false, false, false] HT_ ?_
          refine pS (i := 8) (N := some 26) #[true, true, true, true, true, true, true, true, true, false, false, false, false, false, false] HT_ ?_
          refine pS (i := 10) (N := some 28) #[true, true, true, true, true, true, true, true, true, false, true, false, false, false, false] HT_ ?_
          refine tS (i := 9) (N := some 27) #[true, true, true, true, true, true, true, true, true, true, true, false, false, false, false] HT_ HW_ hHeld ?_
          refine tS (i := 11) (N := some 29) #[true, true, true, true, true, true, true, true, true, true, true, true, false, false, false] HT_ HW_ hHeld ?_
          refine one_ (i := 12) (N := some 30) #[true, true, true, true, true, true, true, true, true, true, true, true, true, false, false] rfl rfl (qdA HT_.out (by kernel_rfl)) (by decide) (fun K hK => ?_)
          refine goes_ Tryz.func44 (by kernel_rfl) rfl #[.slice (some ad126) y129.length c1, .int .i64 ((qA l1 x13_1).f0), .int .i64 ((qA l1 x13_1).f1)] (by rfl) rfl rfl gA ?_
          with_reducible refine (qTA.calls k1 _ _ y129 ((qA l1 x13_1).f0) ((qA l1 x13_1).f1) t133 _ ?side1 ?side2 A13.out).mono ?_
          (case side1 => repeat (first | exact (Kd.qY HR132.out HB.out) | (with_reducible refine Kd.qS ?_ _) | (with_reducible refine Kd.qR ?_ _) | (with_reducible refine Kd.qe ?_)))
          (case side2 => exact HC132.out)
          rintro e w22 ⟨rfl, hb⟩
          refine ⟨_, rfl, ?_⟩
          replace BK124 := aM (bb BK124 hb)
          replace BK127 := aM (bb BK127 hb)
          replace HB := aM (qB bl hb); (try clear hb); (try clear hb2); (try clear hk); (try clear hi)
          refine hK.out _ _ ⟨bc BK124 0, bc BK124 1, bc BK124 2, bc BK127 0, bc BK127 1, bc BK127 2, bc BK127 3, bc BK127 4, bc BK127 5, bc BK127 6, bc BK127 7⟩ (fun hHeld => ?_)
          clear hK K
          refine norm_ (a' := ?_) ?_ ?_
          rotate_left
          ·show Act.put _ (some 30) _ = _
           simp only [Act.put, List.setIfInBounds_toArray, List.set_cons_zero, List.set_cons_succ, i64_w, i32_w]
           rfl
          refine pS (i := 13) (N := some 31) #[true, true, true, true, true, true, true, true, true, true, true, true, true, true, false] HT_ ?_
          refine pS (i := 14) (N := some 32) #[true, true, true, true, true, true, true, true, true, true, true, true, true, true, true] HT_ ?_
          refine done_ (qDB HT_.out (by kernel_rfl)) ?_
          try go_wp2
          go_ret
          exact ⟨sR, bl⟩
         ·rw [if_neg c14] at H
          have c14b0 := decide_eq_false c14
          clear c14
          have H' := aM H
          clear H
          have p126 : 0 ≤ (x13_1 : Int) := of_decide_eq_true am
          have q126 : x13_1 < (l1.length : Int) := of_decide_eq_true am
          obtain ⟨ad126, e126, hx126_0, hx126_1, hx126_2, hx126_3, hx126_4, hx126_5, hx126_6, hx126_7⟩ := qGB HR1.out x13_1 p126 q126
          cases e126
          replace hx126_0 := (HB.out.cell (World.block_lt_of_cell? w _ hx126_0)).trans hx126_0
          replace hx126_1 := (HB.out.cell (World.block_lt_of_cell? w _ hx126_1)).trans hx126_1
          replace hx126_2 := (HB.out.cell (World.block_lt_of_cell? w _ hx126_2)).trans hx126_2
          replace hx126_3 := (HB.out.cell (World.block_lt_of_cell? w _ hx126_3)).trans hx126_3
          replace hx126_4 := (HB.out.cell (World.block_lt_of_cell? w _ hx126_4)).trans hx126_4
          replace hx126_5 := (HB.out.cell (World.block_lt_of_cell? w _ hx126_5)).trans hx126_5
          replace hx126_6 := (HB.out.cell (World.block_lt_of_cell? w _ hx126_6)).trans hx126_6
          replace hx126_7 := (HB.out.cell (World.block_lt_of_cell? w _ hx126_7)).trans hx126_7
          replace p126 := eq_true p126
          replace q126 := eq_true q126
          try go_wp2_with (first | ((with_reducible refine qJ (N := 6) rfl ?_); refine qI ?hg (N := 6) ?hd (cs := #[.int .i64 0, .int .i64 0, .int .i64 0, .int .i64 0, .int .i64 0, .int .i64 0, .int .i64 0, .int .i64 0]) (t := 53) ?hr ?_; (case hd => rfl); (case hg => rfl); (case hr => exact gS); intro gb127 hg w23 hbox hb; have BK127 := aM (hbox); have GW127 := aM ((gg hg)); have GE127 := aM ((gg hg)); have NB124_127 := aM ((nl BK124 hg)); have NB127_124 := aM ((nr BK124 hg)); replace BK124 := aM (bb BK124 hb); replace HB := aM (qB bl hb); clear hb hbox hg; have hnb24 := NB127_124.out; have hnc24 := NB124_127.out; (refine cb8 BK127 ?_; intro _ _ _ _ _ _ _ _); (refine cz8 BK127 ?_; intro _ _ _ _ _ _ _ _)))
          have n0_ : Aside0 (((((((((w23.setCell ⟨gb127, 0, none⟩ (.int .i64 ((qA l1 x13_1).f0))).setCell ⟨gb127, 1, none⟩ (.int .i64 ((qA l1 x13_1).f1))).setCell ⟨gb127, 2, none⟩ (.int .i64 ((qA l1 x13_1).f2.f0))).setCell ⟨gb127, 3, none⟩ (.int .i64 ((qA l1 x13_1).f2.f1))).setCell ⟨gb127, 4, none⟩ (.int .i64 ((qA l1 x13_1).f2.f2))).setCell ⟨gb127, 5, none⟩ (.int .i64 ((qA l1 x13_1).f2.f3))).setCell ⟨gb127, 6, none⟩ (.int .i64 ((qA l1 x13_1).f2.f4))).setCell ⟨gb127, 7, none⟩ (.int .i64 ((qA l1 x13_1).f2.f5))).heap[gb124]? = some (.cells #[.int .i64 a0_0, .int .i64 a0_1, .slice A0_2 l0_2.length c0_2] 40 (0, 0))) := ⟨bF BK124 NB124_127⟩
          have n1_ : Aside0 (((((((((w23.setCell ⟨gb127, 0, none⟩ (.int .i64 ((qA l1 x13_1).f0))).setCell ⟨gb127, 1, none⟩ (.int .i64 ((qA l1 x13_1).f1))).setCell ⟨gb127, 2, none⟩ (.int .i64 ((qA l1 x13_1).f2.f0))).setCell ⟨gb127, 3, none⟩ (.int .i64 ((qA l1 x13_1).f2.f1))).setCell ⟨gb127, 4, none⟩ (.int .i64 ((qA l1 x13_1).f2.f2))).setCell ⟨gb127, 5, none⟩ (.int .i64 ((qA l1 x13_1).f2.f3))).setCell ⟨gb127, 6, none⟩ (.int .i64 ((qA l1 x13_1).f2.f4))).setCell ⟨gb127, 7, none⟩ (.int .i64 ((qA l1 x13_1).f2.f5))).heap[gb127]? = some (.cells #[.int .i64 ((qA l1 x13_1).f0), .int .i64 ((qA l1 x13_1).f1), .int .i64 ((qA l1 x13_1).f2.f0), .int .i64 ((qA l1 x13_1).f2.f1), .int .i64 ((qA l1 x13_1).f2.f2), .int .i64 ((qA l1 x13_1).f2.f3), .int .i64 ((qA l1 x13_1).f2.f4), .int .i64 ((qA l1 x13_1).f2.f5)] 53 (0, 0))) := ⟨by (with_reducible repeat (first | refine qH ?_ _ | refine qE ?_ | refine qG ?_ _)); exact bP8 BK127⟩
          have n2_ : Aside0 (Below w.heap.size w ((((((((w23.setCell ⟨gb127, 0, none⟩ (.int .i64 ((qA l1 x13_1).f0))).setCell ⟨gb127, 1, none⟩ (.int .i64 ((qA l1 x13_1).f1))).setCell ⟨gb127, 2, none⟩ (.int .i64 ((qA l1 x13_1).f2.f0))).setCell ⟨gb127, 3, none⟩ (.int .i64 ((qA l1 x13_1).f2.f1))).setCell ⟨gb127, 4, none⟩ (.int .i64 ((qA l1 x13_1).f2.f2))).setCell ⟨gb127, 5, none⟩ (.int .i64 ((qA l1 x13_1).f2.f3))).setCell ⟨gb127, 6, none⟩ (.int .i64 ((qA l1 x13_1).f2.f4))).setCell ⟨gb127, 7, none⟩ (.int .i64 ((qA l1 x13_1).f2.f5)))) := ⟨bl⟩
          (try clear BK124); (try clear BK127); (try clear HB)
          generalize ((((((((w23.setCell ⟨gb127, 0, none⟩ (.int .i64 ((qA l1 x13_1).f0))).setCell ⟨gb127, 1, none⟩ (.int .i64 ((qA l1 x13_1).f1))).setCell ⟨gb127, 2, none⟩ (.int .i64 ((qA l1 x13_1).f2.f0))).setCell ⟨gb127, 3, none⟩ (.int .i64 ((qA l1 x13_1).f2.f1))).setCell ⟨gb127, 4, none⟩ (.int .i64 ((qA l1 x13_1).f2.f2))).setCell ⟨gb127, 5, none⟩ (.int .i64 ((qA l1 x13_1).f2.f3))).setCell ⟨gb127, 6, none⟩ (.int .i64 ((qA l1 x13_1).f2.f4))).setCell ⟨gb127, 7, none⟩ (.int .i64 ((qA l1 x13_1).f2.f5))) = w26 at n0_ n1_ n2_ ⊢
          have BK124 := n0_
          have BK127 := n1_
          have HB := n2_
          clear n0_ n1_ n2_
          replace BK124 := aM (qE BK124.out)
          replace BK127 := aM (qE BK127.out)
          replace HB := aM (qx HB.out)
          refine qOB (n := 15) (S := fun w' => w'.cell? ⟨gb124, 0, none⟩ = some (.int .i64 a0_0) ∧ w'.cell? ⟨gb124, 1, none⟩ = some (.int .i64 a0_1) ∧ w'.cell? ⟨gb124, 2, none⟩ = some (.slice A0_2 l0_2.length c0_2) ∧ w'.cell? ⟨gb127, 0, none⟩ = some (.int .i64 ((qA l1 x13_1).f0)) ∧ w'.cell? ⟨gb127, 1, none⟩ = some (.int .i64 ((qA l1 x13_1).f1)) ∧ w'.cell? ⟨gb127, 2, none⟩ = some (.int .i64 ((qA l1 x13_1).f2.f0)) ∧ w'.cell? ⟨gb127, 3, none⟩ = some (.int .i64 ((qA l1 x13_1).f2.f1)) ∧ w'.cell? ⟨gb127, 4, none⟩ = some (.int .i64 ((qA l1 x13_1).f2.f2)) ∧ w'.cell? ⟨gb127, 5, none⟩ = some (.int .i64 ((qA l1 x13_1).f2.f3)) ∧ w'.cell? ⟨gb127, 6, none⟩ = some (.int .i64 ((qA l1 x13_1).f2.f4)) ∧ w'.cell? ⟨gb127, 7, none⟩ = some (.int .i64 ((qA l1 x13_1).f2.f5))) (ds := []) #[false, false, false, false, false, false, false, false, false, false, false, false, false, false, false] (by kernel_rfl) rfl rfl ⟨bc BK124 0, bc BK124 1, bc BK124 2, bc BK127 0, bc BK127 1, bc BK127 2, bc BK127 3, bc BK127 4, bc BK127 5, bc BK127 6, bc BK127 7⟩ (fun hHeld => ?_); refine qSA qo.tab6 qo.bits6 (fun HT_ HW_ => ?_)
          generalize w26.drew = w27 at BK124 BK127 HB hHeld ⊢
          refine tS (i := 0) (N := some 18) #[true, false, false, false, false, false, false, false, false, false, false, false, false, false, false] HT_ HW_ hHeld ?_
          refine tS (i := 1) (N := some 19) #[true, true, false, false, false, false, false, false, false, false, false, false, false, false, false] HT_ HW_ hHeld ?_
          refine one_ (i := 2) (N := some 20) #[true, true, true, false, false, false, false, false, false, false, false, false, false, false, false] rfl rfl (qdA HT_.out (by kernel_rfl)) (by decide) (fun K hK => ?_)
          refine goes_ Tryz.func43 (by kernel_rfl) rfl #[.agg #[.int .i64 a0_0, .int .i64 a0_1, .slice A0_2 l0_2.length c0_2], .agg #[.int .i64 ((qA l1 x13_1).f0), .int .i64 ((qA l1 x13_1).f1), .int .i64 ((qA l1 x13_1).f2.f0), .int .i64 ((qA l1 x13_1).f2.f1), .int .i64 ((qA l1 x13_1).f2.f2), .int .i64 ((qA l1 x13_1).f2.f3), .int .i64 ((qA l1 x13_1).f2.f4), .int .i64 ((qA l1 x13_1).f2.f5)]] (by rfl) rfl rfl gA ?_
          with_reducible refine (qPB.calls k1 a0_0 a0_1 _ _ l0_2 ((qA l1 x13_1).f0) ((qA l1 x13_1).f1) ((qA l1 x13_1).f2.f0) ((qA l1 x13_1).f2.f1) ((qA l1 x13_1).f2.f2) ((qA l1 x13_1).f2.f3) ((qA l1 x13_1).f2.f4) ((qA l1 x13_1).f2.f5) true _ ?side1 ?side2 A9.out).mono ?_
          (case side1 => repeat (first | exact (Kd.qY HR0_2.out HB.out) | (with_reducible refine Kd.qS ?_ _) | (with_reducible refine Kd.qR ?_ _) | (with_reducible refine Kd.qe ?_)))
          (case side2 => exact HC0_2.out)
          rintro e w28 ⟨rfl, hb⟩
          refine ⟨_, rfl, ?_⟩
          replace BK124 := aM (bb BK124 hb)
          replace BK127 := aM (bb BK127 hb)
          replace HB := aM (qB bl hb); (try clear hb); (try clear hb2); (try clear hk); (try clear hi)
          have q29 : (x13_1 : Int) ≤ ((l1.length : Int) : Int) := of_decide_eq_true am
          obtain ⟨i029, hi029, _, hsz29, _⟩ := info_parts info53
          have hroom29 : l1.length ≤ c1 := HC1.out
          have hC29 : Kd.C k53 _ (some ad126) l1.length l1 := HR1.out
          have hcut29 := qtD (P := Tryz.prog) 26 53 .i64 Tryz.underlying26 hi029 (some ad126) l1.length c1 x13_1 (of_decide_eq_true am) q29 hroom29
          have hr29 := Kd.qdC (m := (x13_1 : Int).toNat) hC29 (by omega)
          have hy29 : y129.length = (x13_1 : Int).toNat := (by rw [Ny129.out, List.length_take]; omega)
          rw [← Ny129.out] at hr29
          rw [← hy29] at hcut29
          have HR132 := aM hr29
          have HC132 := aM (show y129.length ≤ c1 from by omega)
          clear hr29 hC29 hroom29 hi029 hsz29
          have KY29 := aM hy29
          clear hy29
          replace q29 := eq_true q29
          refine hK.out _ _ ⟨bc BK124 0, bc BK124 1, bc BK124 2, bc BK127 0, bc BK127 1, bc BK127 2, bc BK127 3, bc BK127 4, bc BK127 5, bc BK127 6, bc BK127 7⟩ (fun hHeld => ?_)
          clear hK K
          refine norm_ (a' := ?_) ?_ ?_
          rotate_left
          ·show Act.put _ (some 20) _ = _
           simp only [Act.put, List.setIfInBounds_toArray, List.set_cons_zero, List.set_cons_succ, i64_w, i32_w]
           rfl
          refine pS (i := 3) (N := some 21) #[true, true, true, true, false, false, false, false, false, false, false, false, false, false, false] HT_ ?_
          refine pS (i := 4) (N := some 22) #[true, true, true, true, true, false, false, false, false, false, false, false, false, false, false] HT_ ?_
          refine pS (i := 5) (N := some 23) #[true, true, true, true, true, true, false, false, false, false, false, false, false, false, false] HT_ ?_
          refine pS (i := 6) (N := some 24) #[true, true, true, true, true, true, true, false, false, false, false, false, false, false, false] HT_ ?_
          refine pS (i := 7) (N := some 25) #[true, true, true, true, true, true, true, true, false, false, false, false, false, false, false] HT_ ?_
          refine pS (i := 8) (N := some 26) #[true, true, true, true, true, true, true, true, true, false, false, false, false, false, false] HT_ ?_
          refine pS (i := 10) (N := some 28) #[true, true, true, true, true, true, true, true, true, false, true, false, false, false, false] HT_ ?_
          refine tS (i := 9) (N := some 27) #[true, true, true, true, true, true, true, true, true, true, true, false, false, false, false] HT_ HW_ hHeld ?_
          refine tS (i := 11) (N := some 29) #[true, true, true, true, true, true, true, true, true, true, true, true, false, false, false] HT_ HW_ hHeld ?_
          refine one_ (i := 12) (N := some 30) #[true, true, true, true, true, true, true, true, true, true, true, true, true, false, false] rfl rfl (qdA HT_.out (by kernel_rfl)) (by decide) (fun K hK => ?_)
          refine goes_ Tryz.func44 (by kernel_rfl) rfl #[.slice (some ad126) y129.length c1, .int .i64 ((qA l1 x13_1).f0), .int .i64 ((qA l1 x13_1).f1)] (by rfl) rfl rfl gA ?_
          with_reducible refine (qTA.calls k1 _ _ y129 ((qA l1 x13_1).f0) ((qA l1 x13_1).f1) t133 _ ?side1 ?side2 A13.out).mono ?_
          (case side1 => repeat (first | exact (Kd.qY HR132.out HB.out) | (with_reducible refine Kd.qS ?_ _) | (with_reducible refine Kd.qR ?_ _) | (with_reducible refine Kd.qe ?_)))
          (case side2 => exact HC132.out)
          rintro e w30 ⟨rfl, hb⟩
          refine ⟨_, rfl, ?_⟩
          replace BK124 := aM (bb BK124 hb)
          replace BK127 := aM (bb BK127 hb)
          replace HB := aM (qB bl hb); (try clear hb); (try clear hb2); (try clear hk); (try clear hi)
          refine hK.out _ _ ⟨bc BK124 0, bc BK124 1, bc BK124 2, bc BK127 0, bc BK127 1, bc BK127 2, bc BK127 3, bc BK127 4, bc BK127 5, bc BK127 6, bc BK127 7⟩ (fun hHeld => ?_)
          clear hK K
          refine norm_ (a' := ?_) ?_ ?_
          rotate_left
          ·show Act.put _ (some 30) _ = _
           simp only [Act.put, List.setIfInBounds_toArray, List.set_cons_zero, List.set_cons_succ, i64_w, i32_w]
           rfl
          refine pS (i := 13) (N := some 31) #[true, true, true, true, true, true, true, true, true, true, true, true, true, true, false] HT_ ?_
          refine pS (i := 14) (N := some 32) #[true, true, true, true, true, true, true, true, true, true, true, true, true, true, true] HT_ ?_
          refine done_ (qDB HT_.out (by kernel_rfl)) ?_
          try go_wp2
          go_roundg k1
          case measure => have := HK1.out; omega
          case rel => exact ⟨(wrap64 (x13_1 + 1)), sD, H', ⟨by have := HK1.out; omega⟩, ⟨rB BK124⟩, ⟨bl⟩⟩
        ·rw [if_neg c12] at H
         exact absurd H (by simp)
       ·replace c10 := Bool.eq_false_iff.mpr c10
        subst c10
        replace H := iF H
        obtain rfl := Option.some.inj H
        have p126 : 0 ≤ (x13_1 : Int) := of_decide_eq_true am
        have q126 : x13_1 < (l1.length : Int) := of_decide_eq_true am
        obtain ⟨ad126, e126, hx126_0, hx126_1, hx126_2, hx126_3, hx126_4, hx126_5, hx126_6, hx126_7⟩ := qGB HR1.out x13_1 p126 q126
        cases e126
        replace hx126_0 := (HB.out.cell (World.block_lt_of_cell? w _ hx126_0)).trans hx126_0
        replace hx126_1 := (HB.out.cell (World.block_lt_of_cell? w _ hx126_1)).trans hx126_1
        replace hx126_2 := (HB.out.cell (World.block_lt_of_cell? w _ hx126_2)).trans hx126_2
        replace hx126_3 := (HB.out.cell (World.block_lt_of_cell? w _ hx126_3)).trans hx126_3
        replace hx126_4 := (HB.out.cell (World.block_lt_of_cell? w _ hx126_4)).trans hx126_4
        replace hx126_5 := (HB.out.cell (World.block_lt_of_cell? w _ hx126_5)).trans hx126_5
        replace hx126_6 := (HB.out.cell (World.block_lt_of_cell? w _ hx126_6)).trans hx126_6
        replace hx126_7 := (HB.out.cell (World.block_lt_of_cell? w _ hx126_7)).trans hx126_7
        replace p126 := eq_true p126
        replace q126 := eq_true q126
        try go_wp2_with (first | ((with_reducible refine qJ (N := 6) rfl ?_); refine qI ?hg (N := 6) ?hd (cs := #[.int .i64 0, .int .i64 0, .int .i64 0, .int .i64 0, .int .i64 0, .int .i64 0, .int .i64 0, .int .i64 0]) (t := 53) ?hr ?_; (case hd => rfl); (case hg => rfl); (case hr => exact gS); intro gb127 hg w31 hbox hb; have BK127 := aM (hbox); have GW127 := aM ((gg hg)); have GE127 := aM ((gg hg)); have NB124_127 := aM ((nl BK124 hg)); have NB127_124 := aM ((nr BK124 hg)); replace BK124 := aM (bb BK124 hb); replace HB := aM (qB bl hb); clear hb hbox hg; have hnb32 := NB127_124.out; have hnc32 := NB124_127.out; (refine cb8 BK127 ?_; intro _ _ _ _ _ _ _ _); (refine cz8 BK127 ?_; intro _ _ _ _ _ _ _ _)))
        have n0_ : Aside0 (((((((((w31.setCell ⟨gb127, 0, none⟩ (.int .i64 ((qA l1 x13_1).f0))).setCell ⟨gb127, 1, none⟩ (.int .i64 ((qA l1 x13_1).f1))).setCell ⟨gb127, 2, none⟩ (.int .i64 ((qA l1 x13_1).f2.f0))).setCell ⟨gb127, 3, none⟩ (.int .i64 ((qA l1 x13_1).f2.f1))).setCell ⟨gb127, 4, none⟩ (.int .i64 ((qA l1 x13_1).f2.f2))).setCell ⟨gb127, 5, none⟩ (.int .i64 ((qA l1 x13_1).f2.f3))).setCell ⟨gb127, 6, none⟩ (.int .i64 ((qA l1 x13_1).f2.f4))).setCell ⟨gb127, 7, none⟩ (.int .i64 ((qA l1 x13_1).f2.f5))).heap[gb124]? = some (.cells #[.int .i64 a0_0, .int .i64 a0_1, .slice A0_2 l0_2.length c0_2] 40 (0, 0))) := ⟨bF BK124 NB124_127⟩
        have n1_ : Aside0 (((((((((w31.setCell ⟨gb127, 0, none⟩ (.int .i64 ((qA l1 x13_1).f0))).setCell ⟨gb127, 1, none⟩ (.int .i64 ((qA l1 x13_1).f1))).setCell ⟨gb127, 2, none⟩ (.int .i64 ((qA l1 x13_1).f2.f0))).setCell ⟨gb127, 3, none⟩ (.int .i64 ((qA l1 x13_1).f2.f1))).setCell ⟨gb127, 4, none⟩ (.int .i64 ((qA l1 x13_1).f2.f2))).setCell ⟨gb127, 5, none⟩ (.int .i64 ((qA l1 x13_1).f2.f3))).setCell ⟨gb127, 6, none⟩ (.int .i64 ((qA l1 x13_1).f2.f4))).setCell ⟨gb127, 7, none⟩ (.int .i64 ((qA l1 x13_1).f2.f5))).heap[gb127]? = some (.cells #[.int .i64 ((qA l1 x13_1).f0), .int .i64 ((qA l1 x13_1).f1), .int .i64 ((qA l1 x13_1).f2.f0), .int .i64 ((qA l1 x13_1).f2.f1), .int .i64 ((qA l1 x13_1).f2.f2), .int .i64 ((qA l1 x13_1).f2.f3), .int .i64 ((qA l1 x13_1).f2.f4), .int .i64 ((qA l1 x13_1).f2.f5)] 53 (0, 0))) := ⟨by (with_reducible repeat (first | refine qH ?_ _ | refine qE ?_ | refine qG ?_ _)); exact bP8 BK127⟩
        have n2_ : Aside0 (Below w.heap.size w ((((((((w31.setCell ⟨gb127, 0, none⟩ (.int .i64 ((qA l1 x13_1).f0))).setCell ⟨gb127, 1, none⟩ (.int .i64 ((qA l1 x13_1).f1))).setCell ⟨gb127, 2, none⟩ (.int .i64 ((qA l1 x13_1).f2.f0))).setCell ⟨gb127, 3, none⟩ (.int .i64 ((qA l1 x13_1).f2.f1))).setCell ⟨gb127, 4, none⟩ (.int .i64 ((qA l1 x13_1).f2.f2))).setCell ⟨gb127, 5, none⟩ (.int .i64 ((qA l1 x13_1).f2.f3))).setCell ⟨gb127, 6, none⟩ (.int .i64 ((qA l1 x13_1).f2.f4))).setCell ⟨gb127, 7, none⟩ (.int .i64 ((qA l1 x13_1).f2.f5)))) := ⟨bl⟩
        (try clear BK124); (try clear BK127); (try clear HB)
        generalize ((((((((w31.setCell ⟨gb127, 0, none⟩ (.int .i64 ((qA l1 x13_1).f0))).setCell ⟨gb127, 1, none⟩ (.int .i64 ((qA l1 x13_1).f1))).setCell ⟨gb127, 2, none⟩ (.int .i64 ((qA l1 x13_1).f2.f0))).setCell ⟨gb127, 3, none⟩ (.int .i64 ((qA l1 x13_1).f2.f1))).setCell ⟨gb127, 4, none⟩ (.int .i64 ((qA l1 x13_1).f2.f2))).setCell ⟨gb127, 5, none⟩ (.int .i64 ((qA l1 x13_1).f2.f3))).setCell ⟨gb127, 6, none⟩ (.int .i64 ((qA l1 x13_1).f2.f4))).setCell ⟨gb127, 7, none⟩ (.int .i64 ((qA l1 x13_1).f2.f5))) = w34 at n0_ n1_ n2_ ⊢
        have BK124 := n0_
        have BK127 := n1_
        have HB := n2_
        clear n0_ n1_ n2_
        replace BK124 := aM (qE BK124.out)
        replace BK127 := aM (qE BK127.out)
        replace HB := aM (qx HB.out)
        refine qOB (n := 15) (S := fun w' => w'.cell? ⟨gb124, 0, none⟩ = some (.int .i64 a0_0) ∧ w'.cell? ⟨gb124, 1, none⟩ = some (.int .i64 a0_1) ∧ w'.cell? ⟨gb124, 2, none⟩ = some (.slice A0_2 l0_2.length c0_2) ∧ w'.cell? ⟨gb127, 0, none⟩ = some (.int .i64 ((qA l1 x13_1).f0)) ∧ w'.cell? ⟨gb127, 1, none⟩ = some (.int .i64 ((qA l1 x13_1).f1)) ∧ w'.cell? ⟨gb127, 2, none⟩ = some (.int .i64 ((qA l1 x13_1).f2.f0)) ∧ w'.cell? ⟨gb127, 3, none⟩ = some (.int .i64 ((qA l1 x13_1).f2.f1)) ∧ w'.cell? ⟨gb127, 4, none⟩ = some (.int .i64 ((qA l1 x13_1).f2.f2)) ∧ w'.cell? ⟨gb127, 5, none⟩ = some (.int .i64 ((qA l1 x13_1).f2.f3)) ∧ w'.cell? ⟨gb127, 6, none⟩ = some (.int .i64 ((qA l1 x13_1).f2.f4)) ∧ w'.cell? ⟨gb127, 7, none⟩ = some (.int .i64 ((qA l1 x13_1).f2.f5))) (ds := []) #[false, false, false, false, false, false, false, false, false, false, false, false, false, false, false] (by kernel_rfl) rfl rfl ⟨bc BK124 0, bc BK124 1, bc BK124 2, bc BK127 0, bc BK127 1, bc BK127 2, bc BK127 3, bc BK127 4, bc BK127 5, bc BK127 6, bc BK127 7⟩ (fun hHeld => ?_); refine qSA qo.tab6 qo.bits6 (fun HT_ HW_ => ?_)
        generalize w34.drew = w35 at BK124 BK127 HB hHeld ⊢
        refine tS (i := 0) (N := some 18) #[true, false, false, false, false, false, false, false, false, false, false, false, false, false, false] HT_ HW_ hHeld ?_
        refine tS (i := 1) (N := some 19) #[true, true, false, false, false, false, false, false, false, false, false, false, false, false, false] HT_ HW_ hHeld ?_
        refine one_ (i := 2) (N := some 20) #[true, true, true, false, false, false, false, false, false, false, false, false, false, false, false] rfl rfl (qdA HT_.out (by kernel_rfl)) (by decide) (fun K hK => ?_)
        refine goes_ Tryz.func43 (by kernel_rfl) rfl #[.agg #[.int .i64 a0_0, .int .i64 a0_1, .slice A0_2 l0_2.length c0_2], .agg #[.int .i64 ((qA l1 x13_1).f0), .int .i64 ((qA l1 x13_1).f1), .int .i64 ((qA l1 x13_1).f2.f0), .int .i64 ((qA l1 x13_1).f2.f1), .int .i64 ((qA l1 x13_1).f2.f2), .int .i64 ((qA l1 x13_1).f2.f3), .int .i64 ((qA l1 x13_1).f2.f4), .int .i64 ((qA l1 x13_1).f2.f5)]] (by rfl) rfl rfl gA ?_
        with_reducible refine (qPB.calls k1 a0_0 a0_1 _ _ l0_2 ((qA l1 x13_1).f0) ((qA l1 x13_1).f1) ((qA l1 x13_1).f2.f0) ((qA l1 x13_1).f2.f1) ((qA l1 x13_1).f2.f2) ((qA l1 x13_1).f2.f3) ((qA l1 x13_1).f2.f4) ((qA l1 x13_1).f2.f5) false _ ?side1 ?side2 A9.out).mono ?_
        (case side1 => repeat (first | exact (Kd.qY HR0_2.out HB.out) | (with_reducible refine Kd.qS ?_ _) | (with_reducible refine Kd.qR ?_ _) | (with_reducible refine Kd.qe ?_)))
        (case side2 => exact HC0_2.out)
        rintro e w36 ⟨rfl, hb⟩
        refine ⟨_, rfl, ?_⟩
        replace BK124 := aM (bb BK124 hb)
        replace BK127 := aM (bb BK127 hb)
        replace HB := aM (qB bl hb); (try clear hb); (try clear hb2); (try clear hk); (try clear hi)
        refine hK.out _ _ ⟨bc BK124 0, bc BK124 1, bc BK124 2, bc BK127 0, bc BK127 1, bc BK127 2, bc BK127 3, bc BK127 4, bc BK127 5, bc BK127 6, bc BK127 7⟩ (fun hHeld => ?_)
        clear hK K
        refine norm_ (a' := ?_) ?_ ?_
        rotate_left
        ·show Act.put _ (some 20) _ = _
         simp only [Act.put, List.setIfInBounds_toArray, List.set_cons_zero, List.set_cons_succ, i64_w, i32_w]
         rfl
        refine pS (i := 3) (N := some 21) #[true, true, true, true, false, false, false, false, false, false, false, false, false, false, false] HT_ ?_
        refine pS (i := 4) (N := some 22) #[true, true, true, true, true, false, false, false, false, false, false, false, false, false, false] HT_ ?_
        refine pure_ (i := 5) (N := some 23) (v := undef) (a' := ?_) #[true, true, true, true, true, true, false, false, false, false, false, false, false, false, false] rfl rfl (qsB HT_.out (by kernel_rfl)) (fun _ _ _ h => h) (Or.inr ⟨by rfl, rfl⟩) ?_ ?_
        rotate_left
        ·simp only [Act.put, List.setIfInBounds_toArray, List.set_cons_zero, List.set_cons_succ, i64_w, i32_w]
         rfl
        refine pure_ (i := 6) (N := some 24) (v := undef) (a' := ?_) #[true, true, true, true, true, true, true, false, false, false, false, false, false, false, false] rfl rfl (qsB HT_.out (by kernel_rfl)) (fun _ _ _ h => h) (Or.inr ⟨by rfl, rfl⟩) ?_ ?_
        rotate_left
        ·simp only [Act.put, List.setIfInBounds_toArray, List.set_cons_zero, List.set_cons_succ, i64_w, i32_w]
         rfl
        refine pure_ (i := 7) (N := some 25) (v := undef) (a' := ?_) #[true, true, true, true, true, true, true, true, false, false, false, false, false, false, false] rfl rfl (qsB HT_.out (by kernel_rfl)) (fun _ _ _ h => h) (Or.inr ⟨by rfl, rfl⟩) ?_ ?_
        rotate_left
        ·simp only [Act.put, List.setIfInBounds_toArray, List.set_cons_zero, List.set_cons_succ, i64_w, i32_w]
         rfl
        refine pure_ (i := 8) (N := some 26) (v := undef) (a' := ?_) #[true, true, true, true, true, true, true, true, true, false, false, false, false, false, false] rfl rfl (qsB HT_.out (by kernel_rfl)) (fun _ _ _ h => h) (Or.inr ⟨by rfl, rfl⟩) ?_ ?_
        rotate_left
        ·simp only [Act.put, List.setIfInBounds_toArray, List.set_cons_zero, List.set_cons_succ, i64_w, i32_w]
         rfl
        refine pure_ (i := 9) (N := some 27) (v := undef) (a' := ?_) #[true, true, true, true, true, true, true, true, true, true, false, false, false, false, false] rfl rfl (qsB HT_.out (by kernel_rfl)) (fun _ _ _ h => h) (Or.inr ⟨by rfl, rfl⟩) ?_ ?_
        rotate_left
        ·simp only [Act.put, List.setIfInBounds_toArray, List.set_cons_zero, List.set_cons_succ, i64_w, i32_w]
         rfl
        refine pure_ (i := 10) (N := some 28) (v := undef) (a' := ?_) #[true, true, true, true, true, true, true, true, true, true, true, false, false, false, false] rfl rfl (qsB HT_.out (by kernel_rfl)) (fun _ _ _ h => h) (Or.inr ⟨by rfl, rfl⟩) ?_ ?_
        rotate_left
        ·simp only [Act.put, List.setIfInBounds_toArray, List.set_cons_zero, List.set_cons_succ, i64_w, i32_w]
         rfl
        refine pure_ (i := 11) (N := some 29) (v := undef) (a' := ?_) #[true, true, true, true, true, true, true, true, true, true, true, true, false, false, false] rfl rfl (qsB HT_.out (by kernel_rfl)) (fun _ _ _ h => h) (Or.inr ⟨by rfl, rfl⟩) ?_ ?_
        rotate_left
        ·simp only [Act.put, List.setIfInBounds_toArray, List.set_cons_zero, List.set_cons_succ, i64_w, i32_w]
         rfl
        refine pure_ (i := 12) (N := some 30) (v := undef) (a' := ?_) #[true, true, true, true, true, true, true, true, true, true, true, true, true, false, false] rfl rfl (qsB HT_.out (by kernel_rfl)) (fun _ _ _ h => h) (Or.inr ⟨by rfl, rfl⟩) ?_ ?_
        rotate_left
        ·simp only [Act.put, List.setIfInBounds_toArray, List.set_cons_zero, List.set_cons_succ, i64_w, i32_w]
         rfl
        refine pure_ (i := 13) (N := some 31) (v := undef) (a' := ?_) #[true, true, true, true, true, true, true, true, true, true, true, true, true, true, false] rfl rfl (qsB HT_.out (by kernel_rfl)) (fun _ _ _ h => h) (Or.inr ⟨by rfl, rfl⟩) ?_ ?_
        rotate_left
        ·simp only [Act.put, List.setIfInBounds_toArray, List.set_cons_zero, List.set_cons_succ, i64_w, i32_w]
         rfl
        refine pS (i := 14) (N := some 32) #[true, true, true, true, true, true, true, true, true, true, true, true, true, true, true] HT_ ?_
        refine done_ (qDB HT_.out (by kernel_rfl)) ?_
        try go_wp2
        go_ret
        exact ⟨sR, bl⟩
      ·rw [if_neg c8] at H
       exact absurd H (by simp)
     ·rw [if_neg c7] at H
      exact absurd H (by simp)
    ·rw [if_neg c6] at H
     have c6b0 := decide_eq_false c6
     clear c6
     obtain rfl := Option.some.inj H
     go_wp2
     go_ret
     exact ⟨sR, bl⟩
 ·replace c4 := Bool.eq_false_iff.mpr c4
  subst c4
  replace H := iF H
  obtain rfl := Option.some.inj H
  go_enter Tryz.func19, Tryz.ntmps19
  go_wp2_with (first | ((with_reducible refine qJ (N := 2) rfl ?_); refine qI ?hg (N := 2) ?hd (cs := #[.int .i64 a0_0, .int .i64 a0_1, .slice A0_2 l0_2.length c0_2]) (t := 40) ?hr ?_; (case hd => rfl); (case hg => rfl); (case hr => exact gS); intro gb124 hg w37 hbox hb; have BK124 := aM (hbox); have GW124 := aM ((gg hg)); have GE124 := aM ((gg hg)); replace HB := aM (qB bl hb); clear hb hbox hg) | ((with_reducible refine qF (f := 42) rfl ?_); refine qn (some 9) rfl rfl Tryz.func42 (by kernel_rfl) rfl #[.int .i64 (l1.length : Int), .int .i64 1, .int .i64 3] rfl gA ?_; (with_reducible refine (qiA.calls (l1.length : Int) 1 3 false _ A3.out).mono ?_); rintro e w' ⟨rfl, ⟨nd, rfl⟩⟩; refine ⟨_, rfl, ?_⟩))
  go_ret
  exact ⟨sR, bl⟩
mutual
def qX.l0 : Nat → ByteArray → Int → Int → Int → Int → List Int → Option (Int × Int × List Int × Bool)
 | 0, _, _, _, _, _, _ => none
 | k + 1, x0, x5, x6, x136000, x136001, x136002 => if x6 ≤ (x0.size : Int) then (if x6 < (x0.size : Int) then (if 0 ≤ x6 then (qX.j1 k x0 x5 x6 ((bt x0 x6) != 47) x136000 x136001 x136002) else (none)) else (qX.j1 k x0 x5 x6 false x136000 x136001 x136002)) else (if x136000 > 7 then (some (0, 0, ([] : List Int), false)) else (if x136001 > 7 then (some (0, 0, ([] : List Int), false)) else (if (x136002.length : Int) > 36 then (some (0, 0, ([] : List Int), false)) else (some (x136000, x136001, x136002, true)))))
def qX.j1 : Nat → ByteArray → Int → Int → Bool → Int → Int → List Int → Option (Int × Int × List Int × Bool)
 | 0, _, _, _, _, _, _, _ => none
 | k + 1, x0, x5, x6, x27, x136000, x136001, x136002 => if x27 = true then (if 0 ≤ x6 then (if x6 < (x0.size : Int) then (if (bt x0 x6) = 46 then (qX.j2 k x0 x5 x6 false x136000 x136001 x136002) else (qX.j2 k x0 x5 x6 ((bt x0 x6) != 35) x136000 x136001 x136002)) else (none)) else (none)) else (if x136001 > 0 then (if x5 = x136000 then (if x5 = 0 then (some (0, 0, ([] : List Int), false)) else (qX.l0 k x0 0 (wrap64 (x6 + 1)) x5 (wrap64 (x136001 + 1)) x136002)) else (some (0, 0, ([] : List Int), false))) else (if x5 = 0 then (some (0, 0, ([] : List Int), false)) else (qX.l0 k x0 0 (wrap64 (x6 + 1)) x5 (wrap64 (x136001 + 1)) x136002)))
def qX.j2 : Nat → ByteArray → Int → Int → Bool → Int → Int → List Int → Option (Int × Int × List Int × Bool)
 | 0, _, _, _, _, _, _, _ => none
 | k + 1, x0, x5, x6, x37, x136000, x136001, x136002 => if x37 = true then (some (0, 0, ([] : List Int), false)) else (if 0 ≤ x6 then (if x6 < (x0.size : Int) then (if x136002.length < 140737488355328 then (qX.l0 k x0 (wrap64 (x5 + 1)) (wrap64 (x6 + 1)) x136000 x136001 (x136002 ++ [bt x0 x6])) else (none)) else (none)) else (none))
end
def qX.f (k : Nat) (a0 : ByteArray) : Option (Int × Int × List Int × Bool) := if (a0.size : Int) > 42 then (some (0, 0, ([] : List Int), false)) else (qX.l0 k a0 0 0 0 0 ([] : List Int))
def qX.T11 : Bool × List (List Nat × List Nat) := (true, [([], []), ([0], [0]), ([], []), ([], []), ([2, 3], [2, 3]), ([4], [4]), ([1, 5], [1, 5]), ([0, 1, 2, 3, 4, 5, 6], []), ([7, 6, 6, 0, 1, 2, 3, 4, 5, 6], [6, 7])])
def qX.B11 : List Nat := [0, 1, 0, 0, 12, 28, 63, 127, 255]
theorem qX.tab11 : rtab .any (opsOf Tryz.f41 11) = qX.T11 := by kernel_rfl
theorem qX.bits11 : waitsOk qX.T11.2 qX.B11 = true := by kernel_rfl
set_option maxHeartbeats 8000000 in
set_option maxRecDepth 100000 in
theorem qX.calls (k : Nat) (a0 : ByteArray) (r1 : Int) (r2 : Int) (r3 : List Int) (r4 : Bool) (w : World) (h : qX.f k a0 = some (r1, r2, r3, r4)) :
  Calls Tryz.prog 41 #[.string a0] w fun e w' => ∃ v2_ : Value, e = .returned (.tuple #[.agg #[.int .i64 r1, .int .i64 r2, v2_], .bool r4]) ∧ Kd.R (Kd.int .u8) 5 w' w.heap.size (fun _ => True) v2_ r3 ∧ Below w.heap.size w w' := by
 have hu40 := Tryz.underlying40
 have HB := aM (Below.refl w.heap.size w)
 have H : (if (a0.size : Int) > 42 then (some (0, 0, ([] : List Int), false)) else (qX.l0 k a0 0 0 0 0 ([] : List Int))) = some (r1, r2, r3, r4) := h
 clear h
 by_cases c2 : (a0.size : Int) > 42
 ·rw [if_pos c2] at H
  have c2b0 := decide_eq_true c2
  have c2b1 : decide (42 < a0.size) = true := decide_eq_true (by omega)
  clear c2
  simp only [Option.some.injEq, Prod.mk.injEq] at H
  obtain ⟨rfl, rfl, rfl, rfl⟩ := H
  go_enter Tryz.func41, Tryz.ntmps41
  go_wp2_with (first | ((with_reducible refine qJ (N := 2) rfl ?_); (try (refine qpB (by rfl) ?_; dsimp only)); refine qI ?hg (N := 2) ?hd (cs := #[.int .i64 0, .int .i64 0, .slice none 0 0]) (t := 40) ?hr ?_; (case hd => rfl); (case hg => rfl); (case hr => exact gS); intro gb134 hg w3 hbox hb; have BK134 := aM (hbox); have GW134 := aM ((gg hg)); have GE134 := aM ((gg hg)); replace HB := aM (qB bl hb); clear hb hbox hg) | ((with_reducible refine qJ (N := 4) rfl ?_); (try (refine qpB (by rfl) ?_; dsimp only)); refine qI ?hg (N := 4) ?hd (cs := #[.int .i64 0, .int .i64 0, .slice none 0 0]) (t := 40) ?hr ?_; (case hd => rfl); (case hg => rfl); (case hr => exact gS); intro gb135 hg w4 hbox hb; have BK135 := aM (hbox); have GW135 := aM ((gg hg)); have GE135 := aM ((gg hg)); have NB134_135 := aM ((nl BK134 hg)); have NB135_134 := aM ((nr BK134 hg)); replace BK134 := aM (bb BK134 hb); replace HB := aM (qB bl hb); clear hb hbox hg; have hnb5 := NB135_134.out; have hnc5 := NB134_135.out; (refine cb3 BK135 ?_; intro hcz6_0 hcz6_1 hcz6_2); (refine cz3 BK135 ?_; intro hfz6_0 hfz6_1 hfz6_2); (refine cb3 BK134 ?_; intro hcz7_0 hcz7_1 hcz7_2); (refine cz3 BK134 ?_; intro hfz7_0 hfz7_1 hfz7_2)))
  refine bodyPost_ret (qxA rfl _ _ gb134 40 #[.int .i64 0, .int .i64 0, .slice none 0 0] (0, 0) _ rfl (by (with_reducible repeat (first | refine qH ?_ _ | refine qE ?_ | refine qG ?_ _)); refine qHA (cs := #[.int .i64 0, .int .i64 0, .slice none 0 0]) ?_ 2 _ rfl; (with_reducible repeat (first | refine qH ?_ _ | refine qE ?_ | refine qG ?_ _)); refine qHA (cs := #[.int .i64 0, .int .i64 0, .slice none 0 0]) ?_ 1 _ rfl; (with_reducible repeat (first | refine qH ?_ _ | refine qE ?_ | refine qG ?_ _)); refine qHA (cs := #[.int .i64 0, .int .i64 0, .slice none 0 0]) ?_ 0 _ rfl; (with_reducible repeat (first | refine qH ?_ _ | refine qE ?_ | refine qG ?_ _)); refine qSB ?_ NB134_135.out _; (with_reducible repeat (first | refine qH ?_ _ | refine qE ?_ | refine qG ?_ _)); refine qSB ?_ NB134_135.out _; (with_reducible repeat (first | refine qH ?_ _ | refine qE ?_ | refine qG ?_ _)); refine qSB ?_ NB134_135.out _; (with_reducible repeat (first | refine qH ?_ _ | refine qE ?_ | refine qG ?_ _)); exact BK134.out) Tryz.underlying40 rfl (by kernel_rfl)) rfl ?_
  exact ⟨_, sR, nK, bl⟩
 ·rw [if_neg c2] at H
  have c2b0 := decide_eq_false c2
  have c2b1 : decide (42 < a0.size) = false := decide_eq_false (by omega)
  clear c2
  have H' := aM H
  clear H
  go_enter Tryz.func41, Tryz.ntmps41
  go_wp2_with (first | ((with_reducible refine qJ (N := 2) rfl ?_); (try (refine qpB (by rfl) ?_; dsimp only)); refine qI ?hg (N := 2) ?hd (cs := #[.int .i64 0, .int .i64 0, .slice none 0 0]) (t := 40) ?hr ?_; (case hd => rfl); (case hg => rfl); (case hr => exact gS); intro gb134 hg w8 hbox hb; have BK134 := aM (hbox); have GW134 := aM ((gg hg)); have GE134 := aM ((gg hg)); replace HB := aM (qB bl hb); clear hb hbox hg) | ((with_reducible refine qJ (N := 4) rfl ?_); (try (refine qpB (by rfl) ?_; dsimp only)); refine qI ?hg (N := 4) ?hd (cs := #[.int .i64 0, .int .i64 0, .slice none 0 0]) (t := 40) ?hr ?_; (case hd => rfl); (case hg => rfl); (case hr => exact gS); intro gb135 hg w9 hbox hb; have BK135 := aM (hbox); have GW135 := aM ((gg hg)); have GE135 := aM ((gg hg)); have NB134_135 := aM ((nl BK134 hg)); have NB135_134 := aM ((nr BK134 hg)); replace BK134 := aM (bb BK134 hb); replace HB := aM (qB bl hb); clear hb hbox hg; have hnb10 := NB135_134.out; have hnc10 := NB134_135.out; (refine cb3 BK135 ?_; intro hcz11_0 hcz11_1 hcz11_2); (refine cz3 BK135 ?_; intro hfz11_0 hfz11_1 hfz11_2)))
  go_loopg [5, 6] k (fun kq v5 v6 w' => ∃ (x5_1 : Int) (x6_1 : Int) (x135000_1 : Int) (x135001_1 : Int) (x136000_1 : Int) (x136001_1 : Int) (x136002_1 : List Int) (u136002 : Value), v5 = .int .i64 x5_1 ∧ v6 = .int .i64 x6_1 ∧ Aside0 (qX.l0 kq a0 x5_1 x6_1 x136000_1 x136001_1 x136002_1 = some (r1, r2, r3, r4)) ∧ Aside0 (kq ≤ k) ∧ Aside0 (Kd.R (Kd.int .u8) 5 w' w.heap.size (fun _ => True) u136002 x136002_1) ∧ Aside0 (w'.heap[gb134]? = some (.cells #[.int .i64 x135000_1, .int .i64 x135001_1, (.slice none 0 0)] 40 (0, 0))) ∧ Aside0 (w'.heap[gb135]? = some (.cells #[.int .i64 x136000_1, .int .i64 x136001_1, u136002] 40 (0, 0))) ∧ Aside0 (Below w.heap.size w w'))
  case atStart => exact ⟨(0), (0), (0), (0), (0), (0), (([] : List Int)), (.slice none 0 0), sD, sD, H', ⟨Nat.le_refl _⟩, ⟨nK⟩, ⟨bF BK134 NB134_135⟩, ⟨by (with_reducible repeat (first | refine qH ?_ _ | refine qE ?_ | refine qG ?_ _)); exact bP3 BK135⟩, ⟨bl⟩⟩
  case round =>
   clear H'; (try clear c1); (try clear c2); (try clear c2b0); (try clear c2b1); (try clear p2); (try clear c4); (try clear c5); (try clear c10); (try clear hcz11_0); (try clear hcz11_1); (try clear hcz11_2); (try clear hcz6_0); (try clear hcz6_1); (try clear hcz6_2); (try clear hcz7_0); (try clear hcz7_1); (try clear hcz7_2); (try clear hfz11_0); (try clear hfz11_1); (try clear hfz11_2); (try clear hfz6_0); (try clear hfz6_1); (try clear hfz6_2); (try clear hfz7_0); (try clear hfz7_1); (try clear hfz7_2)
   obtain ⟨x5_1, x6_1, x135000_1, x135001_1, x136000_1, x136001_1, x136002_1, u136002, rfl, rfl, HA, HK1, HO_136002, BK134, BK135, HB⟩ := hrel
   cases gk with
   | zero => exact absurd HA.out (by simp [qX.l0])
   | succ k1 =>
    have H := HA.out
    clear HA
    simp only [qX.l0] at H
    by_cases c12 : x6_1 ≤ (a0.size : Int)
    ·rw [if_pos c12] at H
     have c12b0 := decide_eq_true c12
     clear c12
     have HC13 := aM H
     clear H
     go_upto_region 8 with (fail)
     go_cut [27] (fun v27 wc => ∃ (kq : Nat) (x27_12 : Bool), v27 = .bool x27_12 ∧ Aside0 (qX.j1 kq a0 x5_1 x6_1 x27_12 x136000_1 x136001_1 x136002_1 = some (r1, r2, r3, r4)) ∧ Aside0 (kq ≤ k1) ∧ Aside0 (Kd.R (Kd.int .u8) 5 wc w.heap.size (fun _ => True) u136002 x136002_1) ∧ Aside0 (wc.heap[gb134]? = some (.cells #[.int .i64 x135000_1, .int .i64 x135001_1, (.slice none 0 0)] 40 (0, 0))) ∧ Aside0 (wc.heap[gb135]? = some (.cells #[.int .i64 x136000_1, .int .i64 x136001_1, u136002] 40 (0, 0))) ∧ Aside0 (Below w.heap.size w wc))
     case first =>
      have H := HC13.out
      clear HC13
      by_cases c14 : x6_1 < (a0.size : Int)
      ·rw [if_pos c14] at H
       have c14b0 := decide_eq_true c14
       clear c14
       (first | rw [c14b0] | (simp only [i64_w, i32_w]; rw [c14b0]) | skip)
       by_cases c15 : 0 ≤ x6_1
       ·rw [if_pos c15] at H
        have c15b0 := decide_eq_true c15
        clear c15
        have H' := aM H
        clear H
        have p16 : 0 ≤ (x6_1 : Int) := of_decide_eq_true am
        have q16 : x6_1 < (a0.size : Int) := of_decide_eq_true am
        have hx16 := bt_at a0 x6_1
        replace p16 := eq_true p16
        replace q16 := eq_true q16
        go_wp2
        go_meet
        case rel => exact ⟨_, (((bt a0 x6_1) != 47)), sD, H', ⟨by have := HK1.out; first | omega | exact Nat.le_refl _⟩, ⟨rR HO_136002⟩, ⟨rB BK134⟩, ⟨rB BK135⟩, ⟨bl⟩⟩
       ·rw [if_neg c15] at H
        exact absurd H (by simp)
      ·rw [if_neg c14] at H
       have c14b0 := decide_eq_false c14
       clear c14
       (first | rw [c14b0] | (simp only [i64_w, i32_w]; rw [c14b0]) | skip)
       have H' := aM H
       clear H
       go_wp2
       go_meet
       case rel => exact ⟨_, (false), sD, H', ⟨by have := HK1.out; first | omega | exact Nat.le_refl _⟩, ⟨rR HO_136002⟩, ⟨rB BK134⟩, ⟨rB BK135⟩, ⟨bl⟩⟩
     case rest =>
      clear HC13; (try clear c1); (try clear p1); (try clear q1); (try clear hx1); (try clear c2); (try clear c2b0); (try clear c2b1); (try clear p2); (try clear c4); (try clear c5); (try clear c10); (try clear c12); (try clear c12b0); (try clear c14); (try clear c14b0); (try clear c15); (try clear c15b0); (try clear p16); (try clear q16); (try clear hx16); (try clear hcz11_0); (try clear hcz11_1); (try clear hcz11_2); (try clear hcz6_0); (try clear hcz6_1); (try clear hcz6_2); (try clear hcz7_0); (try clear hcz7_1); (try clear hcz7_2); (try clear hfz11_0); (try clear hfz11_1); (try clear hfz11_2); (try clear hfz6_0); (try clear hfz6_1); (try clear hfz6_2); (try clear hfz7_0); (try clear hfz7_1); (try clear hfz7_2); (try clear p16); (try clear p2); (try clear q16)
      obtain ⟨kq, x27_12, rfl, HA, HJ12, HO_136002, BK134, BK135, HB⟩ := hcut
      cases kq with
      | zero => exact absurd HA.out (by simp [qX.j1])
      | succ kj12 =>
       have H := HA.out
       clear HA
       simp only [qX.j1] at H
       by_cases c17 : x27_12 = true
       ·subst c17
        replace H := iT H
        have HC18 := aM H
        clear H
        go_upto_region 9 with (fail)
        go_cut [37] (fun v37 wc => ∃ (kq : Nat) (x37_17 : Bool), v37 = .bool x37_17 ∧ Aside0 (qX.j2 kq a0 x5_1 x6_1 x37_17 x136000_1 x136001_1 x136002_1 = some (r1, r2, r3, r4)) ∧ Aside0 (kq ≤ kj12) ∧ Aside0 (Kd.R (Kd.int .u8) 5 wc w.heap.size (fun _ => True) u136002 x136002_1) ∧ Aside0 (wc.heap[gb134]? = some (.cells #[.int .i64 x135000_1, .int .i64 x135001_1, (.slice none 0 0)] 40 (0, 0))) ∧ Aside0 (wc.heap[gb135]? = some (.cells #[.int .i64 x136000_1, .int .i64 x136001_1, u136002] 40 (0, 0))) ∧ Aside0 (Below w.heap.size w wc))
        case first =>
         have H := HC18.out
         clear HC18
         by_cases c19 : 0 ≤ x6_1
         ·rw [if_pos c19] at H
          have c19b0 := decide_eq_true c19
          clear c19
          (first | rw [c19b0] | (simp only [i64_w, i32_w]; rw [c19b0]) | skip)
          by_cases c20 : x6_1 < (a0.size : Int)
          ·rw [if_pos c20] at H
           have c20b0 := decide_eq_true c20
           clear c20
           by_cases c22 : (bt a0 x6_1) = 46
           ·rw [if_pos c22] at H
            have c22b0 := beq_iff_eq.mpr c22
            have c22b1 := bne_eq_false_iff_eq.mpr c22
            clear c22
            have H' := aM H
            clear H
            have p21 : 0 ≤ (x6_1 : Int) := of_decide_eq_true am
            have q21 : x6_1 < (a0.size : Int) := of_decide_eq_true am
            have hx21 := bt_at a0 x6_1
            replace p21 := eq_true p21
            replace q21 := eq_true q21
            go_wp2
            go_meet
            case rel => exact ⟨_, (false), sD, H', ⟨by have := HK1.out; have := HJ12.out; first | omega | exact Nat.le_refl _⟩, ⟨rR HO_136002⟩, ⟨rB BK134⟩, ⟨rB BK135⟩, ⟨bl⟩⟩
           ·rw [if_neg c22] at H
            have c22b0 := beq_eq_false_iff_ne.mpr c22
            have c22b1 := bne_iff_ne.mpr c22
            have H' := aM H
            clear H
            have p21 : 0 ≤ (x6_1 : Int) := of_decide_eq_true am
            have q21 : x6_1 < (a0.size : Int) := of_decide_eq_true am
            have hx21 := bt_at a0 x6_1
            replace p21 := eq_true p21
            replace q21 := eq_true q21
            have p23 : 0 ≤ (x6_1 : Int) := of_decide_eq_true am
            have q23 : x6_1 < (a0.size : Int) := of_decide_eq_true am
            have hx23 := bt_at a0 x6_1
            replace p23 := eq_true p23
            replace q23 := eq_true q23
            go_wp2
            go_meet
            case rel => exact ⟨_, (((bt a0 x6_1) != 35)), sD, H', ⟨by have := HK1.out; have := HJ12.out; first | omega | exact Nat.le_refl _⟩, ⟨rR HO_136002⟩, ⟨rB BK134⟩, ⟨rB BK135⟩, ⟨bl⟩⟩
          ·rw [if_neg c20] at H
           exact absurd H (by simp)
         ·rw [if_neg c19] at H
          exact absurd H (by simp)
        case rest =>
         clear HC18; (try clear c1); (try clear p1); (try clear q1); (try clear hx1); (try clear c2); (try clear c2b0); (try clear c2b1); (try clear p2); (try clear q2); (try clear hx2); (try clear c4); (try clear c5); (try clear c10); (try clear c12); (try clear c12b0); (try clear c14); (try clear c14b0); (try clear c15); (try clear c15b0); (try clear p16); (try clear q16); (try clear hx16); (try clear c17); (try clear c19); (try clear c19b0); (try clear c20); (try clear c20b0); (try clear p21); (try clear q21); (try clear hx21); (try clear c22); (try clear c22b0); (try clear c22b1); (try clear p23); (try clear q23); (try clear hx23); (try clear hcz11_0); (try clear hcz11_1); (try clear hcz11_2); (try clear hcz6_0); (try clear hcz6_1); (try clear hcz6_2); (try clear hcz7_0); (try clear hcz7_1); (try clear hcz7_2); (try clear hfz11_0); (try clear hfz11_1); (try clear hfz11_2); (try clear hfz6_0); (try clear hfz6_1); (try clear hfz6_2); (try clear hfz7_0); (try clear hfz7_1); (try clear hfz7_2); (try clear p1); (try clear p16); (try clear p2); (try clear p21); (try clear p23); (try clear q1); (try clear q16); (try clear q21); (try clear q23)
         obtain ⟨kq, x37_17, rfl, HA, HJ17, HO_136002, BK134, BK135, HB⟩ := hcut
         cases kq with
         | zero => exact absurd HA.out (by simp [qX.j2])
         | succ kj17 =>
          have H := HA.out
          clear HA
          simp only [qX.j2] at H
          by_cases c24 : x37_17 = true
          ·subst c24
           replace H := iT H
           simp only [Option.some.injEq, Prod.mk.injEq] at H
           obtain ⟨rfl, rfl, rfl, rfl⟩ := H
           have hnb25 := NB134_135.out
           have hnc25 := NB135_134.out
           (refine cb3 BK134 ?_; intro _ _ _)
           (refine cz3 BK134 ?_; intro _ _ _)
           go_wp2
           refine bodyPost_ret (qxA rfl _ _ gb134 40 #[.int .i64 0, .int .i64 0, .slice none 0 0] (0, 0) _ rfl (by (with_reducible repeat (first | refine qH ?_ _ | refine qE ?_ | refine qG ?_ _)); exact bP3 BK134) Tryz.underlying40 rfl (by kernel_rfl)) rfl ?_
           exact ⟨_, sR, nK, bl⟩
          ·replace c24 := Bool.eq_false_iff.mpr c24
           subst c24
           replace H := iF H
           by_cases c27 : 0 ≤ x6_1
           ·rw [if_pos c27] at H
            have c27b0 := decide_eq_true c27
            clear c27
            by_cases c28 : x6_1 < (a0.size : Int)
            ·rw [if_pos c28] at H
             have c28b0 := decide_eq_true c28
             clear c28
             by_cases c30 : x136002_1.length < 140737488355328
             ·rw [if_pos c30] at H
              have LMc30 := aM c30
              clear c30
              obtain ⟨y136, hy136⟩ : ∃ y_ : List Int, y_ = (x136002_1 ++ [bt a0 x6_1]) := ⟨_, rfl⟩
              replace H : (qX.l0 kj17 a0 (wrap64 (x5_1 + 1)) (wrap64 (x6_1 + 1)) x136000_1 x136001_1 y136) = some (r1, r2, r3, r4) := by first | (rw [hy136]; with_reducible exact H) | (have H2_ := (Option.bind_some _ _).symm.trans H; rw [hy136]; with_reducible exact H2_) | (have H2_ := (Option.bind_some _ _).symm.trans H; with_reducible exact H2_) | with_reducible exact H | (rw [hy136]; exact H) | exact H
              have Ny136 := aM hy136
              clear hy136
              have H' := aM H
              clear H
              try go_wp2
              replace HO_136002 := aM (Kd.qV HO_136002.out)
              replace BK134 := aM (qE BK134.out)
              replace BK135 := aM (qE BK135.out)
              replace HB := aM (qx HB.out)
              have p29 : 0 ≤ (x6_1 : Int) := of_decide_eq_true am
              have q29 : x6_1 < (a0.size : Int) := of_decide_eq_true am
              have hx29 := bt_at a0 x6_1
              replace p29 := eq_true p29
              replace q29 := eq_true q29
              refine qOB (n := 9) (S := fun w' => w'.cell? ⟨gb135, 0, none⟩ = some (.int .i64 x136000_1) ∧ w'.cell? ⟨gb135, 1, none⟩ = some (.int .i64 x136001_1) ∧ w'.cell? ⟨gb135, 2, none⟩ = some (u136002)) (ds := [8]) #[false, false, false, false, false, false, false, false, false] (by kernel_rfl) rfl rfl ⟨bc BK135 0, bc BK135 1, bc BK135 2⟩ (fun hHeld => ?_); refine qSA qX.tab11 qX.bits11 (fun HT_ HW_ => ?_)
              generalize wc.drew = w31 at HO_136002 BK134 BK135 HB hHeld ⊢
              refine pS (i := 0) (N := some 39) #[true, false, false, false, false, false, false, false, false] HT_ ?_
              refine pS (i := 2) (N := some 41) #[true, false, true, false, false, false, false, false, false] HT_ ?_
              refine pS (i := 3) (N := some 42) #[true, false, true, true, false, false, false, false, false] HT_ ?_
              refine tS (i := 1) (N := some 40) #[true, true, true, true, false, false, false, false, false] HT_ HW_ hHeld ?_
              refine tS (i := 4) (N := some 43) #[true, true, true, true, true, false, false, false, false] HT_ HW_ hHeld ?_
              refine one_ (i := 5) (N := some 44) #[true, true, true, true, true, true, false, false, false] rfl rfl (qdA HT_.out (by kernel_rfl)) (by decide) (fun K hK => ?_)
              refine qdB (w1 := ?_) (v := ?_) (by rfl) rfl ?_ ?_
              rotate_left 2
              ·go_simp
               constructor
               ·rfl
               ·rfl
              refine hK.out _ _ ⟨(qoA (qG BK135.out _) 0).trans rfl, (qoA (qG BK135.out _) 1).trans rfl, (qoA (qG BK135.out _) 2).trans rfl⟩ (fun hHeld => ?_)
              clear hK K
              refine norm_ (a' := ?_) ?_ ?_
              rotate_left
              ·show Act.put _ (some 44) _ = _
               simp only [Act.put, List.setIfInBounds_toArray, List.set_cons_zero, List.set_cons_succ, i64_w, i32_w]
               rfl
              refine one_ (i := 6) (N := some 45) #[true, true, true, true, true, true, true, false, false] rfl rfl (qdA HT_.out (by kernel_rfl)) (by decide) (fun K hK => ?_)
              refine Kd.R_append_step (Kd.int .u8) (w0 := w) w.heap.size (by rfl) (.tmp 40) (.tmp 44) 38 5 (.int .u8 0) 1 rfl Tryz.underlying38 info5 rfl (by decide) (by omega) u136002 x136002_1 (bt a0 x6_1) [.int .u8 (bt a0 x6_1)] (fun _ => True) (fun _ => False) rfl rfl ?aP (fun _ hk => hk.elim) ?aF ?aO ?aB ?aS ?aL ?_
              (case aP => exact rfl)
              (case aB => exact bl)
              (case aF => exact (fun _ _ => trivial))
              (case aO => exact (rR HO_136002))
              (case aS => exact (qL bl))
              (case aL => have := LMc30.out; omega)
              intro v137 w32 ho hb hg hat
              rw [← Ny136.out] at ho
              have HO138 := aM (ho)
              replace BK134 := aM (qp (rB BK134) hg (Kd.R_ne HO_136002.out BK134.out (by decide)))
              replace BK135 := aM (qp (rB BK135) hg (Kd.R_ne HO_136002.out BK135.out (by decide)))
              replace HB := aM (hb)
              clear HO_136002
              clear ho hb hg hat
              obtain ⟨Ao33, co33, eo33⟩ := Kd.qFA HO138.out
              (first | subst eo33 | (injection eo33 with f1_ f2_ f3_; have f4_ := f1_.symm; have f5_ := f3_.symm; clear f1_ f2_ f3_; subst f4_; subst f5_))
              refine hK.out _ _ ⟨bc BK135 0, bc BK135 1, bc BK135 2⟩ (fun hHeld => ?_)
              clear hK K
              refine norm_ (a' := ?_) ?_ ?_
              rotate_left
              ·show Act.put _ (some 45) _ = _
               simp only [Act.put, List.setIfInBounds_toArray, List.set_cons_zero, List.set_cons_succ, i64_w, i32_w]
               rfl
              refine pS (i := 7) (N := some 46) #[true, true, true, true, true, true, true, true, false] HT_ ?_
              refine last_ (i := 8) (N := none) #[true, true, true, true, true, true, true, true, true] rfl rfl (qdA HT_.out (by kernel_rfl)) (by decide) (fun K hK => ?_)
              have hs34 : w32.cell? ⟨gb135, 2, none⟩ = some (u136002) := bc BK135 2
              have hfs34 := qb BK135.out 2
              have hns34_0 := NB134_135.out
              have hms34_0 := NB135_134.out
              refine skip_ (w1 := ?_) (by rfl) rfl ?_ ?_
              rotate_left
              ·go_simp
               rfl
              refine hK.out _ _ ?_
              clear hK K
              refine done_ (qDB HT_.out (by kernel_rfl)) ?_
              try go_wp2
              go_roundg kj17
              case measure => have := HK1.out; have := HJ12.out; have := HJ17.out; omega
              case rel => exact ⟨(wrap64 (x5_1 + 1)), (wrap64 (x6_1 + 1)), (x135000_1), (x135001_1), (x136000_1), (x136001_1), (y136), (.slice Ao33 y136.length co33), sD, sD, H', ⟨by have := HK1.out; have := HJ12.out; have := HJ17.out; omega⟩, ⟨by (with_reducible repeat (first | apply Kd.qQ | apply Kd.qU | apply Kd.qV)); exact Kd.qa (Kd.R_far (p := ⟨gb135, 2, none⟩) (Kd.qAB HO138.out BK135.out (by decide)) (fun _ hk => hk.2) (.slice Ao33 y136.length co33)) (fun _ hk => trivial)⟩, ⟨by (with_reducible repeat (first | refine qH ?_ _ | refine qE ?_ | refine qG ?_ _)); refine qSB ?_ NB134_135.out _; (with_reducible repeat (first | refine qH ?_ _ | refine qE ?_ | refine qG ?_ _)); exact BK134.out⟩, ⟨by (with_reducible repeat (first | refine qH ?_ _ | refine qE ?_ | refine qG ?_ _)); refine qHA (cs := #[.int .i64 x136000_1, .int .i64 x136001_1, u136002]) ?_ 2 _ rfl; (with_reducible repeat (first | refine qH ?_ _ | refine qE ?_ | refine qG ?_ _)); exact BK135.out⟩, ⟨bl⟩⟩
             ·rw [if_neg c30] at H
              exact absurd H (by simp)
            ·rw [if_neg c28] at H
             exact absurd H (by simp)
           ·rw [if_neg c27] at H
            exact absurd H (by simp)
       ·replace c17 := Bool.eq_false_iff.mpr c17
        subst c17
        replace H := iF H
        by_cases c35 : x136001_1 > 0
        ·rw [if_pos c35] at H
         have c35b0 := decide_eq_true c35
         clear c35
         by_cases c36 : x5_1 = x136000_1
         ·rw [if_pos c36] at H
          have c36b0 := beq_iff_eq.mpr c36
          have c36b1 := bne_eq_false_iff_eq.mpr c36
          clear c36
          by_cases c37 : x5_1 = 0
          ·rw [if_pos c37] at H
           have c37b0 := beq_iff_eq.mpr c37
           have c37b1 := bne_eq_false_iff_eq.mpr c37
           clear c37
           simp only [Option.some.injEq, Prod.mk.injEq] at H
           obtain ⟨rfl, rfl, rfl, rfl⟩ := H
           have hnb38 := NB135_134.out
           have hnc38 := NB134_135.out
           (refine cb3 BK135 ?_; intro _ _ _)
           (refine cz3 BK135 ?_; intro _ _ _)
           (refine cb3 BK134 ?_; intro _ _ _)
           (refine cz3 BK134 ?_; intro _ _ _)
           go_wp2
           refine bodyPost_ret (qxA rfl _ _ gb134 40 #[.int .i64 0, .int .i64 0, .slice none 0 0] (0, 0) _ rfl (by (with_reducible repeat (first | refine qH ?_ _ | refine qE ?_ | refine qG ?_ _)); exact bP3 BK134) Tryz.underlying40 rfl (by kernel_rfl)) rfl ?_
           exact ⟨_, sR, nK, bl⟩
          ·rw [if_neg c37] at H
           have c37b0 := beq_eq_false_iff_ne.mpr c37
           have c37b1 := bne_iff_ne.mpr c37
           have H' := aM H
           clear H
           have hnb41 := NB135_134.out
           have hnc41 := NB134_135.out
           (refine cb3 BK135 ?_; intro _ _ _)
           (refine cz3 BK135 ?_; intro _ _ _)
           go_wp2
           go_roundg kj12
           case measure => have := HK1.out; have := HJ12.out; omega
           case rel => exact ⟨(0), (wrap64 (x6_1 + 1)), (x135000_1), (x135001_1), (x5_1), (wrap64 (x136001_1 + 1)), (x136002_1), (u136002), sD, sD, H', ⟨by have := HK1.out; have := HJ12.out; omega⟩, ⟨by (with_reducible repeat (first | apply Kd.qQ | apply Kd.qU | apply Kd.qV)); exact Kd.qa (Kd.R_far (p := ⟨gb135, 1, none⟩) (Kd.R_far (p := ⟨gb135, 0, none⟩) (Kd.qAB HO_136002.out BK135.out (by decide)) (fun _ hk => hk.2) (.int .i64 x5_1)) (fun _ hk => hk.2) (.int .i64 (wrap64 (x136001_1 + 1)))) (fun _ hk => trivial)⟩, ⟨bF BK134 NB134_135⟩, ⟨by (with_reducible repeat (first | refine qH ?_ _ | refine qE ?_ | refine qG ?_ _)); refine qHA (cs := #[.int .i64 x5_1, .int .i64 x136001_1, u136002]) ?_ 1 _ rfl; (with_reducible repeat (first | refine qH ?_ _ | refine qE ?_ | refine qG ?_ _)); refine qHA (cs := #[.int .i64 x136000_1, .int .i64 x136001_1, u136002]) ?_ 0 _ rfl; (with_reducible repeat (first | refine qH ?_ _ | refine qE ?_ | refine qG ?_ _)); exact BK135.out⟩, ⟨bl⟩⟩
         ·rw [if_neg c36] at H
          have c36b0 := beq_eq_false_iff_ne.mpr c36
          have c36b1 := bne_iff_ne.mpr c36
          simp only [Option.some.injEq, Prod.mk.injEq] at H
          obtain ⟨rfl, rfl, rfl, rfl⟩ := H
          have hnb43 := NB135_134.out
          have hnc43 := NB134_135.out
          (refine cb3 BK135 ?_; intro _ _ _)
          (refine cz3 BK135 ?_; intro _ _ _)
          (refine cb3 BK134 ?_; intro _ _ _)
          (refine cz3 BK134 ?_; intro _ _ _)
          go_wp2
          refine bodyPost_ret (qxA rfl _ _ gb134 40 #[.int .i64 0, .int .i64 0, .slice none 0 0] (0, 0) _ rfl (by (with_reducible repeat (first | refine qH ?_ _ | refine qE ?_ | refine qG ?_ _)); exact bP3 BK134) Tryz.underlying40 rfl (by kernel_rfl)) rfl ?_
          exact ⟨_, sR, nK, bl⟩
        ·rw [if_neg c35] at H
         have c35b0 := decide_eq_false c35
         clear c35
         by_cases c46 : x5_1 = 0
         ·rw [if_pos c46] at H
          have c46b0 := beq_iff_eq.mpr c46
          have c46b1 := bne_eq_false_iff_eq.mpr c46
          clear c46
          simp only [Option.some.injEq, Prod.mk.injEq] at H
          obtain ⟨rfl, rfl, rfl, rfl⟩ := H
          have hnb47 := NB135_134.out
          have hnc47 := NB134_135.out
          (refine cb3 BK135 ?_; intro _ _ _)
          (refine cz3 BK135 ?_; intro _ _ _)
          (refine cb3 BK134 ?_; intro _ _ _)
          (refine cz3 BK134 ?_; intro _ _ _)
          go_wp2
          refine bodyPost_ret (qxA rfl _ _ gb134 40 #[.int .i64 0, .int .i64 0, .slice none 0 0] (0, 0) _ rfl (by (with_reducible repeat (first | refine qH ?_ _ | refine qE ?_ | refine qG ?_ _)); exact bP3 BK134) Tryz.underlying40 rfl (by kernel_rfl)) rfl ?_
          exact ⟨_, sR, nK, bl⟩
         ·rw [if_neg c46] at H
          have c46b0 := beq_eq_false_iff_ne.mpr c46
          have c46b1 := bne_iff_ne.mpr c46
          have H' := aM H
          clear H
          have hnb50 := NB135_134.out
          have hnc50 := NB134_135.out
          (refine cb3 BK135 ?_; intro _ _ _)
          (refine cz3 BK135 ?_; intro _ _ _)
          go_wp2
          go_roundg kj12
          case measure => have := HK1.out; have := HJ12.out; omega
          case rel => exact ⟨(0), (wrap64 (x6_1 + 1)), (x135000_1), (x135001_1), (x5_1), (wrap64 (x136001_1 + 1)), (x136002_1), (u136002), sD, sD, H', ⟨by have := HK1.out; have := HJ12.out; omega⟩, ⟨by (with_reducible repeat (first | apply Kd.qQ | apply Kd.qU | apply Kd.qV)); exact Kd.qa (Kd.R_far (p := ⟨gb135, 1, none⟩) (Kd.R_far (p := ⟨gb135, 0, none⟩) (Kd.qAB HO_136002.out BK135.out (by decide)) (fun _ hk => hk.2) (.int .i64 x5_1)) (fun _ hk => hk.2) (.int .i64 (wrap64 (x136001_1 + 1)))) (fun _ hk => trivial)⟩, ⟨bF BK134 NB134_135⟩, ⟨by (with_reducible repeat (first | refine qH ?_ _ | refine qE ?_ | refine qG ?_ _)); refine qHA (cs := #[.int .i64 x5_1, .int .i64 x136001_1, u136002]) ?_ 1 _ rfl; (with_reducible repeat (first | refine qH ?_ _ | refine qE ?_ | refine qG ?_ _)); refine qHA (cs := #[.int .i64 x136000_1, .int .i64 x136001_1, u136002]) ?_ 0 _ rfl; (with_reducible repeat (first | refine qH ?_ _ | refine qE ?_ | refine qG ?_ _)); exact BK135.out⟩, ⟨bl⟩⟩
    ·rw [if_neg c12] at H
     have c12b0 := decide_eq_false c12
     clear c12
     by_cases c52 : x136000_1 > 7
     ·rw [if_pos c52] at H
      have c52b0 := decide_eq_true c52
      clear c52
      simp only [Option.some.injEq, Prod.mk.injEq] at H
      obtain ⟨rfl, rfl, rfl, rfl⟩ := H
      have hnb53 := NB135_134.out
      have hnc53 := NB134_135.out
      (refine cb3 BK135 ?_; intro _ _ _)
      (refine cz3 BK135 ?_; intro _ _ _)
      (refine cb3 BK134 ?_; intro _ _ _)
      (refine cz3 BK134 ?_; intro _ _ _)
      go_wp2
      refine bodyPost_ret (qxA rfl _ _ gb134 40 #[.int .i64 0, .int .i64 0, .slice none 0 0] (0, 0) _ rfl (by (with_reducible repeat (first | refine qH ?_ _ | refine qE ?_ | refine qG ?_ _)); exact bP3 BK134) Tryz.underlying40 rfl (by kernel_rfl)) rfl ?_
      exact ⟨_, sR, nK, bl⟩
     ·rw [if_neg c52] at H
      have c52b0 := decide_eq_false c52
      clear c52
      by_cases c56 : x136001_1 > 7
      ·rw [if_pos c56] at H
       have c56b0 := decide_eq_true c56
       clear c56
       simp only [Option.some.injEq, Prod.mk.injEq] at H
       obtain ⟨rfl, rfl, rfl, rfl⟩ := H
       have hnb57 := NB135_134.out
       have hnc57 := NB134_135.out
       (refine cb3 BK135 ?_; intro _ _ _)
       (refine cz3 BK135 ?_; intro _ _ _)
       (refine cb3 BK134 ?_; intro _ _ _)
       (refine cz3 BK134 ?_; intro _ _ _)
       go_wp2
       refine bodyPost_ret (qxA rfl _ _ gb134 40 #[.int .i64 0, .int .i64 0, .slice none 0 0] (0, 0) _ rfl (by (with_reducible repeat (first | refine qH ?_ _ | refine qE ?_ | refine qG ?_ _)); exact bP3 BK134) Tryz.underlying40 rfl (by kernel_rfl)) rfl ?_
       exact ⟨_, sR, nK, bl⟩
      ·rw [if_neg c56] at H
       have c56b0 := decide_eq_false c56
       clear c56
       by_cases c60 : (x136002_1.length : Int) > 36
       ·rw [if_pos c60] at H
        have c60b0 := decide_eq_true c60
        have c60b1 : decide (36 < x136002_1.length) = true := decide_eq_true (by omega)
        clear c60
        simp only [Option.some.injEq, Prod.mk.injEq] at H
        obtain ⟨rfl, rfl, rfl, rfl⟩ := H
        have hnb61 := NB135_134.out
        have hnc61 := NB134_135.out
        (refine cb3 BK135 ?_; intro _ _ _)
        (refine cz3 BK135 ?_; intro _ _ _)
        obtain ⟨Ao63, co63, eo63⟩ := Kd.qFA HO_136002.out
        subst eo63
        (refine cb3 BK134 ?_; intro _ _ _)
        (refine cz3 BK134 ?_; intro _ _ _)
        go_wp2
        refine bodyPost_ret (qxA rfl _ _ gb134 40 #[.int .i64 0, .int .i64 0, .slice none 0 0] (0, 0) _ rfl (by (with_reducible repeat (first | refine qH ?_ _ | refine qE ?_ | refine qG ?_ _)); exact bP3 BK134) Tryz.underlying40 rfl (by kernel_rfl)) rfl ?_
        exact ⟨_, sR, nK, bl⟩
       ·rw [if_neg c60] at H
        have c60b0 := decide_eq_false c60
        have c60b1 : decide (36 < x136002_1.length) = false := decide_eq_false (by omega)
        clear c60
        simp only [Option.some.injEq, Prod.mk.injEq] at H
        obtain ⟨rfl, rfl, rfl, rfl⟩ := H
        have hnb65 := NB135_134.out
        have hnc65 := NB134_135.out
        (refine cb3 BK135 ?_; intro _ _ _)
        (refine cz3 BK135 ?_; intro _ _ _)
        obtain ⟨Ao67, co67, eo67⟩ := Kd.qFA HO_136002.out
        subst eo67
        (refine cb3 BK134 ?_; intro _ _ _)
        (refine cz3 BK134 ?_; intro _ _ _)
        go_wp2
        refine bodyPost_ret (qxA rfl _ _ gb134 40 #[.int .i64 x136000_1, .int .i64 x136001_1, .slice Ao67 x136002_1.length co67] (0, 0) _ rfl (by (with_reducible repeat (first | refine qH ?_ _ | refine qE ?_ | refine qG ?_ _)); exact bP3 BK134) Tryz.underlying40 rfl (by kernel_rfl)) rfl ?_
        exact ⟨_, sR, by (with_reducible repeat (first | apply Kd.qQ | apply Kd.qU | apply Kd.qV)); exact Kd.qa (Kd.R_far (p := ⟨gb134, 2, none⟩) (Kd.R_far (p := ⟨gb134, 1, none⟩) (Kd.R_far (p := ⟨gb134, 0, none⟩) (Kd.qAB HO_136002.out BK134.out (by decide)) (fun _ hk => hk.2) (.int .i64 x136000_1)) (fun _ hk => hk.2) (.int .i64 x136001_1)) (fun _ hk => hk.2) (.slice Ao67 x136002_1.length co67)) (fun _ hk => trivial), bl⟩
def qLA.f (k : Nat) (a0 : ByteArray) (l1 : List (S53)) : Option (Int × Int × List Int × Bool) := (qX.f k a0).bind fun bt140 => (if bt140.2.2.2 = true then ((qo.f k bt140.1 bt140.2.1 bt140.2.2.1 l1).bind fun t147 => (some (bt140.1, bt140.2.1, bt140.2.2.1, t147))) else (some (bt140.1, bt140.2.1, bt140.2.2.1, false)))
def qLA.T2 : Bool × List (List Nat × List Nat) := (true, [([], []), ([], []), ([1], [1]), ([2], [2]), ([2], [2]), ([3, 4, 2, 2], [2, 3, 4]), ([2, 5], [2, 5]), ([0, 5, 0], [0]), ([6, 7, 0, 1, 2, 3, 4, 5, 6, 7], [6])])
def qLA.B2 : List Nat := [0, 0, 2, 6, 6, 30, 62, 63, 255]
theorem qLA.tab2 : rtab .any (opsOf Tryz.f18 2) = qLA.T2 := by kernel_rfl
theorem qLA.bits2 : waitsOk qLA.T2.2 qLA.B2 = true := by kernel_rfl
set_option maxHeartbeats 8000000 in
set_option maxRecDepth 100000 in
theorem qLA.calls (k : Nat) (a0 : ByteArray) (A1 : Option Addr) (c1 : Nat) (l1 : List (S53)) (r1 : Int) (r2 : Int) (r3 : List Int) (r4 : Bool) (w : World) (hr1 : Kd.C k53 w A1 l1.length l1) (hc1 : l1.length ≤ c1) (h : qLA.f k a0 l1 = some (r1, r2, r3, r4)) :
  Calls Tryz.prog 18 #[.string a0, .slice A1 l1.length c1] w fun e w' => ∃ v2_ : Value, e = .returned (.tuple #[.agg #[.int .i64 r1, .int .i64 r2, v2_], .bool r4]) ∧ Kd.R (Kd.int .u8) 5 w' w.heap.size (fun _ => True) v2_ r3 ∧ Below w.heap.size w w' := by
 have hu40 := Tryz.underlying40
 have HR1 := aM hr1
 have HC1 := aM hc1
 clear hr1 hc1
 have HB := aM (Below.refl w.heap.size w)
 have H : ((qX.f k a0).bind fun bt140 => (if bt140.2.2.2 = true then ((qo.f k bt140.1 bt140.2.1 bt140.2.2.1 l1).bind fun t147 => (some (bt140.1, bt140.2.1, bt140.2.2.1, t147))) else (some (bt140.1, bt140.2.1, bt140.2.2.1, false)))) = some (r1, r2, r3, r4) := h
 clear h
 replace H := bO H
 obtain ⟨⟨t140, t141, t142, t145⟩, A3, H⟩ := H
 dsimp only at H A3
 by_cases c4 : t145 = true
 ·subst c4
  replace H := iT H
  replace H := bO H
  obtain ⟨t147, A5, H⟩ := H
  simp only [Option.some.injEq, Prod.mk.injEq] at H
  obtain ⟨rfl, rfl, rfl, rfl⟩ := H
  go_enter Tryz.func18, Tryz.ntmps18
  try go_wp2_with (first | ((with_reducible refine qJ (N := 4) rfl ?_); refine qI ?hg (N := 4) ?hd (cs := #[.int .i64 0, .int .i64 0, .slice none 0 0]) (t := 40) ?hr ?_; (case hd => rfl); (case hg => rfl); (case hr => exact gS); intro gb139 hg w6 hbox hb; have BK139 := aM (hbox); have GW139 := aM ((gg hg)); have GE139 := aM ((gg hg)); replace HB := aM (qB bl hb); clear hb hbox hg) | ((with_reducible refine qF (f := 41) rfl ?_); refine qn (some 10) rfl rfl Tryz.func41 (by kernel_rfl) rfl #[.string a0] rfl gA ?_; (with_reducible refine (qX.calls k a0 t140 t141 t142 true _ A3.out).mono ?_); rintro e w7 ⟨v143, rfl, ho0, hb⟩; refine ⟨_, rfl, ?_⟩; have HO144 := aM (Kd.qAA ho0 (qL bl)); replace BK139 := aM (bb BK139 hb); replace HB := aM (qB bl hb); (try clear hb); (try clear hb2); (try clear hk); (try clear hi); (try clear ho0)) | ((with_reducible refine qJ (N := 6) rfl ?_); refine qI ?hg (N := 6) ?hd (cs := #[.int .i64 0, .int .i64 0, .slice none 0 0]) (t := 40) ?hr ?_; (case hd => rfl); (case hg => rfl); (case hr => exact gS); intro gb146 hg w8 hbox hb; have BK146 := aM (hbox); have GW146 := aM ((gg hg)); have GE146 := aM ((gg hg)); have NB139_146 := aM ((nl BK139 hg)); have NB146_139 := aM ((nr BK139 hg)); replace HO144 := aM (Kd.qZ (rR HO144) hb); replace BK139 := aM (bb BK139 hb); replace HB := aM (qB bl hb); clear hb hbox hg; have hnb9 := NB146_139.out; have hnc9 := NB139_146.out; (refine cb3 BK146 ?_; intro _ _ _); (refine cz3 BK146 ?_; intro _ _ _); obtain ⟨Ao11, co11, eo11⟩ := Kd.qFA HO144.out; subst eo11))
  have n0_ : Aside0 (Kd.R (Kd.int .u8) 5 (((w8.setCell ⟨gb146, 0, none⟩ (.int .i64 t140)).setCell ⟨gb146, 1, none⟩ (.int .i64 t141)).setCell ⟨gb146, 2, none⟩ (.slice Ao11 t142.length co11)) w.heap.size (fun _ => True) (.slice Ao11 t142.length co11) t142) := ⟨by (with_reducible repeat (first | apply Kd.qQ | apply Kd.qU | apply Kd.qV)); exact Kd.qa (Kd.R_far (p := ⟨gb146, 2, none⟩) (Kd.R_far (p := ⟨gb146, 1, none⟩) (Kd.R_far (p := ⟨gb146, 0, none⟩) (Kd.qAB HO144.out BK146.out (by decide)) (fun _ hk => hk.2) (.int .i64 t140)) (fun _ hk => hk.2) (.int .i64 t141)) (fun _ hk => hk.2) (.slice Ao11 t142.length co11)) (fun _ hk => trivial)⟩
  have n1_ : Aside0 ((((w8.setCell ⟨gb146, 0, none⟩ (.int .i64 t140)).setCell ⟨gb146, 1, none⟩ (.int .i64 t141)).setCell ⟨gb146, 2, none⟩ (.slice Ao11 t142.length co11)).heap[gb139]? = some (.cells #[.int .i64 0, .int .i64 0, .slice none 0 0] 40 (0, 0))) := ⟨bF BK139 NB139_146⟩
  have n2_ : Aside0 ((((w8.setCell ⟨gb146, 0, none⟩ (.int .i64 t140)).setCell ⟨gb146, 1, none⟩ (.int .i64 t141)).setCell ⟨gb146, 2, none⟩ (.slice Ao11 t142.length co11)).heap[gb146]? = some (.cells #[.int .i64 t140, .int .i64 t141, .slice Ao11 t142.length co11] 40 (0, 0))) := ⟨by (with_reducible repeat (first | refine qH ?_ _ | refine qE ?_ | refine qG ?_ _)); exact bP3 BK146⟩
  have n3_ : Aside0 (Below w.heap.size w (((w8.setCell ⟨gb146, 0, none⟩ (.int .i64 t140)).setCell ⟨gb146, 1, none⟩ (.int .i64 t141)).setCell ⟨gb146, 2, none⟩ (.slice Ao11 t142.length co11))) := ⟨bl⟩
  (try clear HO144); (try clear BK139); (try clear BK146); (try clear HB)
  generalize (((w8.setCell ⟨gb146, 0, none⟩ (.int .i64 t140)).setCell ⟨gb146, 1, none⟩ (.int .i64 t141)).setCell ⟨gb146, 2, none⟩ (.slice Ao11 t142.length co11)) = w12 at n0_ n1_ n2_ n3_ ⊢
  have HO144 := n0_
  have BK139 := n1_
  have BK146 := n2_
  have HB := n3_
  clear n0_ n1_ n2_ n3_
  replace HO144 := aM (Kd.qV HO144.out)
  replace BK139 := aM (qE BK139.out)
  replace BK146 := aM (qE BK146.out)
  replace HB := aM (qx HB.out)
  refine qOB (n := 9) (S := fun w' => w'.cell? ⟨gb146, 0, none⟩ = some (.int .i64 t140) ∧ w'.cell? ⟨gb146, 1, none⟩ = some (.int .i64 t141) ∧ w'.cell? ⟨gb146, 2, none⟩ = some (.slice Ao11 t142.length co11)) (ds := []) #[false, false, false, false, false, false, false, false, false] (by kernel_rfl) rfl rfl ⟨bc BK146 0, bc BK146 1, bc BK146 2⟩ (fun hHeld => ?_); refine qSA qLA.tab2 qLA.bits2 (fun HT_ HW_ => ?_)
  generalize w12.drew = w13 at HO144 BK139 BK146 HB hHeld ⊢
  refine pS (i := 1) (N := some 14) #[false, true, false, false, false, false, false, false, false] HT_ ?_
  refine pS (i := 2) (N := some 15) #[false, true, true, false, false, false, false, false, false] HT_ ?_
  refine pS (i := 4) (N := some 17) #[false, true, true, false, true, false, false, false, false] HT_ ?_
  refine tS (i := 0) (N := some 13) #[true, true, true, false, true, false, false, false, false] HT_ HW_ hHeld ?_
  refine tS (i := 3) (N := some 16) #[true, true, true, true, true, false, false, false, false] HT_ HW_ hHeld ?_
  refine one_ (i := 5) (N := some 18) #[true, true, true, true, true, true, false, false, false] rfl rfl (qdA HT_.out (by kernel_rfl)) (by decide) (fun K hK => ?_)
  refine goes_ Tryz.func19 (by kernel_rfl) rfl #[.agg #[.int .i64 t140, .int .i64 t141, .slice Ao11 t142.length co11], .slice A1 l1.length c1] (by rfl) rfl rfl gA ?_
  with_reducible refine (qo.calls k t140 t141 _ _ t142 _ _ l1 t147 _ ?side1 ?side2 ?side3 ?side4 A5.out).mono ?_
  (case side1 => repeat (first | exact (Kd.qM HO144.out).2.2 | (with_reducible refine Kd.qS ?_ _) | (with_reducible refine Kd.qR ?_ _) | (with_reducible refine Kd.qe ?_)))
  (case side2 => exact (Kd.qM HO144.out).2.1)
  (case side3 => repeat (first | exact (Kd.qY HR1.out HB.out) | (with_reducible refine Kd.qS ?_ _) | (with_reducible refine Kd.qR ?_ _) | (with_reducible refine Kd.qe ?_)))
  (case side4 => exact HC1.out)
  rintro e w14 ⟨rfl, hb⟩
  refine ⟨_, rfl, ?_⟩
  replace HO144 := aM (Kd.qZ (rR HO144) hb)
  replace BK139 := aM (bb BK139 hb)
  replace BK146 := aM (bb BK146 hb)
  replace HB := aM (qB bl hb); (try clear hb); (try clear hb2); (try clear hk); (try clear hi)
  refine hK.out _ _ ⟨bc BK146 0, bc BK146 1, bc BK146 2⟩ (fun hHeld => ?_)
  clear hK K
  refine norm_ (a' := ?_) ?_ ?_
  rotate_left
  ·show Act.put _ (some 18) _ = _
   simp only [Act.put, List.setIfInBounds_toArray, List.set_cons_zero, List.set_cons_succ, i64_w, i32_w]
   rfl
  refine pS (i := 6) (N := some 19) #[true, true, true, true, true, true, true, false, false] HT_ ?_
  refine one_ (i := 7) (N := none) #[true, true, true, true, true, true, true, true, false] rfl rfl (qdA HT_.out (by kernel_rfl)) (by decide) (fun K hK => ?_)
  have hs15 : w14.cell? ⟨gb139, 0, none⟩ = some (.int .i64 0) := bc BK139 0
  have hfs15 := qb BK139.out 0
  have hns15_1 := NB146_139.out
  have hms15_1 := NB139_146.out
  have hs16 : w14.cell? ⟨gb139, 1, none⟩ = some (.int .i64 0) := bc BK139 1
  have hfs16 := qb BK139.out 1
  have hns16_1 := NB146_139.out
  have hms16_1 := NB139_146.out
  have hs17 : w14.cell? ⟨gb139, 2, none⟩ = some (.slice none 0 0) := bc BK139 2
  have hfs17 := qb BK139.out 2
  have hns17_1 := NB146_139.out
  have hms17_1 := NB139_146.out
  refine skip_ (w1 := ?_) (by rfl) rfl ?_ ?_
  rotate_left
  ·go_simp
   rfl
  refine hK.out _ _ ⟨((qfA (p := ⟨gb139, _, none⟩) NB146_139.out _).trans (((qfA (p := ⟨gb139, _, none⟩) NB146_139.out _).trans (((qfA (p := ⟨gb139, _, none⟩) NB146_139.out _).trans (hHeld.1)))))), ((qfA (p := ⟨gb139, _, none⟩) NB146_139.out _).trans (((qfA (p := ⟨gb139, _, none⟩) NB146_139.out _).trans (((qfA (p := ⟨gb139, _, none⟩) NB146_139.out _).trans (hHeld.2.1)))))), ((qfA (p := ⟨gb139, _, none⟩) NB146_139.out _).trans (((qfA (p := ⟨gb139, _, none⟩) NB146_139.out _).trans (((qfA (p := ⟨gb139, _, none⟩) NB146_139.out _).trans (hHeld.2.2))))))⟩ (fun hHeld => ?_)
  clear hK K
  refine pS (i := 8) (N := some 5) #[true, true, true, true, true, true, true, true, true] HT_ ?_
  refine done_ (qDB HT_.out (by kernel_rfl)) ?_
  try go_wp2
  refine bodyPost_ret (qxA rfl _ _ gb139 40 #[.int .i64 t140, .int .i64 t141, .slice Ao11 t142.length co11] (0, 0) _ rfl (by (with_reducible repeat (first | refine qH ?_ _ | refine qE ?_ | refine qG ?_ _)); exact bP3 BK139) Tryz.underlying40 rfl (by kernel_rfl)) rfl ?_
  exact ⟨_, sR, by (with_reducible repeat (first | apply Kd.qQ | apply Kd.qU | apply Kd.qV)); exact Kd.qa (Kd.R_far (p := ⟨gb139, 2, none⟩) (Kd.R_far (p := ⟨gb139, 1, none⟩) (Kd.R_far (p := ⟨gb139, 0, none⟩) (Kd.qAB HO144.out BK139.out (by decide)) (fun _ hk => hk.2) (.int .i64 t140)) (fun _ hk => hk.2) (.int .i64 t141)) (fun _ hk => hk.2) (.slice Ao11 t142.length co11)) (fun _ hk => trivial), bl⟩
 ·replace c4 := Bool.eq_false_iff.mpr c4
  subst c4
  replace H := iF H
  simp only [Option.some.injEq, Prod.mk.injEq] at H
  obtain ⟨rfl, rfl, rfl, rfl⟩ := H
  go_enter Tryz.func18, Tryz.ntmps18
  try go_wp2_with (first | ((with_reducible refine qJ (N := 4) rfl ?_); refine qI ?hg (N := 4) ?hd (cs := #[.int .i64 0, .int .i64 0, .slice none 0 0]) (t := 40) ?hr ?_; (case hd => rfl); (case hg => rfl); (case hr => exact gS); intro gb139 hg w18 hbox hb; have BK139 := aM (hbox); have GW139 := aM ((gg hg)); have GE139 := aM ((gg hg)); replace HB := aM (qB bl hb); clear hb hbox hg) | ((with_reducible refine qF (f := 41) rfl ?_); refine qn (some 10) rfl rfl Tryz.func41 (by kernel_rfl) rfl #[.string a0] rfl gA ?_; (with_reducible refine (qX.calls k a0 t140 t141 t142 false _ A3.out).mono ?_); rintro e w19 ⟨v143, rfl, ho0, hb⟩; refine ⟨_, rfl, ?_⟩; have HO144 := aM (Kd.qAA ho0 (qL bl)); replace BK139 := aM (bb BK139 hb); replace HB := aM (qB bl hb); (try clear hb); (try clear hb2); (try clear hk); (try clear hi); (try clear ho0)) | ((with_reducible refine qJ (N := 6) rfl ?_); refine qI ?hg (N := 6) ?hd (cs := #[.int .i64 0, .int .i64 0, .slice none 0 0]) (t := 40) ?hr ?_; (case hd => rfl); (case hg => rfl); (case hr => exact gS); intro gb146 hg w20 hbox hb; have BK146 := aM (hbox); have GW146 := aM ((gg hg)); have GE146 := aM ((gg hg)); have NB139_146 := aM ((nl BK139 hg)); have NB146_139 := aM ((nr BK139 hg)); replace HO144 := aM (Kd.qZ (rR HO144) hb); replace BK139 := aM (bb BK139 hb); replace HB := aM (qB bl hb); clear hb hbox hg; have hnb21 := NB146_139.out; have hnc21 := NB139_146.out; (refine cb3 BK146 ?_; intro _ _ _); (refine cz3 BK146 ?_; intro _ _ _); obtain ⟨Ao23, co23, eo23⟩ := Kd.qFA HO144.out; subst eo23))
  have n0_ : Aside0 (Kd.R (Kd.int .u8) 5 (((w20.setCell ⟨gb146, 0, none⟩ (.int .i64 t140)).setCell ⟨gb146, 1, none⟩ (.int .i64 t141)).setCell ⟨gb146, 2, none⟩ (.slice Ao23 t142.length co23)) w.heap.size (fun _ => True) (.slice Ao23 t142.length co23) t142) := ⟨by (with_reducible repeat (first | apply Kd.qQ | apply Kd.qU | apply Kd.qV)); exact Kd.qa (Kd.R_far (p := ⟨gb146, 2, none⟩) (Kd.R_far (p := ⟨gb146, 1, none⟩) (Kd.R_far (p := ⟨gb146, 0, none⟩) (Kd.qAB HO144.out BK146.out (by decide)) (fun _ hk => hk.2) (.int .i64 t140)) (fun _ hk => hk.2) (.int .i64 t141)) (fun _ hk => hk.2) (.slice Ao23 t142.length co23)) (fun _ hk => trivial)⟩
  have n1_ : Aside0 ((((w20.setCell ⟨gb146, 0, none⟩ (.int .i64 t140)).setCell ⟨gb146, 1, none⟩ (.int .i64 t141)).setCell ⟨gb146, 2, none⟩ (.slice Ao23 t142.length co23)).heap[gb139]? = some (.cells #[.int .i64 0, .int .i64 0, .slice none 0 0] 40 (0, 0))) := ⟨bF BK139 NB139_146⟩
  have n2_ : Aside0 ((((w20.setCell ⟨gb146, 0, none⟩ (.int .i64 t140)).setCell ⟨gb146, 1, none⟩ (.int .i64 t141)).setCell ⟨gb146, 2, none⟩ (.slice Ao23 t142.length co23)).heap[gb146]? = some (.cells #[.int .i64 t140, .int .i64 t141, .slice Ao23 t142.length co23] 40 (0, 0))) := ⟨by (with_reducible repeat (first | refine qH ?_ _ | refine qE ?_ | refine qG ?_ _)); exact bP3 BK146⟩
  have n3_ : Aside0 (Below w.heap.size w (((w20.setCell ⟨gb146, 0, none⟩ (.int .i64 t140)).setCell ⟨gb146, 1, none⟩ (.int .i64 t141)).setCell ⟨gb146, 2, none⟩ (.slice Ao23 t142.length co23))) := ⟨bl⟩
  (try clear HO144); (try clear BK139); (try clear BK146); (try clear HB)
  generalize (((w20.setCell ⟨gb146, 0, none⟩ (.int .i64 t140)).setCell ⟨gb146, 1, none⟩ (.int .i64 t141)).setCell ⟨gb146, 2, none⟩ (.slice Ao23 t142.length co23)) = w24 at n0_ n1_ n2_ n3_ ⊢
  have HO144 := n0_
  have BK139 := n1_
  have BK146 := n2_
  have HB := n3_
  clear n0_ n1_ n2_ n3_
  replace HO144 := aM (Kd.qV HO144.out)
  replace BK139 := aM (qE BK139.out)
  replace BK146 := aM (qE BK146.out)
  replace HB := aM (qx HB.out)
  refine qOB (n := 9) (S := fun w' => w'.cell? ⟨gb146, 0, none⟩ = some (.int .i64 t140) ∧ w'.cell? ⟨gb146, 1, none⟩ = some (.int .i64 t141) ∧ w'.cell? ⟨gb146, 2, none⟩ = some (.slice Ao23 t142.length co23)) (ds := []) #[false, false, false, false, false, false, false, false, false] (by kernel_rfl) rfl rfl ⟨bc BK146 0, bc BK146 1, bc BK146 2⟩ (fun hHeld => ?_); refine qSA qLA.tab2 qLA.bits2 (fun HT_ HW_ => ?_)
  generalize w24.drew = w25 at HO144 BK139 BK146 HB hHeld ⊢
  refine pS (i := 1) (N := some 14) #[false, true, false, false, false, false, false, false, false] HT_ ?_
  refine pS (i := 2) (N := some 15) #[false, true, true, false, false, false, false, false, false] HT_ ?_
  refine pure_ (i := 3) (N := some 16) (v := undef) (a' := ?_) #[false, true, true, true, false, false, false, false, false] rfl rfl (qsB HT_.out (by kernel_rfl)) (fun _ _ _ h => h) (Or.inr ⟨by rfl, rfl⟩) ?_ ?_
  rotate_left
  ·simp only [Act.put, List.setIfInBounds_toArray, List.set_cons_zero, List.set_cons_succ, i64_w, i32_w]
   rfl
  refine pure_ (i := 4) (N := some 17) (v := undef) (a' := ?_) #[false, true, true, true, true, false, false, false, false] rfl rfl (qsB HT_.out (by kernel_rfl)) (fun _ _ _ h => h) (Or.inr ⟨by rfl, rfl⟩) ?_ ?_
  rotate_left
  ·simp only [Act.put, List.setIfInBounds_toArray, List.set_cons_zero, List.set_cons_succ, i64_w, i32_w]
   rfl
  refine pure_ (i := 5) (N := some 18) (v := undef) (a' := ?_) #[false, true, true, true, true, true, false, false, false] rfl rfl (qsB HT_.out (by kernel_rfl)) (fun _ _ _ h => h) (Or.inr ⟨by rfl, rfl⟩) ?_ ?_
  rotate_left
  ·simp only [Act.put, List.setIfInBounds_toArray, List.set_cons_zero, List.set_cons_succ, i64_w, i32_w]
   rfl
  refine pS (i := 6) (N := some 19) #[false, true, true, true, true, true, true, false, false] HT_ ?_
  refine tS (i := 0) (N := some 13) #[true, true, true, true, true, true, true, false, false] HT_ HW_ hHeld ?_
  refine one_ (i := 7) (N := none) #[true, true, true, true, true, true, true, true, false] rfl rfl (qdA HT_.out (by kernel_rfl)) (by decide) (fun K hK => ?_)
  have hs26 : w25.cell? ⟨gb139, 0, none⟩ = some (.int .i64 0) := bc BK139 0
  have hfs26 := qb BK139.out 0
  have hns26_1 := NB146_139.out
  have hms26_1 := NB139_146.out
  have hs27 : w25.cell? ⟨gb139, 1, none⟩ = some (.int .i64 0) := bc BK139 1
  have hfs27 := qb BK139.out 1
  have hns27_1 := NB146_139.out
  have hms27_1 := NB139_146.out
  have hs28 : w25.cell? ⟨gb139, 2, none⟩ = some (.slice none 0 0) := bc BK139 2
  have hfs28 := qb BK139.out 2
  have hns28_1 := NB146_139.out
  have hms28_1 := NB139_146.out
  refine skip_ (w1 := ?_) (by rfl) rfl ?_ ?_
  rotate_left
  ·go_simp
   rfl
  refine hK.out _ _ ⟨((qfA (p := ⟨gb139, _, none⟩) NB146_139.out _).trans (((qfA (p := ⟨gb139, _, none⟩) NB146_139.out _).trans (((qfA (p := ⟨gb139, _, none⟩) NB146_139.out _).trans (hHeld.1)))))), ((qfA (p := ⟨gb139, _, none⟩) NB146_139.out _).trans (((qfA (p := ⟨gb139, _, none⟩) NB146_139.out _).trans (((qfA (p := ⟨gb139, _, none⟩) NB146_139.out _).trans (hHeld.2.1)))))), ((qfA (p := ⟨gb139, _, none⟩) NB146_139.out _).trans (((qfA (p := ⟨gb139, _, none⟩) NB146_139.out _).trans (((qfA (p := ⟨gb139, _, none⟩) NB146_139.out _).trans (hHeld.2.2))))))⟩ (fun hHeld => ?_)
  clear hK K
  refine pS (i := 8) (N := some 5) #[true, true, true, true, true, true, true, true, true] HT_ ?_
  refine done_ (qDB HT_.out (by kernel_rfl)) ?_
  try go_wp2
  refine bodyPost_ret (qxA rfl _ _ gb139 40 #[.int .i64 t140, .int .i64 t141, .slice Ao23 t142.length co23] (0, 0) _ rfl (by (with_reducible repeat (first | refine qH ?_ _ | refine qE ?_ | refine qG ?_ _)); exact bP3 BK139) Tryz.underlying40 rfl (by kernel_rfl)) rfl ?_
  exact ⟨_, sR, by (with_reducible repeat (first | apply Kd.qQ | apply Kd.qU | apply Kd.qV)); exact Kd.qa (Kd.R_far (p := ⟨gb139, 2, none⟩) (Kd.R_far (p := ⟨gb139, 1, none⟩) (Kd.R_far (p := ⟨gb139, 0, none⟩) (Kd.qAB HO144.out BK139.out (by decide)) (fun _ hk => hk.2) (.int .i64 t140)) (fun _ hk => hk.2) (.int .i64 t141)) (fun _ hk => hk.2) (.slice Ao23 t142.length co23)) (fun _ hk => trivial), bl⟩
theorem eqA51 (d : Nat) (w : World) (x0 y0 : Int) (x1 y1 : Int) (x2 y2 : Int) (x3 y3 : Int) (x4 y4 : Int) (x5 y5 : Int) :
  (Op.equalIn (d + 2) 51 (.agg #[.int .i64 x0, .int .i64 x1, .int .i64 x2, .int .i64 x3, .int .i64 x4, .int .i64 x5]) (.agg #[.int .i64 y0, .int .i64 y1, .int .i64 y2, .int .i64 y3, .int .i64 y4, .int .i64 y5])).run Tryz.prog w = .ok (x0 == y0 && (x1 == y1 && (x2 == y2 && (x3 == y3 && (x4 == y4 && (x5 == y5)))))) w := by
 refine eqA_of Tryz.underlying51 (by kernel_rfl) ?_
 refine qaC (by rfl) (by go_simp; rfl) (by go_simp; rfl) (by go_simp) ?_
 refine qaC (by rfl) (by go_simp; rfl) (by go_simp; rfl) (by go_simp) ?_
 refine qaC (by rfl) (by go_simp; rfl) (by go_simp; rfl) (by go_simp) ?_
 refine qaC (by rfl) (by go_simp; rfl) (by go_simp; rfl) (by go_simp) ?_
 refine qaC (by rfl) (by go_simp; rfl) (by go_simp; rfl) (by go_simp) ?_
 exact eqf_last (by rfl) (by go_simp; rfl) (by go_simp; rfl) (by go_simp)
def qsA.f  : Option (ByteArray) := some (⟨#[110, 101, 115, 119]⟩ : ByteArray)
set_option maxHeartbeats 8000000 in
set_option maxRecDepth 100000 in
theorem qsA.calls  (r : ByteArray) (w : World) (h : qsA.f  = some r) :
  Calls Tryz.prog 67 #[] w fun e w' => e = .returned (.string r) ∧ Drawn0 w w' := by
 have H : (some (⟨#[110, 101, 115, 119]⟩ : ByteArray)) = some r := h
 clear h
 obtain rfl := Option.some.inj H
 go_enter Tryz.func67, Tryz.ntmps67
 go_wp2
 go_ret
 exact ⟨by first | rfl | (simp; done) | (simp [*]; done), dR⟩
def qCB.f (a0_0 : Int) (a0_1 : Int) (a0_2 : Int) (a0_3 : Int) (a0_4 : Int) (a0_5 : Int) (a1 : Int) : Option (Int × Int × Int × Int × Int × Int) := if a1 = 0 then (some (a0_3, a0_0, a0_2, a0_5, a0_4, a0_1)) else (if a1 = 1 then (some (a0_4, a0_1, a0_0, a0_3, a0_5, a0_2)) else (if a1 = 2 then (some (a0_1, a0_5, a0_2, a0_0, a0_4, a0_3)) else (some (a0_2, a0_1, a0_5, a0_3, a0_0, a0_4))))
set_option maxHeartbeats 8000000 in
set_option maxRecDepth 100000 in
theorem qCB.calls (a0_0 : Int) (a0_1 : Int) (a0_2 : Int) (a0_3 : Int) (a0_4 : Int) (a0_5 : Int) (a1 : Int) (r1 : Int) (r2 : Int) (r3 : Int) (r4 : Int) (r5 : Int) (r6 : Int) (w : World) (h : qCB.f a0_0 a0_1 a0_2 a0_3 a0_4 a0_5 a1 = some (r1, r2, r3, r4, r5, r6)) :
  Calls Tryz.prog 82 #[.agg #[.int .i64 a0_0, .int .i64 a0_1, .int .i64 a0_2, .int .i64 a0_3, .int .i64 a0_4, .int .i64 a0_5], .int .i64 a1] w fun e w' => e = .returned (.agg #[.int .i64 r1, .int .i64 r2, .int .i64 r3, .int .i64 r4, .int .i64 r5, .int .i64 r6]) ∧ Below w.heap.size w w' := by
 have hu51 := Tryz.underlying51
 have HB := aM (Below.refl w.heap.size w)
 have H : (if a1 = 0 then (some (a0_3, a0_0, a0_2, a0_5, a0_4, a0_1)) else (if a1 = 1 then (some (a0_4, a0_1, a0_0, a0_3, a0_5, a0_2)) else (if a1 = 2 then (some (a0_1, a0_5, a0_2, a0_0, a0_4, a0_3)) else (some (a0_2, a0_1, a0_5, a0_3, a0_0, a0_4))))) = some (r1, r2, r3, r4, r5, r6) := h
 clear h
 by_cases c3 : a1 = 0
 ·rw [if_pos c3] at H
  have c3b0 := beq_iff_eq.mpr c3
  have c3b1 := bne_eq_false_iff_eq.mpr c3
  clear c3
  simp only [Option.some.injEq, Prod.mk.injEq] at H
  obtain ⟨rfl, rfl, rfl, rfl, rfl, rfl⟩ := H
  go_enter Tryz.func82, Tryz.ntmps82
  go_wp2_with (first | ((with_reducible refine qJ (N := 2) rfl ?_); refine qI ?hg (N := 2) ?hd (cs := #[.int .i64 a0_0, .int .i64 a0_1, .int .i64 a0_2, .int .i64 a0_3, .int .i64 a0_4, .int .i64 a0_5]) (t := 51) ?hr ?_; (case hd => rfl); (case hg => rfl); (case hr => exact gS); intro gb148 hg w4 hbox hb; have BK148 := aM (hbox); have GW148 := aM ((gg hg)); have GE148 := aM ((gg hg)); replace HB := aM (qB bl hb); clear hb hbox hg) | ((with_reducible refine qJ (N := 4) rfl ?_); refine qI ?hg (N := 4) ?hd (cs := #[.int .i64 0, .int .i64 0, .int .i64 0, .int .i64 0, .int .i64 0, .int .i64 0]) (t := 51) ?hr ?_; (case hd => rfl); (case hg => rfl); (case hr => exact gS); intro gb149 hg w5 hbox hb; have BK149 := aM (hbox); have GW149 := aM ((gg hg)); have GE149 := aM ((gg hg)); have NB148_149 := aM ((nl BK148 hg)); have NB149_148 := aM ((nr BK148 hg)); replace BK148 := aM (bb BK148 hb); replace HB := aM (qB bl hb); clear hb hbox hg; have hnb6 := NB148_149.out; have hnc6 := NB149_148.out; (refine cb6 BK148 ?_; intro _ _ _ _ _ _); (refine cz6 BK148 ?_; intro _ _ _ _ _ _); (refine cb6 BK149 ?_; intro _ _ _ _ _ _); (refine cz6 BK149 ?_; intro _ _ _ _ _ _)))
  refine bodyPost_ret (results_cell_row rfl _ _ gb149 51 #[.int .i64 a0_3, .int .i64 a0_0, .int .i64 a0_2, .int .i64 a0_5, .int .i64 a0_4, .int .i64 a0_1] (0, 0) _ rfl (by (with_reducible repeat (first | refine qH ?_ _ | refine qE ?_ | refine qG ?_ _)); exact bP6 BK149) Tryz.underlying51 rfl (by kernel_rfl)) rfl ?_
  exact ⟨sR, bl⟩
 ·rw [if_neg c3] at H
  have c3b0 := beq_eq_false_iff_ne.mpr c3
  have c3b1 := bne_iff_ne.mpr c3
  by_cases c9 : a1 = 1
  ·rw [if_pos c9] at H
   have c9b0 := beq_iff_eq.mpr c9
   have c9b1 := bne_eq_false_iff_eq.mpr c9
   clear c9
   simp only [Option.some.injEq, Prod.mk.injEq] at H
   obtain ⟨rfl, rfl, rfl, rfl, rfl, rfl⟩ := H
   go_enter Tryz.func82, Tryz.ntmps82
   go_wp2_with (first | ((with_reducible refine qJ (N := 2) rfl ?_); refine qI ?hg (N := 2) ?hd (cs := #[.int .i64 a0_0, .int .i64 a0_1, .int .i64 a0_2, .int .i64 a0_3, .int .i64 a0_4, .int .i64 a0_5]) (t := 51) ?hr ?_; (case hd => rfl); (case hg => rfl); (case hr => exact gS); intro gb148 hg w10 hbox hb; have BK148 := aM (hbox); have GW148 := aM ((gg hg)); have GE148 := aM ((gg hg)); replace HB := aM (qB bl hb); clear hb hbox hg) | ((with_reducible refine qJ (N := 4) rfl ?_); refine qI ?hg (N := 4) ?hd (cs := #[.int .i64 0, .int .i64 0, .int .i64 0, .int .i64 0, .int .i64 0, .int .i64 0]) (t := 51) ?hr ?_; (case hd => rfl); (case hg => rfl); (case hr => exact gS); intro gb149 hg w11 hbox hb; have BK149 := aM (hbox); have GW149 := aM ((gg hg)); have GE149 := aM ((gg hg)); have NB148_149 := aM ((nl BK148 hg)); have NB149_148 := aM ((nr BK148 hg)); replace BK148 := aM (bb BK148 hb); replace HB := aM (qB bl hb); clear hb hbox hg; have hnb12 := NB148_149.out; have hnc12 := NB149_148.out; (refine cb6 BK148 ?_; intro _ _ _ _ _ _); (refine cz6 BK148 ?_; intro _ _ _ _ _ _); (refine cb6 BK149 ?_; intro _ _ _ _ _ _); (refine cz6 BK149 ?_; intro _ _ _ _ _ _)))
   refine bodyPost_ret (results_cell_row rfl _ _ gb149 51 #[.int .i64 a0_4, .int .i64 a0_1, .int .i64 a0_0, .int .i64 a0_3, .int .i64 a0_5, .int .i64 a0_2] (0, 0) _ rfl (by (with_reducible repeat (first | refine qH ?_ _ | refine qE ?_ | refine qG ?_ _)); exact bP6 BK149) Tryz.underlying51 rfl (by kernel_rfl)) rfl ?_
   exact ⟨sR, bl⟩
  ·rw [if_neg c9] at H
   have c9b0 := beq_eq_false_iff_ne.mpr c9
   have c9b1 := bne_iff_ne.mpr c9
   by_cases c15 : a1 = 2
   ·rw [if_pos c15] at H
    have c15b0 := beq_iff_eq.mpr c15
    have c15b1 := bne_eq_false_iff_eq.mpr c15
    clear c15
    simp only [Option.some.injEq, Prod.mk.injEq] at H
    obtain ⟨rfl, rfl, rfl, rfl, rfl, rfl⟩ := H
    go_enter Tryz.func82, Tryz.ntmps82
    go_wp2_with (first | ((with_reducible refine qJ (N := 2) rfl ?_); refine qI ?hg (N := 2) ?hd (cs := #[.int .i64 a0_0, .int .i64 a0_1, .int .i64 a0_2, .int .i64 a0_3, .int .i64 a0_4, .int .i64 a0_5]) (t := 51) ?hr ?_; (case hd => rfl); (case hg => rfl); (case hr => exact gS); intro gb148 hg w16 hbox hb; have BK148 := aM (hbox); have GW148 := aM ((gg hg)); have GE148 := aM ((gg hg)); replace HB := aM (qB bl hb); clear hb hbox hg) | ((with_reducible refine qJ (N := 4) rfl ?_); refine qI ?hg (N := 4) ?hd (cs := #[.int .i64 0, .int .i64 0, .int .i64 0, .int .i64 0, .int .i64 0, .int .i64 0]) (t := 51) ?hr ?_; (case hd => rfl); (case hg => rfl); (case hr => exact gS); intro gb149 hg w17 hbox hb; have BK149 := aM (hbox); have GW149 := aM ((gg hg)); have GE149 := aM ((gg hg)); have NB148_149 := aM ((nl BK148 hg)); have NB149_148 := aM ((nr BK148 hg)); replace BK148 := aM (bb BK148 hb); replace HB := aM (qB bl hb); clear hb hbox hg; have hnb18 := NB148_149.out; have hnc18 := NB149_148.out; (refine cb6 BK148 ?_; intro _ _ _ _ _ _); (refine cz6 BK148 ?_; intro _ _ _ _ _ _); (refine cb6 BK149 ?_; intro _ _ _ _ _ _); (refine cz6 BK149 ?_; intro _ _ _ _ _ _)))
    refine bodyPost_ret (results_cell_row rfl _ _ gb149 51 #[.int .i64 a0_1, .int .i64 a0_5, .int .i64 a0_2, .int .i64 a0_0, .int .i64 a0_4, .int .i64 a0_3] (0, 0) _ rfl (by (with_reducible repeat (first | refine qH ?_ _ | refine qE ?_ | refine qG ?_ _)); exact bP6 BK149) Tryz.underlying51 rfl (by kernel_rfl)) rfl ?_
    exact ⟨sR, bl⟩
   ·rw [if_neg c15] at H
    have c15b0 := beq_eq_false_iff_ne.mpr c15
    have c15b1 := bne_iff_ne.mpr c15
    simp only [Option.some.injEq, Prod.mk.injEq] at H
    obtain ⟨rfl, rfl, rfl, rfl, rfl, rfl⟩ := H
    go_enter Tryz.func82, Tryz.ntmps82
    go_wp2_with (first | ((with_reducible refine qJ (N := 2) rfl ?_); refine qI ?hg (N := 2) ?hd (cs := #[.int .i64 a0_0, .int .i64 a0_1, .int .i64 a0_2, .int .i64 a0_3, .int .i64 a0_4, .int .i64 a0_5]) (t := 51) ?hr ?_; (case hd => rfl); (case hg => rfl); (case hr => exact gS); intro gb148 hg w21 hbox hb; have BK148 := aM (hbox); have GW148 := aM ((gg hg)); have GE148 := aM ((gg hg)); replace HB := aM (qB bl hb); clear hb hbox hg) | ((with_reducible refine qJ (N := 4) rfl ?_); refine qI ?hg (N := 4) ?hd (cs := #[.int .i64 0, .int .i64 0, .int .i64 0, .int .i64 0, .int .i64 0, .int .i64 0]) (t := 51) ?hr ?_; (case hd => rfl); (case hg => rfl); (case hr => exact gS); intro gb149 hg w22 hbox hb; have BK149 := aM (hbox); have GW149 := aM ((gg hg)); have GE149 := aM ((gg hg)); have NB148_149 := aM ((nl BK148 hg)); have NB149_148 := aM ((nr BK148 hg)); replace BK148 := aM (bb BK148 hb); replace HB := aM (qB bl hb); clear hb hbox hg; have hnb23 := NB148_149.out; have hnc23 := NB149_148.out; (refine cb6 BK148 ?_; intro _ _ _ _ _ _); (refine cz6 BK148 ?_; intro _ _ _ _ _ _); (refine cb6 BK149 ?_; intro _ _ _ _ _ _); (refine cz6 BK149 ?_; intro _ _ _ _ _ _)))
    refine bodyPost_ret (results_cell_row rfl _ _ gb149 51 #[.int .i64 a0_2, .int .i64 a0_1, .int .i64 a0_5, .int .i64 a0_3, .int .i64 a0_0, .int .i64 a0_4] (0, 0) _ rfl (by (with_reducible repeat (first | refine qH ?_ _ | refine qE ?_ | refine qG ?_ _)); exact bP6 BK149) Tryz.underlying51 rfl (by kernel_rfl)) rfl ?_
    exact ⟨sR, bl⟩
end Go.Proofs.YthhiiceligjleaaGreatDoor.P
namespace Go.Proofs.YthhiiceligjleaaGreatDoor.P
open Go.RowKit Go.Proofs.YthhiiceligjleaaGreatDoorW.PrintWords Go.Proofs.YthhiiceligjleaaGreatDoorW.PrintLast Go.Proofs.YthhiiceligjleaaGreatDoorW.PrintMore
attribute [local go_sem] ql qj qu qt qd qc qk qi
set_option linter.unusedVariables false
set_option linter.unusedSimpArgs false
attribute [local go_sem high] eqA51
mutual
def qN.l0 : Nat → List (S51) → List ByteArray → Int → Option ((List (S51)) × List ByteArray)
 | 0, _, _, _ => none
 | k + 1, x4, x5, x6 => if x6 < (x4.length : Int) then (qN.l1 k x4 x5 x6 0) else (some (x4, x5))
def qN.l1 : Nat → List (S51) → List ByteArray → Int → Int → Option ((List (S51)) × List ByteArray)
 | 0, _, _, _, _ => none
 | k + 1, x4, x5, x6, x7 => if x7 < 4 then (if 0 ≤ x6 then (if x6 < (x4.length : Int) then ((qCB.f ((qC x4 x6).f0) ((qC x4 x6).f1) ((qC x4 x6).f2) ((qC x4 x6).f3) ((qC x4 x6).f4) ((qC x4 x6).f5) x7).bind fun bt158 => (qN.l2 k x4 x5 x6 x7 false (x4.length : Int) 0 bt158.1 bt158.2.1 bt158.2.2.1 bt158.2.2.2.1 bt158.2.2.2.2.1 bt158.2.2.2.2.2)) else (none)) else (none)) else (qN.l0 k x4 x5 (wrap64 (x6 + 1)))
def qN.l2 : Nat → List (S51) → List ByteArray → Int → Int → Bool → Int → Int → Int → Int → Int → Int → Int → Int → Option ((List (S51)) × List ByteArray)
 | 0, _, _, _, _, _, _, _, _, _, _, _, _, _ => none
 | k + 1, x4, x5, x6, x7, x9, x32, x33, x165000, x165001, x165002, x165003, x165004, x165005 => if x33 < x32 then (if 0 ≤ x33 then (if x33 < (x4.length : Int) then (if x9 = true then (qN.l2 k x4 x5 x6 x7 true x32 (wrap64 (x33 + 1)) x165000 x165001 x165002 x165003 x165004 x165005) else (qN.l2 k x4 x5 x6 x7 (((qC x4 x33).f0) == x165000 && (((qC x4 x33).f1) == x165001 && (((qC x4 x33).f2) == x165002 && (((qC x4 x33).f3) == x165003 && (((qC x4 x33).f4) == x165004 && (((qC x4 x33).f5) == x165005)))))) x32 (wrap64 (x33 + 1)) x165000 x165001 x165002 x165003 x165004 x165005)) else (none)) else (none)) else (if x9 = true then (qN.l1 k x4 x5 x6 (wrap64 (x7 + 1))) else (if x4.length < 2932031007402 then (if 0 ≤ x6 then (if x6 < (x5.length : Int) then ((qsA.f).bind fun t171 => (if 0 ≤ x7 then (if x7 ≤ (wrap64 (x7 + 1)) then (if (wrap64 (x7 + 1)) ≤ (t171.size : Int) then (if (rdOf ByteArray.empty x5 x6).size + (t171.extract (x7 : Int).toNat ((wrap64 (x7 + 1)) : Int).toNat).size ≤ 9223372036854775807 then (if x5.length < 8796093022208 then (qN.l1 k (x4 ++ [(⟨x165000, x165001, x165002, x165003, x165004, x165005⟩ : S51)]) (x5 ++ [(rdOf ByteArray.empty x5 x6) ++ (t171.extract (x7 : Int).toNat ((wrap64 (x7 + 1)) : Int).toNat)]) x6 (wrap64 (x7 + 1))) else (none)) else (none)) else (none)) else (none)) else (none))) else (none)) else (none)) else (none)))
end
def qN.f (k : Nat) (a0_0 : Int) (a0_1 : Int) (a0_2 : Int) (a0_3 : Int) (a0_4 : Int) (a0_5 : Int) : Option ((List (S51)) × List ByteArray) := qN.l0 k (([(⟨a0_0, a0_1, a0_2, a0_3, a0_4, a0_5⟩ : S51)] : List (S51))) (([(⟨#[]⟩ : ByteArray)] : List ByteArray)) 0
def qN.T17 : Bool × List (List Nat × List Nat) := (true, [([], []), ([], []), ([], []), ([1, 2], [1, 2]), ([3], [3]), ([], []), ([], []), ([], []), ([7], [7]), ([5, 6, 8], [5, 6, 8]), ([4, 9], [4, 9]), ([10], [10]), ([0, 11, 5], [0, 11]), ([12, 12, 0, 1, 2, 3, 4, 5, 6, 7, 8, 9, 10, 11, 12], [0, 1, 12])])
def qN.B17 : List Nat := [0, 0, 0, 6, 14, 0, 0, 0, 128, 480, 1022, 2046, 4095, 8191]
theorem qN.tab17 : rtab .any (opsOf Tryz.f79 17) = qN.T17 := by kernel_rfl
theorem qN.bits17 : waitsOk qN.T17.2 qN.B17 = true := by kernel_rfl
set_option maxHeartbeats 8000000 in
set_option maxRecDepth 100000 in
theorem qN.calls (k : Nat) (a0_0 : Int) (a0_1 : Int) (a0_2 : Int) (a0_3 : Int) (a0_4 : Int) (a0_5 : Int) (r1 : List (S51)) (r2 : List ByteArray) (w : World) (h : qN.f k a0_0 a0_1 a0_2 a0_3 a0_4 a0_5 = some (r1, r2)) :
  Calls Tryz.prog 79 #[.agg #[.int .i64 a0_0, .int .i64 a0_1, .int .i64 a0_2, .int .i64 a0_3, .int .i64 a0_4, .int .i64 a0_5]] w fun e w' => ∃ v0_ v1_ : Value, e = .returned (.tuple #[v0_, v1_]) ∧ Kd.R k51 51 w' w.heap.size (fun _ => True) v0_ r1 ∧ Kd.R Kd.string 9 w' w.heap.size (fun _ => True) v1_ r2 ∧ Below w.heap.size w w' := by
 have hu51 := Tryz.underlying51
 have HB := aM (Below.refl w.heap.size w)
 have H : (qN.l0 k (([(⟨a0_0, a0_1, a0_2, a0_3, a0_4, a0_5⟩ : S51)] : List (S51))) (([(⟨#[]⟩ : ByteArray)] : List ByteArray)) 0) = some (r1, r2) := h
 clear h
 obtain ⟨y151, hy151⟩ : ∃ y_ : List (S51), y_ = (([(⟨a0_0, a0_1, a0_2, a0_3, a0_4, a0_5⟩ : S51)] : List (S51))) := ⟨_, rfl⟩
 replace H : (qN.l0 k y151 (([(⟨#[]⟩ : ByteArray)] : List ByteArray)) 0) = some (r1, r2) := by first | (rw [hy151]; with_reducible exact H) | (have H2_ := (Option.bind_some _ _).symm.trans H; rw [hy151]; with_reducible exact H2_) | (have H2_ := (Option.bind_some _ _).symm.trans H; with_reducible exact H2_) | with_reducible exact H | (rw [hy151]; exact H) | exact H
 have Ny151 := aM hy151
 clear hy151
 obtain ⟨y154, hy154⟩ : ∃ y_ : List ByteArray, y_ = (([(⟨#[]⟩ : ByteArray)] : List ByteArray)) := ⟨_, rfl⟩
 replace H : (qN.l0 k y151 y154 0) = some (r1, r2) := by first | (rw [hy154]; with_reducible exact H) | (have H2_ := (Option.bind_some _ _).symm.trans H; rw [hy154]; with_reducible exact H2_) | (have H2_ := (Option.bind_some _ _).symm.trans H; with_reducible exact H2_) | with_reducible exact H | (rw [hy154]; exact H) | exact H
 have Ny154 := aM hy154
 clear hy154
 have H' := aM H
 clear H
 go_enter Tryz.func79, Tryz.ntmps79
 go_wp2_with (first | ((with_reducible refine qJ (N := 1) rfl ?_); refine qI ?hg (N := 1) ?hd (cs := #[.int .i64 a0_0, .int .i64 a0_1, .int .i64 a0_2, .int .i64 a0_3, .int .i64 a0_4, .int .i64 a0_5]) (t := 51) ?hr ?_; (case hd => rfl); (case hg => rfl); (case hr => exact gS); intro gb150 hg w2 hbox hb; have BK150 := aM (hbox); have GW150 := aM ((gg hg)); have GE150 := aM ((gg hg)); replace HB := aM (qB bl hb); clear hb hbox hg; (refine cb6 BK150 ?_; intro hcz3_0 hcz3_1 hcz3_2 hcz3_3 hcz3_4 hcz3_5); (refine cz6 BK150 ?_; intro hfz3_0 hfz3_1 hfz3_2 hfz3_3 hfz3_4 hfz3_5)) | ((with_reducible refine qJ (N := 13) rfl ?_); refine Kd.R_lit k51 _ 51 ?hg (N := 13) ?hd (xs := ([(⟨a0_0, a0_1, a0_2, a0_3, a0_4, a0_5⟩ : S51)] : List (S51))) (inner := [.int .i64 a0_0, .int .i64 a0_1, .int .i64 a0_2, .int .i64 a0_3, .int .i64 a0_4, .int .i64 a0_5]) (ok := fun _ => True) (okp := fun _ => True) ?hr ?hp (fun _ hk => hk) trivial (Below.refl _ _) (Nat.le_refl _) (by simp) ?_; (case hd => rfl); (case hg => rfl); (case hr => exact gS); (case hp => exact (Reps.c6 (show Kd.M k51 _ _ _ (⟨a0_0, a0_1, a0_2, a0_3, a0_4, a0_5⟩ : S51) [.int .i64 a0_0, .int .i64 a0_1, .int .i64 a0_2, .int .i64 a0_3, .int .i64 a0_4, .int .i64 a0_5] from (qZC _ _ _ (⟨a0_0, a0_1, a0_2, a0_3, a0_4, a0_5⟩ : S51) )) (Reps.none _ _))); intro v152 w4 ho5 hb hg_ hnew_; clear hg_ hnew_; (first | rw [← Ny151.out] at ho5 | (simp only [Int.reduceToNat] at ho5; rw [← Ny151.out] at ho5)); have HO153 := aM (Kd.qAA (Kd.qXB ho5 (rB BK150)) (qL bl)); replace BK150 := aM (bb BK150 hb); replace HB := aM (qB bl hb); clear hb ho5) | ((with_reducible refine qJ (N := 14) rfl ?_); refine Kd.R_lit Kd.string _ 9 ?hg (N := 14) ?hd (xs := ([(⟨#[]⟩ : ByteArray)] : List ByteArray)) (inner := [.string (⟨#[]⟩ : ByteArray)]) (ok := fun _ => True) (okp := fun _ => True) ?hr ?hp (fun _ hk => hk) trivial (Below.refl _ _) (Nat.le_refl _) (by simp) ?_; (case hd => rfl); (case hg => rfl); (case hr => exact gS); (case hp => exact (Reps.one (show Kd.M Kd.string _ _ _ (⟨#[]⟩ : ByteArray) [.string (⟨#[]⟩ : ByteArray)] from rfl) (Reps.none _ _))); intro v155 w6 ho7 hb hg_ hnew_; clear hg_ hnew_; (first | rw [← Ny154.out] at ho7 | (simp only [Int.reduceToNat] at ho7; rw [← Ny154.out] at ho7)); have HO156 := aM (Kd.qAA ho7 (qL bl)); replace HO153 := aM (Kd.qZ (rR HO153) hb); replace BK150 := aM (bb BK150 hb); replace HB := aM (qB bl hb); clear hb ho7))
 go_loopg [4, 5, 6] k (fun kq v4 v5 v6 w' => ∃ (x4_1 : List (S51)) (x5_1 : List ByteArray) (x6_1 : Int), v6 = .int .i64 x6_1 ∧ Aside0 (qN.l0 kq x4_1 x5_1 x6_1 = some (r1, r2)) ∧ Aside0 (kq ≤ k) ∧ Aside0 (Kd.R k51 51 w' w.heap.size (fun k_ => k_ ≠ gb150) v4 x4_1) ∧ Aside0 (Kd.R Kd.string 9 w' w.heap.size (fun _ => True) v5 x5_1) ∧ Aside0 (w'.heap[gb150]? = some (.cells #[.int .i64 a0_0, .int .i64 a0_1, .int .i64 a0_2, .int .i64 a0_3, .int .i64 a0_4, .int .i64 a0_5] 51 (0, 0))) ∧ Aside0 (Below w.heap.size w w'))
 case atStart => exact ⟨(y151), (y154), (0), sD, H', ⟨Nat.le_refl _⟩, ⟨by (with_reducible repeat (first | apply Kd.qQ | apply Kd.qU | apply Kd.qV)); exact Kd.qa HO153.out (fun _ hk => hk.2)⟩, ⟨rR HO156⟩, ⟨rB BK150⟩, ⟨bl⟩⟩
 case round =>
  clear H'; (try clear p2); (try clear c6); (try clear c7); (try clear hcz3_0); (try clear hcz3_1); (try clear hcz3_2); (try clear hcz3_3); (try clear hcz3_4); (try clear hcz3_5); (try clear hfz3_0); (try clear hfz3_1); (try clear hfz3_2); (try clear hfz3_3); (try clear hfz3_4); (try clear hfz3_5)
  obtain ⟨x4_1, x5_1, x6_1, rfl, HA, HK1, HO_4, HO_5, BK150, HB⟩ := hrel
  cases gk with
  | zero => exact absurd HA.out (by simp [qN.l0])
  | succ k1 =>
   have H := HA.out
   clear HA
   simp only [qN.l0] at H
   by_cases c8 : x6_1 < (x4_1.length : Int)
   ·rw [if_pos c8] at H
    have c8b0 := decide_eq_true c8
    clear c8
    have H' := aM H
    clear H
    obtain ⟨Ao9, co9, eo9⟩ := Kd.qFA HO_4.out
    subst eo9
    go_wp2
    go_loopg [4, 5, 7] k1 (fun kq v4 v5 v7 w' => ∃ (x4_2 : List (S51)) (x5_2 : List ByteArray) (x7_2 : Int), v7 = .int .i64 x7_2 ∧ Aside0 (qN.l1 kq x4_2 x5_2 x6_1 x7_2 = some (r1, r2)) ∧ Aside0 (kq ≤ k1) ∧ Aside0 (Kd.R k51 51 w' w.heap.size (fun k_ => k_ ≠ gb150) v4 x4_2) ∧ Aside0 (Kd.R Kd.string 9 w' w.heap.size (fun _ => True) v5 x5_2) ∧ Aside0 (w'.heap[gb150]? = some (.cells #[.int .i64 a0_0, .int .i64 a0_1, .int .i64 a0_2, .int .i64 a0_3, .int .i64 a0_4, .int .i64 a0_5] 51 (0, 0))) ∧ Aside0 (Below w.heap.size w w'))
    case atStart => exact ⟨(x4_1), (x5_1), (0), sD, H', ⟨Nat.le_refl _⟩, ⟨rR HO_4⟩, ⟨rR HO_5⟩, ⟨rB BK150⟩, ⟨bl⟩⟩
    case round =>
     clear H'; (try clear p2); (try clear c6); (try clear c7); (try clear c8); (try clear c8b0); (try clear hcz3_0); (try clear hcz3_1); (try clear hcz3_2); (try clear hcz3_3); (try clear hcz3_4); (try clear hcz3_5); (try clear hfz3_0); (try clear hfz3_1); (try clear hfz3_2); (try clear hfz3_3); (try clear hfz3_4); (try clear hfz3_5); (try clear p2)
     obtain ⟨x4_2, x5_2, x7_2, rfl, HA, HK2, HO_4, HO_5, BK150, HB⟩ := hrel
     cases gk with
     | zero => exact absurd HA.out (by simp [qN.l1])
     | succ k2 =>
      have H := HA.out
      clear HA
      simp only [qN.l1] at H
      by_cases c10 : x7_2 < 4
      ·rw [if_pos c10] at H
       have c10b0 := decide_eq_true c10
       clear c10
       by_cases c11 : 0 ≤ x6_1
       ·rw [if_pos c11] at H
        have c11b0 := decide_eq_true c11
        clear c11
        by_cases c12 : x6_1 < (x4_2.length : Int)
        ·rw [if_pos c12] at H
         have c12b0 := decide_eq_true c12
         clear c12
         replace H := bO H
         obtain ⟨⟨t158, t159, t160, t161, t162, t163⟩, A13, H⟩ := H
         dsimp only at H A13
         have H' := aM H
         clear H
         obtain ⟨Ao14, co14, eo14⟩ := Kd.qFA HO_4.out
         subst eo14
         have p157 : 0 ≤ (x6_1 : Int) := of_decide_eq_true am
         have q157 : x6_1 < (x4_2.length : Int) := of_decide_eq_true am
         obtain ⟨ad157, e157, hx157_0, hx157_1, hx157_2, hx157_3, hx157_4, hx157_5⟩ := qpD (Kd.qM HO_4.out).2.2 x6_1 p157 q157
         cases e157
         replace p157 := eq_true p157
         replace q157 := eq_true q157
         go_wp2_with (first | ((with_reducible refine qF (f := 82) rfl ?_); refine qn (some 30) rfl rfl Tryz.func82 (by kernel_rfl) rfl #[.agg #[.int .i64 ((qC x4_2 x6_1).f0), .int .i64 ((qC x4_2 x6_1).f1), .int .i64 ((qC x4_2 x6_1).f2), .int .i64 ((qC x4_2 x6_1).f3), .int .i64 ((qC x4_2 x6_1).f4), .int .i64 ((qC x4_2 x6_1).f5)], .int .i64 x7_2] rfl gA ?_; (with_reducible refine (qCB.calls ((qC x4_2 x6_1).f0) ((qC x4_2 x6_1).f1) ((qC x4_2 x6_1).f2) ((qC x4_2 x6_1).f3) ((qC x4_2 x6_1).f4) ((qC x4_2 x6_1).f5) x7_2 t158 t159 t160 t161 t162 t163 _ A13.out).mono ?_); rintro e w15 ⟨rfl, hb⟩; refine ⟨_, rfl, ?_⟩; replace HO_4 := aM (Kd.qZ (rR HO_4) hb); replace HO_5 := aM (Kd.qZ (rR HO_5) hb); replace BK150 := aM (bb BK150 hb); replace HB := aM (qB bl hb); (try clear hb); (try clear hb2); (try clear hk); (try clear hi)) | ((with_reducible refine qJ (N := 8) rfl ?_); refine qI ?hg (N := 8) ?hd (cs := #[.int .i64 0, .int .i64 0, .int .i64 0, .int .i64 0, .int .i64 0, .int .i64 0]) (t := 51) ?hr ?_; (case hd => rfl); (case hg => rfl); (case hr => exact gS); intro gb164 hg w16 hbox hb; have BK164 := aM (hbox); have GW164 := aM ((gg hg)); have GE164 := aM ((gg hg)); have NB150_164 := aM ((nl BK150 hg)); have NB164_150 := aM ((nr BK150 hg)); replace HO_4 := aM (Kd.qZ (Kd.qwC (rR HO_4) gb164 (Nat.le_of_eq hg.symm)) hb); replace HO_5 := aM (Kd.qZ (rR HO_5) hb); replace BK150 := aM (bb BK150 hb); replace HB := aM (qB bl hb); clear hb hbox hg; have hnb17 := NB164_150.out; have hnc17 := NB150_164.out; (refine cb6 BK164 ?_; intro hcz18_0 hcz18_1 hcz18_2 hcz18_3 hcz18_4 hcz18_5); (refine cz6 BK164 ?_; intro hfz18_0 hfz18_1 hfz18_2 hfz18_3 hfz18_4 hfz18_5)))
         go_loopg [9, 33] k2 (fun kq v9 v33 w' => ∃ (x9_3 : Bool) (x33_3 : Int), v9 = .bool x9_3 ∧ v33 = .int .i64 x33_3 ∧ Aside0 (qN.l2 kq x4_2 x5_2 x6_1 x7_2 x9_3 (x4_2.length : Int) x33_3 t158 t159 t160 t161 t162 t163 = some (r1, r2)) ∧ Aside0 (kq ≤ k2) ∧ Aside0 (Kd.R k51 51 w' w.heap.size (fun k_ => k_ ≠ gb150 ∧ k_ ≠ gb164) (.slice (some ad157) x4_2.length co14) x4_2) ∧ Aside0 (Kd.R Kd.string 9 w' w.heap.size (fun _ => True) u5 x5_2) ∧ Aside0 (w'.heap[gb150]? = some (.cells #[.int .i64 a0_0, .int .i64 a0_1, .int .i64 a0_2, .int .i64 a0_3, .int .i64 a0_4, .int .i64 a0_5] 51 (0, 0))) ∧ Aside0 (w'.heap[gb164]? = some (.cells #[.int .i64 t158, .int .i64 t159, .int .i64 t160, .int .i64 t161, .int .i64 t162, .int .i64 t163] 51 (0, 0))) ∧ Aside0 (Below w.heap.size w w'))
         case atStart => exact ⟨(false), (0), sD, sD, H', ⟨Nat.le_refl _⟩, ⟨by (with_reducible repeat (first | apply Kd.qQ | apply Kd.qU | apply Kd.qV)); exact Kd.qa (Kd.R_far (p := ⟨gb164, 5, none⟩) (Kd.R_far (p := ⟨gb164, 4, none⟩) (Kd.R_far (p := ⟨gb164, 3, none⟩) (Kd.R_far (p := ⟨gb164, 2, none⟩) (Kd.R_far (p := ⟨gb164, 1, none⟩) (Kd.R_far (p := ⟨gb164, 0, none⟩) (Kd.qa HO_4.out (fun k_ hk => (⟨hk, hk.2⟩ : _ ∧ k_ ≠ gb164))) (fun _ hk => hk.2) (.int .i64 t158)) (fun _ hk => hk.2) (.int .i64 t159)) (fun _ hk => hk.2) (.int .i64 t160)) (fun _ hk => hk.2) (.int .i64 t161)) (fun _ hk => hk.2) (.int .i64 t162)) (fun _ hk => hk.2) (.int .i64 t163)) (fun _ hk => ⟨hk.1.1, hk.1.2⟩)⟩, ⟨by (with_reducible repeat (first | apply Kd.qQ | apply Kd.qU | apply Kd.qV)); exact Kd.qa (Kd.R_far (p := ⟨gb164, 5, none⟩) (Kd.R_far (p := ⟨gb164, 4, none⟩) (Kd.R_far (p := ⟨gb164, 3, none⟩) (Kd.R_far (p := ⟨gb164, 2, none⟩) (Kd.R_far (p := ⟨gb164, 1, none⟩) (Kd.R_far (p := ⟨gb164, 0, none⟩) (Kd.qAB HO_5.out BK164.out (by decide)) (fun _ hk => hk.2) (.int .i64 t158)) (fun _ hk => hk.2) (.int .i64 t159)) (fun _ hk => hk.2) (.int .i64 t160)) (fun _ hk => hk.2) (.int .i64 t161)) (fun _ hk => hk.2) (.int .i64 t162)) (fun _ hk => hk.2) (.int .i64 t163)) (fun _ hk => trivial)⟩, ⟨bF BK150 NB150_164⟩, ⟨by (with_reducible repeat (first | refine qH ?_ _ | refine qE ?_ | refine qG ?_ _)); exact bP6 BK164⟩, ⟨bl⟩⟩
         case round =>
          clear H'; (try clear c1); (try clear p1); (try clear q1); (try clear hx1); (try clear p2); (try clear c6); (try clear c7); (try clear c8); (try clear c8b0); (try clear c10); (try clear c10b0); (try clear c11); (try clear c11b0); (try clear c12); (try clear c12b0); (try clear p15); (try clear q15); (try clear hx15); (try clear c17); (try clear hcz18_0); (try clear hcz18_1); (try clear hcz18_2); (try clear hcz18_3); (try clear hcz18_4); (try clear hcz18_5); (try clear hcz3_0); (try clear hcz3_1); (try clear hcz3_2); (try clear hcz3_3); (try clear hcz3_4); (try clear hcz3_5); (try clear hfz18_0); (try clear hfz18_1); (try clear hfz18_2); (try clear hfz18_3); (try clear hfz18_4); (try clear hfz18_5); (try clear hfz3_0); (try clear hfz3_1); (try clear hfz3_2); (try clear hfz3_3); (try clear hfz3_4); (try clear hfz3_5); (try clear hx157_0); (try clear hx157_1); (try clear hx157_2); (try clear hx157_3); (try clear hx157_4); (try clear hx157_5); (try clear p157); (try clear p2); (try clear q157)
          obtain ⟨x9_3, x33_3, rfl, rfl, HA, HK3, HO_4, HO_5, BK150, BK164, HB⟩ := hrel
          cases gk with
          | zero => exact absurd HA.out (by simp [qN.l2])
          | succ k3 =>
           have H := HA.out
           clear HA
           simp only [qN.l2] at H
           by_cases c19 : x33_3 < (x4_2.length : Int)
           ·rw [if_pos c19] at H
            have c19b0 := decide_eq_true c19
            clear c19
            by_cases c20 : 0 ≤ x33_3
            ·rw [if_pos c20] at H
             have c20b0 := decide_eq_true c20
             clear c20
             by_cases c21 : x33_3 < (x4_2.length : Int)
             ·rw [if_pos c21] at H
              have c21b0 := decide_eq_true c21
              clear c21
              by_cases c22 : x9_3 = true
              ·subst c22
               replace H := iT H
               have H' := aM H
               clear H
               have p165 : 0 ≤ (x33_3 : Int) := of_decide_eq_true am
               have q165 : x33_3 < (x4_2.length : Int) := of_decide_eq_true am
               obtain ⟨ad165, e165, hx165_0, hx165_1, hx165_2, hx165_3, hx165_4, hx165_5⟩ := qpD (Kd.qM HO_4.out).2.2 x33_3 p165 q165
               obtain rfl : ad157 = ad165 := (by injection e165)
               replace p165 := eq_true p165
               replace q165 := eq_true q165
               go_wp2_with (first | ((with_reducible refine qJ (N := 11) rfl ?_); refine qI ?hg (N := 11) ?hd (cs := #[.int .i64 0, .int .i64 0, .int .i64 0, .int .i64 0, .int .i64 0, .int .i64 0]) (t := 51) ?hr ?_; (case hd => rfl); (case hg => rfl); (case hr => exact gS); intro gb166 hg w23 hbox hb; have BK166 := aM (hbox); have GW166 := aM ((gg hg)); have GE166 := aM ((gg hg)); have NB150_166 := aM ((nl BK150 hg)); have NB166_150 := aM ((nr BK150 hg)); have NB164_166 := aM ((nl BK164 hg)); have NB166_164 := aM ((nr BK164 hg)); replace HO_4 := aM (Kd.qZ (Kd.qwC (rR HO_4) gb166 (Nat.le_of_eq hg.symm)) hb); replace HO_5 := aM (Kd.qZ (rR HO_5) hb); replace BK150 := aM (bb BK150 hb); replace BK164 := aM (bb BK164 hb); replace HB := aM (qB bl hb); clear hb hbox hg; have hnb24 := NB166_150.out; have hnc24 := NB150_166.out; have hnb25 := NB166_164.out; have hnc25 := NB164_166.out; (refine cb6 BK166 ?_; intro _ _ _ _ _ _); (refine cz6 BK166 ?_; intro _ _ _ _ _ _)))
               go_roundg k3
               case measure => have := HK1.out; have := HK2.out; have := HK3.out; omega
               case rel => exact ⟨(true), (wrap64 (x33_3 + 1)), sD, sD, H', ⟨by have := HK1.out; have := HK2.out; have := HK3.out; omega⟩, ⟨by (with_reducible repeat (first | apply Kd.qQ | apply Kd.qU | apply Kd.qV)); exact Kd.qa (Kd.R_far (p := ⟨gb166, 5, none⟩) (Kd.R_far (p := ⟨gb166, 4, none⟩) (Kd.R_far (p := ⟨gb166, 3, none⟩) (Kd.R_far (p := ⟨gb166, 2, none⟩) (Kd.R_far (p := ⟨gb166, 1, none⟩) (Kd.R_far (p := ⟨gb166, 0, none⟩) (Kd.qa HO_4.out (fun k_ hk => (⟨hk, hk.2⟩ : _ ∧ k_ ≠ gb166))) (fun _ hk => hk.2) (.int .i64 ((qC x4_2 x33_3).f0))) (fun _ hk => hk.2) (.int .i64 ((qC x4_2 x33_3).f1))) (fun _ hk => hk.2) (.int .i64 ((qC x4_2 x33_3).f2))) (fun _ hk => hk.2) (.int .i64 ((qC x4_2 x33_3).f3))) (fun _ hk => hk.2) (.int .i64 ((qC x4_2 x33_3).f4))) (fun _ hk => hk.2) (.int .i64 ((qC x4_2 x33_3).f5))) (fun _ hk => ⟨hk.1.1.1, hk.1.1.2⟩)⟩, ⟨by (with_reducible repeat (first | apply Kd.qQ | apply Kd.qU | apply Kd.qV)); exact Kd.qa (Kd.R_far (p := ⟨gb166, 5, none⟩) (Kd.R_far (p := ⟨gb166, 4, none⟩) (Kd.R_far (p := ⟨gb166, 3, none⟩) (Kd.R_far (p := ⟨gb166, 2, none⟩) (Kd.R_far (p := ⟨gb166, 1, none⟩) (Kd.R_far (p := ⟨gb166, 0, none⟩) (Kd.qAB HO_5.out BK166.out (by decide)) (fun _ hk => hk.2) (.int .i64 ((qC x4_2 x33_3).f0))) (fun _ hk => hk.2) (.int .i64 ((qC x4_2 x33_3).f1))) (fun _ hk => hk.2) (.int .i64 ((qC x4_2 x33_3).f2))) (fun _ hk => hk.2) (.int .i64 ((qC x4_2 x33_3).f3))) (fun _ hk => hk.2) (.int .i64 ((qC x4_2 x33_3).f4))) (fun _ hk => hk.2) (.int .i64 ((qC x4_2 x33_3).f5))) (fun _ hk => trivial)⟩, ⟨bF BK150 NB150_166⟩, ⟨bF BK164 NB164_166⟩, ⟨bl⟩⟩
              ·replace c22 := Bool.eq_false_iff.mpr c22
               subst c22
               replace H := iF H
               have H' := aM H
               clear H
               have p165 : 0 ≤ (x33_3 : Int) := of_decide_eq_true am
               have q165 : x33_3 < (x4_2.length : Int) := of_decide_eq_true am
               obtain ⟨ad165, e165, hx165_0, hx165_1, hx165_2, hx165_3, hx165_4, hx165_5⟩ := qpD (Kd.qM HO_4.out).2.2 x33_3 p165 q165
               obtain rfl : ad157 = ad165 := (by injection e165)
               replace p165 := eq_true p165
               replace q165 := eq_true q165
               go_wp2_with (first | ((with_reducible refine qJ (N := 11) rfl ?_); refine qI ?hg (N := 11) ?hd (cs := #[.int .i64 0, .int .i64 0, .int .i64 0, .int .i64 0, .int .i64 0, .int .i64 0]) (t := 51) ?hr ?_; (case hd => rfl); (case hg => rfl); (case hr => exact gS); intro gb166 hg w27 hbox hb; have BK166 := aM (hbox); have GW166 := aM ((gg hg)); have GE166 := aM ((gg hg)); have NB150_166 := aM ((nl BK150 hg)); have NB166_150 := aM ((nr BK150 hg)); have NB164_166 := aM ((nl BK164 hg)); have NB166_164 := aM ((nr BK164 hg)); replace HO_4 := aM (Kd.qZ (Kd.qwC (rR HO_4) gb166 (Nat.le_of_eq hg.symm)) hb); replace HO_5 := aM (Kd.qZ (rR HO_5) hb); replace BK150 := aM (bb BK150 hb); replace BK164 := aM (bb BK164 hb); replace HB := aM (qB bl hb); clear hb hbox hg; have hnb28 := NB166_150.out; have hnc28 := NB150_166.out; have hnb29 := NB166_164.out; have hnc29 := NB164_166.out; (refine cb6 BK166 ?_; intro _ _ _ _ _ _); (refine cz6 BK166 ?_; intro _ _ _ _ _ _); have hnb31 := NB164_150.out; have hnc31 := NB150_164.out; (refine cb6 BK164 ?_; intro _ _ _ _ _ _); (refine cz6 BK164 ?_; intro _ _ _ _ _ _)))
               go_roundg k3
               case measure => have := HK1.out; have := HK2.out; have := HK3.out; omega
               case rel => exact ⟨((((qC x4_2 x33_3).f0) == t158 && (((qC x4_2 x33_3).f1) == t159 && (((qC x4_2 x33_3).f2) == t160 && (((qC x4_2 x33_3).f3) == t161 && (((qC x4_2 x33_3).f4) == t162 && (((qC x4_2 x33_3).f5) == t163))))))), (wrap64 (x33_3 + 1)), sD, sD, H', ⟨by have := HK1.out; have := HK2.out; have := HK3.out; omega⟩, ⟨by (with_reducible repeat (first | apply Kd.qQ | apply Kd.qU | apply Kd.qV)); exact Kd.qa (Kd.R_far (p := ⟨gb166, 5, none⟩) (Kd.R_far (p := ⟨gb166, 4, none⟩) (Kd.R_far (p := ⟨gb166, 3, none⟩) (Kd.R_far (p := ⟨gb166, 2, none⟩) (Kd.R_far (p := ⟨gb166, 1, none⟩) (Kd.R_far (p := ⟨gb166, 0, none⟩) (Kd.qa HO_4.out (fun k_ hk => (⟨hk, hk.2⟩ : _ ∧ k_ ≠ gb166))) (fun _ hk => hk.2) (.int .i64 ((qC x4_2 x33_3).f0))) (fun _ hk => hk.2) (.int .i64 ((qC x4_2 x33_3).f1))) (fun _ hk => hk.2) (.int .i64 ((qC x4_2 x33_3).f2))) (fun _ hk => hk.2) (.int .i64 ((qC x4_2 x33_3).f3))) (fun _ hk => hk.2) (.int .i64 ((qC x4_2 x33_3).f4))) (fun _ hk => hk.2) (.int .i64 ((qC x4_2 x33_3).f5))) (fun _ hk => ⟨hk.1.1.1, hk.1.1.2⟩)⟩, ⟨by (with_reducible repeat (first | apply Kd.qQ | apply Kd.qU | apply Kd.qV)); exact Kd.qa (Kd.R_far (p := ⟨gb166, 5, none⟩) (Kd.R_far (p := ⟨gb166, 4, none⟩) (Kd.R_far (p := ⟨gb166, 3, none⟩) (Kd.R_far (p := ⟨gb166, 2, none⟩) (Kd.R_far (p := ⟨gb166, 1, none⟩) (Kd.R_far (p := ⟨gb166, 0, none⟩) (Kd.qAB HO_5.out BK166.out (by decide)) (fun _ hk => hk.2) (.int .i64 ((qC x4_2 x33_3).f0))) (fun _ hk => hk.2) (.int .i64 ((qC x4_2 x33_3).f1))) (fun _ hk => hk.2) (.int .i64 ((qC x4_2 x33_3).f2))) (fun _ hk => hk.2) (.int .i64 ((qC x4_2 x33_3).f3))) (fun _ hk => hk.2) (.int .i64 ((qC x4_2 x33_3).f4))) (fun _ hk => hk.2) (.int .i64 ((qC x4_2 x33_3).f5))) (fun _ hk => trivial)⟩, ⟨bF BK150 NB150_166⟩, ⟨bF BK164 NB164_166⟩, ⟨bl⟩⟩
             ·rw [if_neg c21] at H
              exact absurd H (by simp)
            ·rw [if_neg c20] at H
             exact absurd H (by simp)
           ·rw [if_neg c19] at H
            have c19b0 := decide_eq_false c19
            clear c19
            by_cases c33 : x9_3 = true
            ·subst c33
             replace H := iT H
             have H' := aM H
             clear H
             go_wp2
             go_roundg k3
             case measure => have := HK1.out; have := HK2.out; have := HK3.out; omega
             case rel => exact ⟨(x4_2), (x5_2), (wrap64 (x7_2 + 1)), sD, H', ⟨by have := HK1.out; have := HK2.out; have := HK3.out; omega⟩, ⟨by (with_reducible repeat (first | apply Kd.qQ | apply Kd.qU | apply Kd.qV)); exact Kd.qa HO_4.out (fun _ hk => hk.1)⟩, ⟨rR HO_5⟩, ⟨rB BK150⟩, ⟨bl⟩⟩
            ·replace c33 := Bool.eq_false_iff.mpr c33
             subst c33
             replace H := iF H
             by_cases c34 : x4_2.length < 2932031007402
             ·rw [if_pos c34] at H
              have LMc34 := aM c34
              clear c34
              obtain ⟨y167, hy167⟩ : ∃ y_ : List (S51), y_ = (x4_2 ++ [(⟨t158, t159, t160, t161, t162, t163⟩ : S51)]) := ⟨_, rfl⟩
              replace H : (if 0 ≤ x6_1 then (if x6_1 < (x5_2.length : Int) then ((qsA.f).bind fun t171 => (if 0 ≤ x7_2 then (if x7_2 ≤ (wrap64 (x7_2 + 1)) then (if (wrap64 (x7_2 + 1)) ≤ (t171.size : Int) then (if (rdOf ByteArray.empty x5_2 x6_1).size + (t171.extract (x7_2 : Int).toNat ((wrap64 (x7_2 + 1)) : Int).toNat).size ≤ 9223372036854775807 then (if x5_2.length < 8796093022208 then (qN.l1 k3 y167 (x5_2 ++ [(rdOf ByteArray.empty x5_2 x6_1) ++ (t171.extract (x7_2 : Int).toNat ((wrap64 (x7_2 + 1)) : Int).toNat)]) x6_1 (wrap64 (x7_2 + 1))) else (none)) else (none)) else (none)) else (none)) else (none))) else (none)) else (none)) = some (r1, r2) := by first | (rw [hy167]; with_reducible exact H) | (have H2_ := (Option.bind_some _ _).symm.trans H; rw [hy167]; with_reducible exact H2_) | (have H2_ := (Option.bind_some _ _).symm.trans H; with_reducible exact H2_) | with_reducible exact H | (rw [hy167]; exact H) | exact H
              have Ny167 := aM hy167
              clear hy167
              by_cases c35 : 0 ≤ x6_1
              ·rw [if_pos c35] at H
               have c35b0 := decide_eq_true c35
               clear c35
               by_cases c36 : x6_1 < (x5_2.length : Int)
               ·rw [if_pos c36] at H
                have c36b0 := decide_eq_true c36
                clear c36
                replace H := bO H
                obtain ⟨t171, A37, H⟩ := H
                by_cases c38 : 0 ≤ x7_2
                ·rw [if_pos c38] at H
                 have c38b0 := eq_true c38
                 have c38b1 := decide_eq_true c38
                 clear c38
                 by_cases c39 : x7_2 ≤ (wrap64 (x7_2 + 1))
                 ·rw [if_pos c39] at H
                  have c39b0 := eq_true c39
                  have c39b1 := decide_eq_true c39
                  by_cases c40 : (wrap64 (x7_2 + 1)) ≤ (t171.size : Int)
                  ·rw [if_pos c40] at H
                   have c40b0 := eq_true c40
                   have c40b1 := decide_eq_true c40
                   by_cases c41 : (rdOf ByteArray.empty x5_2 x6_1).size + (t171.extract (x7_2 : Int).toNat ((wrap64 (x7_2 + 1)) : Int).toNat).size ≤ 9223372036854775807
                   ·rw [if_pos c41] at H
                    have c41b0 := eq_true c41
                    have c41b1 := decide_eq_true c41
                    try have c41b2 : (9223372036854775807 < (rdOf ByteArray.empty x5_2 x6_1).size + (t171.extract (x7_2 : Int).toNat ((wrap64 (x7_2 + 1)) : Int).toNat).size) = False := eq_false (Nat.not_lt.2 c41)
                    by_cases c42 : x5_2.length < 8796093022208
                    ·rw [if_pos c42] at H
                     have LMc42 := aM c42
                     clear c42
                     obtain ⟨y172, hy172⟩ : ∃ y_ : List ByteArray, y_ = (x5_2 ++ [(rdOf ByteArray.empty x5_2 x6_1) ++ (t171.extract (x7_2 : Int).toNat ((wrap64 (x7_2 + 1)) : Int).toNat)]) := ⟨_, rfl⟩
                     replace H : (qN.l1 k3 y167 y172 x6_1 (wrap64 (x7_2 + 1))) = some (r1, r2) := by first | (rw [hy172]; with_reducible exact H) | (have H2_ := (Option.bind_some _ _).symm.trans H; rw [hy172]; with_reducible exact H2_) | (have H2_ := (Option.bind_some _ _).symm.trans H; with_reducible exact H2_) | with_reducible exact H | (rw [hy172]; exact H) | exact H
                     have Ny172 := aM hy172
                     clear hy172
                     have H' := aM H
                     clear H
                     have hnb43 := NB164_150.out
                     have hnc43 := NB150_164.out
                     (refine cb6 BK164 ?_; intro _ _ _ _ _ _)
                     (refine cz6 BK164 ?_; intro _ _ _ _ _ _)
                     try go_wp2_with (first | ((with_reducible refine qBB (b := .append) (xs := #[.tmp 46, .tmp 48]) rfl ?_); at_builtin; refine Kd.qbD k51 (w0 := w) w.heap.size rfl (.tmp 46) (.tmp 48) 103 51 (.agg #[(.int .i64 0), (.int .i64 0), (.int .i64 0), (.int .i64 0), (.int .i64 0), (.int .i64 0)]) 48 rfl Tryz.underlying103 info51 rfl (by decide) (by omega) (.slice (some ad157) x4_2.length co14) x4_2 (⟨t158, t159, t160, t161, t162, t163⟩ : S51) [.int .i64 t158, .int .i64 t159, .int .i64 t160, .int .i64 t161, .int .i64 t162, .int .i64 t163] (fun k_ => k_ ≠ gb150 ∧ k_ ≠ gb164) (fun _ => False) rfl rfl ?aP (fun _ hk => hk.elim) ?aF ?aO ?aB ?aS ?aL ?_; (case aP => exact qZC _ _ _ (⟨t158, t159, t160, t161, t162, t163⟩ : S51)); (case aB => exact bl); (case aF => exact (fun k_ hk => ⟨Kd.freshB (rB BK150) k_ hk, Kd.freshB (rB BK164) k_ hk⟩)); (case aO => exact (rR HO_4)); (case aS => exact (qL bl)); (case aL => have := LMc34.out; omega); intro v168 w45 ho hb hg hat; rw [← Ny167.out] at ho; have HO169 := aM (ho); replace HO_5 := aM (Kd.qWB (rR HO_5) (Kd.qKB (rR HO_4)) (by decide) hg); replace BK150 := aM (qp (rB BK150) hg (Kd.qVB HO_4.out (fun _ hk => hk.1))); replace BK164 := aM (qp (rB BK164) hg (Kd.qVB HO_4.out (fun _ hk => hk.2))); replace HB := aM (hb); clear HO_4; clear ho hb hg hat))
                     replace HO_5 := aM (Kd.qV HO_5.out)
                     replace HO169 := aM (Kd.qV HO169.out)
                     replace BK150 := aM (qE BK150.out)
                     replace BK164 := aM (qE BK164.out)
                     replace HB := aM (qx HB.out)
                     obtain ⟨Ao47, co47, eo47⟩ := Kd.qFA HO_5.out
                     (first | subst eo47 | (injection eo47 with f1_ f2_ f3_; have f4_ := f1_.symm; have f5_ := f3_.symm; clear f1_ f2_ f3_; subst f4_; subst f5_))
                     have p170 : 0 ≤ (x6_1 : Int) := of_decide_eq_true am
                     have q170 : x6_1 < (x5_2.length : Int) := of_decide_eq_true am
                     obtain ⟨ad170, e170, hx170_0⟩ := Kd.qrB (Kd.qM HO_5.out).2.2 x6_1 p170 q170
                     cases e170
                     replace p170 := eq_true p170
                     replace q170 := eq_true q170
                     refine qOB (n := 14) (S := fun w' => w'.cell? (ad170.add (x6_1).toNat) = some (.string (rdOf ByteArray.empty x5_2 x6_1))) (ds := [11, 12]) #[false, false, false, false, false, false, false, false, false, false, false, false, false, false] (by kernel_rfl) rfl rfl (hx170_0) (fun hHeld => ?_); refine qSA qN.tab17 qN.bits17 (fun HT_ HW_ => ?_)
                     generalize w45.drew = w46 at HO_5 HO169 BK150 BK164 HB hx170_0 hHeld ⊢
                     refine pS (i := 0) (N := some 50) #[true, false, false, false, false, false, false, false, false, false, false, false, false, false] HT_ ?_
                     refine pS (i := 1) (N := some 51) #[true, true, false, false, false, false, false, false, false, false, false, false, false, false] HT_ ?_
                     refine pS (i := 2) (N := some 52) #[true, true, true, false, false, false, false, false, false, false, false, false, false, false] HT_ ?_
                     refine pS (i := 3) (N := some 53) #[true, true, true, true, false, false, false, false, false, false, false, false, false, false] HT_ ?_
                     refine pS (i := 6) (N := some 56) #[true, true, true, true, false, false, true, false, false, false, false, false, false, false] HT_ ?_
                     refine pS (i := 7) (N := some 57) #[true, true, true, true, false, false, true, true, false, false, false, false, false, false] HT_ ?_
                     refine pS (i := 8) (N := some 58) #[true, true, true, true, false, false, true, true, true, false, false, false, false, false] HT_ ?_
                     refine tS (i := 4) (N := some 54) #[true, true, true, true, true, false, true, true, true, false, false, false, false, false] HT_ HW_ hHeld ?_
                     refine one_ (i := 5) (N := some 55) #[true, true, true, true, true, true, true, true, true, false, false, false, false, false] rfl rfl (qdA HT_.out (by kernel_rfl)) (by decide) (fun K hK => ?_)
                     refine goes_ Tryz.func67 (by kernel_rfl) rfl #[] (by rfl) rfl rfl gA ?_
                     with_reducible refine (qsA.calls  t171 _ A37.out).mono ?_
                     rintro e w' ⟨rfl, ⟨nd, rfl⟩⟩
                     refine ⟨_, rfl, ?_⟩
                     refine hK.out _ _ (hHeld) (fun hHeld => ?_)
                     clear hK K
                     refine norm_ (a' := ?_) ?_ ?_
                     rotate_left
                     ·show Act.put _ (some 55) _ = _
                      simp only [Act.put, List.setIfInBounds_toArray, List.set_cons_zero, List.set_cons_succ, i64_w, i32_w]
                      rfl
                     refine pS (i := 9) (N := some 59) #[true, true, true, true, true, true, true, true, true, true, false, false, false, false] HT_ ?_
                     refine pS (i := 10) (N := some 60) #[true, true, true, true, true, true, true, true, true, true, true, false, false, false] HT_ ?_
                     refine last_ (i := 11) (N := some 61) #[true, true, true, true, true, true, true, true, true, true, true, true, false, false] rfl rfl (qdA HT_.out (by kernel_rfl)) (by decide) (fun K hK => ?_)
                     refine qdB (w1 := ?_) (v := ?_) (by rfl) rfl ?_ ?_
                     rotate_left 2
                     ·go_simp
                      constructor
                      ·rfl
                      ·rfl
                     refine hK.out _ _ ?_
                     clear hK K
                     refine norm_ (a' := ?_) ?_ ?_
                     rotate_left
                     ·show Act.put _ (some 61) _ = _
                      simp only [Act.put, List.setIfInBounds_toArray, List.set_cons_zero, List.set_cons_succ, i64_w, i32_w]
                      rfl
                     refine last_ (i := 12) (N := some 62) #[true, true, true, true, true, true, true, true, true, true, true, true, true, false] rfl rfl (qdA HT_.out (by kernel_rfl)) (by decide) (fun K hK => ?_)
                     refine Kd.R_append_step Kd.string (w0 := w) w.heap.size (by rfl) (.tmp 50) (.tmp 61) 61 9 (.string ⟨#[]⟩) 16 rfl Tryz.underlying61 info9 rfl (by decide) (by omega) (.slice (some ad170) x5_2.length co47) x5_2 ((rdOf ByteArray.empty x5_2 x6_1) ++ (t171.extract (x7_2 : Int).toNat ((wrap64 (x7_2 + 1)) : Int).toNat)) [.string ((rdOf ByteArray.empty x5_2 x6_1) ++ (t171.extract (x7_2 : Int).toNat ((wrap64 (x7_2 + 1)) : Int).toNat))] (fun _ => True) (fun _ => False) rfl rfl ?aP (fun _ hk => hk.elim) ?aF ?aO ?aB ?aS ?aL ?_
                     (case aP => exact rfl)
                     (case aB => exact bl)
                     (case aF => exact (fun _ _ => trivial))
                     (case aO => exact (rR HO_5))
                     (case aS => exact (qL bl))
                     (case aL => have := LMc42.out; omega)
                     intro v173 w48 ho hb hg hat
                     rw [← Ny172.out] at ho
                     have HO174 := aM (ho)
                     replace BK150 := aM (qp (rB BK150) hg (Kd.R_ne HO_5.out BK150.out (by decide)))
                     replace BK164 := aM (qp (rB BK164) hg (Kd.R_ne HO_5.out BK164.out (by decide)))
                     replace HO169 := aM (Kd.qWB (rR HO169) (Kd.qKB (rR HO_5)) (by decide) hg)
                     replace HB := aM (hb)
                     clear HO_5
                     clear ho hb hg hat
                     refine hK.out _ _ ?_
                     clear hK K
                     refine norm_ (a' := ?_) ?_ ?_
                     rotate_left
                     ·show Act.put _ (some 62) _ = _
                      simp only [Act.put, List.setIfInBounds_toArray, List.set_cons_zero, List.set_cons_succ, i64_w, i32_w]
                      rfl
                     refine pS (i := 13) (N := some 5) #[true, true, true, true, true, true, true, true, true, true, true, true, true, true] HT_ ?_
                     refine done_ (qDB HT_.out (by kernel_rfl)) ?_
                     try go_wp2
                     go_roundg k3
                     case measure => have := HK1.out; have := HK2.out; have := HK3.out; omega
                     case rel => exact ⟨(y167), (y172), (wrap64 (x7_2 + 1)), sD, H', ⟨by have := HK1.out; have := HK2.out; have := HK3.out; omega⟩, ⟨by (with_reducible repeat (first | apply Kd.qQ | apply Kd.qU | apply Kd.qV)); exact Kd.qa HO169.out (fun _ hk => hk.1)⟩, ⟨rR HO174⟩, ⟨rB BK150⟩, ⟨bl⟩⟩
                    ·rw [if_neg c42] at H
                     exact absurd H (by simp)
                   ·rw [if_neg c41] at H
                    exact absurd H (by simp)
                  ·rw [if_neg c40] at H
                   exact absurd H (by simp)
                 ·rw [if_neg c39] at H
                  exact absurd H (by simp)
                ·rw [if_neg c38] at H
                 exact absurd H (by simp)
               ·rw [if_neg c36] at H
                exact absurd H (by simp)
              ·rw [if_neg c35] at H
               exact absurd H (by simp)
             ·rw [if_neg c34] at H
              exact absurd H (by simp)
        ·rw [if_neg c12] at H
         exact absurd H (by simp)
       ·rw [if_neg c11] at H
        exact absurd H (by simp)
      ·rw [if_neg c10] at H
       have c10b0 := decide_eq_false c10
       clear c10
       have H' := aM H
       clear H
       go_wp2
       go_roundg k2
       case measure => have := HK1.out; have := HK2.out; omega
       case rel => exact ⟨(x4_2), (x5_2), (wrap64 (x6_1 + 1)), sD, H', ⟨by have := HK1.out; have := HK2.out; omega⟩, ⟨rR HO_4⟩, ⟨rR HO_5⟩, ⟨rB BK150⟩, ⟨bl⟩⟩
   ·rw [if_neg c8] at H
    have c8b0 := decide_eq_false c8
    clear c8
    simp only [Option.some.injEq, Prod.mk.injEq] at H
    obtain ⟨rfl, rfl⟩ := H
    obtain ⟨Ao49, co49, eo49⟩ := Kd.qFA HO_4.out
    subst eo49
    go_wp2
    go_ret2
    exact ⟨_, _, sR, by (with_reducible repeat (first | apply Kd.qQ | apply Kd.qU | apply Kd.qV)); exact Kd.qa HO_4.out (fun _ hk => trivial), by (with_reducible repeat (first | apply Kd.qQ | apply Kd.qU | apply Kd.qV)); exact HO_5.out, bl⟩
end Go.Proofs.YthhiiceligjleaaGreatDoor.P
namespace Go.Proofs.YthhiiceligjleaaGreatDoor.P
open Go.RowKit Go.Proofs.YthhiiceligjleaaGreatDoorW.PrintWords Go.Proofs.YthhiiceligjleaaGreatDoorW.PrintLast Go.Proofs.YthhiiceligjleaaGreatDoorW.PrintMore
attribute [local go_sem] ql qj qu qt qd qc qk qi
set_option linter.unusedVariables false
set_option linter.unusedSimpArgs false
def qm.l0 : Nat → List Int → List Int → Int → Int → Option (Bool)
 | 0, _, _, _, _ => none
 | k + 1, x9, x11, x13, x14 => if x14 < x13 then (if 0 ≤ x14 then (if x14 < (x9.length : Int) then (if x14 < (x11.length : Int) then (if (rd x9 x14) = (rd x11 x14) then (qm.l0 k x9 x11 x13 (wrap64 (x14 + 1))) else (some (decide ((rd x9 x14) < (rd x11 x14))))) else (none)) else (none)) else (none)) else (some false)
def qm.f (k : Nat) (a0_0 : Int) (a0_1 : Int) (a0_2 : Int) (a0_3 : Int) (a0_4 : Int) (a0_5 : Int) (a1_0 : Int) (a1_1 : Int) (a1_2 : Int) (a1_3 : Int) (a1_4 : Int) (a1_5 : Int) : Option (Bool) := (qOA.f a0_0 a0_1 a0_2 a0_3 a0_4 a0_5).bind fun t177 => ((qOA.f a1_0 a1_1 a1_2 a1_3 a1_4 a1_5).bind fun t180 => (qm.l0 k t177 t180 (t177.length : Int) 0))
def qm.T5 : Bool × List (List Nat × List Nat) := (true, [([], []), ([], []), ([0, 1], [0, 1]), ([2], [2]), ([], []), ([], []), ([4, 5], [4, 5]), ([6], [6]), ([3, 7], [3, 7])])
def qm.B5 : List Nat := [0, 0, 3, 7, 0, 0, 48, 112, 255]
theorem qm.tab5 : rtab .any (opsOf Tryz.f80 5) = qm.T5 := by kernel_rfl
theorem qm.bits5 : waitsOk qm.T5.2 qm.B5 = true := by kernel_rfl
def qm.T6 : Bool × List (List Nat × List Nat) := (true, [([], []), ([], []), ([0, 1], [0, 1]), ([2], [2]), ([], []), ([], []), ([4, 5], [4, 5]), ([6], [6]), ([3, 7], [3, 7]), ([8, 0, 1, 2, 3, 4, 5, 6, 7, 8], [8])])
def qm.B6 : List Nat := [0, 0, 3, 7, 0, 0, 48, 112, 255, 511]
theorem qm.tab6 : rtab .any (opsOf Tryz.f80 6) = qm.T6 := by kernel_rfl
theorem qm.bits6 : waitsOk qm.T6.2 qm.B6 = true := by kernel_rfl
set_option maxHeartbeats 8000000 in
set_option maxRecDepth 100000 in
theorem qm.calls (k : Nat) (a0_0 : Int) (a0_1 : Int) (a0_2 : Int) (a0_3 : Int) (a0_4 : Int) (a0_5 : Int) (a1_0 : Int) (a1_1 : Int) (a1_2 : Int) (a1_3 : Int) (a1_4 : Int) (a1_5 : Int) (r : Bool) (w : World) (h : qm.f k a0_0 a0_1 a0_2 a0_3 a0_4 a0_5 a1_0 a1_1 a1_2 a1_3 a1_4 a1_5 = some r) :
  Calls Tryz.prog 80 #[.agg #[.int .i64 a0_0, .int .i64 a0_1, .int .i64 a0_2, .int .i64 a0_3, .int .i64 a0_4, .int .i64 a0_5], .agg #[.int .i64 a1_0, .int .i64 a1_1, .int .i64 a1_2, .int .i64 a1_3, .int .i64 a1_4, .int .i64 a1_5]] w fun e w' => e = .returned (.bool r) ∧ Below w.heap.size w w' := by
 have hu51 := Tryz.underlying51
 have HB := aM (Below.refl w.heap.size w)
 have H : ((qOA.f a0_0 a0_1 a0_2 a0_3 a0_4 a0_5).bind fun t177 => ((qOA.f a1_0 a1_1 a1_2 a1_3 a1_4 a1_5).bind fun t180 => (qm.l0 k t177 t180 (t177.length : Int) 0))) = some r := h
 clear h
 replace H := bO H
 obtain ⟨t177, A3, H⟩ := H
 replace H := bO H
 obtain ⟨t180, A4, H⟩ := H
 have H' := aM H
 clear H
 go_enter Tryz.func80, Tryz.ntmps80
 try go_wp2_with (first | ((with_reducible refine qJ (N := 2) rfl ?_); refine qI ?hg (N := 2) ?hd (cs := #[.int .i64 a0_0, .int .i64 a0_1, .int .i64 a0_2, .int .i64 a0_3, .int .i64 a0_4, .int .i64 a0_5]) (t := 51) ?hr ?_; (case hd => rfl); (case hg => rfl); (case hr => exact gS); intro gb175 hg w5 hbox hb; have BK175 := aM (hbox); have GW175 := aM ((gg hg)); have GE175 := aM ((gg hg)); replace HB := aM (qB bl hb); clear hb hbox hg) | ((with_reducible refine qJ (N := 3) rfl ?_); refine qI ?hg (N := 3) ?hd (cs := #[.int .i64 a1_0, .int .i64 a1_1, .int .i64 a1_2, .int .i64 a1_3, .int .i64 a1_4, .int .i64 a1_5]) (t := 51) ?hr ?_; (case hd => rfl); (case hg => rfl); (case hr => exact gS); intro gb176 hg w6 hbox hb; have BK176 := aM (hbox); have GW176 := aM ((gg hg)); have GE176 := aM ((gg hg)); have NB175_176 := aM ((nl BK175 hg)); have NB176_175 := aM ((nr BK175 hg)); replace BK175 := aM (bb BK175 hb); replace HB := aM (qB bl hb); clear hb hbox hg))
 replace BK175 := aM (qE BK175.out)
 replace BK176 := aM (qE BK176.out)
 replace HB := aM (qx HB.out)
 refine qOB (n := 6) (S := fun w' => w'.cell? ⟨gb175, 0, none⟩ = some (.int .i64 a0_0) ∧ w'.cell? ⟨gb175, 1, none⟩ = some (.int .i64 a0_1) ∧ w'.cell? ⟨gb175, 2, none⟩ = some (.int .i64 a0_2) ∧ w'.cell? ⟨gb175, 3, none⟩ = some (.int .i64 a0_3) ∧ w'.cell? ⟨gb175, 4, none⟩ = some (.int .i64 a0_4) ∧ w'.cell? ⟨gb175, 5, none⟩ = some (.int .i64 a0_5) ∧ w'.cell? ⟨gb176, 0, none⟩ = some (.int .i64 a1_0) ∧ w'.cell? ⟨gb176, 1, none⟩ = some (.int .i64 a1_1) ∧ w'.cell? ⟨gb176, 2, none⟩ = some (.int .i64 a1_2) ∧ w'.cell? ⟨gb176, 3, none⟩ = some (.int .i64 a1_3) ∧ w'.cell? ⟨gb176, 4, none⟩ = some (.int .i64 a1_4) ∧ w'.cell? ⟨gb176, 5, none⟩ = some (.int .i64 a1_5)) (ds := []) #[false, false, false, false, false, false] (by kernel_rfl) rfl rfl ⟨bc BK175 0, bc BK175 1, bc BK175 2, bc BK175 3, bc BK175 4, bc BK175 5, bc BK176 0, bc BK176 1, bc BK176 2, bc BK176 3, bc BK176 4, bc BK176 5⟩ (fun hHeld => ?_)
 generalize w6.drew = w7 at BK175 BK176 HB hHeld ⊢
 refine take_ (i := 0) (N := some 8) (v := ?_) (a' := ?_) #[true, false, false, false, false, false] rfl rfl (by kernel_rfl) (fun _ _ _ h => h) (Or.inl ⟨by rfl, ?_⟩) hHeld ?_ ?_
 rotate_left
 ·rintro w' ⟨s0, s1, s2, s3, s4, s5, s6, s7, s8, s9, s10, s11⟩
  go_simp
  first | (with_reducible rfl) | (rw [if_neg (by simp only [ByteArray.size_extract, ByteArray.size_append] at * <;> omega)]; try with_reducible rfl)
 rotate_left
 ·simp only [Act.put, List.setIfInBounds_toArray, List.set_cons_zero, List.set_cons_succ, i64_w, i32_w]
  rfl
 refine take_ (i := 2) (N := some 10) (v := ?_) (a' := ?_) #[true, false, true, false, false, false] rfl rfl (by kernel_rfl) (fun _ _ _ h => h) (Or.inl ⟨by rfl, ?_⟩) hHeld ?_ ?_
 rotate_left
 ·rintro w' ⟨s0, s1, s2, s3, s4, s5, s6, s7, s8, s9, s10, s11⟩
  go_simp
  first | (with_reducible rfl) | (rw [if_neg (by simp only [ByteArray.size_extract, ByteArray.size_append] at * <;> omega)]; try with_reducible rfl)
 rotate_left
 ·simp only [Act.put, List.setIfInBounds_toArray, List.set_cons_zero, List.set_cons_succ, i64_w, i32_w]
  rfl
 refine one_ (i := 1) (N := some 9) #[true, true, true, false, false, false] rfl rfl (by kernel_rfl) (by decide) (fun K hK => ?_)
 refine goes_ Tryz.func78 (by kernel_rfl) rfl #[.agg #[.int .i64 a0_0, .int .i64 a0_1, .int .i64 a0_2, .int .i64 a0_3, .int .i64 a0_4, .int .i64 a0_5]] (by rfl) rfl rfl gA ?_
 with_reducible refine (qOA.calls a0_0 a0_1 a0_2 a0_3 a0_4 a0_5 t177 _ A3.out).mono ?_
 rintro e w8 ⟨v178, rfl, ho0, hb⟩
 refine ⟨_, rfl, ?_⟩
 have HO179 := aM (Kd.qAA ho0 (qL bl))
 replace BK175 := aM (bb BK175 hb)
 replace BK176 := aM (bb BK176 hb)
 replace HB := aM (qB bl hb); (try clear hb); (try clear hb2); (try clear hk); (try clear hi); (try clear ho0)
 refine hK.out _ _ ⟨bc BK175 0, bc BK175 1, bc BK175 2, bc BK175 3, bc BK175 4, bc BK175 5, bc BK176 0, bc BK176 1, bc BK176 2, bc BK176 3, bc BK176 4, bc BK176 5⟩ (fun hHeld => ?_)
 clear hK K
 refine norm_ (a' := ?_) ?_ ?_
 rotate_left
 ·show Act.put _ (some 9) _ = _
  simp only [Act.put, List.setIfInBounds_toArray, List.set_cons_zero, List.set_cons_succ, i64_w, i32_w]
  rfl
 refine one_ (i := 3) (N := some 11) #[true, true, true, true, false, false] rfl rfl (by kernel_rfl) (by decide) (fun K hK => ?_)
 refine goes_ Tryz.func78 (by kernel_rfl) rfl #[.agg #[.int .i64 a1_0, .int .i64 a1_1, .int .i64 a1_2, .int .i64 a1_3, .int .i64 a1_4, .int .i64 a1_5]] (by rfl) rfl rfl gA ?_
 with_reducible refine (qOA.calls a1_0 a1_1 a1_2 a1_3 a1_4 a1_5 t180 _ A4.out).mono ?_
 rintro e w9 ⟨v181, rfl, ho0, hb⟩
 refine ⟨_, rfl, ?_⟩
 have HO182 := aM (Kd.qAA (Kd.qZA ho0 (Kd.R_lt (rR HO179))) (qL bl))
 replace HO179 := aM (Kd.qz (rR HO179) (Kd.qMA ho0) hb)
 replace BK175 := aM (bb BK175 hb)
 replace BK176 := aM (bb BK176 hb)
 replace HB := aM (qB bl hb); (try clear hb); (try clear hb2); (try clear hk); (try clear hi); (try clear ho0)
 refine hK.out _ _ ⟨bc BK175 0, bc BK175 1, bc BK175 2, bc BK175 3, bc BK175 4, bc BK175 5, bc BK176 0, bc BK176 1, bc BK176 2, bc BK176 3, bc BK176 4, bc BK176 5⟩ (fun hHeld => ?_)
 clear hK K
 refine norm_ (a' := ?_) ?_ ?_
 rotate_left
 ·show Act.put _ (some 11) _ = _
  simp only [Act.put, List.setIfInBounds_toArray, List.set_cons_zero, List.set_cons_succ, i64_w, i32_w]
  rfl
 refine pure_ (i := 4) (N := some 5) (v := ?_) (a' := ?_) #[true, true, true, true, true, false] rfl rfl (by kernel_rfl) (fun _ _ _ h => h) (Or.inl ⟨by rfl, ?_⟩) ?_ ?_
 rotate_left
 ·intro w'
  go_simp
  first | (with_reducible rfl) | (rw [if_neg (by simp only [ByteArray.size_extract, ByteArray.size_append] at * <;> omega)]; try with_reducible rfl)
 rotate_left
 ·simp only [Act.put, List.setIfInBounds_toArray, List.set_cons_zero, List.set_cons_succ, i64_w, i32_w]
  rfl
 refine pure_ (i := 5) (N := some 6) (v := ?_) (a' := ?_) #[true, true, true, true, true, true] rfl rfl (by kernel_rfl) (fun _ _ _ h => h) (Or.inl ⟨by rfl, ?_⟩) ?_ ?_
 rotate_left
 ·intro w'
  go_simp
  first | (with_reducible rfl) | (rw [if_neg (by simp only [ByteArray.size_extract, ByteArray.size_append] at * <;> omega)]; try with_reducible rfl)
 rotate_left
 ·simp only [Act.put, List.setIfInBounds_toArray, List.set_cons_zero, List.set_cons_succ, i64_w, i32_w]
  rfl
 refine done_ (by kernel_rfl) ?_
 obtain ⟨Ao10, co10, eo10⟩ := Kd.qFA HO179.out
 subst eo10
 try go_wp2
 go_loopg [14] k (fun kq v14 w' => ∃ (x14_1 : Int), v14 = .int .i64 x14_1 ∧ Aside0 (qm.l0 kq t177 t180 (t177.length : Int) x14_1 = some r) ∧ Aside0 (kq ≤ k) ∧ Aside0 (Kd.R (Kd.int .i64) 3 w' w.heap.size (fun k_ => some k_ ≠ (v181 : Value).ownBlock) (.slice Ao10 t177.length co10) t177) ∧ Aside0 (Kd.R (Kd.int .i64) 3 w' w.heap.size (fun k_ => some k_ ≠ ((.slice Ao10 t177.length co10) : Value).ownBlock) v181 t180) ∧ Aside0 (w'.heap[gb175]? = some (.cells #[.int .i64 a0_0, .int .i64 a0_1, .int .i64 a0_2, .int .i64 a0_3, .int .i64 a0_4, .int .i64 a0_5] 51 (0, 0))) ∧ Aside0 (w'.heap[gb176]? = some (.cells #[.int .i64 a1_0, .int .i64 a1_1, .int .i64 a1_2, .int .i64 a1_3, .int .i64 a1_4, .int .i64 a1_5] 51 (0, 0))) ∧ Aside0 (Below w.heap.size w w'))
 case atStart => exact ⟨(0), sD, H', ⟨Nat.le_refl _⟩, ⟨by (with_reducible repeat (first | apply Kd.qQ | apply Kd.qU | apply Kd.qV)); exact Kd.qa HO179.out (fun _ hk => hk.2)⟩, ⟨by (with_reducible repeat (first | apply Kd.qQ | apply Kd.qU | apply Kd.qV)); exact Kd.qa HO182.out (fun _ hk => hk.2)⟩, ⟨rB BK175⟩, ⟨rB BK176⟩, ⟨bl⟩⟩
 case round =>
  clear H'; (try clear p2); (try clear c7); (try clear c8)
  obtain ⟨x14_1, rfl, HA, HK1, HO_9, HO_11, BK175, BK176, HB⟩ := hrel
  cases gk with
  | zero => exact absurd HA.out (by simp [qm.l0])
  | succ k1 =>
   have H := HA.out
   clear HA
   simp only [qm.l0] at H
   by_cases c11 : x14_1 < (t177.length : Int)
   ·rw [if_pos c11] at H
    have c11b0 := decide_eq_true c11
    clear c11
    by_cases c12 : 0 ≤ x14_1
    ·rw [if_pos c12] at H
     have c12b0 := decide_eq_true c12
     clear c12
     by_cases c13 : x14_1 < (t177.length : Int)
     ·rw [if_pos c13] at H
      have c13b0 := decide_eq_true c13
      clear c13
      by_cases c14 : x14_1 < (t180.length : Int)
      ·rw [if_pos c14] at H
       have c14b0 := decide_eq_true c14
       clear c14
       by_cases c15 : (rd t177 x14_1) = (rd t180 x14_1)
       ·rw [if_pos c15] at H
        have c15b0 := beq_iff_eq.mpr c15
        have c15b1 := bne_eq_false_iff_eq.mpr c15
        clear c15
        have H' := aM H
        clear H
        try go_wp2
        replace HO_9 := aM (Kd.qV HO_9.out)
        replace HO_11 := aM (Kd.qV HO_11.out)
        replace BK175 := aM (qE BK175.out)
        replace BK176 := aM (qE BK176.out)
        replace HB := aM (qx HB.out)
        have p183 : 0 ≤ (x14_1 : Int) := of_decide_eq_true am
        have q183 : x14_1 < (t177.length : Int) := of_decide_eq_true am
        obtain ⟨ad183, e183, hx183_0⟩ := Kd.qJC (Kd.qM HO_9.out).2.2 x14_1 p183 q183
        cases e183
        replace p183 := eq_true p183
        replace q183 := eq_true q183
        obtain ⟨Ao17, co17, eo17⟩ := Kd.qFA HO_11.out
        (first | subst eo17 | (injection eo17 with f1_ f2_ f3_; have f4_ := f1_.symm; have f5_ := f3_.symm; clear f1_ f2_ f3_; subst f4_; subst f5_))
        have p184 : 0 ≤ (x14_1 : Int) := of_decide_eq_true am
        have q184 : x14_1 < (t180.length : Int) := of_decide_eq_true am
        obtain ⟨ad184, e184, hx184_0⟩ := Kd.qJC (Kd.qM HO_11.out).2.2 x14_1 p184 q184
        cases e184
        replace p184 := eq_true p184
        replace q184 := eq_true q184
        refine qOB (n := 9) (S := fun w' => w'.cell? (ad183.add (x14_1).toNat) = some (.int .i64 (rd t177 x14_1)) ∧ w'.cell? (ad184.add (x14_1).toNat) = some (.int .i64 (rd t180 x14_1))) (ds := []) #[false, false, false, false, false, false, false, false, false] (by kernel_rfl) rfl rfl ⟨hx183_0, hx184_0⟩ (fun hHeld => ?_); refine qSA qm.tab5 qm.bits5 (fun HT_ HW_ => ?_)
        generalize wr.drew = w16 at HO_9 HO_11 BK175 BK176 HB hx183_0 hx184_0 hHeld ⊢
        refine pS (i := 0) (N := some 17) #[true, false, false, false, false, false, false, false, false] HT_ ?_
        refine pS (i := 1) (N := some 18) #[true, true, false, false, false, false, false, false, false] HT_ ?_
        refine pS (i := 2) (N := some 19) #[true, true, true, false, false, false, false, false, false] HT_ ?_
        refine pS (i := 4) (N := some 21) #[true, true, true, false, true, false, false, false, false] HT_ ?_
        refine pS (i := 5) (N := some 22) #[true, true, true, false, true, true, false, false, false] HT_ ?_
        refine pS (i := 6) (N := some 23) #[true, true, true, false, true, true, true, false, false] HT_ ?_
        refine tS (i := 3) (N := some 20) #[true, true, true, true, true, true, true, false, false] HT_ HW_ hHeld ?_
        refine tS (i := 7) (N := some 24) #[true, true, true, true, true, true, true, true, false] HT_ HW_ hHeld ?_
        refine pS (i := 8) (N := some 25) #[true, true, true, true, true, true, true, true, true] HT_ ?_
        refine done_ (qDB HT_.out (by kernel_rfl)) ?_
        try go_wp2
        go_roundg k1
        case measure => have := HK1.out; omega
        case rel => exact ⟨(wrap64 (x14_1 + 1)), sD, H', ⟨by have := HK1.out; omega⟩, ⟨rR HO_9⟩, ⟨rR HO_11⟩, ⟨rB BK175⟩, ⟨rB BK176⟩, ⟨bl⟩⟩
       ·rw [if_neg c15] at H
        have c15b0 := beq_eq_false_iff_ne.mpr c15
        have c15b1 := bne_iff_ne.mpr c15
        obtain rfl := Option.some.inj H
        try go_wp2
        replace HO_9 := aM (Kd.qV HO_9.out)
        replace HO_11 := aM (Kd.qV HO_11.out)
        replace BK175 := aM (qE BK175.out)
        replace BK176 := aM (qE BK176.out)
        replace HB := aM (qx HB.out)
        have p183 : 0 ≤ (x14_1 : Int) := of_decide_eq_true am
        have q183 : x14_1 < (t177.length : Int) := of_decide_eq_true am
        obtain ⟨ad183, e183, hx183_0⟩ := Kd.qJC (Kd.qM HO_9.out).2.2 x14_1 p183 q183
        cases e183
        replace p183 := eq_true p183
        replace q183 := eq_true q183
        obtain ⟨Ao19, co19, eo19⟩ := Kd.qFA HO_11.out
        (first | subst eo19 | (injection eo19 with f1_ f2_ f3_; have f4_ := f1_.symm; have f5_ := f3_.symm; clear f1_ f2_ f3_; subst f4_; subst f5_))
        have p184 : 0 ≤ (x14_1 : Int) := of_decide_eq_true am
        have q184 : x14_1 < (t180.length : Int) := of_decide_eq_true am
        obtain ⟨ad184, e184, hx184_0⟩ := Kd.qJC (Kd.qM HO_11.out).2.2 x14_1 p184 q184
        cases e184
        replace p184 := eq_true p184
        replace q184 := eq_true q184
        refine qOB (n := 9) (S := fun w' => w'.cell? (ad183.add (x14_1).toNat) = some (.int .i64 (rd t177 x14_1)) ∧ w'.cell? (ad184.add (x14_1).toNat) = some (.int .i64 (rd t180 x14_1))) (ds := []) #[false, false, false, false, false, false, false, false, false] (by kernel_rfl) rfl rfl ⟨hx183_0, hx184_0⟩ (fun hHeld => ?_); refine qSA qm.tab5 qm.bits5 (fun HT_ HW_ => ?_)
        generalize wr.drew = w18 at HO_9 HO_11 BK175 BK176 HB hx183_0 hx184_0 hHeld ⊢
        refine pS (i := 0) (N := some 17) #[true, false, false, false, false, false, false, false, false] HT_ ?_
        refine pS (i := 1) (N := some 18) #[true, true, false, false, false, false, false, false, false] HT_ ?_
        refine pS (i := 2) (N := some 19) #[true, true, true, false, false, false, false, false, false] HT_ ?_
        refine pS (i := 4) (N := some 21) #[true, true, true, false, true, false, false, false, false] HT_ ?_
        refine pS (i := 5) (N := some 22) #[true, true, true, false, true, true, false, false, false] HT_ ?_
        refine pS (i := 6) (N := some 23) #[true, true, true, false, true, true, true, false, false] HT_ ?_
        refine tS (i := 3) (N := some 20) #[true, true, true, true, true, true, true, false, false] HT_ HW_ hHeld ?_
        refine tS (i := 7) (N := some 24) #[true, true, true, true, true, true, true, true, false] HT_ HW_ hHeld ?_
        refine pS (i := 8) (N := some 25) #[true, true, true, true, true, true, true, true, true] HT_ ?_
        refine done_ (qDB HT_.out (by kernel_rfl)) ?_
        try go_wp2
        replace HO_9 := aM (Kd.qV HO_9.out)
        replace HO_11 := aM (Kd.qV HO_11.out)
        replace BK175 := aM (qE BK175.out)
        replace BK176 := aM (qE BK176.out)
        replace HB := aM (qx HB.out)
        have p185 : 0 ≤ (x14_1 : Int) := of_decide_eq_true am
        have q185 : x14_1 < (t177.length : Int) := of_decide_eq_true am
        obtain ⟨ad185, e185, hx185_0⟩ := Kd.qJC (Kd.qM HO_9.out).2.2 x14_1 p185 q185
        obtain rfl : ad183 = ad185 := (by injection e185)
        replace p185 := eq_true p185
        replace q185 := eq_true q185
        have p186 : 0 ≤ (x14_1 : Int) := of_decide_eq_true am
        have q186 : x14_1 < (t180.length : Int) := of_decide_eq_true am
        obtain ⟨ad186, e186, hx186_0⟩ := Kd.qJC (Kd.qM HO_11.out).2.2 x14_1 p186 q186
        obtain rfl : ad184 = ad186 := (by injection e186)
        replace p186 := eq_true p186
        replace q186 := eq_true q186
        refine qOB (n := 10) (S := fun w' => w'.cell? (ad183.add (x14_1).toNat) = some (.int .i64 (rd t177 x14_1)) ∧ w'.cell? (ad184.add (x14_1).toNat) = some (.int .i64 (rd t180 x14_1))) (ds := []) #[false, false, false, false, false, false, false, false, false, false] (by kernel_rfl) rfl rfl ⟨hx185_0, hx186_0⟩ (fun hHeld => ?_); refine qSA qm.tab6 qm.bits6 (fun HT_ HW_ => ?_)
        generalize w18.drew = w20 at HO_9 HO_11 BK175 BK176 HB hx185_0 hx186_0 hHeld ⊢
        refine pS (i := 0) (N := some 26) #[true, false, false, false, false, false, false, false, false, false] HT_ ?_
        refine pS (i := 1) (N := some 27) #[true, true, false, false, false, false, false, false, false, false] HT_ ?_
        refine pS (i := 2) (N := some 28) #[true, true, true, false, false, false, false, false, false, false] HT_ ?_
        refine pS (i := 4) (N := some 30) #[true, true, true, false, true, false, false, false, false, false] HT_ ?_
        refine pS (i := 5) (N := some 31) #[true, true, true, false, true, true, false, false, false, false] HT_ ?_
        refine pS (i := 6) (N := some 32) #[true, true, true, false, true, true, true, false, false, false] HT_ ?_
        refine tS (i := 3) (N := some 29) #[true, true, true, true, true, true, true, false, false, false] HT_ HW_ hHeld ?_
        refine tS (i := 7) (N := some 33) #[true, true, true, true, true, true, true, true, false, false] HT_ HW_ hHeld ?_
        refine pS (i := 8) (N := some 34) #[true, true, true, true, true, true, true, true, true, false] HT_ ?_
        refine pS (i := 9) (N := some 4) #[true, true, true, true, true, true, true, true, true, true] HT_ ?_
        refine done_ (qDB HT_.out (by kernel_rfl)) ?_
        try go_wp2
        go_ret
        exact ⟨sR, bl⟩
      ·rw [if_neg c14] at H
       exact absurd H (by simp)
     ·rw [if_neg c13] at H
      exact absurd H (by simp)
    ·rw [if_neg c12] at H
     exact absurd H (by simp)
   ·rw [if_neg c11] at H
    have c11b0 := decide_eq_false c11
    clear c11
    obtain rfl := Option.some.inj H
    go_wp2
    go_ret
    exact ⟨sR, bl⟩
end Go.Proofs.YthhiiceligjleaaGreatDoor.P
