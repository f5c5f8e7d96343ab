/- The program's BoxesReached returns what the reference's returns, for all texts and boxes (the law lets longer texts by). No further condition. -/
import Derived.Test.YtdagdhmcebeadaaDoorKFnExactBoxesReached0

namespace Go.Proofs.YtdagdhmcebeadaaDoor.P
open Go.RowKit Go.Proofs.YtdagdhmcebeadaaDoorW.PrintWords Go.Proofs.YtdagdhmcebeadaaDoorW.PrintLast Go.Proofs.YtdagdhmcebeadaaDoorW.PrintMore
attribute [local go_sem] qDA qBA qLA qKA qq qp qCA qAA
set_option linter.unusedVariables false
set_option linter.unusedSimpArgs false
def qi.l0 : Nat → Int → List Int → Int → Int → List Int → Int → Int → Int → Option (Bool)
 | 0, _, _, _, _, _, _, _, _ => none
 | k + 1, x6, x11, x133000, x133001, x133002, x134000, x134001, x134002 => if x6 < (x11.length : Int) then (if 0 ≤ x6 then (if 0 ≤ (wrap64 (x6 + 1)) then (if (wrap64 (x6 + 1)) < (x11.length : Int) then ((qpA.f x133000 x133001 x133002 (rd x11 x6) (rd x11 (wrap64 (x6 + 1)))).bind fun t140 => (if t140 = true then (if 0 ≤ (wrap64 ((wrap64 ((rd x11 (wrap64 (x6 + 1))) * x133000)) + (rd x11 x6))) then (if (wrap64 ((wrap64 ((rd x11 (wrap64 (x6 + 1))) * x133000)) + (rd x11 x6))) < (x133002.length : Int) then (if (rd x133002 (wrap64 ((wrap64 ((rd x11 (wrap64 (x6 + 1))) * x133000)) + (rd x11 x6)))) = 35 then (some false) else (qi.l0 k (wrap64 (x6 + 2)) x11 x133000 x133001 x133002 x134000 x134001 x134002)) else (none)) else (none)) else (some false))) else (none)) else (none)) else (none)) else (if x134002 = 0 then (if 0 ≤ (wrap64 ((wrap64 (x134001 * x133000)) + x134000)) then (if (wrap64 ((wrap64 (x134001 * x133000)) + x134000)) < (x133002.length : Int) then (some ((rd x133002 (wrap64 ((wrap64 (x134001 * x133000)) + x134000))) != 45)) else (none)) else (none)) else (some true))
def qi.f (k : Nat) (a0_0 : Int) (a0_1 : Int) (l0_2 : List Int) (a1_0 : Int) (a1_1 : Int) (a1_2 : Int) : Option (Bool) := (quA.f a1_0 a1_1 a1_2).bind fun t134 => (if t134 = true then ((qfA.f a1_0 a1_1 a1_2).bind fun t135 => (qi.l0 k 0 t135 a0_0 a0_1 l0_2 a1_0 a1_1 a1_2)) else (some false))
def qi.T7 : Bool × List (List Nat × List Nat) := (true, [([], []), ([], []), ([], []), ([1, 2], [1, 2]), ([3], [3]), ([], []), ([], []), ([6], [6]), ([5, 7], [5, 7]), ([8], [8]), ([0, 4, 9], [0, 4, 9]), ([10], [10]), ([11, 10], [11]), ([12], [12]), ([13, 12], [12, 13]), ([12], [12]), ([12], [12]), ([16, 12], [12, 16]), ([15, 17, 12], [12, 15, 17]), ([18, 12], [12, 18]), ([12], [12]), ([20, 12], [12, 20]), ([19, 21, 12], [12, 19, 21]), ([12], [12]), ([12], [12]), ([23, 24, 12], [12, 23, 24]), ([25, 12], [12, 25]), ([22, 26, 12], [12, 22, 26]), ([14, 27, 12], [12, 14, 27]), ([28, 12], [12, 28]), ([29, 12], [12, 29]), ([12, 30], [12, 30])])
def qi.B7 : List Nat := [0, 0, 0, 6, 14, 0, 0, 64, 224, 480, 1023, 2047, 4095, 8191, 16383, 8191, 8191, 73727, 237567, 499711, 8191, 1056767, 4169727, 8191, 8191, 25174015, 58728447, 134193151, 268435455, 536870911, 1073741823, 2147483647]
theorem qi.tab7 : rtab .any (opsOf Tryd.f27 7) = qi.T7 := by kernel_rfl
theorem qi.bits7 : waitsOk qi.T7.2 qi.B7 = true := by kernel_rfl
set_option maxHeartbeats 8000000 in
set_option maxRecDepth 100000 in
theorem qi.calls (k : Nat) (a0_0 : Int) (a0_1 : Int) (A0_2 : Option Addr) (c0_2 : Nat) (l0_2 : List Int) (a1_0 : Int) (a1_1 : Int) (a1_2 : Int) (r : Bool) (w : World) (hr0_2 : Kd.C (Kd.int .u8) w A0_2 l0_2.length l0_2) (hc0_2 : l0_2.length ≤ c0_2) (h : qi.f k a0_0 a0_1 l0_2 a1_0 a1_1 a1_2 = some r) :
  Calls Tryd.prog 27 #[.agg #[.int .i64 a0_0, .int .i64 a0_1, .slice A0_2 l0_2.length c0_2], .agg #[.int .i64 a1_0, .int .i64 a1_1, .int .i64 a1_2]] w fun e w' => e = .returned (.bool r) ∧ Below w.heap.size w w' := by
 have hu34 := Tryd.underlying34
 have hu27 := Tryd.underlying27
 have HR0_2 := Aside0.mk hr0_2
 have HC0_2 := Aside0.mk hc0_2
 clear hr0_2 hc0_2
 have HB := Aside0.mk (Below.refl w.heap.size w)
 have H : ((quA.f a1_0 a1_1 a1_2).bind fun t134 => (if t134 = true then ((qfA.f a1_0 a1_1 a1_2).bind fun t135 => (qi.l0 k 0 t135 a0_0 a0_1 l0_2 a1_0 a1_1 a1_2)) else (some false))) = some r := h
 clear h
 replace H := Option.bind_eq_some_iff.mp H
 obtain ⟨t134, A30, H⟩ := H
 replace H : (if t134 = true then ((qfA.f a1_0 a1_1 a1_2).bind fun t135 => (qi.l0 k 0 t135 a0_0 a0_1 l0_2 a1_0 a1_1 a1_2)) else (some false)) = some r := H
 have A3 := Aside0.mk A30
 clear A30
 by_cases c4 : t134 = true
 ·subst c4
  have H1 : ((qfA.f a1_0 a1_1 a1_2).bind fun t135 => (qi.l0 k 0 t135 a0_0 a0_1 l0_2 a1_0 a1_1 a1_2)) = some r := by rw [if_pos rfl] at H; exact H
  clear H
  have H := H1
  clear H1
  replace H := Option.bind_eq_some_iff.mp H
  obtain ⟨t135, A50, H⟩ := H
  replace H : (qi.l0 k 0 t135 a0_0 a0_1 l0_2 a1_0 a1_1 a1_2) = some r := H
  have A5 := Aside0.mk A50
  clear A50
  have H' := Aside0.mk H
  clear H
  go_enter Tryd.func27, Tryd.ntmps27
  go_wp2_with (first | ((with_reducible refine qd (N := 2) rfl ?_); refine qY ?hg (N := 2) ?hd (cs := #[.int .i64 a0_0, .int .i64 a0_1, .slice A0_2 l0_2.length c0_2]) (t := 34) ?hr ?_; (case hd => rfl); (case hg => rfl); (case hr => first | (go_simp; done) | (go_simp; rfl)); intro gb132 hg w6 hbox hb; have n0_ := Aside0.mk (qG bl hb); have n1_ := Aside0.mk (hbox); have n2_ := Aside0.mk ((gg hg)); have n3_ := Aside0.mk ((gg hg)); clear HB; have HB := n0_; have BK132 := n1_; have GW132 := n2_; have GE132 := n3_; clear n0_ n1_ n2_ n3_; clear hb hbox hg) | ((with_reducible refine qd (N := 3) rfl ?_); refine qY ?hg (N := 3) ?hd (cs := #[.int .i64 a1_0, .int .i64 a1_1, .int .i64 a1_2]) (t := 27) ?hr ?_; (case hd => rfl); (case hg => rfl); (case hr => first | (go_simp; done) | (go_simp; rfl)); intro gb133 hg w7 hbox hb; have n0_ := Aside0.mk (bb BK132 hb); have n1_ := Aside0.mk (qG bl hb); have n2_ := Aside0.mk (hbox); have n3_ := Aside0.mk ((gg hg)); have n4_ := Aside0.mk ((gg hg)); have n5_ := Aside0.mk ((nl BK132 hg)); have n6_ := Aside0.mk ((nr BK132 hg)); clear BK132; clear HB; have BK132 := n0_; have HB := n1_; have BK133 := n2_; have GW133 := n3_; have GE133 := n4_; have NB132_133 := n5_; have NB133_132 := n6_; clear n0_ n1_ n2_ n3_ n4_ n5_ n6_; clear hb hbox hg; have hnb8 := NB133_132.out; have hnc8 := NB132_133.out; have hcz9_0 := bc BK133 0; have hcz9_1 := bc BK133 1; have hcz9_2 := bc BK133 2; have hfz9_0 := qC BK133.out 0; have hfz9_1 := qC BK133.out 1; have hfz9_2 := qC BK133.out 2) | ((with_reducible refine qS (f := 45) rfl ?_); refine qt (some 8) rfl rfl Tryd.func45 (by kernel_rfl) rfl #[.agg #[.int .i64 a1_0, .int .i64 a1_1, .int .i64 a1_2]] rfl (by (try simp only [List.map_toArray, List.map_cons, List.map_nil]); first | done | rfl | (simp only [List.length_drop, List.length_take]; rfl)) ?_; (with_reducible refine (quA.calls a1_0 a1_1 a1_2 true _ A3.out).mono ?_); rintro e w10 ⟨rfl, hb⟩; refine ⟨_, rfl, ?_⟩; have n0_ := Aside0.mk (bb BK132 hb); have n1_ := Aside0.mk (bb BK133 hb); have n2_ := Aside0.mk (qG bl hb); clear BK132; clear BK133; clear HB; have BK132 := n0_; have BK133 := n1_; have HB := n2_; clear n0_ n1_ n2_; (try clear hb); (try clear hb2); (try clear hk); (try clear hi); have hcz11_0 := bc BK133 0; have hcz11_1 := bc BK133 1; have hcz11_2 := bc BK133 2; have hfz11_0 := qC BK133.out 0; have hfz11_1 := qC BK133.out 1; have hfz11_2 := qC BK133.out 2) | ((with_reducible refine qS (f := 46) rfl ?_); refine qt (some 11) rfl rfl Tryd.func46 (by kernel_rfl) rfl #[.agg #[.int .i64 a1_0, .int .i64 a1_1, .int .i64 a1_2]] rfl (by (try simp only [List.map_toArray, List.map_cons, List.map_nil]); first | done | rfl | (simp only [List.length_drop, List.length_take]; rfl)) ?_; (with_reducible refine (qfA.calls a1_0 a1_1 a1_2 t135 _ A5.out).mono ?_); rintro e w12 ⟨v136, rfl, ho0, hb⟩; refine ⟨_, rfl, ?_⟩; have n0_ := Aside0.mk (Kd.qHA ho0 (qg bl)); have n1_ := Aside0.mk (bb BK132 hb); have n2_ := Aside0.mk (bb BK133 hb); have n3_ := Aside0.mk (qG bl hb); clear BK132; clear BK133; clear HB; have HO137 := n0_; have BK132 := n1_; have BK133 := n2_; have HB := n3_; clear n0_ n1_ n2_ n3_; (try clear hb); (try clear hb2); (try clear hk); (try clear hi); (try clear ho0)))
  go_loopg [6] k (fun kq v6 w' => ∃ (x6_1 : Int), v6 = .int .i64 x6_1 ∧ Aside0 (qi.l0 kq x6_1 t135 a0_0 a0_1 l0_2 a1_0 a1_1 a1_2 = some r) ∧ Aside0 (kq ≤ k) ∧ Aside0 (Kd.R (Kd.int .i64) 3 w' w.heap.size (fun _ => True) v136 t135) ∧ Aside0 (w'.heap[gb132]? = some (.cells #[.int .i64 a0_0, .int .i64 a0_1, (.slice A0_2 l0_2.length c0_2)] 34 (0, 0))) ∧ Aside0 (w'.heap[gb133]? = some (.cells #[.int .i64 a1_0, .int .i64 a1_1, .int .i64 a1_2] 27 (0, 0))) ∧ Aside0 (Below w.heap.size w w'))
  case atStart => exact ⟨(0), (by first | rfl | (simp; done) | (simp [*]; done)), H', ⟨Nat.le_refl _⟩, ⟨by (with_reducible repeat (first | apply Kd.qF | apply Kd.qE | apply Kd.qH)); exact HO137.out⟩, ⟨by (with_reducible repeat (first | refine qB ?_ _ | refine qD ?_ | refine qA ?_ _)); exact BK132.out⟩, ⟨by (with_reducible repeat (first | refine qB ?_ _ | refine qD ?_ | refine qA ?_ _)); exact BK133.out⟩, ⟨bl⟩⟩
  case round =>
   clear H'
   try clear c2
   try clear p2
   try clear c4
   try clear c8
   try clear hcz11_0
   try clear hcz11_1
   try clear hcz11_2
   try clear hcz9_0
   try clear hcz9_1
   try clear hcz9_2
   try clear hfz11_0
   try clear hfz11_1
   try clear hfz11_2
   try clear hfz9_0
   try clear hfz9_1
   try clear hfz9_2
   obtain ⟨x6_1, rfl, HA, HK1, HO_11, BK132, BK133, HB⟩ := hrel
   cases gk with
   | zero => exact absurd HA.out (by simp [qi.l0])
   | succ k1 =>
    have H := HA.out
    clear HA
    simp only [qi.l0] at H
    by_cases c13 : x6_1 < (t135.length : Int)
    ·rw [if_pos c13] at H
     have c13b0 : decide (x6_1 < (t135.length : Int)) = true := decide_eq_true c13
     clear c13
     by_cases c14 : 0 ≤ x6_1
     ·rw [if_pos c14] at H
      have c14b0 : decide (0 ≤ x6_1) = true := decide_eq_true c14
      clear c14
      obtain ⟨ji15, hji15⟩ : ∃ j_ : Int, (wrap64 (x6_1 + 1)) = j_ := ⟨_, rfl⟩
      replace H : (if 0 ≤ (ji15) then (if (ji15) < (t135.length : Int) then ((qpA.f a0_0 a0_1 l0_2 (rd t135 x6_1) (rd t135 (ji15))).bind fun t140 => (if t140 = true then (if 0 ≤ (wrap64 ((wrap64 ((rd t135 (ji15)) * a0_0)) + (rd t135 x6_1))) then (if (wrap64 ((wrap64 ((rd t135 (ji15)) * a0_0)) + (rd t135 x6_1))) < (l0_2.length : Int) then (if (rd l0_2 (wrap64 ((wrap64 ((rd t135 (ji15)) * a0_0)) + (rd t135 x6_1)))) = 35 then (some false) else (qi.l0 k1 (wrap64 (x6_1 + 2)) t135 a0_0 a0_1 l0_2 a1_0 a1_1 a1_2)) else (none)) else (none)) else (some false))) else (none)) else (none)) = some r := by first | (rw [hji15] at H; exact H) | (simp only [hji15] at H ⊢; exact H)
      have hji15w : (IntKind.i64.wrap (x6_1 + 1)) = ji15 := (i64_w _).trans hji15
      by_cases c16 : 0 ≤ (ji15)
      ·rw [if_pos c16] at H
       have c16b0 : decide (0 ≤ (ji15)) = true := decide_eq_true c16
       clear c16
       by_cases c17 : (ji15) < (t135.length : Int)
       ·rw [if_pos c17] at H
        have c17b0 : decide ((ji15) < (t135.length : Int)) = true := decide_eq_true c17
        clear c17
        replace H := Option.bind_eq_some_iff.mp H
        obtain ⟨t140, A180, H⟩ := H
        replace H : (if t140 = true then (if 0 ≤ (wrap64 ((wrap64 ((rd t135 (ji15)) * a0_0)) + (rd t135 x6_1))) then (if (wrap64 ((wrap64 ((rd t135 (ji15)) * a0_0)) + (rd t135 x6_1))) < (l0_2.length : Int) then (if (rd l0_2 (wrap64 ((wrap64 ((rd t135 (ji15)) * a0_0)) + (rd t135 x6_1)))) = 35 then (some false) else (qi.l0 k1 (wrap64 (x6_1 + 2)) t135 a0_0 a0_1 l0_2 a1_0 a1_1 a1_2)) else (none)) else (none)) else (some false)) = some r := H
        have A18 := Aside0.mk A180
        clear A180
        by_cases c19 : t140 = true
        ·subst c19
         have H1 : (if 0 ≤ (wrap64 ((wrap64 ((rd t135 (ji15)) * a0_0)) + (rd t135 x6_1))) then (if (wrap64 ((wrap64 ((rd t135 (ji15)) * a0_0)) + (rd t135 x6_1))) < (l0_2.length : Int) then (if (rd l0_2 (wrap64 ((wrap64 ((rd t135 (ji15)) * a0_0)) + (rd t135 x6_1)))) = 35 then (some false) else (qi.l0 k1 (wrap64 (x6_1 + 2)) t135 a0_0 a0_1 l0_2 a1_0 a1_1 a1_2)) else (none)) else (none)) = some r := by rw [if_pos rfl] at H; exact H
         clear H
         have H := H1
         clear H1
         obtain ⟨ji20, hji20⟩ : ∃ j_ : Int, (wrap64 ((wrap64 ((rd t135 (ji15)) * a0_0)) + (rd t135 x6_1))) = j_ := ⟨_, rfl⟩
         replace H : (if 0 ≤ (ji20) then (if (ji20) < (l0_2.length : Int) then (if (rd l0_2 (ji20)) = 35 then (some false) else (qi.l0 k1 (wrap64 (x6_1 + 2)) t135 a0_0 a0_1 l0_2 a1_0 a1_1 a1_2)) else (none)) else (none)) = some r := by first | (rw [hji20] at H; exact H) | (simp only [hji20] at H ⊢; exact H)
         (try rw [hji20] at A18)
         have hji20w : (IntKind.i64.wrap ((wrap64 ((rd t135 (ji15)) * a0_0)) + (rd t135 x6_1))) = ji20 := (i64_w _).trans hji20
         by_cases c21 : 0 ≤ (ji20)
         ·rw [if_pos c21] at H
          have c21b0 : decide (0 ≤ (ji20)) = true := decide_eq_true c21
          clear c21
          by_cases c22 : (ji20) < (l0_2.length : Int)
          ·rw [if_pos c22] at H
           have c22b0 : decide ((ji20) < (l0_2.length : Int)) = true := decide_eq_true c22
           clear c22
           by_cases c23 : (rd l0_2 (ji20)) = 35
           ·rw [if_pos c23] at H
            have c23b0 : ((rd l0_2 (ji20)) == 35) = true := beq_iff_eq.mpr c23
            have c23b1 : ((rd l0_2 (ji20)) != 35) = false := bne_eq_false_iff_eq.mpr c23
            clear c23
            obtain rfl := Option.some.inj H
            obtain ⟨Ao24, co24, eo24⟩ := Kd.qo HO_11.out
            subst eo24
            try go_wp2
            have n0_ := Aside0.mk (Kd.qH HO_11.out)
            have n1_ := Aside0.mk (qD BK132.out)
            have n2_ := Aside0.mk (qD BK133.out)
            have n3_ := Aside0.mk (qm HB.out)
            clear HO_11
            clear BK132
            clear BK133
            clear HB
            have HO_11 := n0_
            have BK132 := n1_
            have BK133 := n2_
            have HB := n3_
            clear n0_ n1_ n2_ n3_
            have p138 : 0 ≤ (x6_1 : Int) := of_decide_eq_true (by first | (with_reducible assumption) | assumption)
            have q138 : x6_1 < (t135.length : Int) := of_decide_eq_true (by first | (with_reducible assumption) | assumption)
            obtain ⟨ad138, e138, hx138_0⟩ := Kd.qAB (Kd.qT HO_11.out).2.2 x6_1 p138 q138
            cases e138
            replace p138 := eq_true p138
            replace q138 := eq_true q138
            have p139 : 0 ≤ ((ji15) : Int) := of_decide_eq_true (by first | (with_reducible assumption) | assumption)
            have q139 : (ji15) < (t135.length : Int) := of_decide_eq_true (by first | (with_reducible assumption) | assumption)
            obtain ⟨ad139, e139, hx139_0⟩ := Kd.qAB (Kd.qT HO_11.out).2.2 (ji15) p139 q139
            obtain rfl : ad138 = ad139 := (by injection e139)
            replace p139 := eq_true p139
            replace q139 := eq_true q139
            have p141 : 0 ≤ ((ji15) : Int) := of_decide_eq_true (by first | (with_reducible assumption) | assumption)
            have q141 : (ji15) < (t135.length : Int) := of_decide_eq_true (by first | (with_reducible assumption) | assumption)
            obtain ⟨ad141, e141, hx141_0⟩ := Kd.qAB (Kd.qT HO_11.out).2.2 (ji15) p141 q141
            obtain rfl : ad138 = ad141 := (by injection e141)
            replace p141 := eq_true p141
            replace q141 := eq_true q141
            have p142 : 0 ≤ (x6_1 : Int) := of_decide_eq_true (by first | (with_reducible assumption) | assumption)
            have q142 : x6_1 < (t135.length : Int) := of_decide_eq_true (by first | (with_reducible assumption) | assumption)
            obtain ⟨ad142, e142, hx142_0⟩ := Kd.qAB (Kd.qT HO_11.out).2.2 x6_1 p142 q142
            obtain rfl : ad138 = ad142 := (by injection e142)
            replace p142 := eq_true p142
            replace q142 := eq_true q142
            have p143 : 0 ≤ ((ji20) : Int) := of_decide_eq_true (by first | (with_reducible assumption) | assumption)
            have q143 : (ji20) < (l0_2.length : Int) := of_decide_eq_true (by first | (with_reducible assumption) | assumption)
            obtain ⟨ad143, e143, hx143_0⟩ := Kd.qAB HR0_2.out (ji20) p143 q143
            have hw143_0 := hx143_0
            cases e143
            replace hx143_0 := (HB.out.cell (World.block_lt_of_cell? w _ hx143_0)).trans hx143_0
            replace p143 := eq_true p143
            replace q143 := eq_true q143
            refine qyA (n := 32) (S := fun w' => w'.cell? ⟨gb132, 0, none⟩ = some (.int .i64 a0_0) ∧ w'.cell? ⟨gb132, 1, none⟩ = some (.int .i64 a0_1) ∧ w'.cell? ⟨gb132, 2, none⟩ = some (.slice (some ad143) l0_2.length c0_2) ∧ w'.cell? (ad138.add (x6_1).toNat) = some (.int .i64 (rd t135 x6_1)) ∧ w'.cell? (ad138.add ((ji15)).toNat) = some (.int .i64 (rd t135 (ji15))) ∧ w'.cell? (ad138.add ((ji15)).toNat) = some (.int .i64 (rd t135 (ji15))) ∧ w'.cell? (ad138.add (x6_1).toNat) = some (.int .i64 (rd t135 x6_1)) ∧ w'.cell? (ad143.add ((ji20)).toNat) = some (.int .u8 (rd l0_2 (ji20)))) (ds := []) #[false, false, false, false, false, false, false, false, false, false, false, false, false, false, false, false, false, false, false, false, false, false, false, false, false, false, false, false, false, false, false, false] (by kernel_rfl) rfl rfl ⟨(qL BK132.out 0).trans rfl, (qL BK132.out 1).trans rfl, (qL BK132.out 2).trans rfl, hx138_0, hx139_0, hx141_0, hx142_0, ((HB.out.cell (World.block_lt_of_cell? w _ hw143_0)).trans hw143_0)⟩ (fun hHeld => ?_); refine qWA qi.tab7 qi.bits7 (fun HT_ HW_ => ?_)
            generalize wr.drew = w25 at HO_11 BK132 BK133 HB hx138_0 hx139_0 hx141_0 hx142_0 hx143_0 hHeld ⊢
            refine pS (i := 1) (N := some 19) #[false, true, false, false, false, false, false, false, false, false, false, false, false, false, false, false, false, false, false, false, false, false, false, false, false, false, false, false, false, false, false, false] HT_ ?_
            refine pS (i := 2) (N := some 20) #[false, true, true, false, false, false, false, false, false, false, false, false, false, false, false, false, false, false, false, false, false, false, false, false, false, false, false, false, false, false, false, false] HT_ ?_
            refine pS (i := 3) (N := some 21) #[false, true, true, true, false, false, false, false, false, false, false, false, false, false, false, false, false, false, false, false, false, false, false, false, false, false, false, false, false, false, false, false] HT_ ?_
            refine pS (i := 5) (N := some 23) #[false, true, true, true, false, true, false, false, false, false, false, false, false, false, false, false, false, false, false, false, false, false, false, false, false, false, false, false, false, false, false, false] HT_ ?_
            refine pS (i := 6) (N := some 24) #[false, true, true, true, false, true, true, false, false, false, false, false, false, false, false, false, false, false, false, false, false, false, false, false, false, false, false, false, false, false, false, false] HT_ ?_
            refine pS (i := 7) (N := some 25) #[false, true, true, true, false, true, true, true, false, false, false, false, false, false, false, false, false, false, false, false, false, false, false, false, false, false, false, false, false, false, false, false] HT_ ?_
            refine pS (i := 8) (N := some 26) #[false, true, true, true, false, true, true, true, true, false, false, false, false, false, false, false, false, false, false, false, false, false, false, false, false, false, false, false, false, false, false, false] HT_ ?_
            refine tS (i := 0) (N := some 18) #[true, true, true, true, false, true, true, true, true, false, false, false, false, false, false, false, false, false, false, false, false, false, false, false, false, false, false, false, false, false, false, false] HT_ HW_ hHeld ?_
            refine tS (i := 4) (N := some 22) #[true, true, true, true, true, true, true, true, true, false, false, false, false, false, false, false, false, false, false, false, false, false, false, false, false, false, false, false, false, false, false, false] HT_ HW_ hHeld ?_
            refine tS (i := 9) (N := some 27) #[true, true, true, true, true, true, true, true, true, true, false, false, false, false, false, false, false, false, false, false, false, false, false, false, false, false, false, false, false, false, false, false] HT_ HW_ hHeld ?_
            refine one_ (i := 10) (N := some 28) #[true, true, true, true, true, true, true, true, true, true, true, false, false, false, false, false, false, false, false, false, false, false, false, false, false, false, false, false, false, false, false, false] rfl rfl (qQA HT_.out (by kernel_rfl)) (by decide) (fun K hK => ?_)
            refine goes_ Tryd.func47 (by kernel_rfl) rfl #[.agg #[.int .i64 a0_0, .int .i64 a0_1, .slice (some ad143) l0_2.length c0_2], .int .i64 (rd t135 x6_1), .int .i64 (rd t135 (ji15))] (by rfl) rfl rfl (by (try simp only [List.map_toArray, List.map_cons, List.map_nil]); first | done | (simp only [hji15]; rfl) | rfl | (simp only [List.length_drop, List.length_take]; rfl)) ?_
            with_reducible refine (qpA.calls a0_0 a0_1 _ _ l0_2 (rd t135 x6_1) (rd t135 (ji15)) true _ ?side1 ?side2 A18.out).mono ?_
            (case side1 => repeat (first | exact (Kd.qYA HR0_2.out HB.out) | (with_reducible refine Kd.qz ?_ _) | (with_reducible refine Kd.qy ?_ _) | (with_reducible refine Kd.qNA ?_)))
            (case side2 => exact HC0_2.out)
            rintro e w26 ⟨rfl, hb⟩
            have HS3_ := (hb.cell (World.block_lt_of_cell? _ _ (hHeld.2.2.2.1))).trans (hHeld.2.2.2.1)
            have HS4_ := (hb.cell (World.block_lt_of_cell? _ _ (hHeld.2.2.2.2.1))).trans (hHeld.2.2.2.2.1)
            have HS5_ := (hb.cell (World.block_lt_of_cell? _ _ (hHeld.2.2.2.2.2.1))).trans (hHeld.2.2.2.2.2.1)
            have HS6_ := (hb.cell (World.block_lt_of_cell? _ _ (hHeld.2.2.2.2.2.2.1))).trans (hHeld.2.2.2.2.2.2.1)
            refine ⟨_, rfl, ?_⟩
            have n0_ := Aside0.mk (Kd.qa (by (with_reducible repeat (first | apply Kd.qF | apply Kd.qE | apply Kd.qH)); exact HO_11.out) hb)
            have n1_ := Aside0.mk (bb BK132 hb)
            have n2_ := Aside0.mk (bb BK133 hb)
            have n3_ := Aside0.mk (qG bl hb)
            clear HO_11
            clear BK132
            clear BK133
            clear HB
            have HO_11 := n0_
            have BK132 := n1_
            have BK133 := n2_
            have HB := n3_
            clear n0_ n1_ n2_ n3_
            (try clear hb)
            (try clear hb2)
            (try clear hk)
            (try clear hi)
            refine hK.out _ _ ⟨(qL BK132.out 0).trans rfl, (qL BK132.out 1).trans rfl, (qL BK132.out 2).trans rfl, HS3_, HS4_, HS5_, HS6_, ((HB.out.cell (World.block_lt_of_cell? w _ hw143_0)).trans hw143_0)⟩ (fun hHeld => ?_)
            clear hK K
            refine norm_ (a' := ?_) ?_ ?_
            rotate_left
            ·show Act.put _ (some 28) _ = _
             simp only [Act.put, List.setIfInBounds_toArray, List.set_cons_zero, List.set_cons_succ, i64_w, i32_w]
             rfl
            refine pS (i := 11) (N := some 29) #[true, true, true, true, true, true, true, true, true, true, true, true, false, false, false, false, false, false, false, false, false, false, false, false, false, false, false, false, false, false, false, false] HT_ ?_
            refine pS (i := 12) (N := some 30) #[true, true, true, true, true, true, true, true, true, true, true, true, true, false, false, false, false, false, false, false, false, false, false, false, false, false, false, false, false, false, false, false] HT_ ?_
            refine pS (i := 13) (N := some 31) #[true, true, true, true, true, true, true, true, true, true, true, true, true, true, false, false, false, false, false, false, false, false, false, false, false, false, false, false, false, false, false, false] HT_ ?_
            refine pS (i := 15) (N := some 33) #[true, true, true, true, true, true, true, true, true, true, true, true, true, true, false, true, false, false, false, false, false, false, false, false, false, false, false, false, false, false, false, false] HT_ ?_
            refine pS (i := 16) (N := some 34) #[true, true, true, true, true, true, true, true, true, true, true, true, true, true, false, true, true, false, false, false, false, false, false, false, false, false, false, false, false, false, false, false] HT_ ?_
            refine pS (i := 17) (N := some 35) #[true, true, true, true, true, true, true, true, true, true, true, true, true, true, false, true, true, true, false, false, false, false, false, false, false, false, false, false, false, false, false, false] HT_ ?_
            refine pS (i := 18) (N := some 36) #[true, true, true, true, true, true, true, true, true, true, true, true, true, true, false, true, true, true, true, false, false, false, false, false, false, false, false, false, false, false, false, false] HT_ ?_
            refine pS (i := 20) (N := some 38) #[true, true, true, true, true, true, true, true, true, true, true, true, true, true, false, true, true, true, true, false, true, false, false, false, false, false, false, false, false, false, false, false] HT_ ?_
            refine pS (i := 23) (N := some 41) #[true, true, true, true, true, true, true, true, true, true, true, true, true, true, false, true, true, true, true, false, true, false, false, true, false, false, false, false, false, false, false, false] HT_ ?_
            refine pS (i := 24) (N := some 42) #[true, true, true, true, true, true, true, true, true, true, true, true, true, true, false, true, true, true, true, false, true, false, false, true, true, false, false, false, false, false, false, false] HT_ ?_
            refine pS (i := 25) (N := some 43) #[true, true, true, true, true, true, true, true, true, true, true, true, true, true, false, true, true, true, true, false, true, false, false, true, true, true, false, false, false, false, false, false] HT_ ?_
            refine tS (i := 14) (N := some 32) #[true, true, true, true, true, true, true, true, true, true, true, true, true, true, true, true, true, true, true, false, true, false, false, true, true, true, false, false, false, false, false, false] HT_ HW_ hHeld ?_
            refine tS (i := 19) (N := some 37) #[true, true, true, true, true, true, true, true, true, true, true, true, true, true, true, true, true, true, true, true, true, false, false, true, true, true, false, false, false, false, false, false] HT_ HW_ hHeld ?_
            refine tS (i := 21) (N := some 39) #[true, true, true, true, true, true, true, true, true, true, true, true, true, true, true, true, true, true, true, true, true, true, false, true, true, true, false, false, false, false, false, false] HT_ HW_ hHeld ?_
            refine pS (i := 22) (N := some 40) #[true, true, true, true, true, true, true, true, true, true, true, true, true, true, true, true, true, true, true, true, true, true, true, true, true, true, false, false, false, false, false, false] HT_ ?_
            refine tS (i := 26) (N := some 44) #[true, true, true, true, true, true, true, true, true, true, true, true, true, true, true, true, true, true, true, true, true, true, true, true, true, true, true, false, false, false, false, false] HT_ HW_ hHeld ?_
            refine pS (i := 27) (N := some 45) #[true, true, true, true, true, true, true, true, true, true, true, true, true, true, true, true, true, true, true, true, true, true, true, true, true, true, true, true, false, false, false, false] HT_ ?_
            refine pS (i := 28) (N := some 46) #[true, true, true, true, true, true, true, true, true, true, true, true, true, true, true, true, true, true, true, true, true, true, true, true, true, true, true, true, true, false, false, false] HT_ ?_
            refine tS (i := 29) (N := some 47) #[true, true, true, true, true, true, true, true, true, true, true, true, true, true, true, true, true, true, true, true, true, true, true, true, true, true, true, true, true, true, false, false] HT_ HW_ hHeld ?_
            refine pS (i := 30) (N := some 48) #[true, true, true, true, true, true, true, true, true, true, true, true, true, true, true, true, true, true, true, true, true, true, true, true, true, true, true, true, true, true, true, false] HT_ ?_
            refine pS (i := 31) (N := some 49) #[true, true, true, true, true, true, true, true, true, true, true, true, true, true, true, true, true, true, true, true, true, true, true, true, true, true, true, true, true, true, true, true] HT_ ?_
            refine done_ (qqA HT_.out (by kernel_rfl)) ?_
            try go_wp2
            go_ret
            exact ⟨by first | rfl | (simp [qJ, qI] <;> rfl) | (simp only [← hji15, ← hji20]; first | rfl | (simp [qJ, qI] <;> rfl)) | (simp [*, qJ, qI] <;> rfl), bl⟩
           ·rw [if_neg c23] at H
            have c23b0 : ((rd l0_2 (ji20)) == 35) = false := beq_eq_false_iff_ne.mpr c23
            have c23b1 : ((rd l0_2 (ji20)) != 35) = true := bne_iff_ne.mpr c23
            have H' := Aside0.mk H
            clear H
            obtain ⟨Ao27, co27, eo27⟩ := Kd.qo HO_11.out
            subst eo27
            try go_wp2
            have n0_ := Aside0.mk (Kd.qH HO_11.out)
            have n1_ := Aside0.mk (qD BK132.out)
            have n2_ := Aside0.mk (qD BK133.out)
            have n3_ := Aside0.mk (qm HB.out)
            clear HO_11
            clear BK132
            clear BK133
            clear HB
            have HO_11 := n0_
            have BK132 := n1_
            have BK133 := n2_
            have HB := n3_
            clear n0_ n1_ n2_ n3_
            have p138 : 0 ≤ (x6_1 : Int) := of_decide_eq_true (by first | (with_reducible assumption) | assumption)
            have q138 : x6_1 < (t135.length : Int) := of_decide_eq_true (by first | (with_reducible assumption) | assumption)
            obtain ⟨ad138, e138, hx138_0⟩ := Kd.qAB (Kd.qT HO_11.out).2.2 x6_1 p138 q138
            cases e138
            replace p138 := eq_true p138
            replace q138 := eq_true q138
            have p139 : 0 ≤ ((ji15) : Int) := of_decide_eq_true (by first | (with_reducible assumption) | assumption)
            have q139 : (ji15) < (t135.length : Int) := of_decide_eq_true (by first | (with_reducible assumption) | assumption)
            obtain ⟨ad139, e139, hx139_0⟩ := Kd.qAB (Kd.qT HO_11.out).2.2 (ji15) p139 q139
            obtain rfl : ad138 = ad139 := (by injection e139)
            replace p139 := eq_true p139
            replace q139 := eq_true q139
            have p141 : 0 ≤ ((ji15) : Int) := of_decide_eq_true (by first | (with_reducible assumption) | assumption)
            have q141 : (ji15) < (t135.length : Int) := of_decide_eq_true (by first | (with_reducible assumption) | assumption)
            obtain ⟨ad141, e141, hx141_0⟩ := Kd.qAB (Kd.qT HO_11.out).2.2 (ji15) p141 q141
            obtain rfl : ad138 = ad141 := (by injection e141)
            replace p141 := eq_true p141
            replace q141 := eq_true q141
            have p142 : 0 ≤ (x6_1 : Int) := of_decide_eq_true (by first | (with_reducible assumption) | assumption)
            have q142 : x6_1 < (t135.length : Int) := of_decide_eq_true (by first | (with_reducible assumption) | assumption)
            obtain ⟨ad142, e142, hx142_0⟩ := Kd.qAB (Kd.qT HO_11.out).2.2 x6_1 p142 q142
            obtain rfl : ad138 = ad142 := (by injection e142)
            replace p142 := eq_true p142
            replace q142 := eq_true q142
            have p143 : 0 ≤ ((ji20) : Int) := of_decide_eq_true (by first | (with_reducible assumption) | assumption)
            have q143 : (ji20) < (l0_2.length : Int) := of_decide_eq_true (by first | (with_reducible assumption) | assumption)
            obtain ⟨ad143, e143, hx143_0⟩ := Kd.qAB HR0_2.out (ji20) p143 q143
            have hw143_0 := hx143_0
            cases e143
            replace hx143_0 := (HB.out.cell (World.block_lt_of_cell? w _ hx143_0)).trans hx143_0
            replace p143 := eq_true p143
            replace q143 := eq_true q143
            refine qyA (n := 32) (S := fun w' => w'.cell? ⟨gb132, 0, none⟩ = some (.int .i64 a0_0) ∧ w'.cell? ⟨gb132, 1, none⟩ = some (.int .i64 a0_1) ∧ w'.cell? ⟨gb132, 2, none⟩ = some (.slice (some ad143) l0_2.length c0_2) ∧ w'.cell? (ad138.add (x6_1).toNat) = some (.int .i64 (rd t135 x6_1)) ∧ w'.cell? (ad138.add ((ji15)).toNat) = some (.int .i64 (rd t135 (ji15))) ∧ w'.cell? (ad138.add ((ji15)).toNat) = some (.int .i64 (rd t135 (ji15))) ∧ w'.cell? (ad138.add (x6_1).toNat) = some (.int .i64 (rd t135 x6_1)) ∧ w'.cell? (ad143.add ((ji20)).toNat) = some (.int .u8 (rd l0_2 (ji20)))) (ds := []) #[false, false, false, false, false, false, false, false, false, false, false, false, false, false, false, false, false, false, false, false, false, false, false, false, false, false, false, false, false, false, false, false] (by kernel_rfl) rfl rfl ⟨(qL BK132.out 0).trans rfl, (qL BK132.out 1).trans rfl, (qL BK132.out 2).trans rfl, hx138_0, hx139_0, hx141_0, hx142_0, ((HB.out.cell (World.block_lt_of_cell? w _ hw143_0)).trans hw143_0)⟩ (fun hHeld => ?_); refine qWA qi.tab7 qi.bits7 (fun HT_ HW_ => ?_)
            generalize wr.drew = w28 at HO_11 BK132 BK133 HB hx138_0 hx139_0 hx141_0 hx142_0 hx143_0 hHeld ⊢
            refine pS (i := 1) (N := some 19) #[false, true, false, false, false, false, false, false, false, false, false, false, false, false, false, false, false, false, false, false, false, false, false, false, false, false, false, false, false, false, false, false] HT_ ?_
            refine pS (i := 2) (N := some 20) #[false, true, true, false, false, false, false, false, false, false, false, false, false, false, false, false, false, false, false, false, false, false, false, false, false, false, false, false, false, false, false, false] HT_ ?_
            refine pS (i := 3) (N := some 21) #[false, true, true, true, false, false, false, false, false, false, false, false, false, false, false, false, false, false, false, false, false, false, false, false, false, false, false, false, false, false, false, false] HT_ ?_
            refine pS (i := 5) (N := some 23) #[false, true, true, true, false, true, false, false, false, false, false, false, false, false, false, false, false, false, false, false, false, false, false, false, false, false, false, false, false, false, false, false] HT_ ?_
            refine pS (i := 6) (N := some 24) #[false, true, true, true, false, true, true, false, false, false, false, false, false, false, false, false, false, false, false, false, false, false, false, false, false, false, false, false, false, false, false, false] HT_ ?_
            refine pS (i := 7) (N := some 25) #[false, true, true, true, false, true, true, true, false, false, false, false, false, false, false, false, false, false, false, false, false, false, false, false, false, false, false, false, false, false, false, false] HT_ ?_
            refine pS (i := 8) (N := some 26) #[false, true, true, true, false, true, true, true, true, false, false, false, false, false, false, false, false, false, false, false, false, false, false, false, false, false, false, false, false, false, false, false] HT_ ?_
            refine tS (i := 0) (N := some 18) #[true, true, true, true, false, true, true, true, true, false, false, false, false, false, false, false, false, false, false, false, false, false, false, false, false, false, false, false, false, false, false, false] HT_ HW_ hHeld ?_
            refine tS (i := 4) (N := some 22) #[true, true, true, true, true, true, true, true, true, false, false, false, false, false, false, false, false, false, false, false, false, false, false, false, false, false, false, false, false, false, false, false] HT_ HW_ hHeld ?_
            refine tS (i := 9) (N := some 27) #[true, true, true, true, true, true, true, true, true, true, false, false, false, false, false, false, false, false, false, false, false, false, false, false, false, false, false, false, false, false, false, false] HT_ HW_ hHeld ?_
            refine one_ (i := 10) (N := some 28) #[true, true, true, true, true, true, true, true, true, true, true, false, false, false, false, false, false, false, false, false, false, false, false, false, false, false, false, false, false, false, false, false] rfl rfl (qQA HT_.out (by kernel_rfl)) (by decide) (fun K hK => ?_)
            refine goes_ Tryd.func47 (by kernel_rfl) rfl #[.agg #[.int .i64 a0_0, .int .i64 a0_1, .slice (some ad143) l0_2.length c0_2], .int .i64 (rd t135 x6_1), .int .i64 (rd t135 (ji15))] (by rfl) rfl rfl (by (try simp only [List.map_toArray, List.map_cons, List.map_nil]); first | done | (simp only [hji15]; rfl) | rfl | (simp only [List.length_drop, List.length_take]; rfl)) ?_
            with_reducible refine (qpA.calls a0_0 a0_1 _ _ l0_2 (rd t135 x6_1) (rd t135 (ji15)) true _ ?side1 ?side2 A18.out).mono ?_
            (case side1 => repeat (first | exact (Kd.qYA HR0_2.out HB.out) | (with_reducible refine Kd.qz ?_ _) | (with_reducible refine Kd.qy ?_ _) | (with_reducible refine Kd.qNA ?_)))
            (case side2 => exact HC0_2.out)
            rintro e w29 ⟨rfl, hb⟩
            have HS3_ := (hb.cell (World.block_lt_of_cell? _ _ (hHeld.2.2.2.1))).trans (hHeld.2.2.2.1)
            have HS4_ := (hb.cell (World.block_lt_of_cell? _ _ (hHeld.2.2.2.2.1))).trans (hHeld.2.2.2.2.1)
            have HS5_ := (hb.cell (World.block_lt_of_cell? _ _ (hHeld.2.2.2.2.2.1))).trans (hHeld.2.2.2.2.2.1)
            have HS6_ := (hb.cell (World.block_lt_of_cell? _ _ (hHeld.2.2.2.2.2.2.1))).trans (hHeld.2.2.2.2.2.2.1)
            refine ⟨_, rfl, ?_⟩
            have n0_ := Aside0.mk (Kd.qa (by (with_reducible repeat (first | apply Kd.qF | apply Kd.qE | apply Kd.qH)); exact HO_11.out) hb)
            have n1_ := Aside0.mk (bb BK132 hb)
            have n2_ := Aside0.mk (bb BK133 hb)
            have n3_ := Aside0.mk (qG bl hb)
            clear HO_11
            clear BK132
            clear BK133
            clear HB
            have HO_11 := n0_
            have BK132 := n1_
            have BK133 := n2_
            have HB := n3_
            clear n0_ n1_ n2_ n3_
            (try clear hb)
            (try clear hb2)
            (try clear hk)
            (try clear hi)
            refine hK.out _ _ ⟨(qL BK132.out 0).trans rfl, (qL BK132.out 1).trans rfl, (qL BK132.out 2).trans rfl, HS3_, HS4_, HS5_, HS6_, ((HB.out.cell (World.block_lt_of_cell? w _ hw143_0)).trans hw143_0)⟩ (fun hHeld => ?_)
            clear hK K
            refine norm_ (a' := ?_) ?_ ?_
            rotate_left
            ·show Act.put _ (some 28) _ = _
             simp only [Act.put, List.setIfInBounds_toArray, List.set_cons_zero, List.set_cons_succ, i64_w, i32_w]
             rfl
            refine pS (i := 11) (N := some 29) #[true, true, true, true, true, true, true, true, true, true, true, true, false, false, false, false, false, false, false, false, false, false, false, false, false, false, false, false, false, false, false, false] HT_ ?_
            refine pS (i := 12) (N := some 30) #[true, true, true, true, true, true, true, true, true, true, true, true, true, false, false, false, false, false, false, false, false, false, false, false, false, false, false, false, false, false, false, false] HT_ ?_
            refine pS (i := 13) (N := some 31) #[true, true, true, true, true, true, true, true, true, true, true, true, true, true, false, false, false, false, false, false, false, false, false, false, false, false, false, false, false, false, false, false] HT_ ?_
            refine pS (i := 15) (N := some 33) #[true, true, true, true, true, true, true, true, true, true, true, true, true, true, false, true, false, false, false, false, false, false, false, false, false, false, false, false, false, false, false, false] HT_ ?_
            refine pS (i := 16) (N := some 34) #[true, true, true, true, true, true, true, true, true, true, true, true, true, true, false, true, true, false, false, false, false, false, false, false, false, false, false, false, false, false, false, false] HT_ ?_
            refine pS (i := 17) (N := some 35) #[true, true, true, true, true, true, true, true, true, true, true, true, true, true, false, true, true, true, false, false, false, false, false, false, false, false, false, false, false, false, false, false] HT_ ?_
            refine pS (i := 18) (N := some 36) #[true, true, true, true, true, true, true, true, true, true, true, true, true, true, false, true, true, true, true, false, false, false, false, false, false, false, false, false, false, false, false, false] HT_ ?_
            refine pS (i := 20) (N := some 38) #[true, true, true, true, true, true, true, true, true, true, true, true, true, true, false, true, true, true, true, false, true, false, false, false, false, false, false, false, false, false, false, false] HT_ ?_
            refine pS (i := 23) (N := some 41) #[true, true, true, true, true, true, true, true, true, true, true, true, true, true, false, true, true, true, true, false, true, false, false, true, false, false, false, false, false, false, false, false] HT_ ?_
            refine pS (i := 24) (N := some 42) #[true, true, true, true, true, true, true, true, true, true, true, true, true, true, false, true, true, true, true, false, true, false, false, true, true, false, false, false, false, false, false, false] HT_ ?_
            refine pS (i := 25) (N := some 43) #[true, true, true, true, true, true, true, true, true, true, true, true, true, true, false, true, true, true, true, false, true, false, false, true, true, true, false, false, false, false, false, false] HT_ ?_
            refine tS (i := 14) (N := some 32) #[true, true, true, true, true, true, true, true, true, true, true, true, true, true, true, true, true, true, true, false, true, false, false, true, true, true, false, false, false, false, false, false] HT_ HW_ hHeld ?_
            refine tS (i := 19) (N := some 37) #[true, true, true, true, true, true, true, true, true, true, true, true, true, true, true, true, true, true, true, true, true, false, false, true, true, true, false, false, false, false, false, false] HT_ HW_ hHeld ?_
            refine tS (i := 21) (N := some 39) #[true, true, true, true, true, true, true, true, true, true, true, true, true, true, true, true, true, true, true, true, true, true, false, true, true, true, false, false, false, false, false, false] HT_ HW_ hHeld ?_
            refine pS (i := 22) (N := some 40) #[true, true, true, true, true, true, true, true, true, true, true, true, true, true, true, true, true, true, true, true, true, true, true, true, true, true, false, false, false, false, false, false] HT_ ?_
            refine tS (i := 26) (N := some 44) #[true, true, true, true, true, true, true, true, true, true, true, true, true, true, true, true, true, true, true, true, true, true, true, true, true, true, true, false, false, false, false, false] HT_ HW_ hHeld ?_
            refine pS (i := 27) (N := some 45) #[true, true, true, true, true, true, true, true, true, true, true, true, true, true, true, true, true, true, true, true, true, true, true, true, true, true, true, true, false, false, false, false] HT_ ?_
            refine pS (i := 28) (N := some 46) #[true, true, true, true, true, true, true, true, true, true, true, true, true, true, true, true, true, true, true, true, true, true, true, true, true, true, true, true, true, false, false, false] HT_ ?_
            refine tS (i := 29) (N := some 47) #[true, true, true, true, true, true, true, true, true, true, true, true, true, true, true, true, true, true, true, true, true, true, true, true, true, true, true, true, true, true, false, false] HT_ HW_ hHeld ?_
            refine pS (i := 30) (N := some 48) #[true, true, true, true, true, true, true, true, true, true, true, true, true, true, true, true, true, true, true, true, true, true, true, true, true, true, true, true, true, true, true, false] HT_ ?_
            refine pS (i := 31) (N := some 49) #[true, true, true, true, true, true, true, true, true, true, true, true, true, true, true, true, true, true, true, true, true, true, true, true, true, true, true, true, true, true, true, true] HT_ ?_
            refine done_ (qqA HT_.out (by kernel_rfl)) ?_
            try go_wp2
            go_roundg k1
            case measure => have := HK1.out; omega
            case rel => exact ⟨(wrap64 (x6_1 + 2)), (by first | rfl | (simp; done) | (simp [*]; done)), H', ⟨by have := HK1.out; omega⟩, ⟨by (with_reducible repeat (first | apply Kd.qF | apply Kd.qE | apply Kd.qH)); exact HO_11.out⟩, ⟨by (with_reducible repeat (first | refine qB ?_ _ | refine qD ?_ | refine qA ?_ _)); exact BK132.out⟩, ⟨by (with_reducible repeat (first | refine qB ?_ _ | refine qD ?_ | refine qA ?_ _)); exact BK133.out⟩, ⟨bl⟩⟩
          ·rw [if_neg c22] at H
           exact absurd H (by simp)
         ·rw [if_neg c21] at H
          exact absurd H (by simp)
        ·replace c19 := Bool.eq_false_iff.mpr c19
         subst c19
         have H1 : (some false) = some r := by rw [if_neg (show ¬ (false = true) by decide)] at H; exact H
         clear H
         have H := H1
         clear H1
         obtain rfl := Option.some.inj H
         obtain ⟨Ao30, co30, eo30⟩ := Kd.qo HO_11.out
         subst eo30
         try go_wp2
         have n0_ := Aside0.mk (Kd.qH HO_11.out)
         have n1_ := Aside0.mk (qD BK132.out)
         have n2_ := Aside0.mk (qD BK133.out)
         have n3_ := Aside0.mk (qm HB.out)
         clear HO_11
         clear BK132
         clear BK133
         clear HB
         have HO_11 := n0_
         have BK132 := n1_
         have BK133 := n2_
         have HB := n3_
         clear n0_ n1_ n2_ n3_
         have p138 : 0 ≤ (x6_1 : Int) := of_decide_eq_true (by first | (with_reducible assumption) | assumption)
         have q138 : x6_1 < (t135.length : Int) := of_decide_eq_true (by first | (with_reducible assumption) | assumption)
         obtain ⟨ad138, e138, hx138_0⟩ := Kd.qAB (Kd.qT HO_11.out).2.2 x6_1 p138 q138
         cases e138
         replace p138 := eq_true p138
         replace q138 := eq_true q138
         have p139 : 0 ≤ ((ji15) : Int) := of_decide_eq_true (by first | (with_reducible assumption) | assumption)
         have q139 : (ji15) < (t135.length : Int) := of_decide_eq_true (by first | (with_reducible assumption) | assumption)
         obtain ⟨ad139, e139, hx139_0⟩ := Kd.qAB (Kd.qT HO_11.out).2.2 (ji15) p139 q139
         obtain rfl : ad138 = ad139 := (by injection e139)
         replace p139 := eq_true p139
         replace q139 := eq_true q139
         refine qyA (n := 32) (S := fun w' => w'.cell? ⟨gb132, 0, none⟩ = some (.int .i64 a0_0) ∧ w'.cell? ⟨gb132, 1, none⟩ = some (.int .i64 a0_1) ∧ w'.cell? ⟨gb132, 2, none⟩ = some (.slice A0_2 l0_2.length c0_2) ∧ w'.cell? (ad138.add (x6_1).toNat) = some (.int .i64 (rd t135 x6_1)) ∧ w'.cell? (ad138.add ((ji15)).toNat) = some (.int .i64 (rd t135 (ji15)))) (ds := []) #[false, false, false, false, false, false, false, false, false, false, false, false, false, false, false, false, false, false, false, false, false, false, false, false, false, false, false, false, false, false, false, false] (by kernel_rfl) rfl rfl ⟨(qL BK132.out 0).trans rfl, (qL BK132.out 1).trans rfl, (qL BK132.out 2).trans rfl, hx138_0, hx139_0⟩ (fun hHeld => ?_); refine qWA qi.tab7 qi.bits7 (fun HT_ HW_ => ?_)
         generalize wr.drew = w31 at HO_11 BK132 BK133 HB hx138_0 hx139_0 hHeld ⊢
         refine pS (i := 1) (N := some 19) #[false, true, false, false, false, false, false, false, false, false, false, false, false, false, false, false, false, false, false, false, false, false, false, false, false, false, false, false, false, false, false, false] HT_ ?_
         refine pS (i := 2) (N := some 20) #[false, true, true, false, false, false, false, false, false, false, false, false, false, false, false, false, false, false, false, false, false, false, false, false, false, false, false, false, false, false, false, false] HT_ ?_
         refine pS (i := 3) (N := some 21) #[false, true, true, true, false, false, false, false, false, false, false, false, false, false, false, false, false, false, false, false, false, false, false, false, false, false, false, false, false, false, false, false] HT_ ?_
         refine pS (i := 5) (N := some 23) #[false, true, true, true, false, true, false, false, false, false, false, false, false, false, false, false, false, false, false, false, false, false, false, false, false, false, false, false, false, false, false, false] HT_ ?_
         refine pS (i := 6) (N := some 24) #[false, true, true, true, false, true, true, false, false, false, false, false, false, false, false, false, false, false, false, false, false, false, false, false, false, false, false, false, false, false, false, false] HT_ ?_
         refine pS (i := 7) (N := some 25) #[false, true, true, true, false, true, true, true, false, false, false, false, false, false, false, false, false, false, false, false, false, false, false, false, false, false, false, false, false, false, false, false] HT_ ?_
         refine pS (i := 8) (N := some 26) #[false, true, true, true, false, true, true, true, true, false, false, false, false, false, false, false, false, false, false, false, false, false, false, false, false, false, false, false, false, false, false, false] HT_ ?_
         refine tS (i := 0) (N := some 18) #[true, true, true, true, false, true, true, true, true, false, false, false, false, false, false, false, false, false, false, false, false, false, false, false, false, false, false, false, false, false, false, false] HT_ HW_ hHeld ?_
         refine tS (i := 4) (N := some 22) #[true, true, true, true, true, true, true, true, true, false, false, false, false, false, false, false, false, false, false, false, false, false, false, false, false, false, false, false, false, false, false, false] HT_ HW_ hHeld ?_
         refine tS (i := 9) (N := some 27) #[true, true, true, true, true, true, true, true, true, true, false, false, false, false, false, false, false, false, false, false, false, false, false, false, false, false, false, false, false, false, false, false] HT_ HW_ hHeld ?_
         refine one_ (i := 10) (N := some 28) #[true, true, true, true, true, true, true, true, true, true, true, false, false, false, false, false, false, false, false, false, false, false, false, false, false, false, false, false, false, false, false, false] rfl rfl (qQA HT_.out (by kernel_rfl)) (by decide) (fun K hK => ?_)
         refine goes_ Tryd.func47 (by kernel_rfl) rfl #[.agg #[.int .i64 a0_0, .int .i64 a0_1, .slice A0_2 l0_2.length c0_2], .int .i64 (rd t135 x6_1), .int .i64 (rd t135 (ji15))] (by rfl) rfl rfl (by (try simp only [List.map_toArray, List.map_cons, List.map_nil]); first | done | (simp only [hji15]; rfl) | rfl | (simp only [List.length_drop, List.length_take]; rfl)) ?_
         with_reducible refine (qpA.calls a0_0 a0_1 _ _ l0_2 (rd t135 x6_1) (rd t135 (ji15)) false _ ?side1 ?side2 A18.out).mono ?_
         (case side1 => repeat (first | exact (Kd.qYA HR0_2.out HB.out) | (with_reducible refine Kd.qz ?_ _) | (with_reducible refine Kd.qy ?_ _) | (with_reducible refine Kd.qNA ?_)))
         (case side2 => exact HC0_2.out)
         rintro e w32 ⟨rfl, hb⟩
         have HS3_ := (hb.cell (World.block_lt_of_cell? _ _ (hHeld.2.2.2.1))).trans (hHeld.2.2.2.1)
         have HS4_ := (hb.cell (World.block_lt_of_cell? _ _ (hHeld.2.2.2.2))).trans (hHeld.2.2.2.2)
         refine ⟨_, rfl, ?_⟩
         have n0_ := Aside0.mk (Kd.qa (by (with_reducible repeat (first | apply Kd.qF | apply Kd.qE | apply Kd.qH)); exact HO_11.out) hb)
         have n1_ := Aside0.mk (bb BK132 hb)
         have n2_ := Aside0.mk (bb BK133 hb)
         have n3_ := Aside0.mk (qG bl hb)
         clear HO_11
         clear BK132
         clear BK133
         clear HB
         have HO_11 := n0_
         have BK132 := n1_
         have BK133 := n2_
         have HB := n3_
         clear n0_ n1_ n2_ n3_
         (try clear hb)
         (try clear hb2)
         (try clear hk)
         (try clear hi)
         refine hK.out _ _ ⟨(qL BK132.out 0).trans rfl, (qL BK132.out 1).trans rfl, (qL BK132.out 2).trans rfl, HS3_, HS4_⟩ (fun hHeld => ?_)
         clear hK K
         refine norm_ (a' := ?_) ?_ ?_
         rotate_left
         ·show Act.put _ (some 28) _ = _
          simp only [Act.put, List.setIfInBounds_toArray, List.set_cons_zero, List.set_cons_succ, i64_w, i32_w]
          rfl
         refine pS (i := 11) (N := some 29) #[true, true, true, true, true, true, true, true, true, true, true, true, false, false, false, false, false, false, false, false, false, false, false, false, false, false, false, false, false, false, false, false] HT_ ?_
         refine pS (i := 12) (N := some 30) #[true, true, true, true, true, true, true, true, true, true, true, true, true, false, false, false, false, false, false, false, false, false, false, false, false, false, false, false, false, false, false, false] HT_ ?_
         refine pure_ (i := 13) (N := some 31) (v := undef) (a' := ?_) #[true, true, true, true, true, true, true, true, true, true, true, true, true, true, false, false, false, false, false, false, false, false, false, false, false, false, false, false, false, false, false, false] rfl rfl (qZA HT_.out (by kernel_rfl)) (fun _ _ _ h => h) (Or.inr ⟨by rfl, rfl⟩) ?_ ?_
         rotate_left
         ·simp only [Act.put, List.setIfInBounds_toArray, List.set_cons_zero, List.set_cons_succ, i64_w, i32_w]
          rfl
         refine pure_ (i := 14) (N := some 32) (v := undef) (a' := ?_) #[true, true, true, true, true, true, true, true, true, true, true, true, true, true, true, false, false, false, false, false, false, false, false, false, false, false, false, false, false, false, false, false] rfl rfl (qZA HT_.out (by kernel_rfl)) (fun _ _ _ h => h) (Or.inr ⟨by rfl, rfl⟩) ?_ ?_
         rotate_left
         ·simp only [Act.put, List.setIfInBounds_toArray, List.set_cons_zero, List.set_cons_succ, i64_w, i32_w]
          rfl
         refine pure_ (i := 15) (N := some 33) (v := undef) (a' := ?_) #[true, true, true, true, true, true, true, true, true, true, true, true, true, true, true, true, false, false, false, false, false, false, false, false, false, false, false, false, false, false, false, false] rfl rfl (qZA HT_.out (by kernel_rfl)) (fun _ _ _ h => h) (Or.inr ⟨by rfl, rfl⟩) ?_ ?_
         rotate_left
         ·simp only [Act.put, List.setIfInBounds_toArray, List.set_cons_zero, List.set_cons_succ, i64_w, i32_w]
          rfl
         refine pure_ (i := 16) (N := some 34) (v := undef) (a' := ?_) #[true, true, true, true, true, true, true, true, true, true, true, true, true, true, true, true, true, false, false, false, false, false, false, false, false, false, false, false, false, false, false, false] rfl rfl (qZA HT_.out (by kernel_rfl)) (fun _ _ _ h => h) (Or.inr ⟨by rfl, rfl⟩) ?_ ?_
         rotate_left
         ·simp only [Act.put, List.setIfInBounds_toArray, List.set_cons_zero, List.set_cons_succ, i64_w, i32_w]
          rfl
         refine pure_ (i := 17) (N := some 35) (v := undef) (a' := ?_) #[true, true, true, true, true, true, true, true, true, true, true, true, true, true, true, true, true, true, false, false, false, false, false, false, false, false, false, false, false, false, false, false] rfl rfl (qZA HT_.out (by kernel_rfl)) (fun _ _ _ h => h) (Or.inr ⟨by rfl, rfl⟩) ?_ ?_
         rotate_left
         ·simp only [Act.put, List.setIfInBounds_toArray, List.set_cons_zero, List.set_cons_succ, i64_w, i32_w]
          rfl
         refine pure_ (i := 18) (N := some 36) (v := undef) (a' := ?_) #[true, true, true, true, true, true, true, true, true, true, true, true, true, true, true, true, true, true, true, false, false, false, false, false, false, false, false, false, false, false, false, false] rfl rfl (qZA HT_.out (by kernel_rfl)) (fun _ _ _ h => h) (Or.inr ⟨by rfl, rfl⟩) ?_ ?_
         rotate_left
         ·simp only [Act.put, List.setIfInBounds_toArray, List.set_cons_zero, List.set_cons_succ, i64_w, i32_w]
          rfl
         refine pure_ (i := 19) (N := some 37) (v := undef) (a' := ?_) #[true, true, true, true, true, true, true, true, true, true, true, true, true, true, true, true, true, true, true, true, false, false, false, false, false, false, false, false, false, false, false, false] rfl rfl (qZA HT_.out (by kernel_rfl)) (fun _ _ _ h => h) (Or.inr ⟨by rfl, rfl⟩) ?_ ?_
         rotate_left
         ·simp only [Act.put, List.setIfInBounds_toArray, List.set_cons_zero, List.set_cons_succ, i64_w, i32_w]
          rfl
         refine pure_ (i := 20) (N := some 38) (v := undef) (a' := ?_) #[true, true, true, true, true, true, true, true, true, true, true, true, true, true, true, true, true, true, true, true, true, false, false, false, false, false, false, false, false, false, false, false] rfl rfl (qZA HT_.out (by kernel_rfl)) (fun _ _ _ h => h) (Or.inr ⟨by rfl, rfl⟩) ?_ ?_
         rotate_left
         ·simp only [Act.put, List.setIfInBounds_toArray, List.set_cons_zero, List.set_cons_succ, i64_w, i32_w]
          rfl
         refine pure_ (i := 21) (N := some 39) (v := undef) (a' := ?_) #[true, true, true, true, true, true, true, true, true, true, true, true, true, true, true, true, true, true, true, true, true, true, false, false, false, false, false, false, false, false, false, false] rfl rfl (qZA HT_.out (by kernel_rfl)) (fun _ _ _ h => h) (Or.inr ⟨by rfl, rfl⟩) ?_ ?_
         rotate_left
         ·simp only [Act.put, List.setIfInBounds_toArray, List.set_cons_zero, List.set_cons_succ, i64_w, i32_w]
          rfl
         refine pure_ (i := 22) (N := some 40) (v := undef) (a' := ?_) #[true, true, true, true, true, true, true, true, true, true, true, true, true, true, true, true, true, true, true, true, true, true, true, false, false, false, false, false, false, false, false, false] rfl rfl (qZA HT_.out (by kernel_rfl)) (fun _ _ _ h => h) (Or.inr ⟨by rfl, rfl⟩) ?_ ?_
         rotate_left
         ·simp only [Act.put, List.setIfInBounds_toArray, List.set_cons_zero, List.set_cons_succ, i64_w, i32_w]
          rfl
         refine pure_ (i := 23) (N := some 41) (v := undef) (a' := ?_) #[true, true, true, true, true, true, true, true, true, true, true, true, true, true, true, true, true, true, true, true, true, true, true, true, false, false, false, false, false, false, false, false] rfl rfl (qZA HT_.out (by kernel_rfl)) (fun _ _ _ h => h) (Or.inr ⟨by rfl, rfl⟩) ?_ ?_
         rotate_left
         ·simp only [Act.put, List.setIfInBounds_toArray, List.set_cons_zero, List.set_cons_succ, i64_w, i32_w]
          rfl
         refine pure_ (i := 24) (N := some 42) (v := undef) (a' := ?_) #[true, true, true, true, true, true, true, true, true, true, true, true, true, true, true, true, true, true, true, true, true, true, true, true, true, false, false, false, false, false, false, false] rfl rfl (qZA HT_.out (by kernel_rfl)) (fun _ _ _ h => h) (Or.inr ⟨by rfl, rfl⟩) ?_ ?_
         rotate_left
         ·simp only [Act.put, List.setIfInBounds_toArray, List.set_cons_zero, List.set_cons_succ, i64_w, i32_w]
          rfl
         refine pure_ (i := 25) (N := some 43) (v := undef) (a' := ?_) #[true, true, true, true, true, true, true, true, true, true, true, true, true, true, true, true, true, true, true, true, true, true, true, true, true, true, false, false, false, false, false, false] rfl rfl (qZA HT_.out (by kernel_rfl)) (fun _ _ _ h => h) (Or.inr ⟨by rfl, rfl⟩) ?_ ?_
         rotate_left
         ·simp only [Act.put, List.setIfInBounds_toArray, List.set_cons_zero, List.set_cons_succ, i64_w, i32_w]
          rfl
         refine pure_ (i := 26) (N := some 44) (v := undef) (a' := ?_) #[true, true, true, true, true, true, true, true, true, true, true, true, true, true, true, true, true, true, true, true, true, true, true, true, true, true, true, false, false, false, false, false] rfl rfl (qZA HT_.out (by kernel_rfl)) (fun _ _ _ h => h) (Or.inr ⟨by rfl, rfl⟩) ?_ ?_
         rotate_left
         ·simp only [Act.put, List.setIfInBounds_toArray, List.set_cons_zero, List.set_cons_succ, i64_w, i32_w]
          rfl
         refine pure_ (i := 27) (N := some 45) (v := undef) (a' := ?_) #[true, true, true, true, true, true, true, true, true, true, true, true, true, true, true, true, true, true, true, true, true, true, true, true, true, true, true, true, false, false, false, false] rfl rfl (qZA HT_.out (by kernel_rfl)) (fun _ _ _ h => h) (Or.inr ⟨by rfl, rfl⟩) ?_ ?_
         rotate_left
         ·simp only [Act.put, List.setIfInBounds_toArray, List.set_cons_zero, List.set_cons_succ, i64_w, i32_w]
          rfl
         refine pure_ (i := 28) (N := some 46) (v := undef) (a' := ?_) #[true, true, true, true, true, true, true, true, true, true, true, true, true, true, true, true, true, true, true, true, true, true, true, true, true, true, true, true, true, false, false, false] rfl rfl (qZA HT_.out (by kernel_rfl)) (fun _ _ _ h => h) (Or.inr ⟨by rfl, rfl⟩) ?_ ?_
         rotate_left
         ·simp only [Act.put, List.setIfInBounds_toArray, List.set_cons_zero, List.set_cons_succ, i64_w, i32_w]
          rfl
         refine pure_ (i := 29) (N := some 47) (v := undef) (a' := ?_) #[true, true, true, true, true, true, true, true, true, true, true, true, true, true, true, true, true, true, true, true, true, true, true, true, true, true, true, true, true, true, false, false] rfl rfl (qZA HT_.out (by kernel_rfl)) (fun _ _ _ h => h) (Or.inr ⟨by rfl, rfl⟩) ?_ ?_
         rotate_left
         ·simp only [Act.put, List.setIfInBounds_toArray, List.set_cons_zero, List.set_cons_succ, i64_w, i32_w]
          rfl
         refine pure_ (i := 30) (N := some 48) (v := undef) (a' := ?_) #[true, true, true, true, true, true, true, true, true, true, true, true, true, true, true, true, true, true, true, true, true, true, true, true, true, true, true, true, true, true, true, false] rfl rfl (qZA HT_.out (by kernel_rfl)) (fun _ _ _ h => h) (Or.inr ⟨by rfl, rfl⟩) ?_ ?_
         rotate_left
         ·simp only [Act.put, List.setIfInBounds_toArray, List.set_cons_zero, List.set_cons_succ, i64_w, i32_w]
          rfl
         refine pS (i := 31) (N := some 49) #[true, true, true, true, true, true, true, true, true, true, true, true, true, true, true, true, true, true, true, true, true, true, true, true, true, true, true, true, true, true, true, true] HT_ ?_
         refine done_ (qqA HT_.out (by kernel_rfl)) ?_
         try go_wp2
         go_ret
         exact ⟨by first | rfl | (simp [qJ, qI] <;> rfl) | (simp only [← hji15]; first | rfl | (simp [qJ, qI] <;> rfl)) | (simp [*, qJ, qI] <;> rfl), bl⟩
       ·rw [if_neg c17] at H
        exact absurd H (by simp)
      ·rw [if_neg c16] at H
       exact absurd H (by simp)
     ·rw [if_neg c14] at H
      exact absurd H (by simp)
    ·rw [if_neg c13] at H
     have c13b0 : decide (x6_1 < (t135.length : Int)) = false := decide_eq_false c13
     clear c13
     by_cases c33 : a1_2 = 0
     ·rw [if_pos c33] at H
      have c33b0 : (a1_2 == 0) = true := beq_iff_eq.mpr c33
      have c33b1 : (a1_2 != 0) = false := bne_eq_false_iff_eq.mpr c33
      clear c33
      obtain ⟨ji34, hji34⟩ : ∃ j_ : Int, (wrap64 ((wrap64 (a1_1 * a0_0)) + a1_0)) = j_ := ⟨_, rfl⟩
      replace H : (if 0 ≤ (ji34) then (if (ji34) < (l0_2.length : Int) then (some ((rd l0_2 (ji34)) != 45)) else (none)) else (none)) = some r := by first | (rw [hji34] at H; exact H) | (simp only [hji34] at H ⊢; exact H)
      have hji34w : (IntKind.i64.wrap ((wrap64 (a1_1 * a0_0)) + a1_0)) = ji34 := (i64_w _).trans hji34
      by_cases c35 : 0 ≤ (ji34)
      ·rw [if_pos c35] at H
       have c35b0 : decide (0 ≤ (ji34)) = true := decide_eq_true c35
       clear c35
       by_cases c36 : (ji34) < (l0_2.length : Int)
       ·rw [if_pos c36] at H
        have c36b0 : decide ((ji34) < (l0_2.length : Int)) = true := decide_eq_true c36
        clear c36
        obtain rfl := Option.some.inj H
        obtain ⟨Ao37, co37, eo37⟩ := Kd.qo HO_11.out
        subst eo37
        have hnb38 := NB133_132.out
        have hnc38 := NB132_133.out
        have hcz39_0 := bc BK133 0
        have hcz39_1 := bc BK133 1
        have hcz39_2 := bc BK133 2
        have hfz39_0 := qC BK133.out 0
        have hfz39_1 := qC BK133.out 1
        have hfz39_2 := qC BK133.out 2
        have hcz40_0 := bc BK132 0
        have hcz40_1 := bc BK132 1
        have hcz40_2 := bc BK132 2
        have hfz40_0 := qC BK132.out 0
        have hfz40_1 := qC BK132.out 1
        have hfz40_2 := qC BK132.out 2
        have p144 : 0 ≤ ((ji34) : Int) := of_decide_eq_true (by first | (with_reducible assumption) | assumption)
        have q144 : (ji34) < (l0_2.length : Int) := of_decide_eq_true (by first | (with_reducible assumption) | assumption)
        obtain ⟨ad144, e144, hx144_0⟩ := Kd.qAB HR0_2.out (ji34) p144 q144
        cases e144
        replace hx144_0 := (HB.out.cell (World.block_lt_of_cell? w _ hx144_0)).trans hx144_0
        replace p144 := eq_true p144
        replace q144 := eq_true q144
        go_wp2
        go_ret
        exact ⟨by first | rfl | (simp [qJ, qI] <;> rfl) | (simp only [← hji34]; first | rfl | (simp [qJ, qI] <;> rfl)) | (simp [*, qJ, qI] <;> rfl), bl⟩
       ·rw [if_neg c36] at H
        exact absurd H (by simp)
      ·rw [if_neg c35] at H
       exact absurd H (by simp)
     ·rw [if_neg c33] at H
      have c33b0 : (a1_2 == 0) = false := beq_eq_false_iff_ne.mpr c33
      have c33b1 : (a1_2 != 0) = true := bne_iff_ne.mpr c33
      obtain rfl := Option.some.inj H
      obtain ⟨Ao41, co41, eo41⟩ := Kd.qo HO_11.out
      subst eo41
      have hnb42 := NB133_132.out
      have hnc42 := NB132_133.out
      have hcz43_0 := bc BK133 0
      have hcz43_1 := bc BK133 1
      have hcz43_2 := bc BK133 2
      have hfz43_0 := qC BK133.out 0
      have hfz43_1 := qC BK133.out 1
      have hfz43_2 := qC BK133.out 2
      go_wp2
      go_ret
      exact ⟨by first | rfl | (simp [qJ, qI] <;> rfl) | (simp [*, qJ, qI] <;> rfl), bl⟩
 ·replace c4 := Bool.eq_false_iff.mpr c4
  subst c4
  have H1 : (some false) = some r := by rw [if_neg (show ¬ (false = true) by decide)] at H; exact H
  clear H
  have H := H1
  clear H1
  obtain rfl := Option.some.inj H
  go_enter Tryd.func27, Tryd.ntmps27
  go_wp2_with (first | ((with_reducible refine qd (N := 2) rfl ?_); refine qY ?hg (N := 2) ?hd (cs := #[.int .i64 a0_0, .int .i64 a0_1, .slice A0_2 l0_2.length c0_2]) (t := 34) ?hr ?_; (case hd => rfl); (case hg => rfl); (case hr => first | (go_simp; done) | (go_simp; rfl)); intro gb132 hg w44 hbox hb; have n0_ := Aside0.mk (qG bl hb); have n1_ := Aside0.mk (hbox); have n2_ := Aside0.mk ((gg hg)); have n3_ := Aside0.mk ((gg hg)); clear HB; have HB := n0_; have BK132 := n1_; have GW132 := n2_; have GE132 := n3_; clear n0_ n1_ n2_ n3_; clear hb hbox hg) | ((with_reducible refine qd (N := 3) rfl ?_); refine qY ?hg (N := 3) ?hd (cs := #[.int .i64 a1_0, .int .i64 a1_1, .int .i64 a1_2]) (t := 27) ?hr ?_; (case hd => rfl); (case hg => rfl); (case hr => first | (go_simp; done) | (go_simp; rfl)); intro gb133 hg w45 hbox hb; have n0_ := Aside0.mk (bb BK132 hb); have n1_ := Aside0.mk (qG bl hb); have n2_ := Aside0.mk (hbox); have n3_ := Aside0.mk ((gg hg)); have n4_ := Aside0.mk ((gg hg)); have n5_ := Aside0.mk ((nl BK132 hg)); have n6_ := Aside0.mk ((nr BK132 hg)); clear BK132; clear HB; have BK132 := n0_; have HB := n1_; have BK133 := n2_; have GW133 := n3_; have GE133 := n4_; have NB132_133 := n5_; have NB133_132 := n6_; clear n0_ n1_ n2_ n3_ n4_ n5_ n6_; clear hb hbox hg; have hnb46 := NB133_132.out; have hnc46 := NB132_133.out; have hcz47_0 := bc BK133 0; have hcz47_1 := bc BK133 1; have hcz47_2 := bc BK133 2; have hfz47_0 := qC BK133.out 0; have hfz47_1 := qC BK133.out 1; have hfz47_2 := qC BK133.out 2) | ((with_reducible refine qS (f := 45) rfl ?_); refine qt (some 8) rfl rfl Tryd.func45 (by kernel_rfl) rfl #[.agg #[.int .i64 a1_0, .int .i64 a1_1, .int .i64 a1_2]] rfl (by (try simp only [List.map_toArray, List.map_cons, List.map_nil]); first | done | rfl | (simp only [List.length_drop, List.length_take]; rfl)) ?_; (with_reducible refine (quA.calls a1_0 a1_1 a1_2 false _ A3.out).mono ?_); rintro e w48 ⟨rfl, hb⟩; refine ⟨_, rfl, ?_⟩; have n0_ := Aside0.mk (bb BK132 hb); have n1_ := Aside0.mk (bb BK133 hb); have n2_ := Aside0.mk (qG bl hb); clear BK132; clear BK133; clear HB; have BK132 := n0_; have BK133 := n1_; have HB := n2_; clear n0_ n1_ n2_; (try clear hb); (try clear hb2); (try clear hk); (try clear hi)))
  go_ret
  exact ⟨by first | rfl | (simp [qJ, qI] <;> rfl) | (simp [*, qJ, qI] <;> rfl), bl⟩
def qJA.f (k : Nat) (a0 : ByteArray) (a1_0 : Int) (a1_1 : Int) (a1_2 : Int) : Option (Int × Int × List Int × Bool) := (qc.f k a0).bind fun bt147 => (if bt147.2.2.2 = true then ((qi.f k bt147.1 bt147.2.1 bt147.2.2.1 a1_0 a1_1 a1_2).bind fun t154 => (some (bt147.1, bt147.2.1, bt147.2.2.1, t154))) else (some (bt147.1, bt147.2.1, bt147.2.2.1, false)))
def qJA.T2 : Bool × List (List Nat × List Nat) := (true, [([], []), ([], []), ([1], [1]), ([2], [2]), ([2], [2]), ([3, 4, 2, 2], [2, 3, 4]), ([2, 5], [2, 5]), ([0, 5, 0], [0]), ([6, 7, 0, 1, 2, 3, 4, 5, 6, 7], [6])])
def qJA.B2 : List Nat := [0, 0, 2, 6, 6, 30, 62, 63, 255]
theorem qJA.tab2 : rtab .any (opsOf Tryd.f16 2) = qJA.T2 := by kernel_rfl
theorem qJA.bits2 : waitsOk qJA.T2.2 qJA.B2 = true := by kernel_rfl
set_option maxHeartbeats 8000000 in
set_option maxRecDepth 100000 in
theorem qJA.calls (k : Nat) (a0 : ByteArray) (a1_0 : Int) (a1_1 : Int) (a1_2 : Int) (r1 : Int) (r2 : Int) (r3 : List Int) (r4 : Bool) (w : World) (h : qJA.f k a0 a1_0 a1_1 a1_2 = some (r1, r2, r3, r4)) :
  Calls Tryd.prog 16 #[.string a0, .agg #[.int .i64 a1_0, .int .i64 a1_1, .int .i64 a1_2]] w fun e w' => ∃ v2_ : Value, e = .returned (.tuple #[.agg #[.int .i64 r1, .int .i64 r2, v2_], .bool r4]) ∧ Kd.R (Kd.int .u8) 5 w' w.heap.size (fun _ => True) v2_ r3 ∧ Below w.heap.size w w' := by
 have hu27 := Tryd.underlying27
 have hu34 := Tryd.underlying34
 have HB := Aside0.mk (Below.refl w.heap.size w)
 have H : ((qc.f k a0).bind fun bt147 => (if bt147.2.2.2 = true then ((qi.f k bt147.1 bt147.2.1 bt147.2.2.1 a1_0 a1_1 a1_2).bind fun t154 => (some (bt147.1, bt147.2.1, bt147.2.2.1, t154))) else (some (bt147.1, bt147.2.1, bt147.2.2.1, false)))) = some (r1, r2, r3, r4) := h
 clear h
 replace H := Option.bind_eq_some_iff.mp H
 obtain ⟨⟨t147, t148, t149, t152⟩, A30, H⟩ := H
 replace H : (if t152 = true then ((qi.f k t147 t148 t149 a1_0 a1_1 a1_2).bind fun t154 => (some (t147, t148, t149, t154))) else (some (t147, t148, t149, false))) = some (r1, r2, r3, r4) := H
 have A3 := Aside0.mk A30
 clear A30
 by_cases c4 : t152 = true
 ·subst c4
  have H1 : ((qi.f k t147 t148 t149 a1_0 a1_1 a1_2).bind fun t154 => (some (t147, t148, t149, t154))) = some (r1, r2, r3, r4) := by rw [if_pos rfl] at H; exact H
  clear H
  have H := H1
  clear H1
  replace H := Option.bind_eq_some_iff.mp H
  obtain ⟨t154, A50, H⟩ := H
  replace H : (some (t147, t148, t149, t154)) = some (r1, r2, r3, r4) := H
  have A5 := Aside0.mk A50
  clear A50
  simp only [Option.some.injEq, Prod.mk.injEq] at H
  obtain ⟨rfl, rfl, rfl, rfl⟩ := H
  go_enter Tryd.func16, Tryd.ntmps16
  try go_wp2_with (first | ((with_reducible refine qd (N := 3) rfl ?_); refine qY ?hg (N := 3) ?hd (cs := #[.int .i64 a1_0, .int .i64 a1_1, .int .i64 a1_2]) (t := 27) ?hr ?_; (case hd => rfl); (case hg => rfl); (case hr => first | (go_simp; done) | (go_simp; rfl)); intro gb145 hg w6 hbox hb; have n0_ := Aside0.mk (qG bl hb); have n1_ := Aside0.mk (hbox); have n2_ := Aside0.mk ((gg hg)); have n3_ := Aside0.mk ((gg hg)); clear HB; have HB := n0_; have BK145 := n1_; have GW145 := n2_; have GE145 := n3_; clear n0_ n1_ n2_ n3_; clear hb hbox hg) | ((with_reducible refine qd (N := 4) rfl ?_); refine qY ?hg (N := 4) ?hd (cs := #[.int .i64 0, .int .i64 0, .slice none 0 0]) (t := 34) ?hr ?_; (case hd => rfl); (case hg => rfl); (case hr => first | (go_simp; done) | (go_simp; rfl)); intro gb146 hg w7 hbox hb; have n0_ := Aside0.mk (bb BK145 hb); have n1_ := Aside0.mk (qG bl hb); have n2_ := Aside0.mk (hbox); have n3_ := Aside0.mk ((gg hg)); have n4_ := Aside0.mk ((gg hg)); have n5_ := Aside0.mk ((nl BK145 hg)); have n6_ := Aside0.mk ((nr BK145 hg)); clear BK145; clear HB; have BK145 := n0_; have HB := n1_; have BK146 := n2_; have GW146 := n3_; have GE146 := n4_; have NB145_146 := n5_; have NB146_145 := n6_; clear n0_ n1_ n2_ n3_ n4_ n5_ n6_; clear hb hbox hg) | ((with_reducible refine qS (f := 26) rfl ?_); refine qt (some 10) rfl rfl Tryd.func26 (by kernel_rfl) rfl #[.string a0] rfl (by (try simp only [List.map_toArray, List.map_cons, List.map_nil]); first | done | rfl | (simp only [List.length_drop, List.length_take]; rfl)) ?_; (with_reducible refine (qc.calls k a0 t147 t148 t149 true _ A3.out).mono ?_); rintro e w8 ⟨v150, rfl, ho0, hb⟩; refine ⟨_, rfl, ?_⟩; have n0_ := Aside0.mk (Kd.qHA ho0 (qg bl)); have n1_ := Aside0.mk (bb BK145 hb); have n2_ := Aside0.mk (bb BK146 hb); have n3_ := Aside0.mk (qG bl hb); clear BK145; clear BK146; clear HB; have HO151 := n0_; have BK145 := n1_; have BK146 := n2_; have HB := n3_; clear n0_ n1_ n2_ n3_; (try clear hb); (try clear hb2); (try clear hk); (try clear hi); (try clear ho0)) | ((with_reducible refine qd (N := 6) rfl ?_); refine qY ?hg (N := 6) ?hd (cs := #[.int .i64 0, .int .i64 0, .slice none 0 0]) (t := 34) ?hr ?_; (case hd => rfl); (case hg => rfl); (case hr => first | (go_simp; done) | (go_simp; rfl)); intro gb153 hg w9 hbox hb; have n0_ := Aside0.mk (Kd.qa (by (with_reducible repeat (first | apply Kd.qF | apply Kd.qE | apply Kd.qH)); exact HO151.out) hb); have n1_ := Aside0.mk (bb BK145 hb); have n2_ := Aside0.mk (bb BK146 hb); have n3_ := Aside0.mk (qG bl hb); have n4_ := Aside0.mk (hbox); have n5_ := Aside0.mk ((gg hg)); have n6_ := Aside0.mk ((gg hg)); have n7_ := Aside0.mk ((nl BK145 hg)); have n8_ := Aside0.mk ((nr BK145 hg)); have n9_ := Aside0.mk ((nl BK146 hg)); have n10_ := Aside0.mk ((nr BK146 hg)); clear HO151; clear BK145; clear BK146; clear HB; have HO151 := n0_; have BK145 := n1_; have BK146 := n2_; have HB := n3_; have BK153 := n4_; have GW153 := n5_; have GE153 := n6_; have NB145_153 := n7_; have NB153_145 := n8_; have NB146_153 := n9_; have NB153_146 := n10_; clear n0_ n1_ n2_ n3_ n4_ n5_ n6_ n7_ n8_ n9_ n10_; clear hb hbox hg; have hnb10 := NB153_145.out; have hnc10 := NB145_153.out; have hnb11 := NB153_146.out; have hnc11 := NB146_153.out; have hcz12_0 := bc BK153 0; have hcz12_1 := bc BK153 1; have hcz12_2 := bc BK153 2; have hfz12_0 := qC BK153.out 0; have hfz12_1 := qC BK153.out 1; have hfz12_2 := qC BK153.out 2; obtain ⟨Ao13, co13, eo13⟩ := Kd.qo HO151.out; subst eo13))
  have n0_ : Aside0 (Kd.R (Kd.int .u8) 5 (((w9.setCell ⟨gb153, 0, none⟩ (.int .i64 t147)).setCell ⟨gb153, 1, none⟩ (.int .i64 t148)).setCell ⟨gb153, 2, none⟩ (.slice Ao13 t149.length co13)) w.heap.size (fun _ => True) (.slice Ao13 t149.length co13) t149) := ⟨by (with_reducible repeat (first | apply Kd.qF | apply Kd.qE | apply Kd.qH)); exact Kd.qh (Kd.R_far (p := ⟨gb153, 2, none⟩) (Kd.R_far (p := ⟨gb153, 1, none⟩) (Kd.R_far (p := ⟨gb153, 0, none⟩) (Kd.qEA HO151.out BK153.out (by decide)) (fun _ hk => hk.2) (.int .i64 t147)) (fun _ hk => hk.2) (.int .i64 t148)) (fun _ hk => hk.2) (.slice Ao13 t149.length co13)) (fun _ hk => trivial)⟩
  have n1_ : Aside0 ((((w9.setCell ⟨gb153, 0, none⟩ (.int .i64 t147)).setCell ⟨gb153, 1, none⟩ (.int .i64 t148)).setCell ⟨gb153, 2, none⟩ (.slice Ao13 t149.length co13)).heap[gb145]? = some (.cells #[.int .i64 a1_0, .int .i64 a1_1, .int .i64 a1_2] 27 (0, 0))) := ⟨by (with_reducible repeat (first | refine qB ?_ _ | refine qD ?_ | refine qA ?_ _)); refine qN ?_ NB145_153.out _; (with_reducible repeat (first | refine qB ?_ _ | refine qD ?_ | refine qA ?_ _)); refine qN ?_ NB145_153.out _; (with_reducible repeat (first | refine qB ?_ _ | refine qD ?_ | refine qA ?_ _)); refine qN ?_ NB145_153.out _; (with_reducible repeat (first | refine qB ?_ _ | refine qD ?_ | refine qA ?_ _)); exact BK145.out⟩
  have n2_ : Aside0 ((((w9.setCell ⟨gb153, 0, none⟩ (.int .i64 t147)).setCell ⟨gb153, 1, none⟩ (.int .i64 t148)).setCell ⟨gb153, 2, none⟩ (.slice Ao13 t149.length co13)).heap[gb146]? = some (.cells #[.int .i64 0, .int .i64 0, .slice none 0 0] 34 (0, 0))) := ⟨by (with_reducible repeat (first | refine qB ?_ _ | refine qD ?_ | refine qA ?_ _)); refine qN ?_ NB146_153.out _; (with_reducible repeat (first | refine qB ?_ _ | refine qD ?_ | refine qA ?_ _)); refine qN ?_ NB146_153.out _; (with_reducible repeat (first | refine qB ?_ _ | refine qD ?_ | refine qA ?_ _)); refine qN ?_ NB146_153.out _; (with_reducible repeat (first | refine qB ?_ _ | refine qD ?_ | refine qA ?_ _)); exact BK146.out⟩
  have n3_ : Aside0 ((((w9.setCell ⟨gb153, 0, none⟩ (.int .i64 t147)).setCell ⟨gb153, 1, none⟩ (.int .i64 t148)).setCell ⟨gb153, 2, none⟩ (.slice Ao13 t149.length co13)).heap[gb153]? = some (.cells #[.int .i64 t147, .int .i64 t148, .slice Ao13 t149.length co13] 34 (0, 0))) := ⟨by (with_reducible repeat (first | refine qB ?_ _ | refine qD ?_ | refine qA ?_ _)); refine qQ (cs := #[.int .i64 t147, .int .i64 t148, .slice none 0 0]) ?_ 2 _ rfl; (with_reducible repeat (first | refine qB ?_ _ | refine qD ?_ | refine qA ?_ _)); refine qQ (cs := #[.int .i64 t147, .int .i64 0, .slice none 0 0]) ?_ 1 _ rfl; (with_reducible repeat (first | refine qB ?_ _ | refine qD ?_ | refine qA ?_ _)); refine qQ (cs := #[.int .i64 0, .int .i64 0, .slice none 0 0]) ?_ 0 _ rfl; (with_reducible repeat (first | refine qB ?_ _ | refine qD ?_ | refine qA ?_ _)); exact BK153.out⟩
  have n4_ : Aside0 (Below w.heap.size w (((w9.setCell ⟨gb153, 0, none⟩ (.int .i64 t147)).setCell ⟨gb153, 1, none⟩ (.int .i64 t148)).setCell ⟨gb153, 2, none⟩ (.slice Ao13 t149.length co13))) := ⟨bl⟩
  (try clear HO151)
  (try clear BK145)
  (try clear BK146)
  (try clear BK153)
  (try clear HB)
  generalize (((w9.setCell ⟨gb153, 0, none⟩ (.int .i64 t147)).setCell ⟨gb153, 1, none⟩ (.int .i64 t148)).setCell ⟨gb153, 2, none⟩ (.slice Ao13 t149.length co13)) = w14 at n0_ n1_ n2_ n3_ n4_ ⊢
  have HO151 := n0_
  have BK145 := n1_
  have BK146 := n2_
  have BK153 := n3_
  have HB := n4_
  clear n0_ n1_ n2_ n3_ n4_
  have n0_ := Aside0.mk (Kd.qH HO151.out)
  have n1_ := Aside0.mk (qD BK145.out)
  have n2_ := Aside0.mk (qD BK146.out)
  have n3_ := Aside0.mk (qD BK153.out)
  have n4_ := Aside0.mk (qm HB.out)
  clear HO151
  clear BK145
  clear BK146
  clear BK153
  clear HB
  have HO151 := n0_
  have BK145 := n1_
  have BK146 := n2_
  have BK153 := n3_
  have HB := n4_
  clear n0_ n1_ n2_ n3_ n4_
  refine qyA (n := 9) (S := fun w' => w'.cell? ⟨gb153, 0, none⟩ = some (.int .i64 t147) ∧ w'.cell? ⟨gb153, 1, none⟩ = some (.int .i64 t148) ∧ w'.cell? ⟨gb153, 2, none⟩ = some (.slice Ao13 t149.length co13) ∧ w'.cell? ⟨gb145, 0, none⟩ = some (.int .i64 a1_0) ∧ w'.cell? ⟨gb145, 1, none⟩ = some (.int .i64 a1_1) ∧ w'.cell? ⟨gb145, 2, none⟩ = some (.int .i64 a1_2)) (ds := []) #[false, false, false, false, false, false, false, false, false] (by kernel_rfl) rfl rfl ⟨(qL BK153.out 0).trans rfl, (qL BK153.out 1).trans rfl, (qL BK153.out 2).trans rfl, (qL BK145.out 0).trans rfl, (qL BK145.out 1).trans rfl, (qL BK145.out 2).trans rfl⟩ (fun hHeld => ?_); refine qWA qJA.tab2 qJA.bits2 (fun HT_ HW_ => ?_)
  generalize w14.drew = w15 at HO151 BK145 BK146 BK153 HB hHeld ⊢
  refine pS (i := 1) (N := some 14) #[false, true, false, false, false, false, false, false, false] HT_ ?_
  refine pS (i := 2) (N := some 15) #[false, true, true, false, false, false, false, false, false] HT_ ?_
  refine tS (i := 0) (N := some 13) #[true, true, true, false, false, false, false, false, false] HT_ HW_ hHeld ?_
  refine tS (i := 3) (N := some 16) #[true, true, true, true, false, false, false, false, false] HT_ HW_ hHeld ?_
  refine tS (i := 4) (N := some 17) #[true, true, true, true, true, false, false, false, false] HT_ HW_ hHeld ?_
  refine one_ (i := 5) (N := some 18) #[true, true, true, true, true, true, false, false, false] rfl rfl (qQA HT_.out (by kernel_rfl)) (by decide) (fun K hK => ?_)
  refine goes_ Tryd.func27 (by kernel_rfl) rfl #[.agg #[.int .i64 t147, .int .i64 t148, .slice Ao13 t149.length co13], .agg #[.int .i64 a1_0, .int .i64 a1_1, .int .i64 a1_2]] (by rfl) rfl rfl (by (try simp only [List.map_toArray, List.map_cons, List.map_nil]); first | done | rfl | (simp only [List.length_drop, List.length_take]; rfl)) ?_
  with_reducible refine (qi.calls k t147 t148 _ _ t149 a1_0 a1_1 a1_2 t154 _ ?side1 ?side2 A5.out).mono ?_
  (case side1 => repeat (first | exact (Kd.qT HO151.out).2.2 | (with_reducible refine Kd.qz ?_ _) | (with_reducible refine Kd.qy ?_ _) | (with_reducible refine Kd.qNA ?_)))
  (case side2 => exact (Kd.qT HO151.out).2.1)
  rintro e w16 ⟨rfl, hb⟩
  refine ⟨_, rfl, ?_⟩
  have n0_ := Aside0.mk (Kd.qa (by (with_reducible repeat (first | apply Kd.qF | apply Kd.qE | apply Kd.qH)); exact HO151.out) hb)
  have n1_ := Aside0.mk (bb BK145 hb)
  have n2_ := Aside0.mk (bb BK146 hb)
  have n3_ := Aside0.mk (bb BK153 hb)
  have n4_ := Aside0.mk (qG bl hb)
  clear HO151
  clear BK145
  clear BK146
  clear BK153
  clear HB
  have HO151 := n0_
  have BK145 := n1_
  have BK146 := n2_
  have BK153 := n3_
  have HB := n4_
  clear n0_ n1_ n2_ n3_ n4_
  (try clear hb)
  (try clear hb2)
  (try clear hk)
  (try clear hi)
  refine hK.out _ _ ⟨(qL BK153.out 0).trans rfl, (qL BK153.out 1).trans rfl, (qL BK153.out 2).trans rfl, (qL BK145.out 0).trans rfl, (qL BK145.out 1).trans rfl, (qL BK145.out 2).trans rfl⟩ (fun hHeld => ?_)
  clear hK K
  refine norm_ (a' := ?_) ?_ ?_
  rotate_left
  ·show Act.put _ (some 18) _ = _
   simp only [Act.put, List.setIfInBounds_toArray, List.set_cons_zero, List.set_cons_succ, i64_w, i32_w]
   rfl
  refine pS (i := 6) (N := some 19) #[true, true, true, true, true, true, true, false, false] HT_ ?_
  refine one_ (i := 7) (N := none) #[true, true, true, true, true, true, true, true, false] rfl rfl (qQA HT_.out (by kernel_rfl)) (by decide) (fun K hK => ?_)
  have hs17 : w16.cell? ⟨gb146, 0, none⟩ = some (.int .i64 0) := (qL BK146.out 0).trans rfl
  have hfs17 := qC BK146.out 0
  have hns17_0 := NB145_146.out
  have hns17_2 := NB153_146.out
  have hms17_0 := NB146_145.out
  have hms17_2 := NB146_153.out
  have hs18 : w16.cell? ⟨gb146, 1, none⟩ = some (.int .i64 0) := (qL BK146.out 1).trans rfl
  have hfs18 := qC BK146.out 1
  have hns18_0 := NB145_146.out
  have hns18_2 := NB153_146.out
  have hms18_0 := NB146_145.out
  have hms18_2 := NB146_153.out
  have hs19 : w16.cell? ⟨gb146, 2, none⟩ = some (.slice none 0 0) := (qL BK146.out 2).trans rfl
  have hfs19 := qC BK146.out 2
  have hns19_0 := NB145_146.out
  have hns19_2 := NB153_146.out
  have hms19_0 := NB146_145.out
  have hms19_2 := NB146_153.out
  refine skip_ (w1 := ?_) (by rfl) rfl ?_ ?_
  rotate_left
  ·go_simp
   rfl
  refine hK.out _ _ ⟨((qR (p := ⟨gb146, _, none⟩) NB153_146.out _).trans (((qR (p := ⟨gb146, _, none⟩) NB153_146.out _).trans (((qR (p := ⟨gb146, _, none⟩) NB153_146.out _).trans (hHeld.1)))))), ((qR (p := ⟨gb146, _, none⟩) NB153_146.out _).trans (((qR (p := ⟨gb146, _, none⟩) NB153_146.out _).trans (((qR (p := ⟨gb146, _, none⟩) NB153_146.out _).trans (hHeld.2.1)))))), ((qR (p := ⟨gb146, _, none⟩) NB153_146.out _).trans (((qR (p := ⟨gb146, _, none⟩) NB153_146.out _).trans (((qR (p := ⟨gb146, _, none⟩) NB153_146.out _).trans (hHeld.2.2.1)))))), ((qR (p := ⟨gb146, _, none⟩) NB145_146.out _).trans (((qR (p := ⟨gb146, _, none⟩) NB145_146.out _).trans (((qR (p := ⟨gb146, _, none⟩) NB145_146.out _).trans (hHeld.2.2.2.1)))))), ((qR (p := ⟨gb146, _, none⟩) NB145_146.out _).trans (((qR (p := ⟨gb146, _, none⟩) NB145_146.out _).trans (((qR (p := ⟨gb146, _, none⟩) NB145_146.out _).trans (hHeld.2.2.2.2.1)))))), ((qR (p := ⟨gb146, _, none⟩) NB145_146.out _).trans (((qR (p := ⟨gb146, _, none⟩) NB145_146.out _).trans (((qR (p := ⟨gb146, _, none⟩) NB145_146.out _).trans (hHeld.2.2.2.2.2))))))⟩ (fun hHeld => ?_)
  clear hK K
  refine pS (i := 8) (N := some 5) #[true, true, true, true, true, true, true, true, true] HT_ ?_
  refine done_ (qqA HT_.out (by kernel_rfl)) ?_
  try go_wp2
  refine bodyPost_ret (qRA rfl _ _ gb146 34 #[.int .i64 t147, .int .i64 t148, .slice Ao13 t149.length co13] (0, 0) _ rfl (by (with_reducible repeat (first | refine qB ?_ _ | refine qD ?_ | refine qA ?_ _)); refine qQ (cs := #[.int .i64 t147, .int .i64 t148, .slice none 0 0]) ?_ 2 _ rfl; (with_reducible repeat (first | refine qB ?_ _ | refine qD ?_ | refine qA ?_ _)); refine qQ (cs := #[.int .i64 t147, .int .i64 0, .slice none 0 0]) ?_ 1 _ rfl; (with_reducible repeat (first | refine qB ?_ _ | refine qD ?_ | refine qA ?_ _)); refine qQ (cs := #[.int .i64 0, .int .i64 0, .slice none 0 0]) ?_ 0 _ rfl; (with_reducible repeat (first | refine qB ?_ _ | refine qD ?_ | refine qA ?_ _)); exact BK146.out) Tryd.underlying34 rfl (by kernel_rfl)) rfl ?_
  exact ⟨_, by first | rfl | (simp [qJ, qI] <;> rfl) | (simp [*, qJ, qI] <;> rfl), by (with_reducible repeat (first | apply Kd.qF | apply Kd.qE | apply Kd.qH)); exact Kd.qh (Kd.R_far (p := ⟨gb146, 2, none⟩) (Kd.R_far (p := ⟨gb146, 1, none⟩) (Kd.R_far (p := ⟨gb146, 0, none⟩) (Kd.qEA HO151.out BK146.out (by decide)) (fun _ hk => hk.2) (.int .i64 t147)) (fun _ hk => hk.2) (.int .i64 t148)) (fun _ hk => hk.2) (.slice Ao13 t149.length co13)) (fun _ hk => trivial), bl⟩
 ·replace c4 := Bool.eq_false_iff.mpr c4
  subst c4
  have H1 : (some (t147, t148, t149, false)) = some (r1, r2, r3, r4) := by rw [if_neg (show ¬ (false = true) by decide)] at H; exact H
  clear H
  have H := H1
  clear H1
  simp only [Option.some.injEq, Prod.mk.injEq] at H
  obtain ⟨rfl, rfl, rfl, rfl⟩ := H
  go_enter Tryd.func16, Tryd.ntmps16
  try go_wp2_with (first | ((with_reducible refine qd (N := 3) rfl ?_); refine qY ?hg (N := 3) ?hd (cs := #[.int .i64 a1_0, .int .i64 a1_1, .int .i64 a1_2]) (t := 27) ?hr ?_; (case hd => rfl); (case hg => rfl); (case hr => first | (go_simp; done) | (go_simp; rfl)); intro gb145 hg w20 hbox hb; have n0_ := Aside0.mk (qG bl hb); have n1_ := Aside0.mk (hbox); have n2_ := Aside0.mk ((gg hg)); have n3_ := Aside0.mk ((gg hg)); clear HB; have HB := n0_; have BK145 := n1_; have GW145 := n2_; have GE145 := n3_; clear n0_ n1_ n2_ n3_; clear hb hbox hg) | ((with_reducible refine qd (N := 4) rfl ?_); refine qY ?hg (N := 4) ?hd (cs := #[.int .i64 0, .int .i64 0, .slice none 0 0]) (t := 34) ?hr ?_; (case hd => rfl); (case hg => rfl); (case hr => first | (go_simp; done) | (go_simp; rfl)); intro gb146 hg w21 hbox hb; have n0_ := Aside0.mk (bb BK145 hb); have n1_ := Aside0.mk (qG bl hb); have n2_ := Aside0.mk (hbox); have n3_ := Aside0.mk ((gg hg)); have n4_ := Aside0.mk ((gg hg)); have n5_ := Aside0.mk ((nl BK145 hg)); have n6_ := Aside0.mk ((nr BK145 hg)); clear BK145; clear HB; have BK145 := n0_; have HB := n1_; have BK146 := n2_; have GW146 := n3_; have GE146 := n4_; have NB145_146 := n5_; have NB146_145 := n6_; clear n0_ n1_ n2_ n3_ n4_ n5_ n6_; clear hb hbox hg) | ((with_reducible refine qS (f := 26) rfl ?_); refine qt (some 10) rfl rfl Tryd.func26 (by kernel_rfl) rfl #[.string a0] rfl (by (try simp only [List.map_toArray, List.map_cons, List.map_nil]); first | done | rfl | (simp only [List.length_drop, List.length_take]; rfl)) ?_; (with_reducible refine (qc.calls k a0 t147 t148 t149 false _ A3.out).mono ?_); rintro e w22 ⟨v150, rfl, ho0, hb⟩; refine ⟨_, rfl, ?_⟩; have n0_ := Aside0.mk (Kd.qHA ho0 (qg bl)); have n1_ := Aside0.mk (bb BK145 hb); have n2_ := Aside0.mk (bb BK146 hb); have n3_ := Aside0.mk (qG bl hb); clear BK145; clear BK146; clear HB; have HO151 := n0_; have BK145 := n1_; have BK146 := n2_; have HB := n3_; clear n0_ n1_ n2_ n3_; (try clear hb); (try clear hb2); (try clear hk); (try clear hi); (try clear ho0)) | ((with_reducible refine qd (N := 6) rfl ?_); refine qY ?hg (N := 6) ?hd (cs := #[.int .i64 0, .int .i64 0, .slice none 0 0]) (t := 34) ?hr ?_; (case hd => rfl); (case hg => rfl); (case hr => first | (go_simp; done) | (go_simp; rfl)); intro gb153 hg w23 hbox hb; have n0_ := Aside0.mk (Kd.qa (by (with_reducible repeat (first | apply Kd.qF | apply Kd.qE | apply Kd.qH)); exact HO151.out) hb); have n1_ := Aside0.mk (bb BK145 hb); have n2_ := Aside0.mk (bb BK146 hb); have n3_ := Aside0.mk (qG bl hb); have n4_ := Aside0.mk (hbox); have n5_ := Aside0.mk ((gg hg)); have n6_ := Aside0.mk ((gg hg)); have n7_ := Aside0.mk ((nl BK145 hg)); have n8_ := Aside0.mk ((nr BK145 hg)); have n9_ := Aside0.mk ((nl BK146 hg)); have n10_ := Aside0.mk ((nr BK146 hg)); clear HO151; clear BK145; clear BK146; clear HB; have HO151 := n0_; have BK145 := n1_; have BK146 := n2_; have HB := n3_; have BK153 := n4_; have GW153 := n5_; have GE153 := n6_; have NB145_153 := n7_; have NB153_145 := n8_; have NB146_153 := n9_; have NB153_146 := n10_; clear n0_ n1_ n2_ n3_ n4_ n5_ n6_ n7_ n8_ n9_ n10_; clear hb hbox hg; have hnb24 := NB153_145.out; have hnc24 := NB145_153.out; have hnb25 := NB153_146.out; have hnc25 := NB146_153.out; have hcz26_0 := bc BK153 0; have hcz26_1 := bc BK153 1; have hcz26_2 := bc BK153 2; have hfz26_0 := qC BK153.out 0; have hfz26_1 := qC BK153.out 1; have hfz26_2 := qC BK153.out 2; obtain ⟨Ao27, co27, eo27⟩ := Kd.qo HO151.out; subst eo27))
  have n0_ : Aside0 (Kd.R (Kd.int .u8) 5 (((w23.setCell ⟨gb153, 0, none⟩ (.int .i64 t147)).setCell ⟨gb153, 1, none⟩ (.int .i64 t148)).setCell ⟨gb153, 2, none⟩ (.slice Ao27 t149.length co27)) w.heap.size (fun _ => True) (.slice Ao27 t149.length co27) t149) := ⟨by (with_reducible repeat (first | apply Kd.qF | apply Kd.qE | apply Kd.qH)); exact Kd.qh (Kd.R_far (p := ⟨gb153, 2, none⟩) (Kd.R_far (p := ⟨gb153, 1, none⟩) (Kd.R_far (p := ⟨gb153, 0, none⟩) (Kd.qEA HO151.out BK153.out (by decide)) (fun _ hk => hk.2) (.int .i64 t147)) (fun _ hk => hk.2) (.int .i64 t148)) (fun _ hk => hk.2) (.slice Ao27 t149.length co27)) (fun _ hk => trivial)⟩
  have n1_ : Aside0 ((((w23.setCell ⟨gb153, 0, none⟩ (.int .i64 t147)).setCell ⟨gb153, 1, none⟩ (.int .i64 t148)).setCell ⟨gb153, 2, none⟩ (.slice Ao27 t149.length co27)).heap[gb145]? = some (.cells #[.int .i64 a1_0, .int .i64 a1_1, .int .i64 a1_2] 27 (0, 0))) := ⟨by (with_reducible repeat (first | refine qB ?_ _ | refine qD ?_ | refine qA ?_ _)); refine qN ?_ NB145_153.out _; (with_reducible repeat (first | refine qB ?_ _ | refine qD ?_ | refine qA ?_ _)); refine qN ?_ NB145_153.out _; (with_reducible repeat (first | refine qB ?_ _ | refine qD ?_ | refine qA ?_ _)); refine qN ?_ NB145_153.out _; (with_reducible repeat (first | refine qB ?_ _ | refine qD ?_ | refine qA ?_ _)); exact BK145.out⟩
  have n2_ : Aside0 ((((w23.setCell ⟨gb153, 0, none⟩ (.int .i64 t147)).setCell ⟨gb153, 1, none⟩ (.int .i64 t148)).setCell ⟨gb153, 2, none⟩ (.slice Ao27 t149.length co27)).heap[gb146]? = some (.cells #[.int .i64 0, .int .i64 0, .slice none 0 0] 34 (0, 0))) := ⟨by (with_reducible repeat (first | refine qB ?_ _ | refine qD ?_ | refine qA ?_ _)); refine qN ?_ NB146_153.out _; (with_reducible repeat (first | refine qB ?_ _ | refine qD ?_ | refine qA ?_ _)); refine qN ?_ NB146_153.out _; (with_reducible repeat (first | refine qB ?_ _ | refine qD ?_ | refine qA ?_ _)); refine qN ?_ NB146_153.out _; (with_reducible repeat (first | refine qB ?_ _ | refine qD ?_ | refine qA ?_ _)); exact BK146.out⟩
  have n3_ : Aside0 ((((w23.setCell ⟨gb153, 0, none⟩ (.int .i64 t147)).setCell ⟨gb153, 1, none⟩ (.int .i64 t148)).setCell ⟨gb153, 2, none⟩ (.slice Ao27 t149.length co27)).heap[gb153]? = some (.cells #[.int .i64 t147, .int .i64 t148, .slice Ao27 t149.length co27] 34 (0, 0))) := ⟨by (with_reducible repeat (first | refine qB ?_ _ | refine qD ?_ | refine qA ?_ _)); refine qQ (cs := #[.int .i64 t147, .int .i64 t148, .slice none 0 0]) ?_ 2 _ rfl; (with_reducible repeat (first | refine qB ?_ _ | refine qD ?_ | refine qA ?_ _)); refine qQ (cs := #[.int .i64 t147, .int .i64 0, .slice none 0 0]) ?_ 1 _ rfl; (with_reducible repeat (first | refine qB ?_ _ | refine qD ?_ | refine qA ?_ _)); refine qQ (cs := #[.int .i64 0, .int .i64 0, .slice none 0 0]) ?_ 0 _ rfl; (with_reducible repeat (first | refine qB ?_ _ | refine qD ?_ | refine qA ?_ _)); exact BK153.out⟩
  have n4_ : Aside0 (Below w.heap.size w (((w23.setCell ⟨gb153, 0, none⟩ (.int .i64 t147)).setCell ⟨gb153, 1, none⟩ (.int .i64 t148)).setCell ⟨gb153, 2, none⟩ (.slice Ao27 t149.length co27))) := ⟨bl⟩
  (try clear HO151)
  (try clear BK145)
  (try clear BK146)
  (try clear BK153)
  (try clear HB)
  generalize (((w23.setCell ⟨gb153, 0, none⟩ (.int .i64 t147)).setCell ⟨gb153, 1, none⟩ (.int .i64 t148)).setCell ⟨gb153, 2, none⟩ (.slice Ao27 t149.length co27)) = w28 at n0_ n1_ n2_ n3_ n4_ ⊢
  have HO151 := n0_
  have BK145 := n1_
  have BK146 := n2_
  have BK153 := n3_
  have HB := n4_
  clear n0_ n1_ n2_ n3_ n4_
  have n0_ := Aside0.mk (Kd.qH HO151.out)
  have n1_ := Aside0.mk (qD BK145.out)
  have n2_ := Aside0.mk (qD BK146.out)
  have n3_ := Aside0.mk (qD BK153.out)
  have n4_ := Aside0.mk (qm HB.out)
  clear HO151
  clear BK145
  clear BK146
  clear BK153
  clear HB
  have HO151 := n0_
  have BK145 := n1_
  have BK146 := n2_
  have BK153 := n3_
  have HB := n4_
  clear n0_ n1_ n2_ n3_ n4_
  refine qyA (n := 9) (S := fun w' => w'.cell? ⟨gb153, 0, none⟩ = some (.int .i64 t147) ∧ w'.cell? ⟨gb153, 1, none⟩ = some (.int .i64 t148) ∧ w'.cell? ⟨gb153, 2, none⟩ = some (.slice Ao27 t149.length co27)) (ds := []) #[false, false, false, false, false, false, false, false, false] (by kernel_rfl) rfl rfl ⟨(qL BK153.out 0).trans rfl, (qL BK153.out 1).trans rfl, (qL BK153.out 2).trans rfl⟩ (fun hHeld => ?_); refine qWA qJA.tab2 qJA.bits2 (fun HT_ HW_ => ?_)
  generalize w28.drew = w29 at HO151 BK145 BK146 BK153 HB hHeld ⊢
  refine pS (i := 1) (N := some 14) #[false, true, false, false, false, false, false, false, false] HT_ ?_
  refine pS (i := 2) (N := some 15) #[false, true, true, false, false, false, false, false, false] HT_ ?_
  refine pure_ (i := 3) (N := some 16) (v := undef) (a' := ?_) #[false, true, true, true, false, false, false, false, false] rfl rfl (qZA HT_.out (by kernel_rfl)) (fun _ _ _ h => h) (Or.inr ⟨by rfl, rfl⟩) ?_ ?_
  rotate_left
  ·simp only [Act.put, List.setIfInBounds_toArray, List.set_cons_zero, List.set_cons_succ, i64_w, i32_w]
   rfl
  refine pure_ (i := 4) (N := some 17) (v := undef) (a' := ?_) #[false, true, true, true, true, false, false, false, false] rfl rfl (qZA HT_.out (by kernel_rfl)) (fun _ _ _ h => h) (Or.inr ⟨by rfl, rfl⟩) ?_ ?_
  rotate_left
  ·simp only [Act.put, List.setIfInBounds_toArray, List.set_cons_zero, List.set_cons_succ, i64_w, i32_w]
   rfl
  refine pure_ (i := 5) (N := some 18) (v := undef) (a' := ?_) #[false, true, true, true, true, true, false, false, false] rfl rfl (qZA HT_.out (by kernel_rfl)) (fun _ _ _ h => h) (Or.inr ⟨by rfl, rfl⟩) ?_ ?_
  rotate_left
  ·simp only [Act.put, List.setIfInBounds_toArray, List.set_cons_zero, List.set_cons_succ, i64_w, i32_w]
   rfl
  refine pS (i := 6) (N := some 19) #[false, true, true, true, true, true, true, false, false] HT_ ?_
  refine tS (i := 0) (N := some 13) #[true, true, true, true, true, true, true, false, false] HT_ HW_ hHeld ?_
  refine one_ (i := 7) (N := none) #[true, true, true, true, true, true, true, true, false] rfl rfl (qQA HT_.out (by kernel_rfl)) (by decide) (fun K hK => ?_)
  have hs30 : w29.cell? ⟨gb146, 0, none⟩ = some (.int .i64 0) := (qL BK146.out 0).trans rfl
  have hfs30 := qC BK146.out 0
  have hns30_0 := NB145_146.out
  have hns30_2 := NB153_146.out
  have hms30_0 := NB146_145.out
  have hms30_2 := NB146_153.out
  have hs31 : w29.cell? ⟨gb146, 1, none⟩ = some (.int .i64 0) := (qL BK146.out 1).trans rfl
  have hfs31 := qC BK146.out 1
  have hns31_0 := NB145_146.out
  have hns31_2 := NB153_146.out
  have hms31_0 := NB146_145.out
  have hms31_2 := NB146_153.out
  have hs32 : w29.cell? ⟨gb146, 2, none⟩ = some (.slice none 0 0) := (qL BK146.out 2).trans rfl
  have hfs32 := qC BK146.out 2
  have hns32_0 := NB145_146.out
  have hns32_2 := NB153_146.out
  have hms32_0 := NB146_145.out
  have hms32_2 := NB146_153.out
  refine skip_ (w1 := ?_) (by rfl) rfl ?_ ?_
  rotate_left
  ·go_simp
   rfl
  refine hK.out _ _ ⟨((qR (p := ⟨gb146, _, none⟩) NB153_146.out _).trans (((qR (p := ⟨gb146, _, none⟩) NB153_146.out _).trans (((qR (p := ⟨gb146, _, none⟩) NB153_146.out _).trans (hHeld.1)))))), ((qR (p := ⟨gb146, _, none⟩) NB153_146.out _).trans (((qR (p := ⟨gb146, _, none⟩) NB153_146.out _).trans (((qR (p := ⟨gb146, _, none⟩) NB153_146.out _).trans (hHeld.2.1)))))), ((qR (p := ⟨gb146, _, none⟩) NB153_146.out _).trans (((qR (p := ⟨gb146, _, none⟩) NB153_146.out _).trans (((qR (p := ⟨gb146, _, none⟩) NB153_146.out _).trans (hHeld.2.2))))))⟩ (fun hHeld => ?_)
  clear hK K
  refine pS (i := 8) (N := some 5) #[true, true, true, true, true, true, true, true, true] HT_ ?_
  refine done_ (qqA HT_.out (by kernel_rfl)) ?_
  try go_wp2
  refine bodyPost_ret (qRA rfl _ _ gb146 34 #[.int .i64 t147, .int .i64 t148, .slice Ao27 t149.length co27] (0, 0) _ rfl (by (with_reducible repeat (first | refine qB ?_ _ | refine qD ?_ | refine qA ?_ _)); refine qQ (cs := #[.int .i64 t147, .int .i64 t148, .slice none 0 0]) ?_ 2 _ rfl; (with_reducible repeat (first | refine qB ?_ _ | refine qD ?_ | refine qA ?_ _)); refine qQ (cs := #[.int .i64 t147, .int .i64 0, .slice none 0 0]) ?_ 1 _ rfl; (with_reducible repeat (first | refine qB ?_ _ | refine qD ?_ | refine qA ?_ _)); refine qQ (cs := #[.int .i64 0, .int .i64 0, .slice none 0 0]) ?_ 0 _ rfl; (with_reducible repeat (first | refine qB ?_ _ | refine qD ?_ | refine qA ?_ _)); exact BK146.out) Tryd.underlying34 rfl (by kernel_rfl)) rfl ?_
  exact ⟨_, by first | rfl | (simp [qJ, qI] <;> rfl) | (simp [*, qJ, qI] <;> rfl), by (with_reducible repeat (first | apply Kd.qF | apply Kd.qE | apply Kd.qH)); exact Kd.qh (Kd.R_far (p := ⟨gb146, 2, none⟩) (Kd.R_far (p := ⟨gb146, 1, none⟩) (Kd.R_far (p := ⟨gb146, 0, none⟩) (Kd.qEA HO151.out BK146.out (by decide)) (fun _ hk => hk.2) (.int .i64 t147)) (fun _ hk => hk.2) (.int .i64 t148)) (fun _ hk => hk.2) (.slice Ao27 t149.length co27)) (fun _ hk => trivial), bl⟩
theorem eqA27 (d : Nat) (w : World) (x0 y0 : Int) (x1 y1 : Int) (x2 y2 : Int) :
  (Op.equalIn (d + 2) 27 (.agg #[.int .i64 x0, .int .i64 x1, .int .i64 x2]) (.agg #[.int .i64 y0, .int .i64 y1, .int .i64 y2])).run Tryd.prog w = .ok (x0 == y0 && (x1 == y1 && (x2 == y2))) w := by
 refine eqA_of Tryd.underlying27 (by kernel_rfl) ?_
 refine eqf_cons (by rfl) (by go_simp; rfl) (by go_simp; rfl) (by go_simp) ?_
 refine eqf_cons (by rfl) (by go_simp; rfl) (by go_simp; rfl) (by go_simp) ?_
 exact eqf_last (by rfl) (by go_simp; rfl) (by go_simp; rfl) (by go_simp)
def qjA.f (a0 : Int) (a1 : Int) (a2 : Int) : Option (Int × Int) := if a2 = 0 then (some (a0, wrap64 (a1 - 1))) else (if a2 = 1 then (some (wrap64 (a0 + 1), a1)) else (if a2 = 2 then (some (a0, wrap64 (a1 + 1))) else (some (wrap64 (a0 - 1), a1))))
set_option maxHeartbeats 8000000 in
set_option maxRecDepth 100000 in
theorem qjA.calls (a0 : Int) (a1 : Int) (a2 : Int) (r1 : Int) (r2 : Int) (w : World) (h : qjA.f a0 a1 a2 = some (r1, r2)) :
  Calls Tryd.prog 65 #[.int .i64 a0, .int .i64 a1, .int .i64 a2] w fun e w' => e = .returned (.tuple #[.int .i64 r1, .int .i64 r2]) ∧ Drawn0 w w' := by
 have H : (if a2 = 0 then (some (a0, wrap64 (a1 - 1))) else (if a2 = 1 then (some (wrap64 (a0 + 1), a1)) else (if a2 = 2 then (some (a0, wrap64 (a1 + 1))) else (some (wrap64 (a0 - 1), a1))))) = some (r1, r2) := h
 clear h
 by_cases c4 : a2 = 0
 ·rw [if_pos c4] at H
  have c4b0 : (a2 == 0) = true := beq_iff_eq.mpr c4
  have c4b1 : (a2 != 0) = false := bne_eq_false_iff_eq.mpr c4
  clear c4
  simp only [Option.some.injEq, Prod.mk.injEq] at H
  obtain ⟨rfl, rfl⟩ := H
  go_enter Tryd.func65, Tryd.ntmps65
  go_wp2
  go_ret2
  exact ⟨by first | rfl | (simp; done) | (simp [*]; done), by repeat (first | exact Drawn0.refl _ | apply Drawn0.step)⟩
 ·rw [if_neg c4] at H
  have c4b0 : (a2 == 0) = false := beq_eq_false_iff_ne.mpr c4
  have c4b1 : (a2 != 0) = true := bne_iff_ne.mpr c4
  by_cases c5 : a2 = 1
  ·rw [if_pos c5] at H
   have c5b0 : (a2 == 1) = true := beq_iff_eq.mpr c5
   have c5b1 : (a2 != 1) = false := bne_eq_false_iff_eq.mpr c5
   clear c5
   simp only [Option.some.injEq, Prod.mk.injEq] at H
   obtain ⟨rfl, rfl⟩ := H
   go_enter Tryd.func65, Tryd.ntmps65
   go_wp2
   go_ret2
   exact ⟨by first | rfl | (simp; done) | (simp [*]; done), by repeat (first | exact Drawn0.refl _ | apply Drawn0.step)⟩
  ·rw [if_neg c5] at H
   have c5b0 : (a2 == 1) = false := beq_eq_false_iff_ne.mpr c5
   have c5b1 : (a2 != 1) = true := bne_iff_ne.mpr c5
   by_cases c6 : a2 = 2
   ·rw [if_pos c6] at H
    have c6b0 : (a2 == 2) = true := beq_iff_eq.mpr c6
    have c6b1 : (a2 != 2) = false := bne_eq_false_iff_eq.mpr c6
    clear c6
    simp only [Option.some.injEq, Prod.mk.injEq] at H
    obtain ⟨rfl, rfl⟩ := H
    go_enter Tryd.func65, Tryd.ntmps65
    go_wp2
    go_ret2
    exact ⟨by first | rfl | (simp; done) | (simp [*]; done), by repeat (first | exact Drawn0.refl _ | apply Drawn0.step)⟩
   ·rw [if_neg c6] at H
    have c6b0 : (a2 == 2) = false := beq_eq_false_iff_ne.mpr c6
    have c6b1 : (a2 != 2) = true := bne_iff_ne.mpr c6
    simp only [Option.some.injEq, Prod.mk.injEq] at H
    obtain ⟨rfl, rfl⟩ := H
    go_enter Tryd.func65, Tryd.ntmps65
    go_wp2
    go_ret2
    exact ⟨by first | rfl | (simp; done) | (simp [*]; done), by repeat (first | exact Drawn0.refl _ | apply Drawn0.step)⟩
mutual
def qV.j0 : Nat → Int → Bool → Int → Int → Int → Int → Int → Int → Option (Int × Int × Int)
 | 0, _, _, _, _, _, _, _, _ => none
 | k + 1, x1, x22, x156000, x156001, x156002, x158000, x158001, x158002 => if x22 = true then (some (x158000, wrap64 (x156001 - 2), 2)) else (if x156002 = 0 then (qV.j1 k x1 (x1 == 1) x156000 x156001 x156002 x158000 x158001 x158002) else (qV.j1 k x1 false x156000 x156001 x156002 x158000 x158001 x158002))
def qV.j1 : Nat → Int → Bool → Int → Int → Int → Int → Int → Int → Option (Int × Int × Int)
 | 0, _, _, _, _, _, _, _, _ => none
 | k + 1, x1, x35, x156000, x156001, x156002, x158000, x158001, x158002 => if x35 = true then (some (wrap64 (x156000 + 1), x158001, 1)) else (if x156002 = 0 then (qV.j2 k x1 (x1 == 2) x156000 x156001 x156002 x158000 x158001 x158002) else (qV.j2 k x1 false x156000 x156001 x156002 x158000 x158001 x158002))
def qV.j2 : Nat → Int → Bool → Int → Int → Int → Int → Int → Int → Option (Int × Int × Int)
 | 0, _, _, _, _, _, _, _, _ => none
 | k + 1, x1, x48, x156000, x156001, x156002, x158000, x158001, x158002 => if x48 = true then (some (x158000, wrap64 (x156001 + 1), 2)) else (if x156002 = 0 then (some (wrap64 (x156000 - 2), x158001, 1)) else (if x156002 = 1 then (qV.j3 k x1 (x1 == 1) x156000 x156001 x156002 x158000 x158001 x158002) else (qV.j3 k x1 false x156000 x156001 x156002 x158000 x158001 x158002)))
def qV.j3 : Nat → Int → Bool → Int → Int → Int → Int → Int → Int → Option (Int × Int × Int)
 | 0, _, _, _, _, _, _, _, _ => none
 | k + 1, x1, x70, x156000, x156001, x156002, x158000, x158001, x158002 => if x70 = true then (some (wrap64 (x156000 + 2), x158001, 0)) else (if x156002 = 1 then (qV.j4 k x1 (x1 == 3) x156000 x156001 x156002 x158000 x158001 x158002) else (qV.j4 k x1 false x156000 x156001 x156002 x158000 x158001 x158002))
def qV.j4 : Nat → Int → Bool → Int → Int → Int → Int → Int → Int → Option (Int × Int × Int)
 | 0, _, _, _, _, _, _, _, _ => none
 | k + 1, x1, x83, x156000, x156001, x156002, x158000, x158001, x158002 => if x83 = true then (some (wrap64 (x156000 - 1), x158001, 0)) else (if x156002 = 2 then (qV.j5 k x1 (x1 == 0) x156000 x156001 x156002 x158000 x158001 x158002) else (qV.j5 k x1 false x156000 x156001 x156002 x158000 x158001 x158002))
def qV.j5 : Nat → Int → Bool → Int → Int → Int → Int → Int → Int → Option (Int × Int × Int)
 | 0, _, _, _, _, _, _, _, _ => none
 | k + 1, x1, x96, x156000, x156001, x156002, x158000, x158001, x158002 => if x96 = true then (some (x158000, wrap64 (x156001 - 1), 0)) else (if x156002 = 2 then (if x1 = 2 then (some (x158000, wrap64 (x156001 + 2), 0)) else ((qjA.f x156000 x156001 x1).bind fun bt158 => (some (bt158.1, bt158.2, x158002)))) else ((qjA.f x156000 x156001 x1).bind fun bt160 => (some (bt160.1, bt160.2, x158002))))
end
def qV.f (k : Nat) (a0_0 : Int) (a0_1 : Int) (a0_2 : Int) (a1 : Int) : Option (Int × Int × Int) := if a0_2 = 0 then (qV.j0 k a1 (a1 == 0) a0_0 a0_1 a0_2 a0_0 a0_1 a0_2) else (qV.j0 k a1 false a0_0 a0_1 a0_2 a0_0 a0_1 a0_2)
set_option maxHeartbeats 8000000 in
set_option maxRecDepth 100000 in
theorem qV.calls (k : Nat) (a0_0 : Int) (a0_1 : Int) (a0_2 : Int) (a1 : Int) (r1 : Int) (r2 : Int) (r3 : Int) (w : World) (h : qV.f k a0_0 a0_1 a0_2 a1 = some (r1, r2, r3)) :
  Calls Tryd.prog 48 #[.agg #[.int .i64 a0_0, .int .i64 a0_1, .int .i64 a0_2], .int .i64 a1] w fun e w' => e = .returned (.agg #[.int .i64 r1, .int .i64 r2, .int .i64 r3]) ∧ Below w.heap.size w w' := by
 have hu27 := Tryd.underlying27
 have HB := Aside0.mk (Below.refl w.heap.size w)
 have H : (if a0_2 = 0 then (qV.j0 k a1 (a1 == 0) a0_0 a0_1 a0_2 a0_0 a0_1 a0_2) else (qV.j0 k a1 false a0_0 a0_1 a0_2 a0_0 a0_1 a0_2)) = some (r1, r2, r3) := h
 clear h
 have HC3 := Aside0.mk H
 clear H
 go_enter Tryd.func48, Tryd.ntmps48
 go_upto_region 5 with (first | ((with_reducible refine qd (N := 2) rfl ?_); refine qY ?hg (N := 2) ?hd (cs := #[.int .i64 a0_0, .int .i64 a0_1, .int .i64 a0_2]) (t := 27) ?hr ?_; (case hd => rfl); (case hg => rfl); (case hr => first | (go_simp; done) | (go_simp; rfl)); intro gb155 hg w4 hbox hb; have n0_ := Aside0.mk (qG bl hb); have n1_ := Aside0.mk (hbox); have n2_ := Aside0.mk ((gg hg)); have n3_ := Aside0.mk ((gg hg)); clear HB; have HB := n0_; have BK155 := n1_; have GW155 := n2_; have GE155 := n3_; clear n0_ n1_ n2_ n3_; clear hb hbox hg) | ((with_reducible refine qd (N := 4) rfl ?_); refine qY ?hg (N := 4) ?hd (cs := #[.int .i64 0, .int .i64 0, .int .i64 0]) (t := 27) ?hr ?_; (case hd => rfl); (case hg => rfl); (case hr => first | (go_simp; done) | (go_simp; rfl)); intro gb156 hg w5 hbox hb; have n0_ := Aside0.mk (bb BK155 hb); have n1_ := Aside0.mk (qG bl hb); have n2_ := Aside0.mk (hbox); have n3_ := Aside0.mk ((gg hg)); have n4_ := Aside0.mk ((gg hg)); have n5_ := Aside0.mk ((nl BK155 hg)); have n6_ := Aside0.mk ((nr BK155 hg)); clear BK155; clear HB; have BK155 := n0_; have HB := n1_; have BK156 := n2_; have GW156 := n3_; have GE156 := n4_; have NB155_156 := n5_; have NB156_155 := n6_; clear n0_ n1_ n2_ n3_ n4_ n5_ n6_; clear hb hbox hg; have hnb6 := NB155_156.out; have hnc6 := NB156_155.out; have hcz7_0 := bc BK155 0; have hcz7_1 := bc BK155 1; have hcz7_2 := bc BK155 2; have hfz7_0 := qC BK155.out 0; have hfz7_1 := qC BK155.out 1; have hfz7_2 := qC BK155.out 2) | ((with_reducible refine qd (N := 5) rfl ?_); refine qY ?hg (N := 5) ?hd (cs := #[.int .i64 0, .int .i64 0, .int .i64 0]) (t := 27) ?hr ?_; (case hd => rfl); (case hg => rfl); (case hr => first | (go_simp; done) | (go_simp; rfl)); intro gb157 hg w8 hbox hb; have n0_ := Aside0.mk (bb BK155 hb); have n1_ := Aside0.mk (bb BK156 hb); have n2_ := Aside0.mk (qG bl hb); have n3_ := Aside0.mk (hbox); have n4_ := Aside0.mk ((gg hg)); have n5_ := Aside0.mk ((gg hg)); have n6_ := Aside0.mk ((nl BK155 hg)); have n7_ := Aside0.mk ((nr BK155 hg)); have n8_ := Aside0.mk ((nl BK156 hg)); have n9_ := Aside0.mk ((nr BK156 hg)); clear BK155; clear BK156; clear HB; have BK155 := n0_; have BK156 := n1_; have HB := n2_; have BK157 := n3_; have GW157 := n4_; have GE157 := n5_; have NB155_157 := n6_; have NB157_155 := n7_; have NB156_157 := n8_; have NB157_156 := n9_; clear n0_ n1_ n2_ n3_ n4_ n5_ n6_ n7_ n8_ n9_; clear hb hbox hg; have hnb9 := NB157_155.out; have hnc9 := NB155_157.out; have hnb10 := NB157_156.out; have hnc10 := NB156_157.out; have hcz11_0 := bc BK157 0; have hcz11_1 := bc BK157 1; have hcz11_2 := bc BK157 2; have hfz11_0 := qC BK157.out 0; have hfz11_1 := qC BK157.out 1; have hfz11_2 := qC BK157.out 2))
 (try simp only [Act.put, List.setIfInBounds_toArray, List.set_cons_zero, List.set_cons_succ])
 go_cut [22] (fun v22 wc => ∃ (kq : Nat) (x22_2 : Bool), v22 = .bool x22_2 ∧ Aside0 (qV.j0 kq a1 x22_2 a0_0 a0_1 a0_2 a0_0 a0_1 a0_2 = some (r1, r2, r3)) ∧ Aside0 (kq ≤ k) ∧ Aside0 (wc.heap[gb155]? = some (.cells #[.int .i64 a0_0, .int .i64 a0_1, .int .i64 a0_2] 27 (0, 0))) ∧ Aside0 (wc.heap[gb156]? = some (.cells #[.int .i64 0, .int .i64 0, .int .i64 0] 27 (0, 0))) ∧ Aside0 (wc.heap[gb157]? = some (.cells #[.int .i64 a0_0, .int .i64 a0_1, .int .i64 a0_2] 27 (0, 0))) ∧ Aside0 (Below w.heap.size w wc))
 case first =>
  have H := HC3.out
  clear HC3
  by_cases c12 : a0_2 = 0
  ·rw [if_pos c12] at H
   have c12b0 : (a0_2 == 0) = true := beq_iff_eq.mpr c12
   have c12b1 : (a0_2 != 0) = false := bne_eq_false_iff_eq.mpr c12
   clear c12
   (first | rw [c12b0] | (simp only [i64_w, i32_w]; rw [c12b0]) | skip)
   have H' := Aside0.mk H
   clear H
   have hnb13 := NB155_156.out
   have hnc13 := NB156_155.out
   have hnb14 := NB155_157.out
   have hnc14 := NB157_155.out
   have hcz15_0 := bc BK155 0
   have hcz15_1 := bc BK155 1
   have hcz15_2 := bc BK155 2
   have hfz15_0 := qC BK155.out 0
   have hfz15_1 := qC BK155.out 1
   have hfz15_2 := qC BK155.out 2
   go_wp2
   go_meet
   case rel => exact ⟨_, ((a1 == 0)), (by first | rfl | (simp; done) | (simp [*]; done)), H', ⟨by first | omega | exact Nat.le_refl _⟩, ⟨by (with_reducible repeat (first | refine qB ?_ _ | refine qD ?_ | refine qA ?_ _)); refine qN ?_ NB155_157.out _; (with_reducible repeat (first | refine qB ?_ _ | refine qD ?_ | refine qA ?_ _)); refine qN ?_ NB155_157.out _; (with_reducible repeat (first | refine qB ?_ _ | refine qD ?_ | refine qA ?_ _)); refine qN ?_ NB155_157.out _; (with_reducible repeat (first | refine qB ?_ _ | refine qD ?_ | refine qA ?_ _)); exact BK155.out⟩, ⟨by (with_reducible repeat (first | refine qB ?_ _ | refine qD ?_ | refine qA ?_ _)); refine qN ?_ NB156_157.out _; (with_reducible repeat (first | refine qB ?_ _ | refine qD ?_ | refine qA ?_ _)); refine qN ?_ NB156_157.out _; (with_reducible repeat (first | refine qB ?_ _ | refine qD ?_ | refine qA ?_ _)); refine qN ?_ NB156_157.out _; (with_reducible repeat (first | refine qB ?_ _ | refine qD ?_ | refine qA ?_ _)); exact BK156.out⟩, ⟨by (with_reducible repeat (first | refine qB ?_ _ | refine qD ?_ | refine qA ?_ _)); refine qQ (cs := #[.int .i64 a0_0, .int .i64 a0_1, .int .i64 0]) ?_ 2 _ rfl; (with_reducible repeat (first | refine qB ?_ _ | refine qD ?_ | refine qA ?_ _)); refine qQ (cs := #[.int .i64 a0_0, .int .i64 0, .int .i64 0]) ?_ 1 _ rfl; (with_reducible repeat (first | refine qB ?_ _ | refine qD ?_ | refine qA ?_ _)); refine qQ (cs := #[.int .i64 0, .int .i64 0, .int .i64 0]) ?_ 0 _ rfl; (with_reducible repeat (first | refine qB ?_ _ | refine qD ?_ | refine qA ?_ _)); exact BK157.out⟩, ⟨bl⟩⟩
  ·rw [if_neg c12] at H
   have c12b0 : (a0_2 == 0) = false := beq_eq_false_iff_ne.mpr c12
   have c12b1 : (a0_2 != 0) = true := bne_iff_ne.mpr c12
   (first | rw [c12b0] | (simp only [i64_w, i32_w]; rw [c12b0]) | skip)
   have H' := Aside0.mk H
   clear H
   have hnb16 := NB155_156.out
   have hnc16 := NB156_155.out
   have hnb17 := NB155_157.out
   have hnc17 := NB157_155.out
   have hcz18_0 := bc BK155 0
   have hcz18_1 := bc BK155 1
   have hcz18_2 := bc BK155 2
   have hfz18_0 := qC BK155.out 0
   have hfz18_1 := qC BK155.out 1
   have hfz18_2 := qC BK155.out 2
   go_wp2
   go_meet
   case rel => exact ⟨_, (false), (by first | rfl | (simp; done) | (simp [*]; done)), H', ⟨by first | omega | exact Nat.le_refl _⟩, ⟨by (with_reducible repeat (first | refine qB ?_ _ | refine qD ?_ | refine qA ?_ _)); refine qN ?_ NB155_157.out _; (with_reducible repeat (first | refine qB ?_ _ | refine qD ?_ | refine qA ?_ _)); refine qN ?_ NB155_157.out _; (with_reducible repeat (first | refine qB ?_ _ | refine qD ?_ | refine qA ?_ _)); refine qN ?_ NB155_157.out _; (with_reducible repeat (first | refine qB ?_ _ | refine qD ?_ | refine qA ?_ _)); exact BK155.out⟩, ⟨by (with_reducible repeat (first | refine qB ?_ _ | refine qD ?_ | refine qA ?_ _)); refine qN ?_ NB156_157.out _; (with_reducible repeat (first | refine qB ?_ _ | refine qD ?_ | refine qA ?_ _)); refine qN ?_ NB156_157.out _; (with_reducible repeat (first | refine qB ?_ _ | refine qD ?_ | refine qA ?_ _)); refine qN ?_ NB156_157.out _; (with_reducible repeat (first | refine qB ?_ _ | refine qD ?_ | refine qA ?_ _)); exact BK156.out⟩, ⟨by (with_reducible repeat (first | refine qB ?_ _ | refine qD ?_ | refine qA ?_ _)); refine qQ (cs := #[.int .i64 a0_0, .int .i64 a0_1, .int .i64 0]) ?_ 2 _ rfl; (with_reducible repeat (first | refine qB ?_ _ | refine qD ?_ | refine qA ?_ _)); refine qQ (cs := #[.int .i64 a0_0, .int .i64 0, .int .i64 0]) ?_ 1 _ rfl; (with_reducible repeat (first | refine qB ?_ _ | refine qD ?_ | refine qA ?_ _)); refine qQ (cs := #[.int .i64 0, .int .i64 0, .int .i64 0]) ?_ 0 _ rfl; (with_reducible repeat (first | refine qB ?_ _ | refine qD ?_ | refine qA ?_ _)); exact BK157.out⟩, ⟨bl⟩⟩
 case rest =>
  clear HC3
  try clear c1
  try clear p2
  try clear c4
  try clear c6
  try clear c9
  try clear c10
  try clear c12
  try clear c12b0
  try clear c12b1
  try clear c13
  try clear c14
  try clear c16
  try clear c17
  try clear hcz11_0
  try clear hcz11_1
  try clear hcz11_2
  try clear hcz15_0
  try clear hcz15_1
  try clear hcz15_2
  try clear hcz18_0
  try clear hcz18_1
  try clear hcz18_2
  try clear hcz7_0
  try clear hcz7_1
  try clear hcz7_2
  try clear hfz11_0
  try clear hfz11_1
  try clear hfz11_2
  try clear hfz15_0
  try clear hfz15_1
  try clear hfz15_2
  try clear hfz18_0
  try clear hfz18_1
  try clear hfz18_2
  try clear hfz7_0
  try clear hfz7_1
  try clear hfz7_2
  obtain ⟨kq, x22_2, rfl, HA, HJ2, BK155, BK156, BK157, HB⟩ := hcut
  cases kq with
  | zero => exact absurd HA.out (by simp [qV.j0])
  | succ kj2 =>
   have H := HA.out
   clear HA
   simp only [qV.j0] at H
   by_cases c19 : x22_2 = true
   ·subst c19
    have H1 : (some (a0_0, wrap64 (a0_1 - 2), 2)) = some (r1, r2, r3) := by rw [if_pos rfl] at H; exact H
    clear H
    have H := H1
    clear H1
    simp only [Option.some.injEq, Prod.mk.injEq] at H
    obtain ⟨rfl, rfl, rfl⟩ := H
    have hnb20 := NB155_156.out
    have hnc20 := NB156_155.out
    have hnb21 := NB155_157.out
    have hnc21 := NB157_155.out
    have hcz22_0 := bc BK155 0
    have hcz22_1 := bc BK155 1
    have hcz22_2 := bc BK155 2
    have hfz22_0 := qC BK155.out 0
    have hfz22_1 := qC BK155.out 1
    have hfz22_2 := qC BK155.out 2
    have hnb23 := NB157_156.out
    have hnc23 := NB156_157.out
    have hcz24_0 := bc BK157 0
    have hcz24_1 := bc BK157 1
    have hcz24_2 := bc BK157 2
    have hfz24_0 := qC BK157.out 0
    have hfz24_1 := qC BK157.out 1
    have hfz24_2 := qC BK157.out 2
    have hcz25_0 := bc BK156 0
    have hcz25_1 := bc BK156 1
    have hcz25_2 := bc BK156 2
    have hfz25_0 := qC BK156.out 0
    have hfz25_1 := qC BK156.out 1
    have hfz25_2 := qC BK156.out 2
    go_wp2
    refine bodyPost_ret (results_cell_row rfl _ _ gb156 27 #[.int .i64 a0_0, .int .i64 (wrap64 (a0_1 - 2)), .int .i64 2] (0, 0) _ rfl (by (with_reducible repeat (first | refine qB ?_ _ | refine qD ?_ | refine qA ?_ _)); refine qQ (cs := #[.int .i64 a0_0, .int .i64 (wrap64 (a0_1 - 2)), .int .i64 0]) ?_ 2 _ rfl; (with_reducible repeat (first | refine qB ?_ _ | refine qD ?_ | refine qA ?_ _)); refine qQ (cs := #[.int .i64 a0_0, .int .i64 0, .int .i64 0]) ?_ 1 _ rfl; (with_reducible repeat (first | refine qB ?_ _ | refine qD ?_ | refine qA ?_ _)); refine qQ (cs := #[.int .i64 0, .int .i64 0, .int .i64 0]) ?_ 0 _ rfl; (with_reducible repeat (first | refine qB ?_ _ | refine qD ?_ | refine qA ?_ _)); refine qN ?_ NB156_157.out _; (with_reducible repeat (first | refine qB ?_ _ | refine qD ?_ | refine qA ?_ _)); refine qN ?_ NB156_157.out _; (with_reducible repeat (first | refine qB ?_ _ | refine qD ?_ | refine qA ?_ _)); exact BK156.out) Tryd.underlying27 rfl (by kernel_rfl)) rfl ?_
    exact ⟨by first | rfl | (simp [qJ, qI] <;> rfl) | (simp [*, qJ, qI] <;> rfl), bl⟩
   ·replace c19 := Bool.eq_false_iff.mpr c19
    subst c19
    have H1 : (if a0_2 = 0 then (qV.j1 kj2 a1 (a1 == 1) a0_0 a0_1 a0_2 a0_0 a0_1 a0_2) else (qV.j1 kj2 a1 false a0_0 a0_1 a0_2 a0_0 a0_1 a0_2)) = some (r1, r2, r3) := by rw [if_neg (show ¬ (false = true) by decide)] at H; exact H
    clear H
    have H := H1
    clear H1
    have HC26 := Aside0.mk H
    clear H
    go_upto_region 8 with (fail)
    go_cut [35] (fun v35 wc => ∃ (kq : Nat) (x35_25 : Bool), v35 = .bool x35_25 ∧ Aside0 (qV.j1 kq a1 x35_25 a0_0 a0_1 a0_2 a0_0 a0_1 a0_2 = some (r1, r2, r3)) ∧ Aside0 (kq ≤ kj2) ∧ Aside0 (wc.heap[gb155]? = some (.cells #[.int .i64 a0_0, .int .i64 a0_1, .int .i64 a0_2] 27 (0, 0))) ∧ Aside0 (wc.heap[gb156]? = some (.cells #[.int .i64 0, .int .i64 0, .int .i64 0] 27 (0, 0))) ∧ Aside0 (wc.heap[gb157]? = some (.cells #[.int .i64 a0_0, .int .i64 a0_1, .int .i64 a0_2] 27 (0, 0))) ∧ Aside0 (Below w.heap.size w wc))
    case first =>
     have H := HC26.out
     clear HC26
     by_cases c27 : a0_2 = 0
     ·rw [if_pos c27] at H
      have c27b0 : (a0_2 == 0) = true := beq_iff_eq.mpr c27
      have c27b1 : (a0_2 != 0) = false := bne_eq_false_iff_eq.mpr c27
      clear c27
      (first | rw [c27b0] | (simp only [i64_w, i32_w]; rw [c27b0]) | skip)
      have H' := Aside0.mk H
      clear H
      have hnb28 := NB155_156.out
      have hnc28 := NB156_155.out
      have hnb29 := NB155_157.out
      have hnc29 := NB157_155.out
      have hcz30_0 := bc BK155 0
      have hcz30_1 := bc BK155 1
      have hcz30_2 := bc BK155 2
      have hfz30_0 := qC BK155.out 0
      have hfz30_1 := qC BK155.out 1
      have hfz30_2 := qC BK155.out 2
      go_wp2
      go_meet
      case rel => exact ⟨_, ((a1 == 1)), (by first | rfl | (simp; done) | (simp [*]; done)), H', ⟨by have := HJ2.out; first | omega | exact Nat.le_refl _⟩, ⟨by (with_reducible repeat (first | refine qB ?_ _ | refine qD ?_ | refine qA ?_ _)); exact BK155.out⟩, ⟨by (with_reducible repeat (first | refine qB ?_ _ | refine qD ?_ | refine qA ?_ _)); exact BK156.out⟩, ⟨by (with_reducible repeat (first | refine qB ?_ _ | refine qD ?_ | refine qA ?_ _)); exact BK157.out⟩, ⟨bl⟩⟩
     ·rw [if_neg c27] at H
      have c27b0 : (a0_2 == 0) = false := beq_eq_false_iff_ne.mpr c27
      have c27b1 : (a0_2 != 0) = true := bne_iff_ne.mpr c27
      (first | rw [c27b0] | (simp only [i64_w, i32_w]; rw [c27b0]) | skip)
      have H' := Aside0.mk H
      clear H
      have hnb31 := NB155_156.out
      have hnc31 := NB156_155.out
      have hnb32 := NB155_157.out
      have hnc32 := NB157_155.out
      have hcz33_0 := bc BK155 0
      have hcz33_1 := bc BK155 1
      have hcz33_2 := bc BK155 2
      have hfz33_0 := qC BK155.out 0
      have hfz33_1 := qC BK155.out 1
      have hfz33_2 := qC BK155.out 2
      go_wp2
      go_meet
      case rel => exact ⟨_, (false), (by first | rfl | (simp; done) | (simp [*]; done)), H', ⟨by have := HJ2.out; first | omega | exact Nat.le_refl _⟩, ⟨by (with_reducible repeat (first | refine qB ?_ _ | refine qD ?_ | refine qA ?_ _)); exact BK155.out⟩, ⟨by (with_reducible repeat (first | refine qB ?_ _ | refine qD ?_ | refine qA ?_ _)); exact BK156.out⟩, ⟨by (with_reducible repeat (first | refine qB ?_ _ | refine qD ?_ | refine qA ?_ _)); exact BK157.out⟩, ⟨bl⟩⟩
    case rest =>
     clear HC26
     try clear c1
     try clear c2
     try clear p2
     try clear c3
     try clear c4
     try clear c6
     try clear p6
     try clear c9
     try clear c10
     try clear c12
     try clear c12b0
     try clear c12b1
     try clear c13
     try clear c14
     try clear c16
     try clear c17
     try clear c19
     try clear c20
     try clear c21
     try clear c23
     try clear c27
     try clear c27b0
     try clear c27b1
     try clear c28
     try clear c29
     try clear c31
     try clear c32
     try clear hcz11_0
     try clear hcz11_1
     try clear hcz11_2
     try clear hcz15_0
     try clear hcz15_1
     try clear hcz15_2
     try clear hcz18_0
     try clear hcz18_1
     try clear hcz18_2
     try clear hcz22_0
     try clear hcz22_1
     try clear hcz22_2
     try clear hcz24_0
     try clear hcz24_1
     try clear hcz24_2
     try clear hcz25_0
     try clear hcz25_1
     try clear hcz25_2
     try clear hcz30_0
     try clear hcz30_1
     try clear hcz30_2
     try clear hcz33_0
     try clear hcz33_1
     try clear hcz33_2
     try clear hcz7_0
     try clear hcz7_1
     try clear hcz7_2
     try clear hfz11_0
     try clear hfz11_1
     try clear hfz11_2
     try clear hfz15_0
     try clear hfz15_1
     try clear hfz15_2
     try clear hfz18_0
     try clear hfz18_1
     try clear hfz18_2
     try clear hfz22_0
     try clear hfz22_1
     try clear hfz22_2
     try clear hfz24_0
     try clear hfz24_1
     try clear hfz24_2
     try clear hfz25_0
     try clear hfz25_1
     try clear hfz25_2
     try clear hfz30_0
     try clear hfz30_1
     try clear hfz30_2
     try clear hfz33_0
     try clear hfz33_1
     try clear hfz33_2
     try clear hfz7_0
     try clear hfz7_1
     try clear hfz7_2
     try clear p2
     obtain ⟨kq, x35_25, rfl, HA, HJ25, BK155, BK156, BK157, HB⟩ := hcut
     cases kq with
     | zero => exact absurd HA.out (by simp [qV.j1])
     | succ kj25 =>
      have H := HA.out
      clear HA
      simp only [qV.j1] at H
      by_cases c34 : x35_25 = true
      ·subst c34
       have H1 : (some (wrap64 (a0_0 + 1), a0_1, 1)) = some (r1, r2, r3) := by rw [if_pos rfl] at H; exact H
       clear H
       have H := H1
       clear H1
       simp only [Option.some.injEq, Prod.mk.injEq] at H
       obtain ⟨rfl, rfl, rfl⟩ := H
       have hnb35 := NB155_156.out
       have hnc35 := NB156_155.out
       have hnb36 := NB155_157.out
       have hnc36 := NB157_155.out
       have hcz37_0 := bc BK155 0
       have hcz37_1 := bc BK155 1
       have hcz37_2 := bc BK155 2
       have hfz37_0 := qC BK155.out 0
       have hfz37_1 := qC BK155.out 1
       have hfz37_2 := qC BK155.out 2
       have hnb38 := NB157_156.out
       have hnc38 := NB156_157.out
       have hcz39_0 := bc BK157 0
       have hcz39_1 := bc BK157 1
       have hcz39_2 := bc BK157 2
       have hfz39_0 := qC BK157.out 0
       have hfz39_1 := qC BK157.out 1
       have hfz39_2 := qC BK157.out 2
       have hcz40_0 := bc BK156 0
       have hcz40_1 := bc BK156 1
       have hcz40_2 := bc BK156 2
       have hfz40_0 := qC BK156.out 0
       have hfz40_1 := qC BK156.out 1
       have hfz40_2 := qC BK156.out 2
       go_wp2
       refine bodyPost_ret (results_cell_row rfl _ _ gb156 27 #[.int .i64 (wrap64 (a0_0 + 1)), .int .i64 a0_1, .int .i64 1] (0, 0) _ rfl (by (with_reducible repeat (first | refine qB ?_ _ | refine qD ?_ | refine qA ?_ _)); refine qQ (cs := #[.int .i64 (wrap64 (a0_0 + 1)), .int .i64 a0_1, .int .i64 0]) ?_ 2 _ rfl; (with_reducible repeat (first | refine qB ?_ _ | refine qD ?_ | refine qA ?_ _)); refine qQ (cs := #[.int .i64 (wrap64 (a0_0 + 1)), .int .i64 0, .int .i64 0]) ?_ 1 _ rfl; (with_reducible repeat (first | refine qB ?_ _ | refine qD ?_ | refine qA ?_ _)); refine qQ (cs := #[.int .i64 0, .int .i64 0, .int .i64 0]) ?_ 0 _ rfl; (with_reducible repeat (first | refine qB ?_ _ | refine qD ?_ | refine qA ?_ _)); refine qN ?_ NB156_157.out _; (with_reducible repeat (first | refine qB ?_ _ | refine qD ?_ | refine qA ?_ _)); refine qN ?_ NB156_157.out _; (with_reducible repeat (first | refine qB ?_ _ | refine qD ?_ | refine qA ?_ _)); exact BK156.out) Tryd.underlying27 rfl (by kernel_rfl)) rfl ?_
       exact ⟨by first | rfl | (simp [qJ, qI] <;> rfl) | (simp [*, qJ, qI] <;> rfl), bl⟩
      ·replace c34 := Bool.eq_false_iff.mpr c34
       subst c34
       have H1 : (if a0_2 = 0 then (qV.j2 kj25 a1 (a1 == 2) a0_0 a0_1 a0_2 a0_0 a0_1 a0_2) else (qV.j2 kj25 a1 false a0_0 a0_1 a0_2 a0_0 a0_1 a0_2)) = some (r1, r2, r3) := by rw [if_neg (show ¬ (false = true) by decide)] at H; exact H
       clear H
       have H := H1
       clear H1
       have HC41 := Aside0.mk H
       clear H
       go_upto_region 11 with (fail)
       go_cut [48] (fun v48 wc => ∃ (kq : Nat) (x48_40 : Bool), v48 = .bool x48_40 ∧ Aside0 (qV.j2 kq a1 x48_40 a0_0 a0_1 a0_2 a0_0 a0_1 a0_2 = some (r1, r2, r3)) ∧ Aside0 (kq ≤ kj25) ∧ Aside0 (wc.heap[gb155]? = some (.cells #[.int .i64 a0_0, .int .i64 a0_1, .int .i64 a0_2] 27 (0, 0))) ∧ Aside0 (wc.heap[gb156]? = some (.cells #[.int .i64 0, .int .i64 0, .int .i64 0] 27 (0, 0))) ∧ Aside0 (wc.heap[gb157]? = some (.cells #[.int .i64 a0_0, .int .i64 a0_1, .int .i64 a0_2] 27 (0, 0))) ∧ Aside0 (Below w.heap.size w wc))
       case first =>
        have H := HC41.out
        clear HC41
        by_cases c42 : a0_2 = 0
        ·rw [if_pos c42] at H
         have c42b0 : (a0_2 == 0) = true := beq_iff_eq.mpr c42
         have c42b1 : (a0_2 != 0) = false := bne_eq_false_iff_eq.mpr c42
         clear c42
         (first | rw [c42b0] | (simp only [i64_w, i32_w]; rw [c42b0]) | skip)
         have H' := Aside0.mk H
         clear H
         have hnb43 := NB155_156.out
         have hnc43 := NB156_155.out
         have hnb44 := NB155_157.out
         have hnc44 := NB157_155.out
         have hcz45_0 := bc BK155 0
         have hcz45_1 := bc BK155 1
         have hcz45_2 := bc BK155 2
         have hfz45_0 := qC BK155.out 0
         have hfz45_1 := qC BK155.out 1
         have hfz45_2 := qC BK155.out 2
         go_wp2
         go_meet
         case rel => exact ⟨_, ((a1 == 2)), (by first | rfl | (simp; done) | (simp [*]; done)), H', ⟨by have := HJ2.out; have := HJ25.out; first | omega | exact Nat.le_refl _⟩, ⟨by (with_reducible repeat (first | refine qB ?_ _ | refine qD ?_ | refine qA ?_ _)); exact BK155.out⟩, ⟨by (with_reducible repeat (first | refine qB ?_ _ | refine qD ?_ | refine qA ?_ _)); exact BK156.out⟩, ⟨by (with_reducible repeat (first | refine qB ?_ _ | refine qD ?_ | refine qA ?_ _)); exact BK157.out⟩, ⟨bl⟩⟩
        ·rw [if_neg c42] at H
         have c42b0 : (a0_2 == 0) = false := beq_eq_false_iff_ne.mpr c42
         have c42b1 : (a0_2 != 0) = true := bne_iff_ne.mpr c42
         (first | rw [c42b0] | (simp only [i64_w, i32_w]; rw [c42b0]) | skip)
         have H' := Aside0.mk H
         clear H
         have hnb46 := NB155_156.out
         have hnc46 := NB156_155.out
         have hnb47 := NB155_157.out
         have hnc47 := NB157_155.out
         have hcz48_0 := bc BK155 0
         have hcz48_1 := bc BK155 1
         have hcz48_2 := bc BK155 2
         have hfz48_0 := qC BK155.out 0
         have hfz48_1 := qC BK155.out 1
         have hfz48_2 := qC BK155.out 2
         go_wp2
         go_meet
         case rel => exact ⟨_, (false), (by first | rfl | (simp; done) | (simp [*]; done)), H', ⟨by have := HJ2.out; have := HJ25.out; first | omega | exact Nat.le_refl _⟩, ⟨by (with_reducible repeat (first | refine qB ?_ _ | refine qD ?_ | refine qA ?_ _)); exact BK155.out⟩, ⟨by (with_reducible repeat (first | refine qB ?_ _ | refine qD ?_ | refine qA ?_ _)); exact BK156.out⟩, ⟨by (with_reducible repeat (first | refine qB ?_ _ | refine qD ?_ | refine qA ?_ _)); exact BK157.out⟩, ⟨bl⟩⟩
       case rest =>
        clear HC41
        try clear c1
        try clear c2
        try clear p2
        try clear c3
        try clear c4
        try clear c6
        try clear p6
        try clear c9
        try clear c10
        try clear c12
        try clear c12b0
        try clear c12b1
        try clear c13
        try clear c14
        try clear c16
        try clear c17
        try clear c19
        try clear c20
        try clear c21
        try clear c23
        try clear c27
        try clear c27b0
        try clear c27b1
        try clear c28
        try clear c29
        try clear c31
        try clear c32
        try clear c34
        try clear c35
        try clear c36
        try clear c38
        try clear c42
        try clear c42b0
        try clear c42b1
        try clear c43
        try clear c44
        try clear c46
        try clear c47
        try clear c48
        try clear hcz11_0
        try clear hcz11_1
        try clear hcz11_2
        try clear hcz15_0
        try clear hcz15_1
        try clear hcz15_2
        try clear hcz18_0
        try clear hcz18_1
        try clear hcz18_2
        try clear hcz22_0
        try clear hcz22_1
        try clear hcz22_2
        try clear hcz24_0
        try clear hcz24_1
        try clear hcz24_2
        try clear hcz25_0
        try clear hcz25_1
        try clear hcz25_2
        try clear hcz30_0
        try clear hcz30_1
        try clear hcz30_2
        try clear hcz33_0
        try clear hcz33_1
        try clear hcz33_2
        try clear hcz37_0
        try clear hcz37_1
        try clear hcz37_2
        try clear hcz39_0
        try clear hcz39_1
        try clear hcz39_2
        try clear hcz40_0
        try clear hcz40_1
        try clear hcz40_2
        try clear hcz45_0
        try clear hcz45_1
        try clear hcz45_2
        try clear hcz48_0
        try clear hcz48_1
        try clear hcz48_2
        try clear hcz7_0
        try clear hcz7_1
        try clear hcz7_2
        try clear hfz11_0
        try clear hfz11_1
        try clear hfz11_2
        try clear hfz15_0
        try clear hfz15_1
        try clear hfz15_2
        try clear hfz18_0
        try clear hfz18_1
        try clear hfz18_2
        try clear hfz22_0
        try clear hfz22_1
        try clear hfz22_2
        try clear hfz24_0
        try clear hfz24_1
        try clear hfz24_2
        try clear hfz25_0
        try clear hfz25_1
        try clear hfz25_2
        try clear hfz30_0
        try clear hfz30_1
        try clear hfz30_2
        try clear hfz33_0
        try clear hfz33_1
        try clear hfz33_2
        try clear hfz37_0
        try clear hfz37_1
        try clear hfz37_2
        try clear hfz39_0
        try clear hfz39_1
        try clear hfz39_2
        try clear hfz40_0
        try clear hfz40_1
        try clear hfz40_2
        try clear hfz45_0
        try clear hfz45_1
        try clear hfz45_2
        try clear hfz48_0
        try clear hfz48_1
        try clear hfz48_2
        try clear hfz7_0
        try clear hfz7_1
        try clear hfz7_2
        try clear p2
        try clear p6
        obtain ⟨kq, x48_40, rfl, HA, HJ40, BK155, BK156, BK157, HB⟩ := hcut
        cases kq with
        | zero => exact absurd HA.out (by simp [qV.j2])
        | succ kj40 =>
         have H := HA.out
         clear HA
         simp only [qV.j2] at H
         by_cases c49 : x48_40 = true
         ·subst c49
          have H1 : (some (a0_0, wrap64 (a0_1 + 1), 2)) = some (r1, r2, r3) := by rw [if_pos rfl] at H; exact H
          clear H
          have H := H1
          clear H1
          simp only [Option.some.injEq, Prod.mk.injEq] at H
          obtain ⟨rfl, rfl, rfl⟩ := H
          have hnb50 := NB155_156.out
          have hnc50 := NB156_155.out
          have hnb51 := NB155_157.out
          have hnc51 := NB157_155.out
          have hcz52_0 := bc BK155 0
          have hcz52_1 := bc BK155 1
          have hcz52_2 := bc BK155 2
          have hfz52_0 := qC BK155.out 0
          have hfz52_1 := qC BK155.out 1
          have hfz52_2 := qC BK155.out 2
          have hnb53 := NB157_156.out
          have hnc53 := NB156_157.out
          have hcz54_0 := bc BK157 0
          have hcz54_1 := bc BK157 1
          have hcz54_2 := bc BK157 2
          have hfz54_0 := qC BK157.out 0
          have hfz54_1 := qC BK157.out 1
          have hfz54_2 := qC BK157.out 2
          have hcz55_0 := bc BK156 0
          have hcz55_1 := bc BK156 1
          have hcz55_2 := bc BK156 2
          have hfz55_0 := qC BK156.out 0
          have hfz55_1 := qC BK156.out 1
          have hfz55_2 := qC BK156.out 2
          go_wp2
          refine bodyPost_ret (results_cell_row rfl _ _ gb156 27 #[.int .i64 a0_0, .int .i64 (wrap64 (a0_1 + 1)), .int .i64 2] (0, 0) _ rfl (by (with_reducible repeat (first | refine qB ?_ _ | refine qD ?_ | refine qA ?_ _)); refine qQ (cs := #[.int .i64 a0_0, .int .i64 (wrap64 (a0_1 + 1)), .int .i64 0]) ?_ 2 _ rfl; (with_reducible repeat (first | refine qB ?_ _ | refine qD ?_ | refine qA ?_ _)); refine qQ (cs := #[.int .i64 a0_0, .int .i64 0, .int .i64 0]) ?_ 1 _ rfl; (with_reducible repeat (first | refine qB ?_ _ | refine qD ?_ | refine qA ?_ _)); refine qQ (cs := #[.int .i64 0, .int .i64 0, .int .i64 0]) ?_ 0 _ rfl; (with_reducible repeat (first | refine qB ?_ _ | refine qD ?_ | refine qA ?_ _)); refine qN ?_ NB156_157.out _; (with_reducible repeat (first | refine qB ?_ _ | refine qD ?_ | refine qA ?_ _)); refine qN ?_ NB156_157.out _; (with_reducible repeat (first | refine qB ?_ _ | refine qD ?_ | refine qA ?_ _)); exact BK156.out) Tryd.underlying27 rfl (by kernel_rfl)) rfl ?_
          exact ⟨by first | rfl | (simp [qJ, qI] <;> rfl) | (simp [*, qJ, qI] <;> rfl), bl⟩
         ·replace c49 := Bool.eq_false_iff.mpr c49
          subst c49
          have H1 : (if a0_2 = 0 then (some (wrap64 (a0_0 - 2), a0_1, 1)) else (if a0_2 = 1 then (qV.j3 kj40 a1 (a1 == 1) a0_0 a0_1 a0_2 a0_0 a0_1 a0_2) else (qV.j3 kj40 a1 false a0_0 a0_1 a0_2 a0_0 a0_1 a0_2))) = some (r1, r2, r3) := by rw [if_neg (show ¬ (false = true) by decide)] at H; exact H
          clear H
          have H := H1
          clear H1
          by_cases c56 : a0_2 = 0
          ·rw [if_pos c56] at H
           have c56b0 : (a0_2 == 0) = true := beq_iff_eq.mpr c56
           have c56b1 : (a0_2 != 0) = false := bne_eq_false_iff_eq.mpr c56
           clear c56
           simp only [Option.some.injEq, Prod.mk.injEq] at H
           obtain ⟨rfl, rfl, rfl⟩ := H
           have hnb57 := NB155_156.out
           have hnc57 := NB156_155.out
           have hnb58 := NB155_157.out
           have hnc58 := NB157_155.out
           have hcz59_0 := bc BK155 0
           have hcz59_1 := bc BK155 1
           have hcz59_2 := bc BK155 2
           have hfz59_0 := qC BK155.out 0
           have hfz59_1 := qC BK155.out 1
           have hfz59_2 := qC BK155.out 2
           have hnb60 := NB157_156.out
           have hnc60 := NB156_157.out
           have hcz61_0 := bc BK157 0
           have hcz61_1 := bc BK157 1
           have hcz61_2 := bc BK157 2
           have hfz61_0 := qC BK157.out 0
           have hfz61_1 := qC BK157.out 1
           have hfz61_2 := qC BK157.out 2
           have hcz62_0 := bc BK156 0
           have hcz62_1 := bc BK156 1
           have hcz62_2 := bc BK156 2
           have hfz62_0 := qC BK156.out 0
           have hfz62_1 := qC BK156.out 1
           have hfz62_2 := qC BK156.out 2
           go_wp2
           refine bodyPost_ret (results_cell_row rfl _ _ gb156 27 #[.int .i64 (wrap64 (a0_0 - 2)), .int .i64 a0_1, .int .i64 1] (0, 0) _ rfl (by (with_reducible repeat (first | refine qB ?_ _ | refine qD ?_ | refine qA ?_ _)); refine qQ (cs := #[.int .i64 (wrap64 (a0_0 - 2)), .int .i64 a0_1, .int .i64 0]) ?_ 2 _ rfl; (with_reducible repeat (first | refine qB ?_ _ | refine qD ?_ | refine qA ?_ _)); refine qQ (cs := #[.int .i64 (wrap64 (a0_0 - 2)), .int .i64 0, .int .i64 0]) ?_ 1 _ rfl; (with_reducible repeat (first | refine qB ?_ _ | refine qD ?_ | refine qA ?_ _)); refine qQ (cs := #[.int .i64 0, .int .i64 0, .int .i64 0]) ?_ 0 _ rfl; (with_reducible repeat (first | refine qB ?_ _ | refine qD ?_ | refine qA ?_ _)); refine qN ?_ NB156_157.out _; (with_reducible repeat (first | refine qB ?_ _ | refine qD ?_ | refine qA ?_ _)); refine qN ?_ NB156_157.out _; (with_reducible repeat (first | refine qB ?_ _ | refine qD ?_ | refine qA ?_ _)); exact BK156.out) Tryd.underlying27 rfl (by kernel_rfl)) rfl ?_
           exact ⟨by first | rfl | (simp [qJ, qI] <;> rfl) | (simp [*, qJ, qI] <;> rfl), bl⟩
          ·rw [if_neg c56] at H
           have c56b0 : (a0_2 == 0) = false := beq_eq_false_iff_ne.mpr c56
           have c56b1 : (a0_2 != 0) = true := bne_iff_ne.mpr c56
           have HC63 := Aside0.mk H
           clear H
           have hnb64 := NB155_156.out
           have hnc64 := NB156_155.out
           have hnb65 := NB155_157.out
           have hnc65 := NB157_155.out
           have hcz66_0 := bc BK155 0
           have hcz66_1 := bc BK155 1
           have hcz66_2 := bc BK155 2
           have hfz66_0 := qC BK155.out 0
           have hfz66_1 := qC BK155.out 1
           have hfz66_2 := qC BK155.out 2
           go_upto_region 17 with (fail)
           go_cut [70] (fun v70 wc => ∃ (kq : Nat) (x70_62 : Bool), v70 = .bool x70_62 ∧ Aside0 (qV.j3 kq a1 x70_62 a0_0 a0_1 a0_2 a0_0 a0_1 a0_2 = some (r1, r2, r3)) ∧ Aside0 (kq ≤ kj40) ∧ Aside0 (wc.heap[gb155]? = some (.cells #[.int .i64 a0_0, .int .i64 a0_1, .int .i64 a0_2] 27 (0, 0))) ∧ Aside0 (wc.heap[gb156]? = some (.cells #[.int .i64 0, .int .i64 0, .int .i64 0] 27 (0, 0))) ∧ Aside0 (wc.heap[gb157]? = some (.cells #[.int .i64 a0_0, .int .i64 a0_1, .int .i64 a0_2] 27 (0, 0))) ∧ Aside0 (Below w.heap.size w wc))
           case first =>
            have H := HC63.out
            clear HC63
            by_cases c67 : a0_2 = 1
            ·rw [if_pos c67] at H
             have c67b0 : (a0_2 == 1) = true := beq_iff_eq.mpr c67
             have c67b1 : (a0_2 != 1) = false := bne_eq_false_iff_eq.mpr c67
             clear c67
             (first | rw [c67b0] | (simp only [i64_w, i32_w]; rw [c67b0]) | skip)
             have H' := Aside0.mk H
             clear H
             have hnb68 := NB155_156.out
             have hnc68 := NB156_155.out
             have hnb69 := NB155_157.out
             have hnc69 := NB157_155.out
             have hcz70_0 := bc BK155 0
             have hcz70_1 := bc BK155 1
             have hcz70_2 := bc BK155 2
             have hfz70_0 := qC BK155.out 0
             have hfz70_1 := qC BK155.out 1
             have hfz70_2 := qC BK155.out 2
             go_wp2
             go_meet
             case rel => exact ⟨_, ((a1 == 1)), (by first | rfl | (simp; done) | (simp [*]; done)), H', ⟨by have := HJ2.out; have := HJ25.out; have := HJ40.out; first | omega | exact Nat.le_refl _⟩, ⟨by (with_reducible repeat (first | refine qB ?_ _ | refine qD ?_ | refine qA ?_ _)); exact BK155.out⟩, ⟨by (with_reducible repeat (first | refine qB ?_ _ | refine qD ?_ | refine qA ?_ _)); exact BK156.out⟩, ⟨by (with_reducible repeat (first | refine qB ?_ _ | refine qD ?_ | refine qA ?_ _)); exact BK157.out⟩, ⟨bl⟩⟩
            ·rw [if_neg c67] at H
             have c67b0 : (a0_2 == 1) = false := beq_eq_false_iff_ne.mpr c67
             have c67b1 : (a0_2 != 1) = true := bne_iff_ne.mpr c67
             (first | rw [c67b0] | (simp only [i64_w, i32_w]; rw [c67b0]) | skip)
             have H' := Aside0.mk H
             clear H
             have hnb71 := NB155_156.out
             have hnc71 := NB156_155.out
             have hnb72 := NB155_157.out
             have hnc72 := NB157_155.out
             have hcz73_0 := bc BK155 0
             have hcz73_1 := bc BK155 1
             have hcz73_2 := bc BK155 2
             have hfz73_0 := qC BK155.out 0
             have hfz73_1 := qC BK155.out 1
             have hfz73_2 := qC BK155.out 2
             go_wp2
             go_meet
             case rel => exact ⟨_, (false), (by first | rfl | (simp; done) | (simp [*]; done)), H', ⟨by have := HJ2.out; have := HJ25.out; have := HJ40.out; first | omega | exact Nat.le_refl _⟩, ⟨by (with_reducible repeat (first | refine qB ?_ _ | refine qD ?_ | refine qA ?_ _)); exact BK155.out⟩, ⟨by (with_reducible repeat (first | refine qB ?_ _ | refine qD ?_ | refine qA ?_ _)); exact BK156.out⟩, ⟨by (with_reducible repeat (first | refine qB ?_ _ | refine qD ?_ | refine qA ?_ _)); exact BK157.out⟩, ⟨bl⟩⟩
           case rest =>
            clear HC63
            try clear c1
            try clear c2
            try clear p2
            try clear c3
            try clear c4
            try clear c5
            try clear c6
            try clear p6
            try clear c7
            try clear c9
            try clear c10
            try clear c12
            try clear c12b0
            try clear c12b1
            try clear c13
            try clear c14
            try clear c16
            try clear c17
            try clear c19
            try clear c20
            try clear c21
            try clear c23
            try clear c27
            try clear c27b0
            try clear c27b1
            try clear c28
            try clear c29
            try clear c31
            try clear c32
            try clear c34
            try clear c35
            try clear c36
            try clear c38
            try clear c42
            try clear c42b0
            try clear c42b1
            try clear c43
            try clear c44
            try clear c46
            try clear c47
            try clear c48
            try clear c49
            try clear c50
            try clear c51
            try clear c53
            try clear c56
            try clear c56b0
            try clear c56b1
            try clear c57
            try clear c58
            try clear c60
            try clear c64
            try clear p64
            try clear c65
            try clear c67
            try clear c67b0
            try clear c67b1
            try clear c68
            try clear c69
            try clear c71
            try clear c72
            try clear hcz11_0
            try clear hcz11_1
            try clear hcz11_2
            try clear hcz15_0
            try clear hcz15_1
            try clear hcz15_2
            try clear hcz18_0
            try clear hcz18_1
            try clear hcz18_2
            try clear hcz22_0
            try clear hcz22_1
            try clear hcz22_2
            try clear hcz24_0
            try clear hcz24_1
            try clear hcz24_2
            try clear hcz25_0
            try clear hcz25_1
            try clear hcz25_2
            try clear hcz30_0
            try clear hcz30_1
            try clear hcz30_2
            try clear hcz33_0
            try clear hcz33_1
            try clear hcz33_2
            try clear hcz37_0
            try clear hcz37_1
            try clear hcz37_2
            try clear hcz39_0
            try clear hcz39_1
            try clear hcz39_2
            try clear hcz40_0
            try clear hcz40_1
            try clear hcz40_2
            try clear hcz45_0
            try clear hcz45_1
            try clear hcz45_2
            try clear hcz48_0
            try clear hcz48_1
            try clear hcz48_2
            try clear hcz52_0
            try clear hcz52_1
            try clear hcz52_2
            try clear hcz54_0
            try clear hcz54_1
            try clear hcz54_2
            try clear hcz55_0
            try clear hcz55_1
            try clear hcz55_2
            try clear hcz59_0
            try clear hcz59_1
            try clear hcz59_2
            try clear hcz61_0
            try clear hcz61_1
            try clear hcz61_2
            try clear hcz62_0
            try clear hcz62_1
            try clear hcz62_2
            try clear hcz66_0
            try clear hcz66_1
            try clear hcz66_2
            try clear hcz70_0
            try clear hcz70_1
            try clear hcz70_2
            try clear hcz73_0
            try clear hcz73_1
            try clear hcz73_2
            try clear hcz7_0
            try clear hcz7_1
            try clear hcz7_2
            try clear hfz11_0
            try clear hfz11_1
            try clear hfz11_2
            try clear hfz15_0
            try clear hfz15_1
            try clear hfz15_2
            try clear hfz18_0
            try clear hfz18_1
            try clear hfz18_2
            try clear hfz22_0
            try clear hfz22_1
            try clear hfz22_2
            try clear hfz24_0
            try clear hfz24_1
            try clear hfz24_2
            try clear hfz25_0
            try clear hfz25_1
            try clear hfz25_2
            try clear hfz30_0
            try clear hfz30_1
            try clear hfz30_2
            try clear hfz33_0
            try clear hfz33_1
            try clear hfz33_2
            try clear hfz37_0
            try clear hfz37_1
            try clear hfz37_2
            try clear hfz39_0
            try clear hfz39_1
            try clear hfz39_2
            try clear hfz40_0
            try clear hfz40_1
            try clear hfz40_2
            try clear hfz45_0
            try clear hfz45_1
            try clear hfz45_2
            try clear hfz48_0
            try clear hfz48_1
            try clear hfz48_2
            try clear hfz52_0
            try clear hfz52_1
            try clear hfz52_2
            try clear hfz54_0
            try clear hfz54_1
            try clear hfz54_2
            try clear hfz55_0
            try clear hfz55_1
            try clear hfz55_2
            try clear hfz59_0
            try clear hfz59_1
            try clear hfz59_2
            try clear hfz61_0
            try clear hfz61_1
            try clear hfz61_2
            try clear hfz62_0
            try clear hfz62_1
            try clear hfz62_2
            try clear hfz66_0
            try clear hfz66_1
            try clear hfz66_2
            try clear hfz70_0
            try clear hfz70_1
            try clear hfz70_2
            try clear hfz73_0
            try clear hfz73_1
            try clear hfz73_2
            try clear hfz7_0
            try clear hfz7_1
            try clear hfz7_2
            try clear p2
            try clear p6
            obtain ⟨kq, x70_62, rfl, HA, HJ62, BK155, BK156, BK157, HB⟩ := hcut
            cases kq with
            | zero => exact absurd HA.out (by simp [qV.j3])
            | succ kj62 =>
             have H := HA.out
             clear HA
             simp only [qV.j3] at H
             by_cases c74 : x70_62 = true
             ·subst c74
              have H1 : (some (wrap64 (a0_0 + 2), a0_1, 0)) = some (r1, r2, r3) := by rw [if_pos rfl] at H; exact H
              clear H
              have H := H1
              clear H1
              simp only [Option.some.injEq, Prod.mk.injEq] at H
              obtain ⟨rfl, rfl, rfl⟩ := H
              have hnb75 := NB155_156.out
              have hnc75 := NB156_155.out
              have hnb76 := NB155_157.out
              have hnc76 := NB157_155.out
              have hcz77_0 := bc BK155 0
              have hcz77_1 := bc BK155 1
              have hcz77_2 := bc BK155 2
              have hfz77_0 := qC BK155.out 0
              have hfz77_1 := qC BK155.out 1
              have hfz77_2 := qC BK155.out 2
              have hnb78 := NB157_156.out
              have hnc78 := NB156_157.out
              have hcz79_0 := bc BK157 0
              have hcz79_1 := bc BK157 1
              have hcz79_2 := bc BK157 2
              have hfz79_0 := qC BK157.out 0
              have hfz79_1 := qC BK157.out 1
              have hfz79_2 := qC BK157.out 2
              have hcz80_0 := bc BK156 0
              have hcz80_1 := bc BK156 1
              have hcz80_2 := bc BK156 2
              have hfz80_0 := qC BK156.out 0
              have hfz80_1 := qC BK156.out 1
              have hfz80_2 := qC BK156.out 2
              go_wp2
              refine bodyPost_ret (results_cell_row rfl _ _ gb156 27 #[.int .i64 (wrap64 (a0_0 + 2)), .int .i64 a0_1, .int .i64 0] (0, 0) _ rfl (by (with_reducible repeat (first | refine qB ?_ _ | refine qD ?_ | refine qA ?_ _)); refine qQ (cs := #[.int .i64 (wrap64 (a0_0 + 2)), .int .i64 a0_1, .int .i64 0]) ?_ 2 _ rfl; (with_reducible repeat (first | refine qB ?_ _ | refine qD ?_ | refine qA ?_ _)); refine qQ (cs := #[.int .i64 (wrap64 (a0_0 + 2)), .int .i64 0, .int .i64 0]) ?_ 1 _ rfl; (with_reducible repeat (first | refine qB ?_ _ | refine qD ?_ | refine qA ?_ _)); refine qQ (cs := #[.int .i64 0, .int .i64 0, .int .i64 0]) ?_ 0 _ rfl; (with_reducible repeat (first | refine qB ?_ _ | refine qD ?_ | refine qA ?_ _)); refine qN ?_ NB156_157.out _; (with_reducible repeat (first | refine qB ?_ _ | refine qD ?_ | refine qA ?_ _)); refine qN ?_ NB156_157.out _; (with_reducible repeat (first | refine qB ?_ _ | refine qD ?_ | refine qA ?_ _)); exact BK156.out) Tryd.underlying27 rfl (by kernel_rfl)) rfl ?_
              exact ⟨by first | rfl | (simp [qJ, qI] <;> rfl) | (simp [*, qJ, qI] <;> rfl), bl⟩
             ·replace c74 := Bool.eq_false_iff.mpr c74
              subst c74
              have H1 : (if a0_2 = 1 then (qV.j4 kj62 a1 (a1 == 3) a0_0 a0_1 a0_2 a0_0 a0_1 a0_2) else (qV.j4 kj62 a1 false a0_0 a0_1 a0_2 a0_0 a0_1 a0_2)) = some (r1, r2, r3) := by rw [if_neg (show ¬ (false = true) by decide)] at H; exact H
              clear H
              have H := H1
              clear H1
              have HC81 := Aside0.mk H
              clear H
              go_upto_region 20 with (fail)
              go_cut [83] (fun v83 wc => ∃ (kq : Nat) (x83_80 : Bool), v83 = .bool x83_80 ∧ Aside0 (qV.j4 kq a1 x83_80 a0_0 a0_1 a0_2 a0_0 a0_1 a0_2 = some (r1, r2, r3)) ∧ Aside0 (kq ≤ kj62) ∧ Aside0 (wc.heap[gb155]? = some (.cells #[.int .i64 a0_0, .int .i64 a0_1, .int .i64 a0_2] 27 (0, 0))) ∧ Aside0 (wc.heap[gb156]? = some (.cells #[.int .i64 0, .int .i64 0, .int .i64 0] 27 (0, 0))) ∧ Aside0 (wc.heap[gb157]? = some (.cells #[.int .i64 a0_0, .int .i64 a0_1, .int .i64 a0_2] 27 (0, 0))) ∧ Aside0 (Below w.heap.size w wc))
              case first =>
               have H := HC81.out
               clear HC81
               by_cases c82 : a0_2 = 1
               ·rw [if_pos c82] at H
                have c82b0 : (a0_2 == 1) = true := beq_iff_eq.mpr c82
                have c82b1 : (a0_2 != 1) = false := bne_eq_false_iff_eq.mpr c82
                clear c82
                (first | rw [c82b0] | (simp only [i64_w, i32_w]; rw [c82b0]) | skip)
                have H' := Aside0.mk H
                clear H
                have hnb83 := NB155_156.out
                have hnc83 := NB156_155.out
                have hnb84 := NB155_157.out
                have hnc84 := NB157_155.out
                have hcz85_0 := bc BK155 0
                have hcz85_1 := bc BK155 1
                have hcz85_2 := bc BK155 2
                have hfz85_0 := qC BK155.out 0
                have hfz85_1 := qC BK155.out 1
                have hfz85_2 := qC BK155.out 2
                go_wp2
                go_meet
                case rel => exact ⟨_, ((a1 == 3)), (by first | rfl | (simp; done) | (simp [*]; done)), H', ⟨by have := HJ2.out; have := HJ25.out; have := HJ40.out; have := HJ62.out; first | omega | exact Nat.le_refl _⟩, ⟨by (with_reducible repeat (first | refine qB ?_ _ | refine qD ?_ | refine qA ?_ _)); exact BK155.out⟩, ⟨by (with_reducible repeat (first | refine qB ?_ _ | refine qD ?_ | refine qA ?_ _)); exact BK156.out⟩, ⟨by (with_reducible repeat (first | refine qB ?_ _ | refine qD ?_ | refine qA ?_ _)); exact BK157.out⟩, ⟨bl⟩⟩
               ·rw [if_neg c82] at H
                have c82b0 : (a0_2 == 1) = false := beq_eq_false_iff_ne.mpr c82
                have c82b1 : (a0_2 != 1) = true := bne_iff_ne.mpr c82
                (first | rw [c82b0] | (simp only [i64_w, i32_w]; rw [c82b0]) | skip)
                have H' := Aside0.mk H
                clear H
                have hnb86 := NB155_156.out
                have hnc86 := NB156_155.out
                have hnb87 := NB155_157.out
                have hnc87 := NB157_155.out
                have hcz88_0 := bc BK155 0
                have hcz88_1 := bc BK155 1
                have hcz88_2 := bc BK155 2
                have hfz88_0 := qC BK155.out 0
                have hfz88_1 := qC BK155.out 1
                have hfz88_2 := qC BK155.out 2
                go_wp2
                go_meet
                case rel => exact ⟨_, (false), (by first | rfl | (simp; done) | (simp [*]; done)), H', ⟨by have := HJ2.out; have := HJ25.out; have := HJ40.out; have := HJ62.out; first | omega | exact Nat.le_refl _⟩, ⟨by (with_reducible repeat (first | refine qB ?_ _ | refine qD ?_ | refine qA ?_ _)); exact BK155.out⟩, ⟨by (with_reducible repeat (first | refine qB ?_ _ | refine qD ?_ | refine qA ?_ _)); exact BK156.out⟩, ⟨by (with_reducible repeat (first | refine qB ?_ _ | refine qD ?_ | refine qA ?_ _)); exact BK157.out⟩, ⟨bl⟩⟩
              case rest =>
               clear HC81
               try clear c1
               try clear c2
               try clear p2
               try clear c3
               try clear c4
               try clear c5
               try clear c6
               try clear p6
               try clear c7
               try clear c8
               try clear c9
               try clear c10
               try clear c12
               try clear c12b0
               try clear c12b1
               try clear c13
               try clear c14
               try clear c16
               try clear c17
               try clear c19
               try clear c20
               try clear c21
               try clear c23
               try clear c27
               try clear c27b0
               try clear c27b1
               try clear c28
               try clear c29
               try clear c31
               try clear c32
               try clear c34
               try clear c35
               try clear c36
               try clear c38
               try clear c42
               try clear c42b0
               try clear c42b1
               try clear c43
               try clear c44
               try clear c46
               try clear c47
               try clear c48
               try clear c49
               try clear c50
               try clear c51
               try clear c53
               try clear c56
               try clear c56b0
               try clear c56b1
               try clear c57
               try clear c58
               try clear c60
               try clear c64
               try clear p64
               try clear c65
               try clear c67
               try clear c67b0
               try clear c67b1
               try clear c68
               try clear c69
               try clear c71
               try clear c72
               try clear c74
               try clear c75
               try clear c76
               try clear c78
               try clear c82
               try clear c82b0
               try clear c82b1
               try clear c83
               try clear c84
               try clear c86
               try clear c87
               try clear hcz11_0
               try clear hcz11_1
               try clear hcz11_2
               try clear hcz15_0
               try clear hcz15_1
               try clear hcz15_2
               try clear hcz18_0
               try clear hcz18_1
               try clear hcz18_2
               try clear hcz22_0
               try clear hcz22_1
               try clear hcz22_2
               try clear hcz24_0
               try clear hcz24_1
               try clear hcz24_2
               try clear hcz25_0
               try clear hcz25_1
               try clear hcz25_2
               try clear hcz30_0
               try clear hcz30_1
               try clear hcz30_2
               try clear hcz33_0
               try clear hcz33_1
               try clear hcz33_2
               try clear hcz37_0
               try clear hcz37_1
               try clear hcz37_2
               try clear hcz39_0
               try clear hcz39_1
               try clear hcz39_2
               try clear hcz40_0
               try clear hcz40_1
               try clear hcz40_2
               try clear hcz45_0
               try clear hcz45_1
               try clear hcz45_2
               try clear hcz48_0
               try clear hcz48_1
               try clear hcz48_2
               try clear hcz52_0
               try clear hcz52_1
               try clear hcz52_2
               try clear hcz54_0
               try clear hcz54_1
               try clear hcz54_2
               try clear hcz55_0
               try clear hcz55_1
               try clear hcz55_2
               try clear hcz59_0
               try clear hcz59_1
               try clear hcz59_2
               try clear hcz61_0
               try clear hcz61_1
               try clear hcz61_2
               try clear hcz62_0
               try clear hcz62_1
               try clear hcz62_2
               try clear hcz66_0
               try clear hcz66_1
               try clear hcz66_2
               try clear hcz70_0
               try clear hcz70_1
               try clear hcz70_2
               try clear hcz73_0
               try clear hcz73_1
               try clear hcz73_2
               try clear hcz77_0
               try clear hcz77_1
               try clear hcz77_2
               try clear hcz79_0
               try clear hcz79_1
               try clear hcz79_2
               try clear hcz7_0
               try clear hcz7_1
               try clear hcz7_2
               try clear hcz80_0
               try clear hcz80_1
               try clear hcz80_2
               try clear hcz85_0
               try clear hcz85_1
               try clear hcz85_2
               try clear hcz88_0
               try clear hcz88_1
               try clear hcz88_2
               try clear hfz11_0
               try clear hfz11_1
               try clear hfz11_2
               try clear hfz15_0
               try clear hfz15_1
               try clear hfz15_2
               try clear hfz18_0
               try clear hfz18_1
               try clear hfz18_2
               try clear hfz22_0
               try clear hfz22_1
               try clear hfz22_2
               try clear hfz24_0
               try clear hfz24_1
               try clear hfz24_2
               try clear hfz25_0
               try clear hfz25_1
               try clear hfz25_2
               try clear hfz30_0
               try clear hfz30_1
               try clear hfz30_2
               try clear hfz33_0
               try clear hfz33_1
               try clear hfz33_2
               try clear hfz37_0
               try clear hfz37_1
               try clear hfz37_2
               try clear hfz39_0
               try clear hfz39_1
               try clear hfz39_2
               try clear hfz40_0
               try clear hfz40_1
               try clear hfz40_2
               try clear hfz45_0
               try clear hfz45_1
               try clear hfz45_2
               try clear hfz48_0
               try clear hfz48_1
               try clear hfz48_2
               try clear hfz52_0
               try clear hfz52_1
               try clear hfz52_2
               try clear hfz54_0
               try clear hfz54_1
               try clear hfz54_2
               try clear hfz55_0
               try clear hfz55_1
               try clear hfz55_2
               try clear hfz59_0
               try clear hfz59_1
               try clear hfz59_2
               try clear hfz61_0
               try clear hfz61_1
               try clear hfz61_2
               try clear hfz62_0
               try clear hfz62_1
               try clear hfz62_2
               try clear hfz66_0
               try clear hfz66_1
               try clear hfz66_2
               try clear hfz70_0
               try clear hfz70_1
               try clear hfz70_2
               try clear hfz73_0
               try clear hfz73_1
               try clear hfz73_2
               try clear hfz77_0
               try clear hfz77_1
               try clear hfz77_2
               try clear hfz79_0
               try clear hfz79_1
               try clear hfz79_2
               try clear hfz7_0
               try clear hfz7_1
               try clear hfz7_2
               try clear hfz80_0
               try clear hfz80_1
               try clear hfz80_2
               try clear hfz85_0
               try clear hfz85_1
               try clear hfz85_2
               try clear hfz88_0
               try clear hfz88_1
               try clear hfz88_2
               try clear p2
               try clear p6
               try clear p64
               obtain ⟨kq, x83_80, rfl, HA, HJ80, BK155, BK156, BK157, HB⟩ := hcut
               cases kq with
               | zero => exact absurd HA.out (by simp [qV.j4])
               | succ kj80 =>
                have H := HA.out
                clear HA
                simp only [qV.j4] at H
                by_cases c89 : x83_80 = true
                ·subst c89
                 have H1 : (some (wrap64 (a0_0 - 1), a0_1, 0)) = some (r1, r2, r3) := by rw [if_pos rfl] at H; exact H
                 clear H
                 have H := H1
                 clear H1
                 simp only [Option.some.injEq, Prod.mk.injEq] at H
                 obtain ⟨rfl, rfl, rfl⟩ := H
                 have hnb90 := NB155_156.out
                 have hnc90 := NB156_155.out
                 have hnb91 := NB155_157.out
                 have hnc91 := NB157_155.out
                 have hcz92_0 := bc BK155 0
                 have hcz92_1 := bc BK155 1
                 have hcz92_2 := bc BK155 2
                 have hfz92_0 := qC BK155.out 0
                 have hfz92_1 := qC BK155.out 1
                 have hfz92_2 := qC BK155.out 2
                 have hnb93 := NB157_156.out
                 have hnc93 := NB156_157.out
                 have hcz94_0 := bc BK157 0
                 have hcz94_1 := bc BK157 1
                 have hcz94_2 := bc BK157 2
                 have hfz94_0 := qC BK157.out 0
                 have hfz94_1 := qC BK157.out 1
                 have hfz94_2 := qC BK157.out 2
                 have hcz95_0 := bc BK156 0
                 have hcz95_1 := bc BK156 1
                 have hcz95_2 := bc BK156 2
                 have hfz95_0 := qC BK156.out 0
                 have hfz95_1 := qC BK156.out 1
                 have hfz95_2 := qC BK156.out 2
                 go_wp2
                 refine bodyPost_ret (results_cell_row rfl _ _ gb156 27 #[.int .i64 (wrap64 (a0_0 - 1)), .int .i64 a0_1, .int .i64 0] (0, 0) _ rfl (by (with_reducible repeat (first | refine qB ?_ _ | refine qD ?_ | refine qA ?_ _)); refine qQ (cs := #[.int .i64 (wrap64 (a0_0 - 1)), .int .i64 a0_1, .int .i64 0]) ?_ 2 _ rfl; (with_reducible repeat (first | refine qB ?_ _ | refine qD ?_ | refine qA ?_ _)); refine qQ (cs := #[.int .i64 (wrap64 (a0_0 - 1)), .int .i64 0, .int .i64 0]) ?_ 1 _ rfl; (with_reducible repeat (first | refine qB ?_ _ | refine qD ?_ | refine qA ?_ _)); refine qQ (cs := #[.int .i64 0, .int .i64 0, .int .i64 0]) ?_ 0 _ rfl; (with_reducible repeat (first | refine qB ?_ _ | refine qD ?_ | refine qA ?_ _)); refine qN ?_ NB156_157.out _; (with_reducible repeat (first | refine qB ?_ _ | refine qD ?_ | refine qA ?_ _)); refine qN ?_ NB156_157.out _; (with_reducible repeat (first | refine qB ?_ _ | refine qD ?_ | refine qA ?_ _)); exact BK156.out) Tryd.underlying27 rfl (by kernel_rfl)) rfl ?_
                 exact ⟨by first | rfl | (simp [qJ, qI] <;> rfl) | (simp [*, qJ, qI] <;> rfl), bl⟩
                ·replace c89 := Bool.eq_false_iff.mpr c89
                 subst c89
                 have H1 : (if a0_2 = 2 then (qV.j5 kj80 a1 (a1 == 0) a0_0 a0_1 a0_2 a0_0 a0_1 a0_2) else (qV.j5 kj80 a1 false a0_0 a0_1 a0_2 a0_0 a0_1 a0_2)) = some (r1, r2, r3) := by rw [if_neg (show ¬ (false = true) by decide)] at H; exact H
                 clear H
                 have H := H1
                 clear H1
                 have HC96 := Aside0.mk H
                 clear H
                 go_upto_region 23 with (fail)
                 go_cut [96] (fun v96 wc => ∃ (kq : Nat) (x96_95 : Bool), v96 = .bool x96_95 ∧ Aside0 (qV.j5 kq a1 x96_95 a0_0 a0_1 a0_2 a0_0 a0_1 a0_2 = some (r1, r2, r3)) ∧ Aside0 (kq ≤ kj80) ∧ Aside0 (wc.heap[gb155]? = some (.cells #[.int .i64 a0_0, .int .i64 a0_1, .int .i64 a0_2] 27 (0, 0))) ∧ Aside0 (wc.heap[gb156]? = some (.cells #[.int .i64 0, .int .i64 0, .int .i64 0] 27 (0, 0))) ∧ Aside0 (wc.heap[gb157]? = some (.cells #[.int .i64 a0_0, .int .i64 a0_1, .int .i64 a0_2] 27 (0, 0))) ∧ Aside0 (Below w.heap.size w wc))
                 case first =>
                  have H := HC96.out
                  clear HC96
                  by_cases c97 : a0_2 = 2
                  ·rw [if_pos c97] at H
                   have c97b0 : (a0_2 == 2) = true := beq_iff_eq.mpr c97
                   have c97b1 : (a0_2 != 2) = false := bne_eq_false_iff_eq.mpr c97
                   clear c97
                   (first | rw [c97b0] | (simp only [i64_w, i32_w]; rw [c97b0]) | skip)
                   have H' := Aside0.mk H
                   clear H
                   have hnb98 := NB155_156.out
                   have hnc98 := NB156_155.out
                   have hnb99 := NB155_157.out
                   have hnc99 := NB157_155.out
                   have hcz100_0 := bc BK155 0
                   have hcz100_1 := bc BK155 1
                   have hcz100_2 := bc BK155 2
                   have hfz100_0 := qC BK155.out 0
                   have hfz100_1 := qC BK155.out 1
                   have hfz100_2 := qC BK155.out 2
                   go_wp2
                   go_meet
                   case rel => exact ⟨_, ((a1 == 0)), (by first | rfl | (simp; done) | (simp [*]; done)), H', ⟨by have := HJ2.out; have := HJ25.out; have := HJ40.out; have := HJ62.out; have := HJ80.out; first | omega | exact Nat.le_refl _⟩, ⟨by (with_reducible repeat (first | refine qB ?_ _ | refine qD ?_ | refine qA ?_ _)); exact BK155.out⟩, ⟨by (with_reducible repeat (first | refine qB ?_ _ | refine qD ?_ | refine qA ?_ _)); exact BK156.out⟩, ⟨by (with_reducible repeat (first | refine qB ?_ _ | refine qD ?_ | refine qA ?_ _)); exact BK157.out⟩, ⟨bl⟩⟩
                  ·rw [if_neg c97] at H
                   have c97b0 : (a0_2 == 2) = false := beq_eq_false_iff_ne.mpr c97
                   have c97b1 : (a0_2 != 2) = true := bne_iff_ne.mpr c97
                   (first | rw [c97b0] | (simp only [i64_w, i32_w]; rw [c97b0]) | skip)
                   have H' := Aside0.mk H
                   clear H
                   have hnb101 := NB155_156.out
                   have hnc101 := NB156_155.out
                   have hnb102 := NB155_157.out
                   have hnc102 := NB157_155.out
                   have hcz103_0 := bc BK155 0
                   have hcz103_1 := bc BK155 1
                   have hcz103_2 := bc BK155 2
                   have hfz103_0 := qC BK155.out 0
                   have hfz103_1 := qC BK155.out 1
                   have hfz103_2 := qC BK155.out 2
                   go_wp2
                   go_meet
                   case rel => exact ⟨_, (false), (by first | rfl | (simp; done) | (simp [*]; done)), H', ⟨by have := HJ2.out; have := HJ25.out; have := HJ40.out; have := HJ62.out; have := HJ80.out; first | omega | exact Nat.le_refl _⟩, ⟨by (with_reducible repeat (first | refine qB ?_ _ | refine qD ?_ | refine qA ?_ _)); exact BK155.out⟩, ⟨by (with_reducible repeat (first | refine qB ?_ _ | refine qD ?_ | refine qA ?_ _)); exact BK156.out⟩, ⟨by (with_reducible repeat (first | refine qB ?_ _ | refine qD ?_ | refine qA ?_ _)); exact BK157.out⟩, ⟨bl⟩⟩
                 case rest =>
                  clear HC96
                  try clear c1
                  try clear c2
                  try clear p2
                  try clear c3
                  try clear c4
                  try clear c5
                  try clear c6
                  try clear p6
                  try clear c7
                  try clear c8
                  try clear c9
                  try clear c10
                  try clear c12
                  try clear c12b0
                  try clear c12b1
                  try clear c13
                  try clear c14
                  try clear c16
                  try clear c17
                  try clear c19
                  try clear c20
                  try clear c21
                  try clear c23
                  try clear c27
                  try clear c27b0
                  try clear c27b1
                  try clear c28
                  try clear c29
                  try clear c31
                  try clear c32
                  try clear c34
                  try clear c35
                  try clear c36
                  try clear c38
                  try clear c42
                  try clear c42b0
                  try clear c42b1
                  try clear c43
                  try clear c44
                  try clear c46
                  try clear c47
                  try clear c48
                  try clear c49
                  try clear c50
                  try clear c51
                  try clear c53
                  try clear c56
                  try clear c56b0
                  try clear c56b1
                  try clear c57
                  try clear c58
                  try clear c60
                  try clear c64
                  try clear p64
                  try clear c65
                  try clear c67
                  try clear c67b0
                  try clear c67b1
                  try clear c68
                  try clear c69
                  try clear c71
                  try clear c72
                  try clear c74
                  try clear c75
                  try clear c76
                  try clear c78
                  try clear c82
                  try clear c82b0
                  try clear c82b1
                  try clear c83
                  try clear c84
                  try clear c86
                  try clear c87
                  try clear c89
                  try clear c90
                  try clear c91
                  try clear c93
                  try clear c97
                  try clear c97b0
                  try clear c97b1
                  try clear c98
                  try clear c99
                  try clear c101
                  try clear c102
                  try clear hcz100_0
                  try clear hcz100_1
                  try clear hcz100_2
                  try clear hcz103_0
                  try clear hcz103_1
                  try clear hcz103_2
                  try clear hcz11_0
                  try clear hcz11_1
                  try clear hcz11_2
                  try clear hcz15_0
                  try clear hcz15_1
                  try clear hcz15_2
                  try clear hcz18_0
                  try clear hcz18_1
                  try clear hcz18_2
                  try clear hcz22_0
                  try clear hcz22_1
                  try clear hcz22_2
                  try clear hcz24_0
                  try clear hcz24_1
                  try clear hcz24_2
                  try clear hcz25_0
                  try clear hcz25_1
                  try clear hcz25_2
                  try clear hcz30_0
                  try clear hcz30_1
                  try clear hcz30_2
                  try clear hcz33_0
                  try clear hcz33_1
                  try clear hcz33_2
                  try clear hcz37_0
                  try clear hcz37_1
                  try clear hcz37_2
                  try clear hcz39_0
                  try clear hcz39_1
                  try clear hcz39_2
                  try clear hcz40_0
                  try clear hcz40_1
                  try clear hcz40_2
                  try clear hcz45_0
                  try clear hcz45_1
                  try clear hcz45_2
                  try clear hcz48_0
                  try clear hcz48_1
                  try clear hcz48_2
                  try clear hcz52_0
                  try clear hcz52_1
                  try clear hcz52_2
                  try clear hcz54_0
                  try clear hcz54_1
                  try clear hcz54_2
                  try clear hcz55_0
                  try clear hcz55_1
                  try clear hcz55_2
                  try clear hcz59_0
                  try clear hcz59_1
                  try clear hcz59_2
                  try clear hcz61_0
                  try clear hcz61_1
                  try clear hcz61_2
                  try clear hcz62_0
                  try clear hcz62_1
                  try clear hcz62_2
                  try clear hcz66_0
                  try clear hcz66_1
                  try clear hcz66_2
                  try clear hcz70_0
                  try clear hcz70_1
                  try clear hcz70_2
                  try clear hcz73_0
                  try clear hcz73_1
                  try clear hcz73_2
                  try clear hcz77_0
                  try clear hcz77_1
                  try clear hcz77_2
                  try clear hcz79_0
                  try clear hcz79_1
                  try clear hcz79_2
                  try clear hcz7_0
                  try clear hcz7_1
                  try clear hcz7_2
                  try clear hcz80_0
                  try clear hcz80_1
                  try clear hcz80_2
                  try clear hcz85_0
                  try clear hcz85_1
                  try clear hcz85_2
                  try clear hcz88_0
                  try clear hcz88_1
                  try clear hcz88_2
                  try clear hcz92_0
                  try clear hcz92_1
                  try clear hcz92_2
                  try clear hcz94_0
                  try clear hcz94_1
                  try clear hcz94_2
                  try clear hcz95_0
                  try clear hcz95_1
                  try clear hcz95_2
                  try clear hfz100_0
                  try clear hfz100_1
                  try clear hfz100_2
                  try clear hfz103_0
                  try clear hfz103_1
                  try clear hfz103_2
                  try clear hfz11_0
                  try clear hfz11_1
                  try clear hfz11_2
                  try clear hfz15_0
                  try clear hfz15_1
                  try clear hfz15_2
                  try clear hfz18_0
                  try clear hfz18_1
                  try clear hfz18_2
                  try clear hfz22_0
                  try clear hfz22_1
                  try clear hfz22_2
                  try clear hfz24_0
                  try clear hfz24_1
                  try clear hfz24_2
                  try clear hfz25_0
                  try clear hfz25_1
                  try clear hfz25_2
                  try clear hfz30_0
                  try clear hfz30_1
                  try clear hfz30_2
                  try clear hfz33_0
                  try clear hfz33_1
                  try clear hfz33_2
                  try clear hfz37_0
                  try clear hfz37_1
                  try clear hfz37_2
                  try clear hfz39_0
                  try clear hfz39_1
                  try clear hfz39_2
                  try clear hfz40_0
                  try clear hfz40_1
                  try clear hfz40_2
                  try clear hfz45_0
                  try clear hfz45_1
                  try clear hfz45_2
                  try clear hfz48_0
                  try clear hfz48_1
                  try clear hfz48_2
                  try clear hfz52_0
                  try clear hfz52_1
                  try clear hfz52_2
                  try clear hfz54_0
                  try clear hfz54_1
                  try clear hfz54_2
                  try clear hfz55_0
                  try clear hfz55_1
                  try clear hfz55_2
                  try clear hfz59_0
                  try clear hfz59_1
                  try clear hfz59_2
                  try clear hfz61_0
                  try clear hfz61_1
                  try clear hfz61_2
                  try clear hfz62_0
                  try clear hfz62_1
                  try clear hfz62_2
                  try clear hfz66_0
                  try clear hfz66_1
                  try clear hfz66_2
                  try clear hfz70_0
                  try clear hfz70_1
                  try clear hfz70_2
                  try clear hfz73_0
                  try clear hfz73_1
                  try clear hfz73_2
                  try clear hfz77_0
                  try clear hfz77_1
                  try clear hfz77_2
                  try clear hfz79_0
                  try clear hfz79_1
                  try clear hfz79_2
                  try clear hfz7_0
                  try clear hfz7_1
                  try clear hfz7_2
                  try clear hfz80_0
                  try clear hfz80_1
                  try clear hfz80_2
                  try clear hfz85_0
                  try clear hfz85_1
                  try clear hfz85_2
                  try clear hfz88_0
                  try clear hfz88_1
                  try clear hfz88_2
                  try clear hfz92_0
                  try clear hfz92_1
                  try clear hfz92_2
                  try clear hfz94_0
                  try clear hfz94_1
                  try clear hfz94_2
                  try clear hfz95_0
                  try clear hfz95_1
                  try clear hfz95_2
                  try clear p2
                  try clear p6
                  try clear p64
                  obtain ⟨kq, x96_95, rfl, HA, HJ95, BK155, BK156, BK157, HB⟩ := hcut
                  cases kq with
                  | zero => exact absurd HA.out (by simp [qV.j5])
                  | succ kj95 =>
                   have H := HA.out
                   clear HA
                   simp only [qV.j5] at H
                   by_cases c104 : x96_95 = true
                   ·subst c104
                    have H1 : (some (a0_0, wrap64 (a0_1 - 1), 0)) = some (r1, r2, r3) := by rw [if_pos rfl] at H; exact H
                    clear H
                    have H := H1
                    clear H1
                    simp only [Option.some.injEq, Prod.mk.injEq] at H
                    obtain ⟨rfl, rfl, rfl⟩ := H
                    have hnb105 := NB155_156.out
                    have hnc105 := NB156_155.out
                    have hnb106 := NB155_157.out
                    have hnc106 := NB157_155.out
                    have hcz107_0 := bc BK155 0
                    have hcz107_1 := bc BK155 1
                    have hcz107_2 := bc BK155 2
                    have hfz107_0 := qC BK155.out 0
                    have hfz107_1 := qC BK155.out 1
                    have hfz107_2 := qC BK155.out 2
                    have hnb108 := NB157_156.out
                    have hnc108 := NB156_157.out
                    have hcz109_0 := bc BK157 0
                    have hcz109_1 := bc BK157 1
                    have hcz109_2 := bc BK157 2
                    have hfz109_0 := qC BK157.out 0
                    have hfz109_1 := qC BK157.out 1
                    have hfz109_2 := qC BK157.out 2
                    have hcz110_0 := bc BK156 0
                    have hcz110_1 := bc BK156 1
                    have hcz110_2 := bc BK156 2
                    have hfz110_0 := qC BK156.out 0
                    have hfz110_1 := qC BK156.out 1
                    have hfz110_2 := qC BK156.out 2
                    go_wp2
                    refine bodyPost_ret (results_cell_row rfl _ _ gb156 27 #[.int .i64 a0_0, .int .i64 (wrap64 (a0_1 - 1)), .int .i64 0] (0, 0) _ rfl (by (with_reducible repeat (first | refine qB ?_ _ | refine qD ?_ | refine qA ?_ _)); refine qQ (cs := #[.int .i64 a0_0, .int .i64 (wrap64 (a0_1 - 1)), .int .i64 0]) ?_ 2 _ rfl; (with_reducible repeat (first | refine qB ?_ _ | refine qD ?_ | refine qA ?_ _)); refine qQ (cs := #[.int .i64 a0_0, .int .i64 0, .int .i64 0]) ?_ 1 _ rfl; (with_reducible repeat (first | refine qB ?_ _ | refine qD ?_ | refine qA ?_ _)); refine qQ (cs := #[.int .i64 0, .int .i64 0, .int .i64 0]) ?_ 0 _ rfl; (with_reducible repeat (first | refine qB ?_ _ | refine qD ?_ | refine qA ?_ _)); refine qN ?_ NB156_157.out _; (with_reducible repeat (first | refine qB ?_ _ | refine qD ?_ | refine qA ?_ _)); refine qN ?_ NB156_157.out _; (with_reducible repeat (first | refine qB ?_ _ | refine qD ?_ | refine qA ?_ _)); exact BK156.out) Tryd.underlying27 rfl (by kernel_rfl)) rfl ?_
                    exact ⟨by first | rfl | (simp [qJ, qI] <;> rfl) | (simp [*, qJ, qI] <;> rfl), bl⟩
                   ·replace c104 := Bool.eq_false_iff.mpr c104
                    subst c104
                    have H1 : (if a0_2 = 2 then (if a1 = 2 then (some (a0_0, wrap64 (a0_1 + 2), 0)) else ((qjA.f a0_0 a0_1 a1).bind fun bt158 => (some (bt158.1, bt158.2, a0_2)))) else ((qjA.f a0_0 a0_1 a1).bind fun bt160 => (some (bt160.1, bt160.2, a0_2)))) = some (r1, r2, r3) := by rw [if_neg (show ¬ (false = true) by decide)] at H; exact H
                    clear H
                    have H := H1
                    clear H1
                    by_cases c111 : a0_2 = 2
                    ·rw [if_pos c111] at H
                     have c111b0 : (a0_2 == 2) = true := beq_iff_eq.mpr c111
                     have c111b1 : (a0_2 != 2) = false := bne_eq_false_iff_eq.mpr c111
                     clear c111
                     by_cases c112 : a1 = 2
                     ·rw [if_pos c112] at H
                      have c112b0 : (a1 == 2) = true := beq_iff_eq.mpr c112
                      have c112b1 : (a1 != 2) = false := bne_eq_false_iff_eq.mpr c112
                      clear c112
                      simp only [Option.some.injEq, Prod.mk.injEq] at H
                      obtain ⟨rfl, rfl, rfl⟩ := H
                      have hnb113 := NB155_156.out
                      have hnc113 := NB156_155.out
                      have hnb114 := NB155_157.out
                      have hnc114 := NB157_155.out
                      have hcz115_0 := bc BK155 0
                      have hcz115_1 := bc BK155 1
                      have hcz115_2 := bc BK155 2
                      have hfz115_0 := qC BK155.out 0
                      have hfz115_1 := qC BK155.out 1
                      have hfz115_2 := qC BK155.out 2
                      have hnb116 := NB157_156.out
                      have hnc116 := NB156_157.out
                      have hcz117_0 := bc BK157 0
                      have hcz117_1 := bc BK157 1
                      have hcz117_2 := bc BK157 2
                      have hfz117_0 := qC BK157.out 0
                      have hfz117_1 := qC BK157.out 1
                      have hfz117_2 := qC BK157.out 2
                      have hcz118_0 := bc BK156 0
                      have hcz118_1 := bc BK156 1
                      have hcz118_2 := bc BK156 2
                      have hfz118_0 := qC BK156.out 0
                      have hfz118_1 := qC BK156.out 1
                      have hfz118_2 := qC BK156.out 2
                      go_wp2
                      refine bodyPost_ret (results_cell_row rfl _ _ gb156 27 #[.int .i64 a0_0, .int .i64 (wrap64 (a0_1 + 2)), .int .i64 0] (0, 0) _ rfl (by (with_reducible repeat (first | refine qB ?_ _ | refine qD ?_ | refine qA ?_ _)); refine qQ (cs := #[.int .i64 a0_0, .int .i64 (wrap64 (a0_1 + 2)), .int .i64 0]) ?_ 2 _ rfl; (with_reducible repeat (first | refine qB ?_ _ | refine qD ?_ | refine qA ?_ _)); refine qQ (cs := #[.int .i64 a0_0, .int .i64 0, .int .i64 0]) ?_ 1 _ rfl; (with_reducible repeat (first | refine qB ?_ _ | refine qD ?_ | refine qA ?_ _)); refine qQ (cs := #[.int .i64 0, .int .i64 0, .int .i64 0]) ?_ 0 _ rfl; (with_reducible repeat (first | refine qB ?_ _ | refine qD ?_ | refine qA ?_ _)); refine qN ?_ NB156_157.out _; (with_reducible repeat (first | refine qB ?_ _ | refine qD ?_ | refine qA ?_ _)); refine qN ?_ NB156_157.out _; (with_reducible repeat (first | refine qB ?_ _ | refine qD ?_ | refine qA ?_ _)); exact BK156.out) Tryd.underlying27 rfl (by kernel_rfl)) rfl ?_
                      exact ⟨by first | rfl | (simp [qJ, qI] <;> rfl) | (simp [*, qJ, qI] <;> rfl), bl⟩
                     ·rw [if_neg c112] at H
                      have c112b0 : (a1 == 2) = false := beq_eq_false_iff_ne.mpr c112
                      have c112b1 : (a1 != 2) = true := bne_iff_ne.mpr c112
                      replace H := Option.bind_eq_some_iff.mp H
                      obtain ⟨⟨t158, t159⟩, A1190, H⟩ := H
                      replace H : (some (t158, t159, a0_2)) = some (r1, r2, r3) := H
                      have A119 := Aside0.mk A1190
                      clear A1190
                      simp only [Option.some.injEq, Prod.mk.injEq] at H
                      obtain ⟨rfl, rfl, rfl⟩ := H
                      have hnb120 := NB155_156.out
                      have hnc120 := NB156_155.out
                      have hnb121 := NB155_157.out
                      have hnc121 := NB157_155.out
                      have hcz122_0 := bc BK155 0
                      have hcz122_1 := bc BK155 1
                      have hcz122_2 := bc BK155 2
                      have hfz122_0 := qC BK155.out 0
                      have hfz122_1 := qC BK155.out 1
                      have hfz122_2 := qC BK155.out 2
                      go_wp2_with (first | ((with_reducible refine qS (f := 65) rfl ?_); refine qt (some 15) rfl rfl Tryd.func65 (by kernel_rfl) rfl #[.int .i64 a0_0, .int .i64 a0_1, .int .i64 a1] rfl (by (try simp only [List.map_toArray, List.map_cons, List.map_nil]); first | done | rfl | (simp only [List.length_drop, List.length_take]; rfl)) ?_; (with_reducible refine (qjA.calls a0_0 a0_1 a1 t158 t159 _ A119.out).mono ?_); rintro e w' ⟨rfl, ⟨nd, rfl⟩⟩; refine ⟨_, rfl, ?_⟩; (try (rw [qjB wc]; generalize hq_ : World.drewN wc _ = wc; have n0_ : Aside0 (wc.heap[gb155]? = some (.cells #[.int .i64 a0_0, .int .i64 a0_1, .int .i64 a0_2] 27 (0, 0))) := ⟨by rw [← hq_]; exact (by (with_reducible repeat (first | refine qB ?_ _ | refine qD ?_ | refine qA ?_ _)); exact BK155.out)⟩; have n1_ : Aside0 (wc.heap[gb156]? = some (.cells #[.int .i64 0, .int .i64 0, .int .i64 0] 27 (0, 0))) := ⟨by rw [← hq_]; exact (by (with_reducible repeat (first | refine qB ?_ _ | refine qD ?_ | refine qA ?_ _)); exact BK156.out)⟩; have n2_ : Aside0 (wc.heap[gb157]? = some (.cells #[.int .i64 a0_0, .int .i64 a0_1, .int .i64 a0_2] 27 (0, 0))) := ⟨by rw [← hq_]; exact (by (with_reducible repeat (first | refine qB ?_ _ | refine qD ?_ | refine qA ?_ _)); exact BK157.out)⟩; have n3_ : Aside0 (Below w.heap.size w wc) := ⟨by rw [← hq_]; exact bl⟩; clear BK155 BK156 BK157 HB hq_; have BK155 := n0_; have BK156 := n1_; have BK157 := n2_; have HB := n3_; clear n0_ n1_ n2_ n3_)); have hnb123 := NB157_156.out; have hnc123 := NB156_157.out; have hcz124_0 := bc BK157 0; have hcz124_1 := bc BK157 1; have hcz124_2 := bc BK157 2; have hfz124_0 := qC BK157.out 0; have hfz124_1 := qC BK157.out 1; have hfz124_2 := qC BK157.out 2; have hcz125_0 := bc BK156 0; have hcz125_1 := bc BK156 1; have hcz125_2 := bc BK156 2; have hfz125_0 := qC BK156.out 0; have hfz125_1 := qC BK156.out 1; have hfz125_2 := qC BK156.out 2))
                      refine bodyPost_ret (results_cell_row rfl _ _ gb156 27 #[.int .i64 t158, .int .i64 t159, .int .i64 a0_2] (0, 0) _ rfl (by (with_reducible repeat (first | refine qB ?_ _ | refine qD ?_ | refine qA ?_ _)); refine qQ (cs := #[.int .i64 t158, .int .i64 t159, .int .i64 0]) ?_ 2 _ rfl; (with_reducible repeat (first | refine qB ?_ _ | refine qD ?_ | refine qA ?_ _)); refine qQ (cs := #[.int .i64 t158, .int .i64 0, .int .i64 0]) ?_ 1 _ rfl; (with_reducible repeat (first | refine qB ?_ _ | refine qD ?_ | refine qA ?_ _)); refine qQ (cs := #[.int .i64 0, .int .i64 0, .int .i64 0]) ?_ 0 _ rfl; (with_reducible repeat (first | refine qB ?_ _ | refine qD ?_ | refine qA ?_ _)); refine qN ?_ NB156_157.out _; (with_reducible repeat (first | refine qB ?_ _ | refine qD ?_ | refine qA ?_ _)); refine qN ?_ NB156_157.out _; (with_reducible repeat (first | refine qB ?_ _ | refine qD ?_ | refine qA ?_ _)); exact BK156.out) Tryd.underlying27 rfl (by kernel_rfl)) rfl ?_
                      exact ⟨by first | rfl | (simp [qJ, qI] <;> rfl) | (simp [*, qJ, qI] <;> rfl), bl⟩
                    ·rw [if_neg c111] at H
                     have c111b0 : (a0_2 == 2) = false := beq_eq_false_iff_ne.mpr c111
                     have c111b1 : (a0_2 != 2) = true := bne_iff_ne.mpr c111
                     replace H := Option.bind_eq_some_iff.mp H
                     obtain ⟨⟨t160, t161⟩, A1260, H⟩ := H
                     replace H : (some (t160, t161, a0_2)) = some (r1, r2, r3) := H
                     have A126 := Aside0.mk A1260
                     clear A1260
                     simp only [Option.some.injEq, Prod.mk.injEq] at H
                     obtain ⟨rfl, rfl, rfl⟩ := H
                     have hnb127 := NB155_156.out
                     have hnc127 := NB156_155.out
                     have hnb128 := NB155_157.out
                     have hnc128 := NB157_155.out
                     have hcz129_0 := bc BK155 0
                     have hcz129_1 := bc BK155 1
                     have hcz129_2 := bc BK155 2
                     have hfz129_0 := qC BK155.out 0
                     have hfz129_1 := qC BK155.out 1
                     have hfz129_2 := qC BK155.out 2
                     go_wp2_with (first | ((with_reducible refine qS (f := 65) rfl ?_); refine qt (some 15) rfl rfl Tryd.func65 (by kernel_rfl) rfl #[.int .i64 a0_0, .int .i64 a0_1, .int .i64 a1] rfl (by (try simp only [List.map_toArray, List.map_cons, List.map_nil]); first | done | rfl | (simp only [List.length_drop, List.length_take]; rfl)) ?_; (with_reducible refine (qjA.calls a0_0 a0_1 a1 t160 t161 _ A126.out).mono ?_); rintro e w' ⟨rfl, ⟨nd, rfl⟩⟩; refine ⟨_, rfl, ?_⟩; (try (rw [qjB wc]; generalize hq_ : World.drewN wc _ = wc; have n0_ : Aside0 (wc.heap[gb155]? = some (.cells #[.int .i64 a0_0, .int .i64 a0_1, .int .i64 a0_2] 27 (0, 0))) := ⟨by rw [← hq_]; exact (by (with_reducible repeat (first | refine qB ?_ _ | refine qD ?_ | refine qA ?_ _)); exact BK155.out)⟩; have n1_ : Aside0 (wc.heap[gb156]? = some (.cells #[.int .i64 0, .int .i64 0, .int .i64 0] 27 (0, 0))) := ⟨by rw [← hq_]; exact (by (with_reducible repeat (first | refine qB ?_ _ | refine qD ?_ | refine qA ?_ _)); exact BK156.out)⟩; have n2_ : Aside0 (wc.heap[gb157]? = some (.cells #[.int .i64 a0_0, .int .i64 a0_1, .int .i64 a0_2] 27 (0, 0))) := ⟨by rw [← hq_]; exact (by (with_reducible repeat (first | refine qB ?_ _ | refine qD ?_ | refine qA ?_ _)); exact BK157.out)⟩; have n3_ : Aside0 (Below w.heap.size w wc) := ⟨by rw [← hq_]; exact bl⟩; clear BK155 BK156 BK157 HB hq_; have BK155 := n0_; have BK156 := n1_; have BK157 := n2_; have HB := n3_; clear n0_ n1_ n2_ n3_)); have hnb130 := NB157_156.out; have hnc130 := NB156_157.out; have hcz131_0 := bc BK157 0; have hcz131_1 := bc BK157 1; have hcz131_2 := bc BK157 2; have hfz131_0 := qC BK157.out 0; have hfz131_1 := qC BK157.out 1; have hfz131_2 := qC BK157.out 2; have hcz132_0 := bc BK156 0; have hcz132_1 := bc BK156 1; have hcz132_2 := bc BK156 2; have hfz132_0 := qC BK156.out 0; have hfz132_1 := qC BK156.out 1; have hfz132_2 := qC BK156.out 2))
                     refine bodyPost_ret (results_cell_row rfl _ _ gb156 27 #[.int .i64 t160, .int .i64 t161, .int .i64 a0_2] (0, 0) _ rfl (by (with_reducible repeat (first | refine qB ?_ _ | refine qD ?_ | refine qA ?_ _)); refine qQ (cs := #[.int .i64 t160, .int .i64 t161, .int .i64 0]) ?_ 2 _ rfl; (with_reducible repeat (first | refine qB ?_ _ | refine qD ?_ | refine qA ?_ _)); refine qQ (cs := #[.int .i64 t160, .int .i64 0, .int .i64 0]) ?_ 1 _ rfl; (with_reducible repeat (first | refine qB ?_ _ | refine qD ?_ | refine qA ?_ _)); refine qQ (cs := #[.int .i64 0, .int .i64 0, .int .i64 0]) ?_ 0 _ rfl; (with_reducible repeat (first | refine qB ?_ _ | refine qD ?_ | refine qA ?_ _)); refine qN ?_ NB156_157.out _; (with_reducible repeat (first | refine qB ?_ _ | refine qD ?_ | refine qA ?_ _)); refine qN ?_ NB156_157.out _; (with_reducible repeat (first | refine qB ?_ _ | refine qD ?_ | refine qA ?_ _)); exact BK156.out) Tryd.underlying27 rfl (by kernel_rfl)) rfl ?_
                     exact ⟨by first | rfl | (simp [qJ, qI] <;> rfl) | (simp [*, qJ, qI] <;> rfl), bl⟩
def qoA.f (k : Nat) (a0_0 : Int) (a0_1 : Int) (l0_2 : List Int) (a1_0 : Int) (a1_1 : Int) (a1_2 : Int) (a2 : Int) : Option (Int × Int × Int × Bool) := (qV.f k a1_0 a1_1 a1_2 a2).bind fun bt165 => ((qi.f k a0_0 a0_1 l0_2 bt165.1 bt165.2.1 bt165.2.2).bind fun t169 => (if t169 = true then (some (bt165.1, bt165.2.1, bt165.2.2, true)) else (some (0, 0, 0, false))))
set_option maxHeartbeats 8000000 in
set_option maxRecDepth 100000 in
theorem qoA.calls (k : Nat) (a0_0 : Int) (a0_1 : Int) (A0_2 : Option Addr) (c0_2 : Nat) (l0_2 : List Int) (a1_0 : Int) (a1_1 : Int) (a1_2 : Int) (a2 : Int) (r1 : Int) (r2 : Int) (r3 : Int) (r4 : Bool) (w : World) (hr0_2 : Kd.C (Kd.int .u8) w A0_2 l0_2.length l0_2) (hc0_2 : l0_2.length ≤ c0_2) (h : qoA.f k a0_0 a0_1 l0_2 a1_0 a1_1 a1_2 a2 = some (r1, r2, r3, r4)) :
  Calls Tryd.prog 28 #[.agg #[.int .i64 a0_0, .int .i64 a0_1, .slice A0_2 l0_2.length c0_2], .agg #[.int .i64 a1_0, .int .i64 a1_1, .int .i64 a1_2], .int .i64 a2] w fun e w' => e = .returned (.tuple #[.agg #[.int .i64 r1, .int .i64 r2, .int .i64 r3], .bool r4]) ∧ Below w.heap.size w w' := by
 have hu34 := Tryd.underlying34
 have hu27 := Tryd.underlying27
 have HR0_2 := Aside0.mk hr0_2
 have HC0_2 := Aside0.mk hc0_2
 clear hr0_2 hc0_2
 have HB := Aside0.mk (Below.refl w.heap.size w)
 have H : ((qV.f k a1_0 a1_1 a1_2 a2).bind fun bt165 => ((qi.f k a0_0 a0_1 l0_2 bt165.1 bt165.2.1 bt165.2.2).bind fun t169 => (if t169 = true then (some (bt165.1, bt165.2.1, bt165.2.2, true)) else (some (0, 0, 0, false))))) = some (r1, r2, r3, r4) := h
 clear h
 replace H := Option.bind_eq_some_iff.mp H
 obtain ⟨⟨t165, t166, t167⟩, A40, H⟩ := H
 replace H : ((qi.f k a0_0 a0_1 l0_2 t165 t166 t167).bind fun t169 => (if t169 = true then (some (t165, t166, t167, true)) else (some (0, 0, 0, false)))) = some (r1, r2, r3, r4) := H
 have A4 := Aside0.mk A40
 clear A40
 replace H := Option.bind_eq_some_iff.mp H
 obtain ⟨t169, A50, H⟩ := H
 replace H : (if t169 = true then (some (t165, t166, t167, true)) else (some (0, 0, 0, false))) = some (r1, r2, r3, r4) := H
 have A5 := Aside0.mk A50
 clear A50
 by_cases c6 : t169 = true
 ·subst c6
  have H1 : (some (t165, t166, t167, true)) = some (r1, r2, r3, r4) := by rw [if_pos rfl] at H; exact H
  clear H
  have H := H1
  clear H1
  simp only [Option.some.injEq, Prod.mk.injEq] at H
  obtain ⟨rfl, rfl, rfl, rfl⟩ := H
  go_enter Tryd.func28, Tryd.ntmps28
  go_wp2_with (first | ((with_reducible refine qd (N := 3) rfl ?_); refine qY ?hg (N := 3) ?hd (cs := #[.int .i64 a0_0, .int .i64 a0_1, .slice A0_2 l0_2.length c0_2]) (t := 34) ?hr ?_; (case hd => rfl); (case hg => rfl); (case hr => first | (go_simp; done) | (go_simp; rfl)); intro gb162 hg w7 hbox hb; have n0_ := Aside0.mk (qG bl hb); have n1_ := Aside0.mk (hbox); have n2_ := Aside0.mk ((gg hg)); have n3_ := Aside0.mk ((gg hg)); clear HB; have HB := n0_; have BK162 := n1_; have GW162 := n2_; have GE162 := n3_; clear n0_ n1_ n2_ n3_; clear hb hbox hg) | ((with_reducible refine qd (N := 4) rfl ?_); refine qY ?hg (N := 4) ?hd (cs := #[.int .i64 a1_0, .int .i64 a1_1, .int .i64 a1_2]) (t := 27) ?hr ?_; (case hd => rfl); (case hg => rfl); (case hr => first | (go_simp; done) | (go_simp; rfl)); intro gb163 hg w8 hbox hb; have n0_ := Aside0.mk (bb BK162 hb); have n1_ := Aside0.mk (qG bl hb); have n2_ := Aside0.mk (hbox); have n3_ := Aside0.mk ((gg hg)); have n4_ := Aside0.mk ((gg hg)); have n5_ := Aside0.mk ((nl BK162 hg)); have n6_ := Aside0.mk ((nr BK162 hg)); clear BK162; clear HB; have BK162 := n0_; have HB := n1_; have BK163 := n2_; have GW163 := n3_; have GE163 := n4_; have NB162_163 := n5_; have NB163_162 := n6_; clear n0_ n1_ n2_ n3_ n4_ n5_ n6_; clear hb hbox hg) | ((with_reducible refine qd (N := 6) rfl ?_); refine qY ?hg (N := 6) ?hd (cs := #[.int .i64 0, .int .i64 0, .int .i64 0]) (t := 27) ?hr ?_; (case hd => rfl); (case hg => rfl); (case hr => first | (go_simp; done) | (go_simp; rfl)); intro gb164 hg w9 hbox hb; have n0_ := Aside0.mk (bb BK162 hb); have n1_ := Aside0.mk (bb BK163 hb); have n2_ := Aside0.mk (qG bl hb); have n3_ := Aside0.mk (hbox); have n4_ := Aside0.mk ((gg hg)); have n5_ := Aside0.mk ((gg hg)); have n6_ := Aside0.mk ((nl BK162 hg)); have n7_ := Aside0.mk ((nr BK162 hg)); have n8_ := Aside0.mk ((nl BK163 hg)); have n9_ := Aside0.mk ((nr BK163 hg)); clear BK162; clear BK163; clear HB; have BK162 := n0_; have BK163 := n1_; have HB := n2_; have BK164 := n3_; have GW164 := n4_; have GE164 := n5_; have NB162_164 := n6_; have NB164_162 := n7_; have NB163_164 := n8_; have NB164_163 := n9_; clear n0_ n1_ n2_ n3_ n4_ n5_ n6_ n7_ n8_ n9_; clear hb hbox hg; have hnb10 := NB163_162.out; have hnc10 := NB162_163.out; have hnb11 := NB163_164.out; have hnc11 := NB164_163.out; have hcz12_0 := bc BK163 0; have hcz12_1 := bc BK163 1; have hcz12_2 := bc BK163 2; have hfz12_0 := qC BK163.out 0; have hfz12_1 := qC BK163.out 1; have hfz12_2 := qC BK163.out 2) | ((with_reducible refine qS (f := 48) rfl ?_); refine qt (some 11) rfl rfl Tryd.func48 (by kernel_rfl) rfl #[.agg #[.int .i64 a1_0, .int .i64 a1_1, .int .i64 a1_2], .int .i64 a2] rfl (by (try simp only [List.map_toArray, List.map_cons, List.map_nil]); first | done | rfl | (simp only [List.length_drop, List.length_take]; rfl)) ?_; (with_reducible refine (qV.calls k a1_0 a1_1 a1_2 a2 t165 t166 t167 _ A4.out).mono ?_); rintro e w13 ⟨rfl, hb⟩; refine ⟨_, rfl, ?_⟩; have n0_ := Aside0.mk (bb BK162 hb); have n1_ := Aside0.mk (bb BK163 hb); have n2_ := Aside0.mk (bb BK164 hb); have n3_ := Aside0.mk (qG bl hb); clear BK162; clear BK163; clear BK164; clear HB; have BK162 := n0_; have BK163 := n1_; have BK164 := n2_; have HB := n3_; clear n0_ n1_ n2_ n3_; (try clear hb); (try clear hb2); (try clear hk); (try clear hi)) | ((with_reducible refine qd (N := 8) rfl ?_); refine qY ?hg (N := 8) ?hd (cs := #[.int .i64 0, .int .i64 0, .int .i64 0]) (t := 27) ?hr ?_; (case hd => rfl); (case hg => rfl); (case hr => first | (go_simp; done) | (go_simp; rfl)); intro gb168 hg w14 hbox hb; have n0_ := Aside0.mk (bb BK162 hb); have n1_ := Aside0.mk (bb BK163 hb); have n2_ := Aside0.mk (bb BK164 hb); have n3_ := Aside0.mk (qG bl hb); have n4_ := Aside0.mk (hbox); have n5_ := Aside0.mk ((gg hg)); have n6_ := Aside0.mk ((gg hg)); have n7_ := Aside0.mk ((nl BK162 hg)); have n8_ := Aside0.mk ((nr BK162 hg)); have n9_ := Aside0.mk ((nl BK163 hg)); have n10_ := Aside0.mk ((nr BK163 hg)); have n11_ := Aside0.mk ((nl BK164 hg)); have n12_ := Aside0.mk ((nr BK164 hg)); clear BK162; clear BK163; clear BK164; clear HB; have BK162 := n0_; have BK163 := n1_; have BK164 := n2_; have HB := n3_; have BK168 := n4_; have GW168 := n5_; have GE168 := n6_; have NB162_168 := n7_; have NB168_162 := n8_; have NB163_168 := n9_; have NB168_163 := n10_; have NB164_168 := n11_; have NB168_164 := n12_; clear n0_ n1_ n2_ n3_ n4_ n5_ n6_ n7_ n8_ n9_ n10_ n11_ n12_; clear hb hbox hg; have hnb15 := NB168_162.out; have hnc15 := NB162_168.out; have hnb16 := NB168_163.out; have hnc16 := NB163_168.out; have hnb17 := NB168_164.out; have hnc17 := NB164_168.out; have hcz18_0 := bc BK168 0; have hcz18_1 := bc BK168 1; have hcz18_2 := bc BK168 2; have hfz18_0 := qC BK168.out 0; have hfz18_1 := qC BK168.out 1; have hfz18_2 := qC BK168.out 2; have hnb19 := NB162_164.out; have hnc19 := NB164_162.out; have hcz20_0 := bc BK162 0; have hcz20_1 := bc BK162 1; have hcz20_2 := bc BK162 2; have hfz20_0 := qC BK162.out 0; have hfz20_1 := qC BK162.out 1; have hfz20_2 := qC BK162.out 2) | ((with_reducible refine qS (f := 27) rfl ?_); refine qt (some 14) rfl rfl Tryd.func27 (by kernel_rfl) rfl #[.agg #[.int .i64 a0_0, .int .i64 a0_1, .slice A0_2 l0_2.length c0_2], .agg #[.int .i64 t165, .int .i64 t166, .int .i64 t167]] rfl (by (try simp only [List.map_toArray, List.map_cons, List.map_nil]); first | done | rfl | (simp only [List.length_drop, List.length_take]; rfl)) ?_; (with_reducible refine (qi.calls k a0_0 a0_1 _ _ l0_2 t165 t166 t167 true _ ?side1 ?side2 A5.out).mono ?_); (case side1 => exact Kd.qYA HR0_2.out bl); (case side2 => exact HC0_2.out); rintro e w21 ⟨rfl, hb⟩; refine ⟨_, rfl, ?_⟩; have n0_ := Aside0.mk (qUA (g := gb162) (o := .cells #[.int .i64 a0_0, .int .i64 a0_1, .slice A0_2 l0_2.length c0_2] 34 (0, 0)) (by (with_reducible repeat (first | refine qB ?_ _ | refine qD ?_ | refine qA ?_ _)); refine qN ?_ NB162_168.out _; (with_reducible repeat (first | refine qB ?_ _ | refine qD ?_ | refine qA ?_ _)); refine qN ?_ NB162_168.out _; (with_reducible repeat (first | refine qB ?_ _ | refine qD ?_ | refine qA ?_ _)); refine qN ?_ NB162_168.out _; (with_reducible repeat (first | refine qB ?_ _ | refine qD ?_ | refine qA ?_ _)); exact BK162.out) hb); have n1_ := Aside0.mk (qUA (g := gb163) (o := .cells #[.int .i64 a1_0, .int .i64 a1_1, .int .i64 a1_2] 27 (0, 0)) (by (with_reducible repeat (first | refine qB ?_ _ | refine qD ?_ | refine qA ?_ _)); refine qN ?_ NB163_168.out _; (with_reducible repeat (first | refine qB ?_ _ | refine qD ?_ | refine qA ?_ _)); refine qN ?_ NB163_168.out _; (with_reducible repeat (first | refine qB ?_ _ | refine qD ?_ | refine qA ?_ _)); refine qN ?_ NB163_168.out _; (with_reducible repeat (first | refine qB ?_ _ | refine qD ?_ | refine qA ?_ _)); exact BK163.out) hb); have n2_ := Aside0.mk (qUA (g := gb164) (o := .cells #[.int .i64 0, .int .i64 0, .int .i64 0] 27 (0, 0)) (by (with_reducible repeat (first | refine qB ?_ _ | refine qD ?_ | refine qA ?_ _)); refine qN ?_ NB164_168.out _; (with_reducible repeat (first | refine qB ?_ _ | refine qD ?_ | refine qA ?_ _)); refine qN ?_ NB164_168.out _; (with_reducible repeat (first | refine qB ?_ _ | refine qD ?_ | refine qA ?_ _)); refine qN ?_ NB164_168.out _; (with_reducible repeat (first | refine qB ?_ _ | refine qD ?_ | refine qA ?_ _)); exact BK164.out) hb); have n3_ := Aside0.mk (qUA (g := gb168) (o := .cells #[.int .i64 t165, .int .i64 t166, .int .i64 t167] 27 (0, 0)) (by (with_reducible repeat (first | refine qB ?_ _ | refine qD ?_ | refine qA ?_ _)); refine qQ (cs := #[.int .i64 t165, .int .i64 t166, .int .i64 0]) ?_ 2 _ rfl; (with_reducible repeat (first | refine qB ?_ _ | refine qD ?_ | refine qA ?_ _)); refine qQ (cs := #[.int .i64 t165, .int .i64 0, .int .i64 0]) ?_ 1 _ rfl; (with_reducible repeat (first | refine qB ?_ _ | refine qD ?_ | refine qA ?_ _)); refine qQ (cs := #[.int .i64 0, .int .i64 0, .int .i64 0]) ?_ 0 _ rfl; (with_reducible repeat (first | refine qB ?_ _ | refine qD ?_ | refine qA ?_ _)); exact BK168.out) hb); have n4_ := Aside0.mk (qG bl hb); clear BK162; clear BK163; clear BK164; clear BK168; clear HB; have BK162 := n0_; have BK163 := n1_; have BK164 := n2_; have BK168 := n3_; have HB := n4_; clear n0_ n1_ n2_ n3_ n4_; (try clear hb); (try clear hb2); (try clear hk); (try clear hi); have hcz22_0 := bc BK168 0; have hcz22_1 := bc BK168 1; have hcz22_2 := bc BK168 2; have hfz22_0 := qC BK168.out 0; have hfz22_1 := qC BK168.out 1; have hfz22_2 := qC BK168.out 2; have hcz23_0 := bc BK164 0; have hcz23_1 := bc BK164 1; have hcz23_2 := bc BK164 2; have hfz23_0 := qC BK164.out 0; have hfz23_1 := qC BK164.out 1; have hfz23_2 := qC BK164.out 2))
  refine bodyPost_ret (qRA rfl _ _ gb164 27 #[.int .i64 t165, .int .i64 t166, .int .i64 t167] (0, 0) _ rfl (by (with_reducible repeat (first | refine qB ?_ _ | refine qD ?_ | refine qA ?_ _)); refine qQ (cs := #[.int .i64 t165, .int .i64 t166, .int .i64 0]) ?_ 2 _ rfl; (with_reducible repeat (first | refine qB ?_ _ | refine qD ?_ | refine qA ?_ _)); refine qQ (cs := #[.int .i64 t165, .int .i64 0, .int .i64 0]) ?_ 1 _ rfl; (with_reducible repeat (first | refine qB ?_ _ | refine qD ?_ | refine qA ?_ _)); refine qQ (cs := #[.int .i64 0, .int .i64 0, .int .i64 0]) ?_ 0 _ rfl; (with_reducible repeat (first | refine qB ?_ _ | refine qD ?_ | refine qA ?_ _)); exact BK164.out) Tryd.underlying27 rfl (by kernel_rfl)) rfl ?_
  exact ⟨by first | rfl | (simp [qJ, qI] <;> rfl) | (simp [*, qJ, qI] <;> rfl), bl⟩
 ·replace c6 := Bool.eq_false_iff.mpr c6
  subst c6
  have H1 : (some (0, 0, 0, false)) = some (r1, r2, r3, r4) := by rw [if_neg (show ¬ (false = true) by decide)] at H; exact H
  clear H
  have H := H1
  clear H1
  simp only [Option.some.injEq, Prod.mk.injEq] at H
  obtain ⟨rfl, rfl, rfl, rfl⟩ := H
  go_enter Tryd.func28, Tryd.ntmps28
  go_wp2_with (first | ((with_reducible refine qd (N := 3) rfl ?_); refine qY ?hg (N := 3) ?hd (cs := #[.int .i64 a0_0, .int .i64 a0_1, .slice A0_2 l0_2.length c0_2]) (t := 34) ?hr ?_; (case hd => rfl); (case hg => rfl); (case hr => first | (go_simp; done) | (go_simp; rfl)); intro gb162 hg w24 hbox hb; have n0_ := Aside0.mk (qG bl hb); have n1_ := Aside0.mk (hbox); have n2_ := Aside0.mk ((gg hg)); have n3_ := Aside0.mk ((gg hg)); clear HB; have HB := n0_; have BK162 := n1_; have GW162 := n2_; have GE162 := n3_; clear n0_ n1_ n2_ n3_; clear hb hbox hg) | ((with_reducible refine qd (N := 4) rfl ?_); refine qY ?hg (N := 4) ?hd (cs := #[.int .i64 a1_0, .int .i64 a1_1, .int .i64 a1_2]) (t := 27) ?hr ?_; (case hd => rfl); (case hg => rfl); (case hr => first | (go_simp; done) | (go_simp; rfl)); intro gb163 hg w25 hbox hb; have n0_ := Aside0.mk (bb BK162 hb); have n1_ := Aside0.mk (qG bl hb); have n2_ := Aside0.mk (hbox); have n3_ := Aside0.mk ((gg hg)); have n4_ := Aside0.mk ((gg hg)); have n5_ := Aside0.mk ((nl BK162 hg)); have n6_ := Aside0.mk ((nr BK162 hg)); clear BK162; clear HB; have BK162 := n0_; have HB := n1_; have BK163 := n2_; have GW163 := n3_; have GE163 := n4_; have NB162_163 := n5_; have NB163_162 := n6_; clear n0_ n1_ n2_ n3_ n4_ n5_ n6_; clear hb hbox hg) | ((with_reducible refine qd (N := 6) rfl ?_); refine qY ?hg (N := 6) ?hd (cs := #[.int .i64 0, .int .i64 0, .int .i64 0]) (t := 27) ?hr ?_; (case hd => rfl); (case hg => rfl); (case hr => first | (go_simp; done) | (go_simp; rfl)); intro gb164 hg w26 hbox hb; have n0_ := Aside0.mk (bb BK162 hb); have n1_ := Aside0.mk (bb BK163 hb); have n2_ := Aside0.mk (qG bl hb); have n3_ := Aside0.mk (hbox); have n4_ := Aside0.mk ((gg hg)); have n5_ := Aside0.mk ((gg hg)); have n6_ := Aside0.mk ((nl BK162 hg)); have n7_ := Aside0.mk ((nr BK162 hg)); have n8_ := Aside0.mk ((nl BK163 hg)); have n9_ := Aside0.mk ((nr BK163 hg)); clear BK162; clear BK163; clear HB; have BK162 := n0_; have BK163 := n1_; have HB := n2_; have BK164 := n3_; have GW164 := n4_; have GE164 := n5_; have NB162_164 := n6_; have NB164_162 := n7_; have NB163_164 := n8_; have NB164_163 := n9_; clear n0_ n1_ n2_ n3_ n4_ n5_ n6_ n7_ n8_ n9_; clear hb hbox hg; have hnb27 := NB163_162.out; have hnc27 := NB162_163.out; have hnb28 := NB163_164.out; have hnc28 := NB164_163.out; have hcz29_0 := bc BK163 0; have hcz29_1 := bc BK163 1; have hcz29_2 := bc BK163 2; have hfz29_0 := qC BK163.out 0; have hfz29_1 := qC BK163.out 1; have hfz29_2 := qC BK163.out 2) | ((with_reducible refine qS (f := 48) rfl ?_); refine qt (some 11) rfl rfl Tryd.func48 (by kernel_rfl) rfl #[.agg #[.int .i64 a1_0, .int .i64 a1_1, .int .i64 a1_2], .int .i64 a2] rfl (by (try simp only [List.map_toArray, List.map_cons, List.map_nil]); first | done | rfl | (simp only [List.length_drop, List.length_take]; rfl)) ?_; (with_reducible refine (qV.calls k a1_0 a1_1 a1_2 a2 t165 t166 t167 _ A4.out).mono ?_); rintro e w30 ⟨rfl, hb⟩; refine ⟨_, rfl, ?_⟩; have n0_ := Aside0.mk (bb BK162 hb); have n1_ := Aside0.mk (bb BK163 hb); have n2_ := Aside0.mk (bb BK164 hb); have n3_ := Aside0.mk (qG bl hb); clear BK162; clear BK163; clear BK164; clear HB; have BK162 := n0_; have BK163 := n1_; have BK164 := n2_; have HB := n3_; clear n0_ n1_ n2_ n3_; (try clear hb); (try clear hb2); (try clear hk); (try clear hi)) | ((with_reducible refine qd (N := 8) rfl ?_); refine qY ?hg (N := 8) ?hd (cs := #[.int .i64 0, .int .i64 0, .int .i64 0]) (t := 27) ?hr ?_; (case hd => rfl); (case hg => rfl); (case hr => first | (go_simp; done) | (go_simp; rfl)); intro gb168 hg w31 hbox hb; have n0_ := Aside0.mk (bb BK162 hb); have n1_ := Aside0.mk (bb BK163 hb); have n2_ := Aside0.mk (bb BK164 hb); have n3_ := Aside0.mk (qG bl hb); have n4_ := Aside0.mk (hbox); have n5_ := Aside0.mk ((gg hg)); have n6_ := Aside0.mk ((gg hg)); have n7_ := Aside0.mk ((nl BK162 hg)); have n8_ := Aside0.mk ((nr BK162 hg)); have n9_ := Aside0.mk ((nl BK163 hg)); have n10_ := Aside0.mk ((nr BK163 hg)); have n11_ := Aside0.mk ((nl BK164 hg)); have n12_ := Aside0.mk ((nr BK164 hg)); clear BK162; clear BK163; clear BK164; clear HB; have BK162 := n0_; have BK163 := n1_; have BK164 := n2_; have HB := n3_; have BK168 := n4_; have GW168 := n5_; have GE168 := n6_; have NB162_168 := n7_; have NB168_162 := n8_; have NB163_168 := n9_; have NB168_163 := n10_; have NB164_168 := n11_; have NB168_164 := n12_; clear n0_ n1_ n2_ n3_ n4_ n5_ n6_ n7_ n8_ n9_ n10_ n11_ n12_; clear hb hbox hg; have hnb32 := NB168_162.out; have hnc32 := NB162_168.out; have hnb33 := NB168_163.out; have hnc33 := NB163_168.out; have hnb34 := NB168_164.out; have hnc34 := NB164_168.out; have hcz35_0 := bc BK168 0; have hcz35_1 := bc BK168 1; have hcz35_2 := bc BK168 2; have hfz35_0 := qC BK168.out 0; have hfz35_1 := qC BK168.out 1; have hfz35_2 := qC BK168.out 2; have hnb36 := NB162_164.out; have hnc36 := NB164_162.out; have hcz37_0 := bc BK162 0; have hcz37_1 := bc BK162 1; have hcz37_2 := bc BK162 2; have hfz37_0 := qC BK162.out 0; have hfz37_1 := qC BK162.out 1; have hfz37_2 := qC BK162.out 2) | ((with_reducible refine qS (f := 27) rfl ?_); refine qt (some 14) rfl rfl Tryd.func27 (by kernel_rfl) rfl #[.agg #[.int .i64 a0_0, .int .i64 a0_1, .slice A0_2 l0_2.length c0_2], .agg #[.int .i64 t165, .int .i64 t166, .int .i64 t167]] rfl (by (try simp only [List.map_toArray, List.map_cons, List.map_nil]); first | done | rfl | (simp only [List.length_drop, List.length_take]; rfl)) ?_; (with_reducible refine (qi.calls k a0_0 a0_1 _ _ l0_2 t165 t166 t167 false _ ?side1 ?side2 A5.out).mono ?_); (case side1 => exact Kd.qYA HR0_2.out bl); (case side2 => exact HC0_2.out); rintro e w38 ⟨rfl, hb⟩; refine ⟨_, rfl, ?_⟩; have n0_ := Aside0.mk (qUA (g := gb162) (o := .cells #[.int .i64 a0_0, .int .i64 a0_1, .slice A0_2 l0_2.length c0_2] 34 (0, 0)) (by (with_reducible repeat (first | refine qB ?_ _ | refine qD ?_ | refine qA ?_ _)); refine qN ?_ NB162_168.out _; (with_reducible repeat (first | refine qB ?_ _ | refine qD ?_ | refine qA ?_ _)); refine qN ?_ NB162_168.out _; (with_reducible repeat (first | refine qB ?_ _ | refine qD ?_ | refine qA ?_ _)); refine qN ?_ NB162_168.out _; (with_reducible repeat (first | refine qB ?_ _ | refine qD ?_ | refine qA ?_ _)); exact BK162.out) hb); have n1_ := Aside0.mk (qUA (g := gb163) (o := .cells #[.int .i64 a1_0, .int .i64 a1_1, .int .i64 a1_2] 27 (0, 0)) (by (with_reducible repeat (first | refine qB ?_ _ | refine qD ?_ | refine qA ?_ _)); refine qN ?_ NB163_168.out _; (with_reducible repeat (first | refine qB ?_ _ | refine qD ?_ | refine qA ?_ _)); refine qN ?_ NB163_168.out _; (with_reducible repeat (first | refine qB ?_ _ | refine qD ?_ | refine qA ?_ _)); refine qN ?_ NB163_168.out _; (with_reducible repeat (first | refine qB ?_ _ | refine qD ?_ | refine qA ?_ _)); exact BK163.out) hb); have n2_ := Aside0.mk (qUA (g := gb164) (o := .cells #[.int .i64 0, .int .i64 0, .int .i64 0] 27 (0, 0)) (by (with_reducible repeat (first | refine qB ?_ _ | refine qD ?_ | refine qA ?_ _)); refine qN ?_ NB164_168.out _; (with_reducible repeat (first | refine qB ?_ _ | refine qD ?_ | refine qA ?_ _)); refine qN ?_ NB164_168.out _; (with_reducible repeat (first | refine qB ?_ _ | refine qD ?_ | refine qA ?_ _)); refine qN ?_ NB164_168.out _; (with_reducible repeat (first | refine qB ?_ _ | refine qD ?_ | refine qA ?_ _)); exact BK164.out) hb); have n3_ := Aside0.mk (qUA (g := gb168) (o := .cells #[.int .i64 t165, .int .i64 t166, .int .i64 t167] 27 (0, 0)) (by (with_reducible repeat (first | refine qB ?_ _ | refine qD ?_ | refine qA ?_ _)); refine qQ (cs := #[.int .i64 t165, .int .i64 t166, .int .i64 0]) ?_ 2 _ rfl; (with_reducible repeat (first | refine qB ?_ _ | refine qD ?_ | refine qA ?_ _)); refine qQ (cs := #[.int .i64 t165, .int .i64 0, .int .i64 0]) ?_ 1 _ rfl; (with_reducible repeat (first | refine qB ?_ _ | refine qD ?_ | refine qA ?_ _)); refine qQ (cs := #[.int .i64 0, .int .i64 0, .int .i64 0]) ?_ 0 _ rfl; (with_reducible repeat (first | refine qB ?_ _ | refine qD ?_ | refine qA ?_ _)); exact BK168.out) hb); have n4_ := Aside0.mk (qG bl hb); clear BK162; clear BK163; clear BK164; clear BK168; clear HB; have BK162 := n0_; have BK163 := n1_; have BK164 := n2_; have BK168 := n3_; have HB := n4_; clear n0_ n1_ n2_ n3_ n4_; (try clear hb); (try clear hb2); (try clear hk); (try clear hi); have hcz39_0 := bc BK164 0; have hcz39_1 := bc BK164 1; have hcz39_2 := bc BK164 2; have hfz39_0 := qC BK164.out 0; have hfz39_1 := qC BK164.out 1; have hfz39_2 := qC BK164.out 2))
  refine bodyPost_ret (qRA rfl _ _ gb164 27 #[.int .i64 0, .int .i64 0, .int .i64 0] (0, 0) _ rfl (by (with_reducible repeat (first | refine qB ?_ _ | refine qD ?_ | refine qA ?_ _)); refine qQ (cs := #[.int .i64 0, .int .i64 0, .int .i64 0]) ?_ 2 _ rfl; (with_reducible repeat (first | refine qB ?_ _ | refine qD ?_ | refine qA ?_ _)); refine qQ (cs := #[.int .i64 0, .int .i64 0, .int .i64 0]) ?_ 1 _ rfl; (with_reducible repeat (first | refine qB ?_ _ | refine qD ?_ | refine qA ?_ _)); refine qQ (cs := #[.int .i64 0, .int .i64 0, .int .i64 0]) ?_ 0 _ rfl; (with_reducible repeat (first | refine qB ?_ _ | refine qD ?_ | refine qA ?_ _)); exact BK164.out) Tryd.underlying27 rfl (by kernel_rfl)) rfl ?_
  exact ⟨by first | rfl | (simp [qJ, qI] <;> rfl) | (simp [*, qJ, qI] <;> rfl), bl⟩
def qBB.f  : Option (ByteArray) := some (⟨#[110, 101, 115, 119]⟩ : ByteArray)
set_option maxHeartbeats 8000000 in
set_option maxRecDepth 100000 in
theorem qBB.calls  (r : ByteArray) (w : World) (h : qBB.f  = some r) :
  Calls Tryd.prog 29 #[] w fun e w' => e = .returned (.string r) ∧ Drawn0 w w' := by
 have H : (some (⟨#[110, 101, 115, 119]⟩ : ByteArray)) = some r := h
 clear h
 obtain rfl := Option.some.inj H
 go_enter Tryd.func29, Tryd.ntmps29
 go_wp2
 go_ret
 exact ⟨by first | rfl | (simp; done) | (simp [*]; done), by repeat (first | exact Drawn0.refl _ | apply Drawn0.step)⟩
end Go.Proofs.YtdagdhmcebeadaaDoor.P
