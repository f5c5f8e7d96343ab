/- The program's IsSix returns what the reference's returns, for all texts (the law lets longer texts by). No further condition. -/
import Derived.Test.YtdncpkppkafkpaaDoorKFnExactIsSix0
import Derived.Maps.OwnSet
import Derived.DeepKeys4
import Derived.KernelRfl
import Derived.Maps.Keyed
import Derived.Shelf.SlGeneric
import Derived.Shelf.Small.Strs
import Derived.Shelf.Strings.Search1
import Derived.Ground.NamesProg
import Derived.Shelf.Strings.Split
import Derived.Shelf.Strings.Count
import Derived.Shelf.Strings.SlTrimAscii
import Derived.Test.YtdncpkppkafkpaaDoorProg
import Derived.Lib.Strings
import Derived.Lib.SplitLaws

namespace Go.Proofs.YtdncpkppkafkpaaDoor.P
open Go.RowKit Go.Proofs.YtdncpkppkafkpaaDoorW.PrintWords Go.Proofs.YtdncpkppkafkpaaDoorW.PrintLast Go.Proofs.YtdncpkppkafkpaaDoorW.PrintMore
attribute [local go_sem] qq qo qAA qz qg qf qp qn
set_option linter.unusedVariables false
set_option linter.unusedSimpArgs false
mutual
def qK.l0 : Nat → List Int → Int → Int → Int → Int → List Int → Option (List Int)
 | 0, _, _, _, _, _, _ => none
 | k + 1, x13, x15, x16, x118000, x118001, x118002 => if x16 < x15 then (if 0 ≤ x16 then (if x16 < (x13.length : Int) then (qK.l0 k (x13.set (x16 : Int).toNat (-1)) x15 (wrap64 (x16 + 1)) x118000 x118001 x118002) else (none)) else (none)) else ((qS.f k x118000 x118001 x118002).bind fun t122 => (if (t122.length : Int) = 0 then (some x13) else (if 0 < (t122.length : Int) then (if 0 ≤ (rd t122 0) then (if (rd t122 0) < (x13.length : Int) then (qK.l1 k (([rd t122 0] : List Int)) 0 (x13.set ((rd t122 0) : Int).toNat 0) x118000 x118001 x118002) else (none)) else (none)) else (none))))
def qK.l1 : Nat → List Int → Int → List Int → Int → Int → List Int → Option (List Int)
 | 0, _, _, _, _, _, _ => none
 | k + 1, x6, x7, x13, x118000, x118001, x118002 => if x7 < (x6.length : Int) then (qK.l2 k x6 x7 0 x13 x118000 x118001 x118002) else (some x13)
def qK.l2 : Nat → List Int → Int → Int → List Int → Int → Int → List Int → Option (List Int)
 | 0, _, _, _, _, _, _, _ => none
 | k + 1, x6, x7, x8, x13, x118000, x118001, x118002 => if x8 < 4 then (if 0 ≤ x7 then (if x7 < (x6.length : Int) then ((qMA.f x118000 x118001 x118002 (rd x6 x7) x8).bind fun t132 => (if t132 ≥ 0 then (if 0 ≤ t132 then (if t132 < (x13.length : Int) then (if (rd x13 t132) < 0 then (if 0 ≤ (rd x6 x7) then (if (rd x6 x7) < (x13.length : Int) then (if x6.length < 17592186044416 then (qK.l2 k (x6 ++ [t132]) x7 (wrap64 (x8 + 1)) (x13.set (t132 : Int).toNat (wrap64 ((rd x13 (rd x6 x7)) + 1))) x118000 x118001 x118002) else (none)) else (none)) else (none)) else (qK.l2 k x6 x7 (wrap64 (x8 + 1)) x13 x118000 x118001 x118002)) else (none)) else (none)) else (qK.l2 k x6 x7 (wrap64 (x8 + 1)) x13 x118000 x118001 x118002))) else (none)) else (none)) else (qK.l1 k x6 (wrap64 (x7 + 1)) x13 x118000 x118001 x118002)
end
def qK.f (k : Nat) (a0_0 : Int) (a0_1 : Int) (l0_2 : List Int) : Option (List Int) := if 0 ≤ (l0_2.length : Int) then (if ((l0_2.length : Int) : Int).toNat ≤ 35184372088832 then ((some (List.replicate ((l0_2.length : Int) : Int).toNat 0 : List Int)).bind fun y118 => (qK.l0 k y118 (y118.length : Int) 0 a0_0 a0_1 l0_2)) else (none)) else (none)
def qK.T18 : Bool × List (List Nat × List Nat) := (true, [([], []), ([], []), ([], []), ([1, 2], [1, 2]), ([3], [3]), ([], []), ([0, 4, 5], [0, 4, 5]), ([6, 6, 0, 1, 2, 3, 4, 5, 6], [6])])
def qK.B18 : List Nat := [0, 0, 0, 6, 14, 0, 63, 127]
theorem qK.tab18 : rtab .any (opsOf Tryd.f39 18) = qK.T18 := by kernel_rfl
theorem qK.bits18 : waitsOk qK.T18.2 qK.B18 = true := by kernel_rfl
set_option maxHeartbeats 8000000 in
set_option maxRecDepth 100000 in
theorem qK.calls (k : Nat) (a0_0 : Int) (a0_1 : Int) (A0_2 : Option Addr) (c0_2 : Nat) (l0_2 : List Int) (r : List Int) (w : World) (hr0_2 : Kd.C (Kd.int .u8) w A0_2 l0_2.length l0_2) (hc0_2 : l0_2.length ≤ c0_2) (h : qK.f k a0_0 a0_1 l0_2 = some r) :
  Calls Tryd.prog 39 #[.agg #[.int .i64 a0_0, .int .i64 a0_1, .slice A0_2 l0_2.length c0_2]] w fun e w' => ∃ v0_ : Value, e = .returned (v0_) ∧ Kd.R (Kd.int .i64) 3 w' w.heap.size (fun _ => True) v0_ r ∧ Below w.heap.size w w' := by
 have hu45 := Tryd.underlying45
 have HR0_2 := Aside0.mk hr0_2
 have HC0_2 := Aside0.mk hc0_2
 clear hr0_2 hc0_2
 have HB := Aside0.mk (Below.refl w.heap.size w)
 have H : (if 0 ≤ (l0_2.length : Int) then (if ((l0_2.length : Int) : Int).toNat ≤ 35184372088832 then ((some (List.replicate ((l0_2.length : Int) : Int).toNat 0 : List Int)).bind fun y118 => (qK.l0 k y118 (y118.length : Int) 0 a0_0 a0_1 l0_2)) else (none)) else (none)) = some r := h
 clear h
 by_cases c2 : 0 ≤ (l0_2.length : Int)
 ·rw [if_pos c2] at H
  have c2b0 := eq_true c2
  have c2b1 : decide (0 ≤ (l0_2.length : Int)) = true := decide_eq_true c2
  clear c2
  by_cases c3 : ((l0_2.length : Int) : Int).toNat ≤ 35184372088832
  ·rw [if_pos c3] at H
   have c3b0 := eq_true c3
   have c3b1 : decide (((l0_2.length : Int) : Int).toNat ≤ 35184372088832) = true := decide_eq_true c3
   clear c3
   obtain ⟨y118, hy118⟩ : ∃ y_ : List Int, y_ = (List.replicate ((l0_2.length : Int) : Int).toNat 0) := ⟨_, rfl⟩
   replace H : (qK.l0 k y118 (y118.length : Int) 0 a0_0 a0_1 l0_2) = some r := by first | (rw [hy118]; with_reducible exact H) | (have H2_ := (Option.bind_some _ _).symm.trans H; rw [hy118]; with_reducible exact H2_) | (have H2_ := (Option.bind_some _ _).symm.trans H; with_reducible exact H2_) | with_reducible exact H | (rw [hy118]; exact H) | exact H
   have Ny118 := Aside0.mk hy118
   clear hy118
   have H' := Aside0.mk H
   clear H
   go_enter Tryd.func39, Tryd.ntmps39
   go_wp2_with (first | ((with_reducible refine qW (N := 1) rfl ?_); refine qU ?hg (N := 1) ?hd (cs := #[.int .i64 a0_0, .int .i64 a0_1, .slice A0_2 l0_2.length c0_2]) (t := 45) ?hr ?_; (case hd => rfl); (case hg => rfl); (case hr => first | (go_simp; done) | (go_simp; rfl)); intro gb117 hg w4 hbox hb; have n0_ := Aside0.mk (qL bl hb); have n1_ := Aside0.mk (hbox); have n2_ := Aside0.mk ((gg hg)); have n3_ := Aside0.mk ((gg hg)); clear HB; have HB := n0_; have BK117 := n1_; have GW117 := n2_; have GE117 := n3_; clear n0_ n1_ n2_ n3_; clear hb hbox hg; have hcz5_0 := bc BK117 0; have hcz5_1 := bc BK117 1; have hcz5_2 := bc BK117 2; have hfz5_0 := qA BK117.out 0; have hfz5_1 := qA BK117.out 1; have hfz5_2 := qA BK117.out 2) | ((with_reducible refine qW (N := 13) rfl ?_); refine Kd.R_make (Kd.int .i64) _ 3 rfl (N := 13) rfl 25 _ _ rfl (l0_2.length : Int) rfl rfl Tryd.underlying25 (.int .i64 0) 8 info3 rfl (by decide) (by omega) 0 (ok := fun _ => True) (okp := fun _ => True) rfl (fun _ hk => hk) trivial (of_decide_eq_true (by first | (with_reducible assumption) | assumption)) (Nat.le_trans (Nat.mul_le_mul_right _ (of_decide_eq_true (by first | (with_reducible assumption) | assumption) : (l0_2.length : Int).toNat ≤ 35184372088832)) (by omega)) (Below.refl _ _) (Nat.le_refl _) ?_; intro v119 w6 ho7 hb hg_ hnew_; clear hg_ hnew_; (first | rw [← Ny118.out] at ho7 | (simp only [Int.reduceToNat] at ho7; rw [← Ny118.out] at ho7)); have n0_ := Aside0.mk (Kd.qHA ho7 (qe bl)); have n1_ := Aside0.mk (bb BK117 hb); have n2_ := Aside0.mk (qL bl hb); clear BK117; clear HB; have HO120 := n0_; have BK117 := n1_; have HB := n2_; clear n0_ n1_ n2_; clear hb ho7; obtain ⟨Ao8, co8, eo8⟩ := Kd.qy HO120.out; subst eo8))
   go_loopg [16] k (fun kq v16 w' => ∃ (x13_1 : List Int) (x16_1 : Int), v16 = .int .i64 x16_1 ∧ Aside0 (qK.l0 kq x13_1 (y118.length : Int) x16_1 a0_0 a0_1 l0_2 = some r) ∧ Aside0 (kq ≤ k) ∧ Aside0 (Kd.R (Kd.int .i64) 3 w' w.heap.size (fun _ => True) (.slice Ao8 y118.length co8) x13_1) ∧ Aside0 (w'.heap[gb117]? = some (.cells #[.int .i64 a0_0, .int .i64 a0_1, (.slice A0_2 l0_2.length c0_2)] 45 (0, 0))) ∧ Aside0 (Below w.heap.size w w'))
   case atStart => exact ⟨(y118), (0), (by first | rfl | (simp; done) | (simp [*]; done)), H', ⟨Nat.le_refl _⟩, ⟨by (with_reducible repeat (first | apply Kd.qF | apply Kd.qG | apply Kd.qI)); exact HO120.out⟩, ⟨by (with_reducible repeat (first | refine qD ?_ _ | refine qE ?_ | refine qC ?_ _)); exact BK117.out⟩, ⟨bl⟩⟩
   case round =>
    clear H'
    try clear c2
    try clear c2b0
    try clear c2b1
    try clear p2
    try clear c3
    try clear c3b0
    try clear c3b1
    try clear hcz5_0
    try clear hcz5_1
    try clear hcz5_2
    try clear hfz5_0
    try clear hfz5_1
    try clear hfz5_2
    obtain ⟨x13_1, x16_1, rfl, HA, HK1, HO_13, BK117, HB⟩ := hrel
    have hl13_1 := (Kd.qQ HO_13.out).1
    rw [hl13_1] at HO_13
    (try simp only [hl13_1])
    (try simp only [hl13_1] at BK117)
    cases gk with
    | zero => exact absurd HA.out (by simp [qK.l0])
    | succ k1 =>
     have H := HA.out
     clear HA
     simp only [qK.l0] at H
     by_cases c9 : x16_1 < (y118.length : Int)
     ·rw [if_pos c9] at H
      have c9b0 : decide (x16_1 < (y118.length : Int)) = true := decide_eq_true c9
      (try (have c9b0_hl13_1 := c9b0; simp only [hl13_1] at c9b0_hl13_1))
      clear c9
      by_cases c10 : 0 ≤ x16_1
      ·rw [if_pos c10] at H
       have c10b0 : decide (0 ≤ x16_1) = true := decide_eq_true c10
       clear c10
       by_cases c11 : x16_1 < (x13_1.length : Int)
       ·rw [if_pos c11] at H
        have c11b0 : decide (x16_1 < (x13_1.length : Int)) = true := decide_eq_true c11
        (try (have c11b0_hl13_1 := c11b0; simp only [hl13_1] at c11b0_hl13_1))
        clear c11
        obtain ⟨y121, hy121⟩ : ∃ y_ : List Int, y_ = (x13_1.set (x16_1 : Int).toNat (-1)) := ⟨_, rfl⟩
        replace H : (qK.l0 k1 y121 (y118.length : Int) (wrap64 (x16_1 + 1)) a0_0 a0_1 l0_2) = some r := by first | (rw [hy121]; with_reducible exact H) | (have H2_ := (Option.bind_some _ _).symm.trans H; rw [hy121]; with_reducible exact H2_) | (have H2_ := (Option.bind_some _ _).symm.trans H; with_reducible exact H2_) | with_reducible exact H | (rw [hy121]; exact H) | exact H
        have Ny121 := Aside0.mk hy121
        clear hy121
        have H' := Aside0.mk H
        clear H
        have p12 : 0 ≤ (x16_1 : Int) := of_decide_eq_true (by first | (with_reducible assumption) | assumption)
        have q12 : (x16_1 : Int) < ((x13_1.length : Int) : Int) := of_decide_eq_true (by first | (with_reducible assumption) | assumption)
        obtain ⟨go12, co12, eo12, gb12, gl12, cl12, HG12⟩ := Kd.qtB HO_13.out (by omega)
        (first | cases eo12 | (injection eo12 with ea_ en_ ec_; (first | subst ea_ | (injection ea_ with ea_; subst ea_)); subst ec_; clear en_))
        have GB12 := Aside0.mk gb12
        have GG12 := Aside0.mk HG12
        clear gb12 gl12 HG12
        obtain ⟨hx12_0, hf12_0⟩ := Kd.qbA 0 HO_13.out (x16_1 : Int) p12 q12
        replace p12 := eq_true p12
        replace q12 := eq_true q12
        have HP13 := Kd.qrB HO_13.out (x16_1 : Int) (-1)
        go_wp2_with (first | ((with_reducible refine qTA (t := 3) (p := 21) rfl ?_); refine qLA (t := 3) (p := 21) (v := ?vo_w14) (w1 := (wr.setCell ⟨go12, (x16_1 : Int).toNat, none⟩ (.int .i64 (-1)))) ?hg ?ho ?hn ?hr ?_; (case ho => rfl); (case hg => rfl); (case hn => rfl); (case hr => first | (go_simp; done) | (go_simp; rfl)); intro w14 hw; have hg : wr.grownBy w14 (some go12) := (by rw [hw]; exact HP13.2); have hp_ : Kd.R (Kd.int .i64) 3 w14 w.heap.size (fun _ => True) (.slice (some ⟨go12, 0, none⟩) x13_1.length co8) y121 := (by rw [hw, Ny121.out]; exact HP13.1); clear HP13; have n0_ := Aside0.mk (hp_); have n1_ := Aside0.mk (qpA (g := gb117) (o := .cells #[.int .i64 a0_0, .int .i64 a0_1, .slice A0_2 l0_2.length c0_2] 45 (0, 0)) (by (with_reducible repeat (first | refine qD ?_ _ | refine qE ?_ | refine qC ?_ _)); exact BK117.out) hg (Kd.R_ne HO_13.out BK117.out (by decide))); have n2_ := Aside0.mk ((by rw [hw]; exact qk (HB.out) GB12.out : Below w.heap.size w w14)); clear HO_13; clear BK117; clear HB; have HO_13 := n0_; have BK117 := n1_; have HB := n2_; clear n0_ n1_ n2_; clear hg hw hp_))
        (try simp only [← hl13_1])
        go_roundg k1
        case measure => have := HK1.out; omega
        case rel => exact ⟨(y121), (wrap64 (x16_1 + 1)), (by first | rfl | (simp; done) | (simp [*]; done)), H', ⟨by have := HK1.out; omega⟩, ⟨by (try simp only [hl13_1]); (with_reducible repeat (first | apply Kd.qF | apply Kd.qG | apply Kd.qI)); exact HO_13.out⟩, ⟨by (try simp only [hl13_1]); (with_reducible repeat (first | refine qD ?_ _ | refine qE ?_ | refine qC ?_ _)); exact BK117.out⟩, ⟨bl⟩⟩
       ·rw [if_neg c11] at H
        exact absurd H (by simp)
      ·rw [if_neg c10] at H
       exact absurd H (by simp)
     ·rw [if_neg c9] at H
      have c9b0 : decide (x16_1 < (y118.length : Int)) = false := decide_eq_false c9
      (try (have c9b0_hl13_1 := c9b0; simp only [hl13_1] at c9b0_hl13_1))
      clear c9
      replace H := Option.bind_eq_some_iff.mp H
      obtain ⟨t122, A150, H⟩ := H
      replace H : (if (t122.length : Int) = 0 then (some x13_1) else (if 0 < (t122.length : Int) then (if 0 ≤ (rd t122 0) then (if (rd t122 0) < (x13_1.length : Int) then (qK.l1 k1 (([rd t122 0] : List Int)) 0 (x13_1.set ((rd t122 0) : Int).toNat 0) a0_0 a0_1 l0_2) else (none)) else (none)) else (none))) = some r := H
      have A15 := Aside0.mk A150
      clear A150
      by_cases c16 : (t122.length : Int) = 0
      ·rw [if_pos c16] at H
       have c16b0 : ((t122.length : Int) == 0) = true := beq_iff_eq.mpr c16
       have c16b1 : ((t122.length : Int) != 0) = false := bne_eq_false_iff_eq.mpr c16
       clear c16
       obtain rfl := Option.some.inj H
       have hcz17_0 := bc BK117 0
       have hcz17_1 := bc BK117 1
       have hcz17_2 := bc BK117 2
       have hfz17_0 := qA BK117.out 0
       have hfz17_1 := qA BK117.out 1
       have hfz17_2 := qA BK117.out 2
       go_wp2_with (first | ((with_reducible refine qd (f := 36) rfl ?_); refine qSA (some 24) rfl rfl Tryd.func36 (by kernel_rfl) rfl #[.agg #[.int .i64 a0_0, .int .i64 a0_1, .slice A0_2 l0_2.length c0_2]] rfl (by (try simp only [List.map_toArray, List.map_cons, List.map_nil]); first | done | rfl | (simp only [List.length_drop, List.length_take]; rfl)) ?_; (with_reducible refine (qS.calls k1 a0_0 a0_1 _ _ l0_2 t122 _ ?side1 ?side2 A15.out).mono ?_); (case side1 => repeat (first | exact (Kd.qYA HR0_2.out HB.out) | (with_reducible refine Kd.qZA ?_ _) | (with_reducible refine Kd.qXA ?_ _) | (with_reducible refine Kd.qtA ?_))); (case side2 => exact HC0_2.out); rintro e w18 ⟨v123, rfl, ho0, hb⟩; refine ⟨_, rfl, ?_⟩; have n0_ := Aside0.mk (Kd.qiA (by (with_reducible repeat (first | apply Kd.qF | apply Kd.qG | apply Kd.qI)); exact HO_13.out) (Kd.qbB ho0) hb); have n1_ := Aside0.mk (Kd.qHA (Kd.qaB ho0 (Kd.R_lt (by (with_reducible repeat (first | apply Kd.qF | apply Kd.qG | apply Kd.qI)); exact HO_13.out))) (qe bl)); have n2_ := Aside0.mk (bb BK117 hb); have n3_ := Aside0.mk (qL bl hb); clear HO_13; clear BK117; clear HB; have HO_13 := n0_; have HO124 := n1_; have BK117 := n2_; have HB := n3_; clear n0_ n1_ n2_ n3_; (try clear hb); (try clear hb2); (try clear hk); (try clear hi); (try clear ho0); obtain ⟨Ao19, co19, eo19⟩ := Kd.qy HO124.out; subst eo19))
       go_ret
       exact ⟨_, by first | rfl | (simp [qN, qM] <;> rfl) | (simp [*, qN, qM] <;> rfl), by (with_reducible repeat (first | apply Kd.qF | apply Kd.qG | apply Kd.qI)); exact Kd.qj HO_13.out (fun _ hk => trivial), bl⟩
      ·rw [if_neg c16] at H
       have c16b0 : ((t122.length : Int) == 0) = false := beq_eq_false_iff_ne.mpr c16
       have c16b1 : ((t122.length : Int) != 0) = true := bne_iff_ne.mpr c16
       have c16b2 : ¬ (t122 = []) := fun h_ => c16 (by rw [h_]; rfl)
       by_cases c20 : 0 < (t122.length : Int)
       ·rw [if_pos c20] at H
        have c20b0 : decide (0 < (t122.length : Int)) = true := decide_eq_true c20
        (try (have c20b0_hl13_1 := c20b0; simp only [hl13_1] at c20b0_hl13_1))
        have c20b1 : decide (0 < t122.length) = true := decide_eq_true (by omega)
        clear c20
        by_cases c21 : 0 ≤ (rd t122 0)
        ·rw [if_pos c21] at H
         have c21b0 : decide (0 ≤ (rd t122 0)) = true := decide_eq_true c21
         clear c21
         by_cases c22 : (rd t122 0) < (x13_1.length : Int)
         ·rw [if_pos c22] at H
          have c22b0 : decide ((rd t122 0) < (x13_1.length : Int)) = true := decide_eq_true c22
          (try (have c22b0_hl13_1 := c22b0; simp only [hl13_1] at c22b0_hl13_1))
          clear c22
          obtain ⟨y126, hy126⟩ : ∃ y_ : List Int, y_ = (x13_1.set ((rd t122 0) : Int).toNat 0) := ⟨_, rfl⟩
          replace H : (qK.l1 k1 (([rd t122 0] : List Int)) 0 y126 a0_0 a0_1 l0_2) = some r := by first | (rw [hy126]; with_reducible exact H) | (have H2_ := (Option.bind_some _ _).symm.trans H; rw [hy126]; with_reducible exact H2_) | (have H2_ := (Option.bind_some _ _).symm.trans H; with_reducible exact H2_) | with_reducible exact H | (rw [hy126]; exact H) | exact H
          have Ny126 := Aside0.mk hy126
          clear hy126
          obtain ⟨y128, hy128⟩ : ∃ y_ : List Int, y_ = (([rd t122 0] : List Int)) := ⟨_, rfl⟩
          replace H : (qK.l1 k1 y128 0 y126 a0_0 a0_1 l0_2) = some r := by first | (rw [hy128]; with_reducible exact H) | (have H2_ := (Option.bind_some _ _).symm.trans H; rw [hy128]; with_reducible exact H2_) | (have H2_ := (Option.bind_some _ _).symm.trans H; with_reducible exact H2_) | with_reducible exact H | (rw [hy128]; exact H) | exact H
          have Ny128 := Aside0.mk hy128
          clear hy128
          have H' := Aside0.mk H
          clear H
          have hcz24_0 := bc BK117 0
          have hcz24_1 := bc BK117 1
          have hcz24_2 := bc BK117 2
          have hfz24_0 := qA BK117.out 0
          have hfz24_1 := qA BK117.out 1
          have hfz24_2 := qA BK117.out 2
          go_wp2_with (first | ((with_reducible refine qd (f := 36) rfl ?_); refine qSA (some 24) rfl rfl Tryd.func36 (by kernel_rfl) rfl #[.agg #[.int .i64 a0_0, .int .i64 a0_1, .slice A0_2 l0_2.length c0_2]] rfl (by (try simp only [List.map_toArray, List.map_cons, List.map_nil]); first | done | rfl | (simp only [List.length_drop, List.length_take]; rfl)) ?_; (with_reducible refine (qS.calls k1 a0_0 a0_1 _ _ l0_2 t122 _ ?side1 ?side2 A15.out).mono ?_); (case side1 => repeat (first | exact (Kd.qYA HR0_2.out HB.out) | (with_reducible refine Kd.qZA ?_ _) | (with_reducible refine Kd.qXA ?_ _) | (with_reducible refine Kd.qtA ?_))); (case side2 => exact HC0_2.out); rintro e w25 ⟨v123, rfl, ho0, hb⟩; refine ⟨_, rfl, ?_⟩; have n0_ := Aside0.mk (Kd.qiA (by (with_reducible repeat (first | apply Kd.qF | apply Kd.qG | apply Kd.qI)); exact HO_13.out) (Kd.qbB ho0) hb); have n1_ := Aside0.mk (Kd.qHA (Kd.qaB ho0 (Kd.R_lt (by (with_reducible repeat (first | apply Kd.qF | apply Kd.qG | apply Kd.qI)); exact HO_13.out))) (qe bl)); have n2_ := Aside0.mk (bb BK117 hb); have n3_ := Aside0.mk (qL bl hb); clear HO_13; clear BK117; clear HB; have HO_13 := n0_; have HO124 := n1_; have BK117 := n2_; have HB := n3_; clear n0_ n1_ n2_ n3_; (try clear hb); (try clear hb2); (try clear hk); (try clear hi); (try clear ho0); obtain ⟨Ao26, co26, eo26⟩ := Kd.qy HO124.out; subst eo26; have p125 : 0 ≤ (0 : Int) := (by omega); have q125 : 0 < (t122.length : Int) := of_decide_eq_true (by first | (with_reducible assumption) | assumption); obtain ⟨ad125, e125, hx125_0⟩ := Kd.qGA (Kd.qQ HO124.out).2.2 0 p125 q125; cases e125; have qi125 : (0 < t122.length) = True := eq_true (by omega); (try rw [show ((0 : Int)).toNat = 0 from rfl] at hx125_0); (try rw [Addr.add_zero'] at hx125_0); replace p125 := eq_true p125; replace q125 := eq_true q125; have p23 : 0 ≤ ((rd t122 0) : Int) := of_decide_eq_true (by first | (with_reducible assumption) | assumption); have q23 : ((rd t122 0) : Int) < ((x13_1.length : Int) : Int) := of_decide_eq_true (by first | (with_reducible assumption) | assumption); obtain ⟨go23, co23, eo23, gb23, gl23, cl23, HG23⟩ := Kd.qtB HO_13.out (by omega); (first | cases eo23 | (injection eo23 with ea_ en_ ec_; (first | subst ea_ | (injection ea_ with ea_; subst ea_)); subst ec_; clear en_)); have GB23 := Aside0.mk gb23; have GG23 := Aside0.mk HG23; clear gb23 gl23 HG23; obtain ⟨hx23_0, hf23_0⟩ := Kd.qbA 0 HO_13.out ((rd t122 0) : Int) p23 q23; replace p23 := eq_true p23; replace q23 := eq_true q23; have n_ := Aside0.mk (Kd.qj (ok' := (fun k_ => some k_ ≠ (.slice (some ad125) t122.length co26 : Value).ownBlock)) HO_13.out (fun k_ hk => hk.2)); clear HO_13; have HO_13 := n_; clear n_; obtain ⟨hy27_, hz27_⟩ := Kd.qbA 0 HO_13.out ((rd t122 0) : Int) (of_decide_eq_true (by first | (with_reducible assumption) | assumption)) (of_decide_eq_true (by first | (with_reducible assumption) | assumption)); have HP27 := Kd.qrB HO_13.out ((rd t122 0) : Int) 0) | ((with_reducible refine qTA (t := 3) (p := 33) rfl ?_); refine qLA (t := 3) (p := 33) (v := ?vo_w28) (w1 := (w25.setCell ⟨go23, ((rd t122 0) : Int).toNat, none⟩ (.int .i64 0))) ?hg ?ho ?hn ?hr ?_; (case ho => rfl); (case hg => rfl); (case hn => rfl); (case hr => first | (go_simp; done) | (go_simp; rfl)); intro w28 hw; have hg : w25.grownBy w28 (some go23) := (by rw [hw]; exact HP27.2); have hp_ : Kd.R (Kd.int .i64) 3 w28 w.heap.size (fun k_ => some k_ ≠ (.slice (some ad125) t122.length co26 : Value).ownBlock) (.slice (some ⟨go23, 0, none⟩) x13_1.length co8) y126 := (by rw [hw, Ny126.out]; exact HP27.1); clear HP27; have n0_ := Aside0.mk (hp_); have n1_ := Aside0.mk (qpA (g := gb117) (o := .cells #[.int .i64 a0_0, .int .i64 a0_1, .slice A0_2 l0_2.length c0_2] 45 (0, 0)) (by (with_reducible repeat (first | refine qD ?_ _ | refine qE ?_ | refine qC ?_ _)); exact BK117.out) hg (Kd.R_ne HO_13.out BK117.out (by decide))); have n2_ := Aside0.mk (Kd.qfA (v := (.slice (some ⟨go23, 0, none⟩) x13_1.length co8)) (v1 := (.slice (some ⟨go23, 0, none⟩) x13_1.length co8)) (ok := (fun _ => True)) (by (with_reducible repeat (first | apply Kd.qF | apply Kd.qG | apply Kd.qI)); exact HO124.out) hg (.inl rfl)); have n3_ := Aside0.mk ((by rw [hw]; exact qk (HB.out) GB23.out : Below w.heap.size w w28)); clear HO_13; clear BK117; clear HO124; clear HB; have HO_13 := n0_; have BK117 := n1_; have HO124 := n2_; have HB := n3_; clear n0_ n1_ n2_ n3_; clear hg hw hp_; have p127 : 0 ≤ (0 : Int) := (by omega); have q127 : 0 < (t122.length : Int) := of_decide_eq_true (by first | (with_reducible assumption) | assumption); obtain ⟨ad127, e127, hx127_0⟩ := Kd.qGA (Kd.qQ HO124.out).2.2 0 p127 q127; obtain rfl : ad125 = ad127 := (by injection e127); have qi127 : (0 < t122.length) = True := eq_true (by omega); (try rw [show ((0 : Int)).toNat = 0 from rfl] at hx127_0); (try rw [Addr.add_zero'] at hx127_0); replace p127 := eq_true p127; replace q127 := eq_true q127) | ((with_reducible refine qW (N := 37) rfl ?_); refine Kd.R_lit (Kd.int .i64) _ 3 ?hg (N := 37) ?hd (xs := ([rd t122 0] : List Int)) (inner := [.int .i64 (rd t122 0)]) (ok := fun _ => True) (okp := fun _ => True) ?hr ?hp (fun _ hk => hk) trivial (Below.refl _ _) (Nat.le_refl _) (by simp) ?_; (case hd => rfl); (case hg => rfl); (case hr => first | (go_simp; done) | (go_simp; rfl)); (case hp => exact (Reps.one (show Kd.M (Kd.int .i64) _ _ _ (rd t122 0) [.int .i64 (rd t122 0)] from rfl) (Reps.none _ _))); intro v129 w29 ho30 hb hg_ hnew_; clear hg_ hnew_; (first | rw [← Ny128.out] at ho30 | (simp only [Int.reduceToNat] at ho30; rw [← Ny128.out] at ho30)); have n0_ := Aside0.mk (Kd.qiA (by (with_reducible repeat (first | apply Kd.qF | apply Kd.qG | apply Kd.qI)); exact HO_13.out) (Kd.qbB ho30) hb); have n1_ := Aside0.mk (Kd.qiA (by (with_reducible repeat (first | apply Kd.qF | apply Kd.qG | apply Kd.qI)); exact HO124.out) (Kd.qbB ho30) hb); have n2_ := Aside0.mk (Kd.qHA (Kd.qaB (Kd.qaB ho30 (Kd.R_lt (by (with_reducible repeat (first | apply Kd.qF | apply Kd.qG | apply Kd.qI)); exact HO_13.out))) (Kd.R_lt (by (with_reducible repeat (first | apply Kd.qF | apply Kd.qG | apply Kd.qI)); exact HO124.out))) (qe bl)); have n3_ := Aside0.mk (bb BK117 hb); have n4_ := Aside0.mk (qL bl hb); clear HO_13; clear HO124; clear BK117; clear HB; have HO_13 := n0_; have HO124 := n1_; have HO130 := n2_; have BK117 := n3_; have HB := n4_; clear n0_ n1_ n2_ n3_ n4_; clear hb ho30))
          go_loopg [6, 7] k1 (fun kq v6 v7 w' => ∃ (x6_2 : List Int) (x7_2 : Int) (x13_2 : List Int), v7 = .int .i64 x7_2 ∧ Aside0 (qK.l1 kq x6_2 x7_2 x13_2 a0_0 a0_1 l0_2 = some r) ∧ Aside0 (kq ≤ k1) ∧ Aside0 (Kd.R (Kd.int .i64) 3 w' w.heap.size (fun k_ => some k_ ≠ ((.slice (some ⟨go23, 0, none⟩) x13_1.length co8) : Value).ownBlock) v6 x6_2) ∧ Aside0 (Kd.R (Kd.int .i64) 3 w' w.heap.size (fun k_ => some k_ ≠ (v6 : Value).ownBlock) (.slice (some ⟨go23, 0, none⟩) x13_1.length co8) x13_2) ∧ Aside0 (w'.heap[gb117]? = some (.cells #[.int .i64 a0_0, .int .i64 a0_1, (.slice A0_2 l0_2.length c0_2)] 45 (0, 0))) ∧ Aside0 (Below w.heap.size w w'))
          case atStart => exact ⟨(y128), (0), (y126), (by first | rfl | (simp; done) | (simp [*]; done)), H', ⟨Nat.le_refl _⟩, ⟨by (try simp only [hl13_1]); (with_reducible repeat (first | apply Kd.qF | apply Kd.qG | apply Kd.qI)); exact Kd.qj HO130.out (fun _ hk => hk.1.2)⟩, ⟨by (try simp only [hl13_1]); (with_reducible repeat (first | apply Kd.qF | apply Kd.qG | apply Kd.qI)); exact Kd.qj HO_13.out (fun _ hk => hk.2)⟩, ⟨by (try simp only [hl13_1]); (with_reducible repeat (first | refine qD ?_ _ | refine qE ?_ | refine qC ?_ _)); exact BK117.out⟩, ⟨bl⟩⟩
          case round =>
           clear H'
           try clear c1
           try clear p1
           try clear q1
           try clear hx1
           try clear qi1
           try clear hf1
           try clear c2
           try clear c2b0
           try clear c2b1
           try clear p2
           try clear q2
           try clear hx2
           try clear hf2
           try clear c3
           try clear c3b0
           try clear c3b1
           try clear p6
           try clear c9
           try clear c9b0
           try clear c10
           try clear c10b0
           try clear c11
           try clear c11b0
           try clear p12
           try clear q12
           try clear hx12
           try clear qi12
           try clear hf12
           try clear c16
           try clear c16b0
           try clear c16b1
           try clear c16b2
           try clear c20
           try clear c20b0
           try clear c20b1
           try clear c21
           try clear c21b0
           try clear c22
           try clear c22b0
           try clear p23
           try clear q23
           try clear hx23
           try clear hf23
           try clear hcz17_0
           try clear hcz17_1
           try clear hcz17_2
           try clear hcz24_0
           try clear hcz24_1
           try clear hcz24_2
           try clear hcz5_0
           try clear hcz5_1
           try clear hcz5_2
           try clear hfz17_0
           try clear hfz17_1
           try clear hfz17_2
           try clear hfz24_0
           try clear hfz24_1
           try clear hfz24_2
           try clear hfz5_0
           try clear hfz5_1
           try clear hfz5_2
           try clear hx125_0
           try clear hx127_0
           try clear hx12_0
           try clear hx23_0
           try clear p12
           try clear p125
           try clear p127
           try clear p2
           try clear p23
           try clear q12
           try clear q125
           try clear q127
           try clear q23
           obtain ⟨x6_2, x7_2, x13_2, rfl, HA, HK2, HO_6, HO_13, BK117, HB⟩ := hrel
           have hl13_2 := (Kd.qQ HO_13.out).1
           rw [hl13_2] at HO_13
           (try simp only [hl13_2])
           (try simp only [hl13_2] at BK117)
           (try simp only [hl13_2] at HO_6)
           cases gk with
           | zero => exact absurd HA.out (by simp [qK.l1])
           | succ k2 =>
            have H := HA.out
            clear HA
            simp only [qK.l1] at H
            by_cases c31 : x7_2 < (x6_2.length : Int)
            ·rw [if_pos c31] at H
             have c31b0 : decide (x7_2 < (x6_2.length : Int)) = true := decide_eq_true c31
             (try (have c31b0_hl13_1 := c31b0; simp only [hl13_1] at c31b0_hl13_1))
             (try (have c31b0_hl13_2 := c31b0; simp only [hl13_2] at c31b0_hl13_2))
             clear c31
             have H' := Aside0.mk H
             clear H
             obtain ⟨Ao32, co32, eo32⟩ := Kd.qy HO_6.out
             subst eo32
             go_wp2
             go_loopg [6, 8] k2 (fun kq v6 v8 w' => ∃ (x6_3 : List Int) (x8_3 : Int) (x13_3 : List Int), v8 = .int .i64 x8_3 ∧ Aside0 (qK.l2 kq x6_3 x7_2 x8_3 x13_3 a0_0 a0_1 l0_2 = some r) ∧ Aside0 (kq ≤ k2) ∧ Aside0 (Kd.R (Kd.int .i64) 3 w' w.heap.size (fun k_ => some k_ ≠ ((.slice (some ⟨go23, 0, none⟩) x13_2.length co8) : Value).ownBlock) v6 x6_3) ∧ Aside0 (Kd.R (Kd.int .i64) 3 w' w.heap.size (fun k_ => some k_ ≠ (v6 : Value).ownBlock) (.slice (some ⟨go23, 0, none⟩) x13_2.length co8) x13_3) ∧ Aside0 (w'.heap[gb117]? = some (.cells #[.int .i64 a0_0, .int .i64 a0_1, (.slice A0_2 l0_2.length c0_2)] 45 (0, 0))) ∧ Aside0 (Below w.heap.size w w'))
             case atStart => exact ⟨(x6_2), (0), (x13_2), (by first | rfl | (simp; done) | (simp [*]; done)), H', ⟨Nat.le_refl _⟩, ⟨by (try simp only [hl13_1]); (try simp only [hl13_2]); (with_reducible repeat (first | apply Kd.qF | apply Kd.qG | apply Kd.qI)); exact HO_6.out⟩, ⟨by (try simp only [hl13_1]); (try simp only [hl13_2]); (with_reducible repeat (first | apply Kd.qF | apply Kd.qG | apply Kd.qI)); exact HO_13.out⟩, ⟨by (try simp only [hl13_1]); (try simp only [hl13_2]); (with_reducible repeat (first | refine qD ?_ _ | refine qE ?_ | refine qC ?_ _)); exact BK117.out⟩, ⟨bl⟩⟩
             case round =>
              clear H'
              try clear c1
              try clear p1
              try clear q1
              try clear hx1
              try clear qi1
              try clear hf1
              try clear c2
              try clear c2b0
              try clear c2b1
              try clear p2
              try clear q2
              try clear hx2
              try clear hf2
              try clear c3
              try clear c3b0
              try clear c3b1
              try clear p6
              try clear c9
              try clear c9b0
              try clear c10
              try clear c10b0
              try clear c11
              try clear c11b0
              try clear p12
              try clear q12
              try clear hx12
              try clear qi12
              try clear hf12
              try clear c16
              try clear c16b0
              try clear c16b1
              try clear c16b2
              try clear c20
              try clear c20b0
              try clear c20b1
              try clear c21
              try clear c21b0
              try clear c22
              try clear c22b0
              try clear p23
              try clear q23
              try clear hx23
              try clear hf23
              try clear c31
              try clear c31b0
              try clear hcz17_0
              try clear hcz17_1
              try clear hcz17_2
              try clear hcz24_0
              try clear hcz24_1
              try clear hcz24_2
              try clear hcz5_0
              try clear hcz5_1
              try clear hcz5_2
              try clear hfz17_0
              try clear hfz17_1
              try clear hfz17_2
              try clear hfz24_0
              try clear hfz24_1
              try clear hfz24_2
              try clear hfz5_0
              try clear hfz5_1
              try clear hfz5_2
              try clear hx125_0
              try clear hx127_0
              try clear hx12_0
              try clear hx23_0
              try clear p1
              try clear p12
              try clear p125
              try clear p127
              try clear p2
              try clear p23
              try clear p6
              try clear q1
              try clear q12
              try clear q125
              try clear q127
              try clear q2
              try clear q23
              obtain ⟨x6_3, x8_3, x13_3, rfl, HA, HK3, HO_6, HO_13, BK117, HB⟩ := hrel
              have hl13_3 := (Kd.qQ HO_13.out).1
              rw [hl13_3] at HO_13
              (try simp only [hl13_3])
              (try simp only [hl13_3] at BK117)
              (try simp only [hl13_3] at HO_6)
              cases gk with
              | zero => exact absurd HA.out (by simp [qK.l2])
              | succ k3 =>
               have H := HA.out
               clear HA
               simp only [qK.l2] at H
               by_cases c33 : x8_3 < 4
               ·rw [if_pos c33] at H
                have c33b0 : decide (x8_3 < 4) = true := decide_eq_true c33
                clear c33
                by_cases c34 : 0 ≤ x7_2
                ·rw [if_pos c34] at H
                 have c34b0 : decide (0 ≤ x7_2) = true := decide_eq_true c34
                 clear c34
                 by_cases c35 : x7_2 < (x6_3.length : Int)
                 ·rw [if_pos c35] at H
                  have c35b0 : decide (x7_2 < (x6_3.length : Int)) = true := decide_eq_true c35
                  (try (have c35b0_hl13_1 := c35b0; simp only [hl13_1] at c35b0_hl13_1))
                  (try (have c35b0_hl13_2 := c35b0; simp only [hl13_2] at c35b0_hl13_2))
                  (try (have c35b0_hl13_3 := c35b0; simp only [hl13_3] at c35b0_hl13_3))
                  clear c35
                  replace H := Option.bind_eq_some_iff.mp H
                  obtain ⟨t132, A360, H⟩ := H
                  replace H : (if t132 ≥ 0 then (if 0 ≤ t132 then (if t132 < (x13_3.length : Int) then (if (rd x13_3 t132) < 0 then (if 0 ≤ (rd x6_3 x7_2) then (if (rd x6_3 x7_2) < (x13_3.length : Int) then (if x6_3.length < 17592186044416 then (qK.l2 k3 (x6_3 ++ [t132]) x7_2 (wrap64 (x8_3 + 1)) (x13_3.set (t132 : Int).toNat (wrap64 ((rd x13_3 (rd x6_3 x7_2)) + 1))) a0_0 a0_1 l0_2) else (none)) else (none)) else (none)) else (qK.l2 k3 x6_3 x7_2 (wrap64 (x8_3 + 1)) x13_3 a0_0 a0_1 l0_2)) else (none)) else (none)) else (qK.l2 k3 x6_3 x7_2 (wrap64 (x8_3 + 1)) x13_3 a0_0 a0_1 l0_2)) = some r := H
                  have A36 := Aside0.mk A360
                  clear A360
                  by_cases c37 : t132 ≥ 0
                  ·rw [if_pos c37] at H
                   have c37b0 : decide (0 ≤ t132) = true := decide_eq_true c37
                   clear c37
                   by_cases c38 : 0 ≤ t132
                   ·rw [if_pos c38] at H
                    have c38b0 : decide (0 ≤ t132) = true := decide_eq_true c38
                    clear c38
                    by_cases c39 : t132 < (x13_3.length : Int)
                    ·rw [if_pos c39] at H
                     have c39b0 : decide (t132 < (x13_3.length : Int)) = true := decide_eq_true c39
                     (try (have c39b0_hl13_1 := c39b0; simp only [hl13_1] at c39b0_hl13_1))
                     (try (have c39b0_hl13_2 := c39b0; simp only [hl13_2] at c39b0_hl13_2))
                     (try (have c39b0_hl13_3 := c39b0; simp only [hl13_3] at c39b0_hl13_3))
                     clear c39
                     by_cases c40 : (rd x13_3 t132) < 0
                     ·rw [if_pos c40] at H
                      have c40b0 : decide ((rd x13_3 t132) < 0) = true := decide_eq_true c40
                      clear c40
                      by_cases c41 : 0 ≤ (rd x6_3 x7_2)
                      ·rw [if_pos c41] at H
                       have c41b0 : decide (0 ≤ (rd x6_3 x7_2)) = true := decide_eq_true c41
                       clear c41
                       by_cases c42 : (rd x6_3 x7_2) < (x13_3.length : Int)
                       ·rw [if_pos c42] at H
                        have c42b0 : decide ((rd x6_3 x7_2) < (x13_3.length : Int)) = true := decide_eq_true c42
                        (try (have c42b0_hl13_1 := c42b0; simp only [hl13_1] at c42b0_hl13_1))
                        (try (have c42b0_hl13_2 := c42b0; simp only [hl13_2] at c42b0_hl13_2))
                        (try (have c42b0_hl13_3 := c42b0; simp only [hl13_3] at c42b0_hl13_3))
                        clear c42
                        obtain ⟨y136, hy136⟩ : ∃ y_ : List Int, y_ = (x13_3.set (t132 : Int).toNat (wrap64 ((rd x13_3 (rd x6_3 x7_2)) + 1))) := ⟨_, rfl⟩
                        replace H : (if x6_3.length < 17592186044416 then (qK.l2 k3 (x6_3 ++ [t132]) x7_2 (wrap64 (x8_3 + 1)) y136 a0_0 a0_1 l0_2) else (none)) = some r := by first | (rw [hy136]; with_reducible exact H) | (have H2_ := (Option.bind_some _ _).symm.trans H; rw [hy136]; with_reducible exact H2_) | (have H2_ := (Option.bind_some _ _).symm.trans H; with_reducible exact H2_) | with_reducible exact H | (rw [hy136]; exact H) | exact H
                        have Ny136 := Aside0.mk hy136
                        clear hy136
                        by_cases c44 : x6_3.length < 17592186044416
                        ·rw [if_pos c44] at H
                         have LMc44 := Aside0.mk c44
                         clear c44
                         obtain ⟨y137, hy137⟩ : ∃ y_ : List Int, y_ = (x6_3 ++ [t132]) := ⟨_, rfl⟩
                         replace H : (qK.l2 k3 y137 x7_2 (wrap64 (x8_3 + 1)) y136 a0_0 a0_1 l0_2) = some r := by first | (rw [hy137]; with_reducible exact H) | (have H2_ := (Option.bind_some _ _).symm.trans H; rw [hy137]; with_reducible exact H2_) | (have H2_ := (Option.bind_some _ _).symm.trans H; with_reducible exact H2_) | with_reducible exact H | (rw [hy137]; exact H) | exact H
                         have Ny137 := Aside0.mk hy137
                         clear hy137
                         have H' := Aside0.mk H
                         clear H
                         try go_wp2
                         have n0_ := Aside0.mk (Kd.qI HO_6.out)
                         have n1_ := Aside0.mk (Kd.qI HO_13.out)
                         have n2_ := Aside0.mk (qE BK117.out)
                         have n3_ := Aside0.mk (qi HB.out)
                         clear HO_6
                         clear HO_13
                         clear BK117
                         clear HB
                         have HO_6 := n0_
                         have HO_13 := n1_
                         have BK117 := n2_
                         have HB := n3_
                         clear n0_ n1_ n2_ n3_
                         obtain ⟨Ao46, co46, eo46⟩ := Kd.qy HO_6.out
                         (first | subst eo46 | (injection eo46 with f1_ f2_ f3_; have f4_ := f1_.symm; have f5_ := f3_.symm; clear f1_ f2_ f3_; subst f4_; subst f5_))
                         have p131 : 0 ≤ (x7_2 : Int) := of_decide_eq_true (by first | (with_reducible assumption) | assumption)
                         have q131 : x7_2 < (x6_3.length : Int) := of_decide_eq_true (by first | (with_reducible assumption) | assumption)
                         obtain ⟨ad131, e131, hx131_0⟩ := Kd.qGA (Kd.qQ HO_6.out).2.2 x7_2 p131 q131
                         cases e131
                         replace p131 := eq_true p131
                         replace q131 := eq_true q131
                         refine qvA (n := 8) (S := fun w' => w'.cell? ⟨gb117, 0, none⟩ = some (.int .i64 a0_0) ∧ w'.cell? ⟨gb117, 1, none⟩ = some (.int .i64 a0_1) ∧ w'.cell? ⟨gb117, 2, none⟩ = some (.slice A0_2 l0_2.length c0_2) ∧ w'.cell? (ad131.add (x7_2).toNat) = some (.int .i64 (rd x6_3 x7_2))) (ds := []) #[false, false, false, false, false, false, false, false] (by kernel_rfl) rfl rfl ⟨(qm BK117.out 0).trans rfl, (qm BK117.out 1).trans rfl, (qm BK117.out 2).trans rfl, hx131_0⟩ (fun hHeld => ?_); refine qFA qK.tab18 qK.bits18 (fun HT_ HW_ => ?_)
                         generalize wr.drew = w45 at HO_6 HO_13 BK117 HB hx131_0 hHeld ⊢
                         refine pS (i := 1) (N := some 49) #[false, true, false, false, false, false, false, false] HT_ ?_
                         refine pS (i := 2) (N := some 50) #[false, true, true, false, false, false, false, false] HT_ ?_
                         refine pS (i := 3) (N := some 51) #[false, true, true, true, false, false, false, false] HT_ ?_
                         refine pS (i := 5) (N := some 53) #[false, true, true, true, false, true, false, false] HT_ ?_
                         refine tS (i := 0) (N := some 48) #[true, true, true, true, false, true, false, false] HT_ HW_ hHeld ?_
                         refine tS (i := 4) (N := some 52) #[true, true, true, true, true, true, false, false] HT_ HW_ hHeld ?_
                         refine one_ (i := 6) (N := some 54) #[true, true, true, true, true, true, true, false] rfl rfl (qdA HT_.out (by kernel_rfl)) (by decide) (fun K hK => ?_)
                         refine goes_ Tryd.func42 (by kernel_rfl) rfl #[.agg #[.int .i64 a0_0, .int .i64 a0_1, .slice A0_2 l0_2.length c0_2], .int .i64 (rd x6_3 x7_2), .int .i64 x8_3] (by rfl) rfl rfl (by (try simp only [List.map_toArray, List.map_cons, List.map_nil]); first | done | rfl | (simp only [List.length_drop, List.length_take]; rfl)) ?_
                         with_reducible refine (qMA.calls a0_0 a0_1 _ _ l0_2 (rd x6_3 x7_2) x8_3 t132 _ ?side1 ?side2 A36.out).mono ?_
                         (case side1 => repeat (first | exact (Kd.qYA HR0_2.out HB.out) | (with_reducible refine Kd.qZA ?_ _) | (with_reducible refine Kd.qXA ?_ _) | (with_reducible refine Kd.qtA ?_)))
                         (case side2 => exact HC0_2.out)
                         rintro e w47 ⟨rfl, hb⟩
                         have HS3_ := (hb.cell (World.block_lt_of_cell? _ _ (hHeld.2.2.2))).trans (hHeld.2.2.2)
                         refine ⟨_, rfl, ?_⟩
                         have n0_ := Aside0.mk (Kd.qa (by (with_reducible repeat (first | apply Kd.qF | apply Kd.qG | apply Kd.qI)); exact HO_6.out) hb)
                         have n1_ := Aside0.mk (Kd.qa (by (with_reducible repeat (first | apply Kd.qF | apply Kd.qG | apply Kd.qI)); exact HO_13.out) hb)
                         have n2_ := Aside0.mk (bb BK117 hb)
                         have n3_ := Aside0.mk (qL bl hb)
                         clear HO_6
                         clear HO_13
                         clear BK117
                         clear HB
                         have HO_6 := n0_
                         have HO_13 := n1_
                         have BK117 := n2_
                         have HB := n3_
                         clear n0_ n1_ n2_ n3_
                         (try clear hb)
                         (try clear hb2)
                         (try clear hk)
                         (try clear hi)
                         refine hK.out _ _ ⟨(qm BK117.out 0).trans rfl, (qm BK117.out 1).trans rfl, (qm BK117.out 2).trans rfl, HS3_⟩ (fun hHeld => ?_)
                         clear hK K
                         refine norm_ (a' := ?_) ?_ ?_
                         rotate_left
                         ·show Act.put _ (some 54) _ = _
                          simp only [Act.put, List.setIfInBounds_toArray, List.set_cons_zero, List.set_cons_succ, i64_w, i32_w]
                          rfl
                         refine pS (i := 7) (N := some 9) #[true, true, true, true, true, true, true, true] HT_ ?_
                         refine done_ (qFB HT_.out (by kernel_rfl)) ?_
                         have p133 : 0 ≤ (t132 : Int) := of_decide_eq_true (by first | (with_reducible assumption) | assumption)
                         have q133 : t132 < (x13_3.length : Int) := of_decide_eq_true (by first | (with_reducible assumption) | assumption)
                         obtain ⟨ad133, e133, hx133_0⟩ := Kd.qGA (Kd.qQ HO_13.out).2.2 t132 p133 q133
                         obtain rfl : (⟨go23, 0, none⟩ : Addr) = ad133 := (by injection e133)
                         (first | simp only [qDA] at hx133_0 | simp only [qHB] at hx133_0 | simp only [Addr.add, Nat.zero_add] at hx133_0 | skip)
                         replace p133 := eq_true p133
                         replace q133 := eq_true q133
                         have p134 : 0 ≤ (x7_2 : Int) := of_decide_eq_true (by first | (with_reducible assumption) | assumption)
                         have q134 : x7_2 < (x6_3.length : Int) := of_decide_eq_true (by first | (with_reducible assumption) | assumption)
                         obtain ⟨ad134, e134, hx134_0⟩ := Kd.qGA (Kd.qQ HO_6.out).2.2 x7_2 p134 q134
                         obtain rfl : ad131 = ad134 := (by injection e134)
                         replace p134 := eq_true p134
                         replace q134 := eq_true q134
                         have p135 : 0 ≤ ((rd x6_3 x7_2) : Int) := of_decide_eq_true (by first | (with_reducible assumption) | assumption)
                         have q135 : (rd x6_3 x7_2) < (x13_3.length : Int) := of_decide_eq_true (by first | (with_reducible assumption) | assumption)
                         obtain ⟨ad135, e135, hx135_0⟩ := Kd.qGA (Kd.qQ HO_13.out).2.2 (rd x6_3 x7_2) p135 q135
                         obtain rfl : (⟨go23, 0, none⟩ : Addr) = ad135 := (by injection e135)
                         (first | simp only [qDA] at hx135_0 | simp only [qHB] at hx135_0 | simp only [Addr.add, Nat.zero_add] at hx135_0 | skip)
                         replace p135 := eq_true p135
                         replace q135 := eq_true q135
                         have p43 : 0 ≤ (t132 : Int) := of_decide_eq_true (by first | (with_reducible assumption) | assumption)
                         have q43 : (t132 : Int) < ((x13_3.length : Int) : Int) := of_decide_eq_true (by first | (with_reducible assumption) | assumption)
                         obtain ⟨hx43_0, hf43_0⟩ := Kd.qbA 0 HO_13.out (t132 : Int) p43 q43
                         replace p43 := eq_true p43
                         replace q43 := eq_true q43
                         obtain ⟨hy48_, hz48_⟩ := Kd.qbA 0 HO_13.out (t132 : Int) (of_decide_eq_true (by first | (with_reducible assumption) | assumption)) (of_decide_eq_true (by first | (with_reducible assumption) | assumption))
                         have HP48 := Kd.qrB HO_13.out (t132 : Int) (wrap64 ((rd x13_3 (rd x6_3 x7_2)) + 1))
                         try go_wp2_with (first | ((with_reducible refine qTA (t := 3) (p := 74) rfl ?_); refine qLA (t := 3) (p := 74) (v := ?vo_w49) (w1 := (w47.setCell ⟨go23, (t132 : Int).toNat, none⟩ (.int .i64 (wrap64 ((rd x13_3 (rd x6_3 x7_2)) + 1))))) ?hg ?ho ?hn ?hr ?_; (case ho => rfl); (case hg => rfl); (case hn => rfl); (case hr => first | (go_simp; done) | (go_simp; rfl)); intro w49 hw; have hg : w47.grownBy w49 (some go23) := (by rw [hw]; exact HP48.2); have hp_ : Kd.R (Kd.int .i64) 3 w49 w.heap.size (fun k_ => some k_ ≠ (.slice (some ad131) x6_3.length co46 : Value).ownBlock) (.slice (some ⟨go23, 0, none⟩) x13_3.length co8) y136 := (by rw [hw, Ny136.out]; exact HP48.1); clear HP48; have n0_ := Aside0.mk (Kd.qfA (v := (.slice (some ⟨go23, 0, none⟩) x13_3.length co8)) (v1 := (.slice (some ⟨go23, 0, none⟩) x13_3.length co8)) (ok := (fun _ => True)) (by (with_reducible repeat (first | apply Kd.qF | apply Kd.qG | apply Kd.qI)); exact Kd.qj HO_6.out (fun _ hk => ⟨trivial, hk⟩)) hg (.inl rfl)); have n1_ := Aside0.mk (hp_); have n2_ := Aside0.mk (qpA (g := gb117) (o := .cells #[.int .i64 a0_0, .int .i64 a0_1, .slice A0_2 l0_2.length c0_2] 45 (0, 0)) (by (with_reducible repeat (first | refine qD ?_ _ | refine qE ?_ | refine qC ?_ _)); exact BK117.out) hg (Kd.R_ne HO_13.out BK117.out (by decide))); have n3_ := Aside0.mk ((by rw [hw]; exact qk (HB.out) GB23.out : Below w.heap.size w w49)); clear HO_6; clear HO_13; clear BK117; clear HB; have HO_6 := n0_; have HO_13 := n1_; have BK117 := n2_; have HB := n3_; clear n0_ n1_ n2_ n3_; clear hg hw hp_) | ((with_reducible refine qJB (b := .append) (xs := #[.tmp 75, .tmp 77]) rfl ?_); at_builtin; refine Kd.qxB (Kd.int .i64) (w0 := w) w.heap.size rfl (.tmp 75) (.tmp 77) 25 3 (.int .i64 0) 8 rfl Tryd.underlying25 info3 rfl (by decide) (by omega) (.slice (some ad131) x6_3.length co46) x6_3 t132 [.int .i64 t132] (fun k_ => some k_ ≠ (.slice (some ⟨go23, 0, none⟩) x13_3.length co8 : Value).ownBlock) (fun _ => False) rfl rfl ?aP (fun _ hk => hk.elim) ?aF ?aO ?aB ?aS ?aL ?_; (case aP => exact rfl); (case aB => exact bl); (case aF => exact (fun k_ hk => Kd.fresh' (Kd.R_lt (by (with_reducible repeat (first | apply Kd.qF | apply Kd.qG | apply Kd.qI)); exact HO_13.out)) k_ hk)); (case aO => exact (by (with_reducible repeat (first | apply Kd.qF | apply Kd.qG | apply Kd.qI)); exact Kd.qj HO_6.out (fun _ hk => hk.2))); (case aS => exact (qe bl)); (case aL => have := LMc44.out; omega); intro v138 w50 ho hb hg hat; rw [← Ny137.out] at ho; have n0_ := Aside0.mk (Kd.qfA (ok := (fun _ => True)) (by (with_reducible repeat (first | apply Kd.qF | apply Kd.qG | apply Kd.qI)); exact Kd.qj HO_13.out (fun _ hk => ⟨trivial, hk⟩)) hg hat); have n1_ := Aside0.mk (qpA (g := gb117) (o := .cells #[.int .i64 a0_0, .int .i64 a0_1, .slice A0_2 l0_2.length c0_2] 45 (0, 0)) (by (with_reducible repeat (first | refine qD ?_ _ | refine qE ?_ | refine qC ?_ _)); exact BK117.out) hg (Kd.R_ne HO_6.out BK117.out (by decide))); have n2_ := Aside0.mk (hb); have n3_ := Aside0.mk (ho); clear HO_13; clear BK117; clear HB; clear HO_6; have HO_13 := n0_; have BK117 := n1_; have HB := n2_; have HO139 := n3_; clear n0_ n1_ n2_ n3_; clear ho hb hg hat))
                         (try simp only [← hl13_3])
                         go_roundg k3
                         case measure => have := HK1.out; have := HK2.out; have := HK3.out; omega
                         case rel => exact ⟨(y137), (wrap64 (x8_3 + 1)), (y136), (by first | rfl | (simp; done) | (simp [*]; done)), H', ⟨by have := HK1.out; have := HK2.out; have := HK3.out; omega⟩, ⟨by (try simp only [hl13_1]); (try simp only [hl13_2]); (try simp only [hl13_3]); (with_reducible repeat (first | apply Kd.qF | apply Kd.qG | apply Kd.qI)); exact HO139.out⟩, ⟨by (try simp only [hl13_1]); (try simp only [hl13_2]); (try simp only [hl13_3]); (with_reducible repeat (first | apply Kd.qF | apply Kd.qG | apply Kd.qI)); exact Kd.qj HO_13.out (fun _ hk => hk.2)⟩, ⟨by (try simp only [hl13_1]); (try simp only [hl13_2]); (try simp only [hl13_3]); (with_reducible repeat (first | refine qD ?_ _ | refine qE ?_ | refine qC ?_ _)); exact BK117.out⟩, ⟨bl⟩⟩
                        ·rw [if_neg c44] at H
                         exact absurd H (by simp)
                       ·rw [if_neg c42] at H
                        exact absurd H (by simp)
                      ·rw [if_neg c41] at H
                       exact absurd H (by simp)
                     ·rw [if_neg c40] at H
                      have c40b0 : decide ((rd x13_3 t132) < 0) = false := decide_eq_false c40
                      clear c40
                      have H' := Aside0.mk H
                      clear H
                      try go_wp2
                      have n0_ := Aside0.mk (Kd.qI HO_6.out)
                      have n1_ := Aside0.mk (Kd.qI HO_13.out)
                      have n2_ := Aside0.mk (qE BK117.out)
                      have n3_ := Aside0.mk (qi HB.out)
                      clear HO_6
                      clear HO_13
                      clear BK117
                      clear HB
                      have HO_6 := n0_
                      have HO_13 := n1_
                      have BK117 := n2_
                      have HB := n3_
                      clear n0_ n1_ n2_ n3_
                      obtain ⟨Ao52, co52, eo52⟩ := Kd.qy HO_6.out
                      (first | subst eo52 | (injection eo52 with f1_ f2_ f3_; have f4_ := f1_.symm; have f5_ := f3_.symm; clear f1_ f2_ f3_; subst f4_; subst f5_))
                      have p131 : 0 ≤ (x7_2 : Int) := of_decide_eq_true (by first | (with_reducible assumption) | assumption)
                      have q131 : x7_2 < (x6_3.length : Int) := of_decide_eq_true (by first | (with_reducible assumption) | assumption)
                      obtain ⟨ad131, e131, hx131_0⟩ := Kd.qGA (Kd.qQ HO_6.out).2.2 x7_2 p131 q131
                      cases e131
                      replace p131 := eq_true p131
                      replace q131 := eq_true q131
                      refine qvA (n := 8) (S := fun w' => w'.cell? ⟨gb117, 0, none⟩ = some (.int .i64 a0_0) ∧ w'.cell? ⟨gb117, 1, none⟩ = some (.int .i64 a0_1) ∧ w'.cell? ⟨gb117, 2, none⟩ = some (.slice A0_2 l0_2.length c0_2) ∧ w'.cell? (ad131.add (x7_2).toNat) = some (.int .i64 (rd x6_3 x7_2))) (ds := []) #[false, false, false, false, false, false, false, false] (by kernel_rfl) rfl rfl ⟨(qm BK117.out 0).trans rfl, (qm BK117.out 1).trans rfl, (qm BK117.out 2).trans rfl, hx131_0⟩ (fun hHeld => ?_); refine qFA qK.tab18 qK.bits18 (fun HT_ HW_ => ?_)
                      generalize wr.drew = w51 at HO_6 HO_13 BK117 HB hx131_0 hHeld ⊢
                      refine pS (i := 1) (N := some 49) #[false, true, false, false, false, false, false, false] HT_ ?_
                      refine pS (i := 2) (N := some 50) #[false, true, true, false, false, false, false, false] HT_ ?_
                      refine pS (i := 3) (N := some 51) #[false, true, true, true, false, false, false, false] HT_ ?_
                      refine pS (i := 5) (N := some 53) #[false, true, true, true, false, true, false, false] HT_ ?_
                      refine tS (i := 0) (N := some 48) #[true, true, true, true, false, true, false, false] HT_ HW_ hHeld ?_
                      refine tS (i := 4) (N := some 52) #[true, true, true, true, true, true, false, false] HT_ HW_ hHeld ?_
                      refine one_ (i := 6) (N := some 54) #[true, true, true, true, true, true, true, false] rfl rfl (qdA HT_.out (by kernel_rfl)) (by decide) (fun K hK => ?_)
                      refine goes_ Tryd.func42 (by kernel_rfl) rfl #[.agg #[.int .i64 a0_0, .int .i64 a0_1, .slice A0_2 l0_2.length c0_2], .int .i64 (rd x6_3 x7_2), .int .i64 x8_3] (by rfl) rfl rfl (by (try simp only [List.map_toArray, List.map_cons, List.map_nil]); first | done | rfl | (simp only [List.length_drop, List.length_take]; rfl)) ?_
                      with_reducible refine (qMA.calls a0_0 a0_1 _ _ l0_2 (rd x6_3 x7_2) x8_3 t132 _ ?side1 ?side2 A36.out).mono ?_
                      (case side1 => repeat (first | exact (Kd.qYA HR0_2.out HB.out) | (with_reducible refine Kd.qZA ?_ _) | (with_reducible refine Kd.qXA ?_ _) | (with_reducible refine Kd.qtA ?_)))
                      (case side2 => exact HC0_2.out)
                      rintro e w53 ⟨rfl, hb⟩
                      have HS3_ := (hb.cell (World.block_lt_of_cell? _ _ (hHeld.2.2.2))).trans (hHeld.2.2.2)
                      refine ⟨_, rfl, ?_⟩
                      have n0_ := Aside0.mk (Kd.qa (by (with_reducible repeat (first | apply Kd.qF | apply Kd.qG | apply Kd.qI)); exact HO_6.out) hb)
                      have n1_ := Aside0.mk (Kd.qa (by (with_reducible repeat (first | apply Kd.qF | apply Kd.qG | apply Kd.qI)); exact HO_13.out) hb)
                      have n2_ := Aside0.mk (bb BK117 hb)
                      have n3_ := Aside0.mk (qL bl hb)
                      clear HO_6
                      clear HO_13
                      clear BK117
                      clear HB
                      have HO_6 := n0_
                      have HO_13 := n1_
                      have BK117 := n2_
                      have HB := n3_
                      clear n0_ n1_ n2_ n3_
                      (try clear hb)
                      (try clear hb2)
                      (try clear hk)
                      (try clear hi)
                      refine hK.out _ _ ⟨(qm BK117.out 0).trans rfl, (qm BK117.out 1).trans rfl, (qm BK117.out 2).trans rfl, HS3_⟩ (fun hHeld => ?_)
                      clear hK K
                      refine norm_ (a' := ?_) ?_ ?_
                      rotate_left
                      ·show Act.put _ (some 54) _ = _
                       simp only [Act.put, List.setIfInBounds_toArray, List.set_cons_zero, List.set_cons_succ, i64_w, i32_w]
                       rfl
                      refine pS (i := 7) (N := some 9) #[true, true, true, true, true, true, true, true] HT_ ?_
                      refine done_ (qFB HT_.out (by kernel_rfl)) ?_
                      have p133 : 0 ≤ (t132 : Int) := of_decide_eq_true (by first | (with_reducible assumption) | assumption)
                      have q133 : t132 < (x13_3.length : Int) := of_decide_eq_true (by first | (with_reducible assumption) | assumption)
                      obtain ⟨ad133, e133, hx133_0⟩ := Kd.qGA (Kd.qQ HO_13.out).2.2 t132 p133 q133
                      obtain rfl : (⟨go23, 0, none⟩ : Addr) = ad133 := (by injection e133)
                      (first | simp only [qDA] at hx133_0 | simp only [qHB] at hx133_0 | simp only [Addr.add, Nat.zero_add] at hx133_0 | skip)
                      replace p133 := eq_true p133
                      replace q133 := eq_true q133
                      try go_wp2
                      (try simp only [← hl13_3])
                      go_roundg k3
                      case measure => have := HK1.out; have := HK2.out; have := HK3.out; omega
                      case rel => exact ⟨(x6_3), (wrap64 (x8_3 + 1)), (x13_3), (by first | rfl | (simp; done) | (simp [*]; done)), H', ⟨by have := HK1.out; have := HK2.out; have := HK3.out; omega⟩, ⟨by (try simp only [hl13_1]); (try simp only [hl13_2]); (try simp only [hl13_3]); (with_reducible repeat (first | apply Kd.qF | apply Kd.qG | apply Kd.qI)); exact HO_6.out⟩, ⟨by (try simp only [hl13_1]); (try simp only [hl13_2]); (try simp only [hl13_3]); (with_reducible repeat (first | apply Kd.qF | apply Kd.qG | apply Kd.qI)); exact HO_13.out⟩, ⟨by (try simp only [hl13_1]); (try simp only [hl13_2]); (try simp only [hl13_3]); (with_reducible repeat (first | refine qD ?_ _ | refine qE ?_ | refine qC ?_ _)); exact BK117.out⟩, ⟨bl⟩⟩
                    ·rw [if_neg c39] at H
                     exact absurd H (by simp)
                   ·rw [if_neg c38] at H
                    exact absurd H (by simp)
                  ·rw [if_neg c37] at H
                   have c37b0 : decide (0 ≤ t132) = false := decide_eq_false c37
                   clear c37
                   have H' := Aside0.mk H
                   clear H
                   try go_wp2
                   have n0_ := Aside0.mk (Kd.qI HO_6.out)
                   have n1_ := Aside0.mk (Kd.qI HO_13.out)
                   have n2_ := Aside0.mk (qE BK117.out)
                   have n3_ := Aside0.mk (qi HB.out)
                   clear HO_6
                   clear HO_13
                   clear BK117
                   clear HB
                   have HO_6 := n0_
                   have HO_13 := n1_
                   have BK117 := n2_
                   have HB := n3_
                   clear n0_ n1_ n2_ n3_
                   obtain ⟨Ao55, co55, eo55⟩ := Kd.qy HO_6.out
                   (first | subst eo55 | (injection eo55 with f1_ f2_ f3_; have f4_ := f1_.symm; have f5_ := f3_.symm; clear f1_ f2_ f3_; subst f4_; subst f5_))
                   have p131 : 0 ≤ (x7_2 : Int) := of_decide_eq_true (by first | (with_reducible assumption) | assumption)
                   have q131 : x7_2 < (x6_3.length : Int) := of_decide_eq_true (by first | (with_reducible assumption) | assumption)
                   obtain ⟨ad131, e131, hx131_0⟩ := Kd.qGA (Kd.qQ HO_6.out).2.2 x7_2 p131 q131
                   cases e131
                   replace p131 := eq_true p131
                   replace q131 := eq_true q131
                   refine qvA (n := 8) (S := fun w' => w'.cell? ⟨gb117, 0, none⟩ = some (.int .i64 a0_0) ∧ w'.cell? ⟨gb117, 1, none⟩ = some (.int .i64 a0_1) ∧ w'.cell? ⟨gb117, 2, none⟩ = some (.slice A0_2 l0_2.length c0_2) ∧ w'.cell? (ad131.add (x7_2).toNat) = some (.int .i64 (rd x6_3 x7_2))) (ds := []) #[false, false, false, false, false, false, false, false] (by kernel_rfl) rfl rfl ⟨(qm BK117.out 0).trans rfl, (qm BK117.out 1).trans rfl, (qm BK117.out 2).trans rfl, hx131_0⟩ (fun hHeld => ?_); refine qFA qK.tab18 qK.bits18 (fun HT_ HW_ => ?_)
                   generalize wr.drew = w54 at HO_6 HO_13 BK117 HB hx131_0 hHeld ⊢
                   refine pS (i := 1) (N := some 49) #[false, true, false, false, false, false, false, false] HT_ ?_
                   refine pS (i := 2) (N := some 50) #[false, true, true, false, false, false, false, false] HT_ ?_
                   refine pS (i := 3) (N := some 51) #[false, true, true, true, false, false, false, false] HT_ ?_
                   refine pS (i := 5) (N := some 53) #[false, true, true, true, false, true, false, false] HT_ ?_
                   refine tS (i := 0) (N := some 48) #[true, true, true, true, false, true, false, false] HT_ HW_ hHeld ?_
                   refine tS (i := 4) (N := some 52) #[true, true, true, true, true, true, false, false] HT_ HW_ hHeld ?_
                   refine one_ (i := 6) (N := some 54) #[true, true, true, true, true, true, true, false] rfl rfl (qdA HT_.out (by kernel_rfl)) (by decide) (fun K hK => ?_)
                   refine goes_ Tryd.func42 (by kernel_rfl) rfl #[.agg #[.int .i64 a0_0, .int .i64 a0_1, .slice A0_2 l0_2.length c0_2], .int .i64 (rd x6_3 x7_2), .int .i64 x8_3] (by rfl) rfl rfl (by (try simp only [List.map_toArray, List.map_cons, List.map_nil]); first | done | rfl | (simp only [List.length_drop, List.length_take]; rfl)) ?_
                   with_reducible refine (qMA.calls a0_0 a0_1 _ _ l0_2 (rd x6_3 x7_2) x8_3 t132 _ ?side1 ?side2 A36.out).mono ?_
                   (case side1 => repeat (first | exact (Kd.qYA HR0_2.out HB.out) | (with_reducible refine Kd.qZA ?_ _) | (with_reducible refine Kd.qXA ?_ _) | (with_reducible refine Kd.qtA ?_)))
                   (case side2 => exact HC0_2.out)
                   rintro e w56 ⟨rfl, hb⟩
                   have HS3_ := (hb.cell (World.block_lt_of_cell? _ _ (hHeld.2.2.2))).trans (hHeld.2.2.2)
                   refine ⟨_, rfl, ?_⟩
                   have n0_ := Aside0.mk (Kd.qa (by (with_reducible repeat (first | apply Kd.qF | apply Kd.qG | apply Kd.qI)); exact HO_6.out) hb)
                   have n1_ := Aside0.mk (Kd.qa (by (with_reducible repeat (first | apply Kd.qF | apply Kd.qG | apply Kd.qI)); exact HO_13.out) hb)
                   have n2_ := Aside0.mk (bb BK117 hb)
                   have n3_ := Aside0.mk (qL bl hb)
                   clear HO_6
                   clear HO_13
                   clear BK117
                   clear HB
                   have HO_6 := n0_
                   have HO_13 := n1_
                   have BK117 := n2_
                   have HB := n3_
                   clear n0_ n1_ n2_ n3_
                   (try clear hb)
                   (try clear hb2)
                   (try clear hk)
                   (try clear hi)
                   refine hK.out _ _ ⟨(qm BK117.out 0).trans rfl, (qm BK117.out 1).trans rfl, (qm BK117.out 2).trans rfl, HS3_⟩ (fun hHeld => ?_)
                   clear hK K
                   refine norm_ (a' := ?_) ?_ ?_
                   rotate_left
                   ·show Act.put _ (some 54) _ = _
                    simp only [Act.put, List.setIfInBounds_toArray, List.set_cons_zero, List.set_cons_succ, i64_w, i32_w]
                    rfl
                   refine pS (i := 7) (N := some 9) #[true, true, true, true, true, true, true, true] HT_ ?_
                   refine done_ (qFB HT_.out (by kernel_rfl)) ?_
                   try go_wp2
                   (try simp only [← hl13_3])
                   go_roundg k3
                   case measure => have := HK1.out; have := HK2.out; have := HK3.out; omega
                   case rel => exact ⟨(x6_3), (wrap64 (x8_3 + 1)), (x13_3), (by first | rfl | (simp; done) | (simp [*]; done)), H', ⟨by have := HK1.out; have := HK2.out; have := HK3.out; omega⟩, ⟨by (try simp only [hl13_1]); (try simp only [hl13_2]); (try simp only [hl13_3]); (with_reducible repeat (first | apply Kd.qF | apply Kd.qG | apply Kd.qI)); exact HO_6.out⟩, ⟨by (try simp only [hl13_1]); (try simp only [hl13_2]); (try simp only [hl13_3]); (with_reducible repeat (first | apply Kd.qF | apply Kd.qG | apply Kd.qI)); exact HO_13.out⟩, ⟨by (try simp only [hl13_1]); (try simp only [hl13_2]); (try simp only [hl13_3]); (with_reducible repeat (first | refine qD ?_ _ | refine qE ?_ | refine qC ?_ _)); exact BK117.out⟩, ⟨bl⟩⟩
                 ·rw [if_neg c35] at H
                  exact absurd H (by simp)
                ·rw [if_neg c34] at H
                 exact absurd H (by simp)
               ·rw [if_neg c33] at H
                have c33b0 : decide (x8_3 < 4) = false := decide_eq_false c33
                clear c33
                have H' := Aside0.mk H
                clear H
                go_wp2
                (try simp only [← hl13_2, ← hl13_3])
                go_roundg k3
                case measure => have := HK1.out; have := HK2.out; have := HK3.out; omega
                case rel => exact ⟨(x6_3), (wrap64 (x7_2 + 1)), (x13_3), (by first | rfl | (simp; done) | (simp [*]; done)), H', ⟨by have := HK1.out; have := HK2.out; have := HK3.out; omega⟩, ⟨by (try simp only [hl13_1]); (try simp only [hl13_2]); (try simp only [hl13_3]); (with_reducible repeat (first | apply Kd.qF | apply Kd.qG | apply Kd.qI)); exact HO_6.out⟩, ⟨by (try simp only [hl13_1]); (try simp only [hl13_2]); (try simp only [hl13_3]); (with_reducible repeat (first | apply Kd.qF | apply Kd.qG | apply Kd.qI)); exact HO_13.out⟩, ⟨by (try simp only [hl13_1]); (try simp only [hl13_2]); (try simp only [hl13_3]); (with_reducible repeat (first | refine qD ?_ _ | refine qE ?_ | refine qC ?_ _)); exact BK117.out⟩, ⟨bl⟩⟩
            ·rw [if_neg c31] at H
             have c31b0 : decide (x7_2 < (x6_2.length : Int)) = false := decide_eq_false c31
             (try (have c31b0_hl13_1 := c31b0; simp only [hl13_1] at c31b0_hl13_1))
             (try (have c31b0_hl13_2 := c31b0; simp only [hl13_2] at c31b0_hl13_2))
             clear c31
             obtain rfl := Option.some.inj H
             obtain ⟨Ao57, co57, eo57⟩ := Kd.qy HO_6.out
             subst eo57
             go_wp2
             go_ret
             exact ⟨_, by first | rfl | (simp [qN, qM] <;> rfl) | (simp [*, qN, qM] <;> rfl), by (with_reducible repeat (first | apply Kd.qF | apply Kd.qG | apply Kd.qI)); exact Kd.qj HO_13.out (fun _ hk => trivial), bl⟩
         ·rw [if_neg c22] at H
          exact absurd H (by simp)
        ·rw [if_neg c21] at H
         exact absurd H (by simp)
       ·rw [if_neg c20] at H
        exact absurd H (by simp)
  ·rw [if_neg c3] at H
   exact absurd H (by simp)
 ·rw [if_neg c2] at H
  exact absurd H (by simp)
mutual
def qP.j0 : Nat → List Int → Bool → Int → Int → List Int → Option (Bool)
 | 0, _, _, _, _, _ => none
 | k + 1, x3, x23, x141000, x141001, x141002 => if x23 = true then (some false) else ((qK.f k x141000 x141001 x141002).bind fun t144 => (qP.l0 k x3 0 0 t144 (x3.length : Int) 0 x141000 x141001 x141002))
def qP.l0 : Nat → List Int → Int → Int → List Int → Int → Int → Int → Int → List Int → Option (Bool)
 | 0, _, _, _, _, _, _, _, _, _ => none
 | k + 1, x3, x5, x6, x25, x27, x28, x141000, x141001, x141002 => if x28 < x27 then (if 0 ≤ x28 then (if x28 < (x3.length : Int) then (if 0 ≤ (rd x3 x28) then (if (rd x3 x28) < (x25.length : Int) then (if (rd x25 (rd x3 x28)) < 0 then (some false) else (if x141000 = 0 then (none) else (if 0 ≤ (Int.tmod (rd x3 x28) x141000) then (if 0 ≤ (wrap64 (Int.tdiv (rd x3 x28) x141000)) then (qP.l0 k x3 (Go.bits .or .i64 x5 (shl .i64 1 (Int.tmod (rd x3 x28) x141000))) (Go.bits .or .i64 x6 (shl .i64 1 (wrap64 (Int.tdiv (rd x3 x28) x141000)))) x25 x27 (wrap64 (x28 + 1)) x141000 x141001 x141002) else (none)) else (none)))) else (none)) else (none)) else (none)) else (none)) else (if 0 ≤ x141000 then (if x5 = (wrap64 ((shl .i64 1 x141000) - 1)) then (if 0 ≤ x141001 then (some (x6 == (wrap64 ((shl .i64 1 x141001) - 1)))) else (none)) else (some false)) else (none))
end
def qP.f (k : Nat) (a0_0 : Int) (a0_1 : Int) (l0_2 : List Int) : Option (Bool) := (qS.f k a0_0 a0_1 l0_2).bind fun t141 => (if (t141.length : Int) = 6 then (if a0_0 > 6 then (qP.j0 k t141 true a0_0 a0_1 l0_2) else (qP.j0 k t141 (decide (a0_1 > 6)) a0_0 a0_1 l0_2)) else (qP.j0 k t141 true a0_0 a0_1 l0_2))
set_option maxHeartbeats 8000000 in
set_option maxRecDepth 100000 in
theorem qP.calls (k : Nat) (a0_0 : Int) (a0_1 : Int) (A0_2 : Option Addr) (c0_2 : Nat) (l0_2 : List Int) (r : Bool) (w : World) (hr0_2 : Kd.C (Kd.int .u8) w A0_2 l0_2.length l0_2) (hc0_2 : l0_2.length ≤ c0_2) (h : qP.f k a0_0 a0_1 l0_2 = some r) :
  Calls Tryd.prog 32 #[.agg #[.int .i64 a0_0, .int .i64 a0_1, .slice A0_2 l0_2.length c0_2]] w fun e w' => e = .returned (.bool r) ∧ Below w.heap.size w w' := by
 have hu45 := Tryd.underlying45
 have HR0_2 := Aside0.mk hr0_2
 have HC0_2 := Aside0.mk hc0_2
 clear hr0_2 hc0_2
 have HB := Aside0.mk (Below.refl w.heap.size w)
 have H : ((qS.f k a0_0 a0_1 l0_2).bind fun t141 => (if (t141.length : Int) = 6 then (if a0_0 > 6 then (qP.j0 k t141 true a0_0 a0_1 l0_2) else (qP.j0 k t141 (decide (a0_1 > 6)) a0_0 a0_1 l0_2)) else (qP.j0 k t141 true a0_0 a0_1 l0_2))) = some r := h
 clear h
 replace H := Option.bind_eq_some_iff.mp H
 obtain ⟨t141, A20, H⟩ := H
 replace H : (if (t141.length : Int) = 6 then (if a0_0 > 6 then (qP.j0 k t141 true a0_0 a0_1 l0_2) else (qP.j0 k t141 (decide (a0_1 > 6)) a0_0 a0_1 l0_2)) else (qP.j0 k t141 true a0_0 a0_1 l0_2)) = some r := H
 have A2 := Aside0.mk A20
 clear A20
 have HC3 := Aside0.mk H
 clear H
 go_enter Tryd.func32, Tryd.ntmps32
 go_upto_region 2 with (first | ((with_reducible refine qW (N := 1) rfl ?_); refine qU ?hg (N := 1) ?hd (cs := #[.int .i64 a0_0, .int .i64 a0_1, .slice A0_2 l0_2.length c0_2]) (t := 45) ?hr ?_; (case hd => rfl); (case hg => rfl); (case hr => first | (go_simp; done) | (go_simp; rfl)); intro gb140 hg w4 hbox hb; have n0_ := Aside0.mk (qL bl hb); have n1_ := Aside0.mk (hbox); have n2_ := Aside0.mk ((gg hg)); have n3_ := Aside0.mk ((gg hg)); clear HB; have HB := n0_; have BK140 := n1_; have GW140 := n2_; have GE140 := n3_; clear n0_ n1_ n2_ n3_; clear hb hbox hg; have hcz5_0 := bc BK140 0; have hcz5_1 := bc BK140 1; have hcz5_2 := bc BK140 2; have hfz5_0 := qA BK140.out 0; have hfz5_1 := qA BK140.out 1; have hfz5_2 := qA BK140.out 2) | ((with_reducible refine qd (f := 36) rfl ?_); refine qSA (some 10) rfl rfl Tryd.func36 (by kernel_rfl) rfl #[.agg #[.int .i64 a0_0, .int .i64 a0_1, .slice A0_2 l0_2.length c0_2]] rfl (by (try simp only [List.map_toArray, List.map_cons, List.map_nil]); first | done | rfl | (simp only [List.length_drop, List.length_take]; rfl)) ?_; (with_reducible refine (qS.calls k a0_0 a0_1 _ _ l0_2 t141 _ ?side1 ?side2 A2.out).mono ?_); (case side1 => repeat (first | exact (Kd.qYA HR0_2.out HB.out) | (with_reducible refine Kd.qZA ?_ _) | (with_reducible refine Kd.qXA ?_ _) | (with_reducible refine Kd.qtA ?_))); (case side2 => exact HC0_2.out); rintro e w6 ⟨v142, rfl, ho0, hb⟩; refine ⟨_, rfl, ?_⟩; have n0_ := Aside0.mk (Kd.qHA ho0 (qe bl)); have n1_ := Aside0.mk (bb BK140 hb); have n2_ := Aside0.mk (qL bl hb); clear BK140; clear HB; have HO143 := n0_; have BK140 := n1_; have HB := n2_; clear n0_ n1_ n2_; (try clear hb); (try clear hb2); (try clear hk); (try clear hi); (try clear ho0)))
 (try simp only [Act.put, List.setIfInBounds_toArray, List.set_cons_zero, List.set_cons_succ])
 go_cut [23] (fun v23 wc => ∃ (kq : Nat) (x23_2 : Bool), v23 = .bool x23_2 ∧ Aside0 (qP.j0 kq t141 x23_2 a0_0 a0_1 l0_2 = some r) ∧ Aside0 (kq ≤ k) ∧ Aside0 (Kd.R (Kd.int .i64) 3 wc w.heap.size (fun _ => True) v142 t141) ∧ Aside0 (wc.heap[gb140]? = some (.cells #[.int .i64 a0_0, .int .i64 a0_1, (.slice A0_2 l0_2.length c0_2)] 45 (0, 0))) ∧ Aside0 (Below w.heap.size w wc))
 case first =>
  have H := HC3.out
  clear HC3
  by_cases c7 : (t141.length : Int) = 6
  ·rw [if_pos c7] at H
   have c7b0 : ((t141.length : Int) == 6) = true := beq_iff_eq.mpr c7
   have c7b1 : ((t141.length : Int) != 6) = false := bne_eq_false_iff_eq.mpr c7
   clear c7
   (first | rw [c7b0] | (simp only [i64_w, i32_w]; rw [c7b0]) | skip)
   by_cases c8 : a0_0 > 6
   ·rw [if_pos c8] at H
    have c8b0 : decide (6 < a0_0) = true := decide_eq_true c8
    clear c8
    have H' := Aside0.mk H
    clear H
    obtain ⟨Ao9, co9, eo9⟩ := Kd.qy HO143.out
    subst eo9
    have hcz10_0 := bc BK140 0
    have hcz10_1 := bc BK140 1
    have hcz10_2 := bc BK140 2
    have hfz10_0 := qA BK140.out 0
    have hfz10_1 := qA BK140.out 1
    have hfz10_2 := qA BK140.out 2
    go_wp2
    go_meet
    case rel => exact ⟨_, (true), (by first | rfl | (simp; done) | (simp [*]; done)), H', ⟨by first | omega | exact Nat.le_refl _⟩, ⟨by (with_reducible repeat (first | apply Kd.qF | apply Kd.qG | apply Kd.qI)); exact HO143.out⟩, ⟨by (with_reducible repeat (first | refine qD ?_ _ | refine qE ?_ | refine qC ?_ _)); exact BK140.out⟩, ⟨bl⟩⟩
   ·rw [if_neg c8] at H
    have c8b0 : decide (6 < a0_0) = false := decide_eq_false c8
    clear c8
    have H' := Aside0.mk H
    clear H
    obtain ⟨Ao11, co11, eo11⟩ := Kd.qy HO143.out
    subst eo11
    have hcz12_0 := bc BK140 0
    have hcz12_1 := bc BK140 1
    have hcz12_2 := bc BK140 2
    have hfz12_0 := qA BK140.out 0
    have hfz12_1 := qA BK140.out 1
    have hfz12_2 := qA BK140.out 2
    go_wp2
    go_meet
    case rel => exact ⟨_, (decide (a0_1 > 6)), (by first | rfl | (simp; done) | (simp [*]; done)), H', ⟨by first | omega | exact Nat.le_refl _⟩, ⟨by (with_reducible repeat (first | apply Kd.qF | apply Kd.qG | apply Kd.qI)); exact HO143.out⟩, ⟨by (with_reducible repeat (first | refine qD ?_ _ | refine qE ?_ | refine qC ?_ _)); exact BK140.out⟩, ⟨bl⟩⟩
  ·rw [if_neg c7] at H
   have c7b0 : ((t141.length : Int) == 6) = false := beq_eq_false_iff_ne.mpr c7
   have c7b1 : ((t141.length : Int) != 6) = true := bne_iff_ne.mpr c7
   (first | rw [c7b0] | (simp only [i64_w, i32_w]; rw [c7b0]) | skip)
   have H' := Aside0.mk H
   clear H
   obtain ⟨Ao13, co13, eo13⟩ := Kd.qy HO143.out
   subst eo13
   go_wp2
   go_meet
   case rel => exact ⟨_, (true), (by first | rfl | (simp; done) | (simp [*]; done)), H', ⟨by first | omega | exact Nat.le_refl _⟩, ⟨by (with_reducible repeat (first | apply Kd.qF | apply Kd.qG | apply Kd.qI)); exact HO143.out⟩, ⟨by (with_reducible repeat (first | refine qD ?_ _ | refine qE ?_ | refine qC ?_ _)); exact BK140.out⟩, ⟨bl⟩⟩
 case rest =>
  clear HC3
  try clear p2
  try clear c3
  try clear c7
  try clear c7b0
  try clear c7b1
  try clear c8
  try clear c8b0
  try clear hcz10_0
  try clear hcz10_1
  try clear hcz10_2
  try clear hcz12_0
  try clear hcz12_1
  try clear hcz12_2
  try clear hcz5_0
  try clear hcz5_1
  try clear hcz5_2
  try clear hfz10_0
  try clear hfz10_1
  try clear hfz10_2
  try clear hfz12_0
  try clear hfz12_1
  try clear hfz12_2
  try clear hfz5_0
  try clear hfz5_1
  try clear hfz5_2
  obtain ⟨kq, x23_2, rfl, HA, HJ2, HO_3, BK140, HB⟩ := hcut
  cases kq with
  | zero => exact absurd HA.out (by simp [qP.j0])
  | succ kj2 =>
   have H := HA.out
   clear HA
   simp only [qP.j0] at H
   by_cases c14 : x23_2 = true
   ·subst c14
    have H1 : (some false) = some r := by rw [if_pos rfl] at H; exact H
    clear H
    have H := H1
    clear H1
    obtain rfl := Option.some.inj H
    go_wp2
    go_ret
    exact ⟨by first | rfl | (simp [qN, qM] <;> rfl) | (simp [*, qN, qM] <;> rfl), bl⟩
   ·replace c14 := Bool.eq_false_iff.mpr c14
    subst c14
    have H1 : ((qK.f kj2 a0_0 a0_1 l0_2).bind fun t144 => (qP.l0 kj2 t141 0 0 t144 (t141.length : Int) 0 a0_0 a0_1 l0_2)) = some r := by rw [if_neg (show ¬ (false = true) by decide)] at H; exact H
    clear H
    have H := H1
    clear H1
    replace H := Option.bind_eq_some_iff.mp H
    obtain ⟨t144, A150, H⟩ := H
    replace H : (qP.l0 kj2 t141 0 0 t144 (t141.length : Int) 0 a0_0 a0_1 l0_2) = some r := H
    have A15 := Aside0.mk A150
    clear A150
    have H' := Aside0.mk H
    clear H
    have hcz16_0 := bc BK140 0
    have hcz16_1 := bc BK140 1
    have hcz16_2 := bc BK140 2
    have hfz16_0 := qA BK140.out 0
    have hfz16_1 := qA BK140.out 1
    have hfz16_2 := qA BK140.out 2
    go_wp2_with (first | ((with_reducible refine qd (f := 39) rfl ?_); refine qSA (some 25) rfl rfl Tryd.func39 (by kernel_rfl) rfl #[.agg #[.int .i64 a0_0, .int .i64 a0_1, .slice A0_2 l0_2.length c0_2]] rfl (by (try simp only [List.map_toArray, List.map_cons, List.map_nil]); first | done | rfl | (simp only [List.length_drop, List.length_take]; rfl)) ?_; (with_reducible refine (qK.calls kj2 a0_0 a0_1 _ _ l0_2 t144 _ ?side1 ?side2 A15.out).mono ?_); (case side1 => repeat (first | exact (Kd.qYA HR0_2.out HB.out) | (with_reducible refine Kd.qZA ?_ _) | (with_reducible refine Kd.qXA ?_ _) | (with_reducible refine Kd.qtA ?_))); (case side2 => exact HC0_2.out); rintro e w17 ⟨v145, rfl, ho0, hb⟩; refine ⟨_, rfl, ?_⟩; have n0_ := Aside0.mk (Kd.qiA (by (with_reducible repeat (first | apply Kd.qF | apply Kd.qG | apply Kd.qI)); exact HO_3.out) (Kd.qbB ho0) hb); have n1_ := Aside0.mk (Kd.qHA (Kd.qaB ho0 (Kd.R_lt (by (with_reducible repeat (first | apply Kd.qF | apply Kd.qG | apply Kd.qI)); exact HO_3.out))) (qe bl)); have n2_ := Aside0.mk (bb BK140 hb); have n3_ := Aside0.mk (qL bl hb); clear HO_3; clear BK140; clear HB; have HO_3 := n0_; have HO146 := n1_; have BK140 := n2_; have HB := n3_; clear n0_ n1_ n2_ n3_; (try clear hb); (try clear hb2); (try clear hk); (try clear hi); (try clear ho0); obtain ⟨Ao18, co18, eo18⟩ := Kd.qy HO_3.out; subst eo18))
    go_loopg [5, 6, 28] kj2 (fun kq v5 v6 v28 w' => ∃ (x5_2 : Int) (x6_2 : Int) (x28_2 : Int), v5 = .int .i64 x5_2 ∧ v6 = .int .i64 x6_2 ∧ v28 = .int .i64 x28_2 ∧ Aside0 (qP.l0 kq t141 x5_2 x6_2 t144 (t141.length : Int) x28_2 a0_0 a0_1 l0_2 = some r) ∧ Aside0 (kq ≤ kj2) ∧ Aside0 (Kd.R (Kd.int .i64) 3 w' w.heap.size (fun k_ => some k_ ≠ (v145 : Value).ownBlock) (.slice Ao18 t141.length co18) t141) ∧ Aside0 (Kd.R (Kd.int .i64) 3 w' w.heap.size (fun k_ => some k_ ≠ ((.slice Ao18 t141.length co18) : Value).ownBlock) v145 t144) ∧ Aside0 (w'.heap[gb140]? = some (.cells #[.int .i64 a0_0, .int .i64 a0_1, (.slice A0_2 l0_2.length c0_2)] 45 (0, 0))) ∧ Aside0 (Below w.heap.size w w'))
    case atStart => exact ⟨(0), (0), (0), (by first | rfl | (simp; done) | (simp [*]; done)), (by first | rfl | (simp; done) | (simp [*]; done)), (by first | rfl | (simp; done) | (simp [*]; done)), H', ⟨Nat.le_refl _⟩, ⟨by (with_reducible repeat (first | apply Kd.qF | apply Kd.qG | apply Kd.qI)); exact Kd.qj HO_3.out (fun _ hk => hk.2)⟩, ⟨by (with_reducible repeat (first | apply Kd.qF | apply Kd.qG | apply Kd.qI)); exact Kd.qj HO146.out (fun _ hk => hk.2)⟩, ⟨by (with_reducible repeat (first | refine qD ?_ _ | refine qE ?_ | refine qC ?_ _)); exact BK140.out⟩, ⟨bl⟩⟩
    case round =>
     clear H'
     try clear c1
     try clear p2
     try clear c3
     try clear c7
     try clear c7b0
     try clear c7b1
     try clear c8
     try clear c8b0
     try clear c14
     try clear hcz10_0
     try clear hcz10_1
     try clear hcz10_2
     try clear hcz12_0
     try clear hcz12_1
     try clear hcz12_2
     try clear hcz16_0
     try clear hcz16_1
     try clear hcz16_2
     try clear hcz5_0
     try clear hcz5_1
     try clear hcz5_2
     try clear hfz10_0
     try clear hfz10_1
     try clear hfz10_2
     try clear hfz12_0
     try clear hfz12_1
     try clear hfz12_2
     try clear hfz16_0
     try clear hfz16_1
     try clear hfz16_2
     try clear hfz5_0
     try clear hfz5_1
     try clear hfz5_2
     try clear p2
     obtain ⟨x5_2, x6_2, x28_2, rfl, rfl, rfl, HA, HK2, HO_3, HO_25, BK140, HB⟩ := hrel
     cases gk with
     | zero => exact absurd HA.out (by simp [qP.l0])
     | succ k2 =>
      have H := HA.out
      clear HA
      simp only [qP.l0] at H
      by_cases c19 : x28_2 < (t141.length : Int)
      ·rw [if_pos c19] at H
       have c19b0 : decide (x28_2 < (t141.length : Int)) = true := decide_eq_true c19
       clear c19
       by_cases c20 : 0 ≤ x28_2
       ·rw [if_pos c20] at H
        have c20b0 : decide (0 ≤ x28_2) = true := decide_eq_true c20
        clear c20
        by_cases c21 : x28_2 < (t141.length : Int)
        ·rw [if_pos c21] at H
         have c21b0 : decide (x28_2 < (t141.length : Int)) = true := decide_eq_true c21
         clear c21
         by_cases c22 : 0 ≤ (rd t141 x28_2)
         ·rw [if_pos c22] at H
          have c22b0 : decide (0 ≤ (rd t141 x28_2)) = true := decide_eq_true c22
          clear c22
          by_cases c23 : (rd t141 x28_2) < (t144.length : Int)
          ·rw [if_pos c23] at H
           have c23b0 : decide ((rd t141 x28_2) < (t144.length : Int)) = true := decide_eq_true c23
           clear c23
           by_cases c24 : (rd t144 (rd t141 x28_2)) < 0
           ·rw [if_pos c24] at H
            have c24b0 : decide ((rd t144 (rd t141 x28_2)) < 0) = true := decide_eq_true c24
            clear c24
            obtain rfl := Option.some.inj H
            have p147 : 0 ≤ (x28_2 : Int) := of_decide_eq_true (by first | (with_reducible assumption) | assumption)
            have q147 : x28_2 < (t141.length : Int) := of_decide_eq_true (by first | (with_reducible assumption) | assumption)
            obtain ⟨ad147, e147, hx147_0⟩ := Kd.qGA (Kd.qQ HO_3.out).2.2 x28_2 p147 q147
            cases e147
            replace p147 := eq_true p147
            replace q147 := eq_true q147
            obtain ⟨Ao25, co25, eo25⟩ := Kd.qy HO_25.out
            subst eo25
            have p148 : 0 ≤ ((rd t141 x28_2) : Int) := of_decide_eq_true (by first | (with_reducible assumption) | assumption)
            have q148 : (rd t141 x28_2) < (t144.length : Int) := of_decide_eq_true (by first | (with_reducible assumption) | assumption)
            obtain ⟨ad148, e148, hx148_0⟩ := Kd.qGA (Kd.qQ HO_25.out).2.2 (rd t141 x28_2) p148 q148
            cases e148
            replace p148 := eq_true p148
            replace q148 := eq_true q148
            go_wp2
            go_ret
            exact ⟨by first | rfl | (simp [qN, qM] <;> rfl) | (simp [*, qN, qM] <;> rfl), bl⟩
           ·rw [if_neg c24] at H
            have c24b0 : decide ((rd t144 (rd t141 x28_2)) < 0) = false := decide_eq_false c24
            clear c24
            by_cases c26 : a0_0 = 0
            ·rw [if_pos c26] at H
             exact absurd H (by simp)
            ·rw [if_neg c26] at H
             have c26b0 : (a0_0 == 0) = false := beq_eq_false_iff_ne.mpr c26
             have c26b1 : (a0_0 != 0) = true := bne_iff_ne.mpr c26
             obtain ⟨ji27, hji27⟩ : ∃ j_ : Int, (Int.tmod (rd t141 x28_2) a0_0) = j_ := ⟨_, rfl⟩
             replace H : (if 0 ≤ (ji27) then (if 0 ≤ (wrap64 (Int.tdiv (rd t141 x28_2) a0_0)) then (qP.l0 k2 t141 (Go.bits .or .i64 x5_2 (shl .i64 1 (ji27))) (Go.bits .or .i64 x6_2 (shl .i64 1 (wrap64 (Int.tdiv (rd t141 x28_2) a0_0)))) t144 (t141.length : Int) (wrap64 (x28_2 + 1)) a0_0 a0_1 l0_2) else (none)) else (none)) = some r := by first | (rw [hji27] at H; exact H) | (simp only [hji27] at H ⊢; exact H)
             by_cases c28 : 0 ≤ (ji27)
             ·rw [if_pos c28] at H
              have c28b0 := eq_true c28
              have c28b1 : decide (0 ≤ (ji27)) = true := decide_eq_true c28
              clear c28
              obtain ⟨ji29, hji29⟩ : ∃ j_ : Int, (shl .i64 1 (ji27)) = j_ := ⟨_, rfl⟩
              replace H : (if 0 ≤ (wrap64 (Int.tdiv (rd t141 x28_2) a0_0)) then (qP.l0 k2 t141 (Go.bits .or .i64 x5_2 (ji29)) (Go.bits .or .i64 x6_2 (shl .i64 1 (wrap64 (Int.tdiv (rd t141 x28_2) a0_0)))) t144 (t141.length : Int) (wrap64 (x28_2 + 1)) a0_0 a0_1 l0_2) else (none)) = some r := by first | (rw [hji29] at H; exact H) | (simp only [hji29] at H ⊢; exact H)
              have hji29_ : (IntKind.i64.wrap (1 * 2 ^ min (ji27).toNat 64)) = ji29 := hji29
              have hji29z : (ji27) ≤ 64 → (IntKind.i64.wrap (1 * 2 ^ (ji27).toNat)) = ji29 := qUB hji29
              have hji29u : (IntKind.i64.wrap (2 ^ min (ji27).toNat 64)) = ji29 := by have h_ := hji29_; rw [Int.one_mul] at h_; exact h_
              have hji29v : (ji27) ≤ 64 → (IntKind.i64.wrap (2 ^ (ji27).toNat)) = ji29 := fun hle_ => by have h_ := hji29z hle_; rw [Int.one_mul] at h_; exact h_
              have hji29y : (wrap64 (1 * 2 ^ min (ji27).toNat 64)) = ji29 := (i64_w _).symm.trans hji29_
              have hji29x : (ji27) ≤ 64 → (wrap64 (1 * 2 ^ (ji27).toNat)) = ji29 := fun h_ => (i64_w _).symm.trans (hji29z h_)
              obtain ⟨ji30, hji30⟩ : ∃ j_ : Int, (wrap64 (Int.tdiv (rd t141 x28_2) a0_0)) = j_ := ⟨_, rfl⟩
              replace H : (if 0 ≤ (ji30) then (qP.l0 k2 t141 (Go.bits .or .i64 x5_2 (ji29)) (Go.bits .or .i64 x6_2 (shl .i64 1 (ji30))) t144 (t141.length : Int) (wrap64 (x28_2 + 1)) a0_0 a0_1 l0_2) else (none)) = some r := by first | (rw [hji30] at H; exact H) | (simp only [hji30] at H ⊢; exact H)
              have hji30w : (IntKind.i64.wrap (Int.tdiv (rd t141 x28_2) a0_0)) = ji30 := (i64_w _).trans hji30
              by_cases c31 : 0 ≤ (ji30)
              ·rw [if_pos c31] at H
               have c31b0 := eq_true c31
               have c31b1 : decide (0 ≤ (ji30)) = true := decide_eq_true c31
               clear c31
               obtain ⟨ji32, hji32⟩ : ∃ j_ : Int, (shl .i64 1 (ji30)) = j_ := ⟨_, rfl⟩
               replace H : (qP.l0 k2 t141 (Go.bits .or .i64 x5_2 (ji29)) (Go.bits .or .i64 x6_2 (ji32)) t144 (t141.length : Int) (wrap64 (x28_2 + 1)) a0_0 a0_1 l0_2) = some r := by first | (rw [hji32] at H; exact H) | (simp only [hji32] at H ⊢; exact H)
               have hji32_ : (IntKind.i64.wrap (1 * 2 ^ min (ji30).toNat 64)) = ji32 := hji32
               have hji32z : (ji30) ≤ 64 → (IntKind.i64.wrap (1 * 2 ^ (ji30).toNat)) = ji32 := qUB hji32
               have hji32u : (IntKind.i64.wrap (2 ^ min (ji30).toNat 64)) = ji32 := by have h_ := hji32_; rw [Int.one_mul] at h_; exact h_
               have hji32v : (ji30) ≤ 64 → (IntKind.i64.wrap (2 ^ (ji30).toNat)) = ji32 := fun hle_ => by have h_ := hji32z hle_; rw [Int.one_mul] at h_; exact h_
               have hji32y : (wrap64 (1 * 2 ^ min (ji30).toNat 64)) = ji32 := (i64_w _).symm.trans hji32_
               have hji32x : (ji30) ≤ 64 → (wrap64 (1 * 2 ^ (ji30).toNat)) = ji32 := fun h_ => (i64_w _).symm.trans (hji32z h_)
               have H' := Aside0.mk H
               clear H
               have p147 : 0 ≤ (x28_2 : Int) := of_decide_eq_true (by first | (with_reducible assumption) | assumption)
               have q147 : x28_2 < (t141.length : Int) := of_decide_eq_true (by first | (with_reducible assumption) | assumption)
               obtain ⟨ad147, e147, hx147_0⟩ := Kd.qGA (Kd.qQ HO_3.out).2.2 x28_2 p147 q147
               cases e147
               replace p147 := eq_true p147
               replace q147 := eq_true q147
               obtain ⟨Ao33, co33, eo33⟩ := Kd.qy HO_25.out
               subst eo33
               have p148 : 0 ≤ ((rd t141 x28_2) : Int) := of_decide_eq_true (by first | (with_reducible assumption) | assumption)
               have q148 : (rd t141 x28_2) < (t144.length : Int) := of_decide_eq_true (by first | (with_reducible assumption) | assumption)
               obtain ⟨ad148, e148, hx148_0⟩ := Kd.qGA (Kd.qQ HO_25.out).2.2 (rd t141 x28_2) p148 q148
               cases e148
               replace p148 := eq_true p148
               replace q148 := eq_true q148
               have hcz34_0 := bc BK140 0
               have hcz34_1 := bc BK140 1
               have hcz34_2 := bc BK140 2
               have hfz34_0 := qA BK140.out 0
               have hfz34_1 := qA BK140.out 1
               have hfz34_2 := qA BK140.out 2
               go_wp2
               go_roundg k2
               case measure => have := HJ2.out; have := HK2.out; omega
               case rel => exact ⟨(Go.bits .or .i64 x5_2 (ji29)), (Go.bits .or .i64 x6_2 (ji32)), (wrap64 (x28_2 + 1)), (by first | rfl | (simp; done) | (simp only [← hji29] <;> (first | rfl | simp)) | (simp [*]; done)), (by first | rfl | (simp; done) | (simp only [← hji32] <;> (first | rfl | simp)) | (simp [*]; done)), (by first | rfl | (simp; done) | (simp [*]; done)), H', ⟨by have := HJ2.out; have := HK2.out; omega⟩, ⟨by (with_reducible repeat (first | apply Kd.qF | apply Kd.qG | apply Kd.qI)); exact HO_3.out⟩, ⟨by (with_reducible repeat (first | apply Kd.qF | apply Kd.qG | apply Kd.qI)); exact HO_25.out⟩, ⟨by (with_reducible repeat (first | refine qD ?_ _ | refine qE ?_ | refine qC ?_ _)); exact BK140.out⟩, ⟨bl⟩⟩
              ·rw [if_neg c31] at H
               exact absurd H (by simp)
             ·rw [if_neg c28] at H
              exact absurd H (by simp)
          ·rw [if_neg c23] at H
           exact absurd H (by simp)
         ·rw [if_neg c22] at H
          exact absurd H (by simp)
        ·rw [if_neg c21] at H
         exact absurd H (by simp)
       ·rw [if_neg c20] at H
        exact absurd H (by simp)
      ·rw [if_neg c19] at H
       have c19b0 : decide (x28_2 < (t141.length : Int)) = false := decide_eq_false c19
       clear c19
       by_cases c35 : 0 ≤ a0_0
       ·rw [if_pos c35] at H
        have c35b0 := eq_true c35
        have c35b1 : decide (0 ≤ a0_0) = true := decide_eq_true c35
        clear c35
        obtain ⟨ji36, hji36⟩ : ∃ j_ : Int, (shl .i64 1 a0_0) = j_ := ⟨_, rfl⟩
        replace H : (if x5_2 = (wrap64 ((ji36) - 1)) then (if 0 ≤ a0_1 then (some (x6_2 == (wrap64 ((shl .i64 1 a0_1) - 1)))) else (none)) else (some false)) = some r := by first | (rw [hji36] at H; exact H) | (simp only [hji36] at H ⊢; exact H)
        have hji36_ : (IntKind.i64.wrap (1 * 2 ^ min a0_0.toNat 64)) = ji36 := hji36
        have hji36z : a0_0 ≤ 64 → (IntKind.i64.wrap (1 * 2 ^ a0_0.toNat)) = ji36 := qUB hji36
        have hji36u : (IntKind.i64.wrap (2 ^ min a0_0.toNat 64)) = ji36 := by have h_ := hji36_; rw [Int.one_mul] at h_; exact h_
        have hji36v : a0_0 ≤ 64 → (IntKind.i64.wrap (2 ^ a0_0.toNat)) = ji36 := fun hle_ => by have h_ := hji36z hle_; rw [Int.one_mul] at h_; exact h_
        have hji36y : (wrap64 (1 * 2 ^ min a0_0.toNat 64)) = ji36 := (i64_w _).symm.trans hji36_
        have hji36x : a0_0 ≤ 64 → (wrap64 (1 * 2 ^ a0_0.toNat)) = ji36 := fun h_ => (i64_w _).symm.trans (hji36z h_)
        by_cases c37 : x5_2 = (wrap64 ((ji36) - 1))
        ·rw [if_pos c37] at H
         have c37b0 : (x5_2 == (wrap64 ((ji36) - 1))) = true := beq_iff_eq.mpr c37
         have c37b1 : (x5_2 != (wrap64 ((ji36) - 1))) = false := bne_eq_false_iff_eq.mpr c37
         clear c37
         by_cases c38 : 0 ≤ a0_1
         ·rw [if_pos c38] at H
          have c38b0 := eq_true c38
          have c38b1 : decide (0 ≤ a0_1) = true := decide_eq_true c38
          clear c38
          obtain ⟨ji39, hji39⟩ : ∃ j_ : Int, (shl .i64 1 a0_1) = j_ := ⟨_, rfl⟩
          replace H : (some (x6_2 == (wrap64 ((ji39) - 1)))) = some r := by first | (rw [hji39] at H; exact H) | (simp only [hji39] at H ⊢; exact H)
          have hji39_ : (IntKind.i64.wrap (1 * 2 ^ min a0_1.toNat 64)) = ji39 := hji39
          have hji39z : a0_1 ≤ 64 → (IntKind.i64.wrap (1 * 2 ^ a0_1.toNat)) = ji39 := qUB hji39
          have hji39u : (IntKind.i64.wrap (2 ^ min a0_1.toNat 64)) = ji39 := by have h_ := hji39_; rw [Int.one_mul] at h_; exact h_
          have hji39v : a0_1 ≤ 64 → (IntKind.i64.wrap (2 ^ a0_1.toNat)) = ji39 := fun hle_ => by have h_ := hji39z hle_; rw [Int.one_mul] at h_; exact h_
          have hji39y : (wrap64 (1 * 2 ^ min a0_1.toNat 64)) = ji39 := (i64_w _).symm.trans hji39_
          have hji39x : a0_1 ≤ 64 → (wrap64 (1 * 2 ^ a0_1.toNat)) = ji39 := fun h_ => (i64_w _).symm.trans (hji39z h_)
          obtain rfl := Option.some.inj H
          have hcz40_0 := bc BK140 0
          have hcz40_1 := bc BK140 1
          have hcz40_2 := bc BK140 2
          have hfz40_0 := qA BK140.out 0
          have hfz40_1 := qA BK140.out 1
          have hfz40_2 := qA BK140.out 2
          go_wp2
          go_ret
          exact ⟨by first | rfl | (simp [qN, qM] <;> rfl) | (simp only [← hji36, ← hji39]; first | rfl | (simp [qN, qM] <;> rfl)) | (simp [*, qN, qM] <;> rfl), bl⟩
         ·rw [if_neg c38] at H
          exact absurd H (by simp)
        ·rw [if_neg c37] at H
         have c37b0 : (x5_2 == (wrap64 ((ji36) - 1))) = false := beq_eq_false_iff_ne.mpr c37
         have c37b1 : (x5_2 != (wrap64 ((ji36) - 1))) = true := bne_iff_ne.mpr c37
         obtain rfl := Option.some.inj H
         have hcz41_0 := bc BK140 0
         have hcz41_1 := bc BK140 1
         have hcz41_2 := bc BK140 2
         have hfz41_0 := qA BK140.out 0
         have hfz41_1 := qA BK140.out 1
         have hfz41_2 := qA BK140.out 2
         go_wp2
         go_ret
         exact ⟨by first | rfl | (simp [qN, qM] <;> rfl) | (simp only [← hji36]; first | rfl | (simp [qN, qM] <;> rfl)) | (simp [*, qN, qM] <;> rfl), bl⟩
       ·rw [if_neg c35] at H
        exact absurd H (by simp)
def qQA.f (k : Nat) (a0 : ByteArray) : Option (Bool) := (qH.f k a0 false).bind fun bt149 => (if bt149.2.2.2 = true then ((qP.f k bt149.1 bt149.2.1 bt149.2.2.1).bind fun t156 => (some t156)) else (some false))
set_option maxHeartbeats 8000000 in
set_option maxRecDepth 100000 in
theorem qQA.calls (k : Nat) (a0 : ByteArray) (r : Bool) (w : World) (h : qQA.f k a0 = some r) :
  Calls Tryd.prog 10 #[.string a0] w fun e w' => e = .returned (.bool r) ∧ Below w.heap.size w w' := by
 have hu45 := Tryd.underlying45
 have HB := Aside0.mk (Below.refl w.heap.size w)
 have H : ((qH.f k a0 false).bind fun bt149 => (if bt149.2.2.2 = true then ((qP.f k bt149.1 bt149.2.1 bt149.2.2.1).bind fun t156 => (some t156)) else (some false))) = some r := h
 clear h
 replace H := Option.bind_eq_some_iff.mp H
 obtain ⟨⟨t149, t150, t151, t154⟩, A20, H⟩ := H
 replace H : (if t154 = true then ((qP.f k t149 t150 t151).bind fun t156 => (some t156)) else (some false)) = some r := H
 have A2 := Aside0.mk A20
 clear A20
 by_cases c3 : t154 = true
 ·subst c3
  have H1 : ((qP.f k t149 t150 t151).bind fun t156 => (some t156)) = some r := by rw [if_pos rfl] at H; exact H
  clear H
  have H := H1
  clear H1
  replace H := Option.bind_eq_some_iff.mp H
  obtain ⟨t156, A40, H⟩ := H
  replace H : (some t156) = some r := H
  have A4 := Aside0.mk A40
  clear A40
  obtain rfl := Option.some.inj H
  go_enter Tryd.func10, Tryd.ntmps10
  go_wp2_with (first | ((with_reducible refine qd (f := 31) rfl ?_); refine qSA (some 7) rfl rfl Tryd.func31 (by kernel_rfl) rfl #[.string a0, .bool false] rfl (by (try simp only [List.map_toArray, List.map_cons, List.map_nil]); first | done | rfl | (simp only [List.length_drop, List.length_take]; rfl)) ?_; (with_reducible refine (qH.calls k a0 false t149 t150 t151 true _ A2.out).mono ?_); rintro e w5 ⟨v152, rfl, ho0, hb⟩; refine ⟨_, rfl, ?_⟩; have n0_ := Aside0.mk (Kd.qHA ho0 (qe bl)); have n1_ := Aside0.mk (qL bl hb); clear HB; have HO153 := n0_; have HB := n1_; clear n0_ n1_; (try clear hb); (try clear hb2); (try clear hk); (try clear hi); (try clear ho0)) | ((with_reducible refine qW (N := 3) rfl ?_); refine qU ?hg (N := 3) ?hd (cs := #[.int .i64 0, .int .i64 0, .slice none 0 0]) (t := 45) ?hr ?_; (case hd => rfl); (case hg => rfl); (case hr => first | (go_simp; done) | (go_simp; rfl)); intro gb155 hg w6 hbox hb; have n0_ := Aside0.mk (Kd.qa (by (with_reducible repeat (first | apply Kd.qF | apply Kd.qG | apply Kd.qI)); exact HO153.out) hb); have n1_ := Aside0.mk (qL bl hb); have n2_ := Aside0.mk (hbox); have n3_ := Aside0.mk ((gg hg)); have n4_ := Aside0.mk ((gg hg)); clear HO153; clear HB; have HO153 := n0_; have HB := n1_; have BK155 := n2_; have GW155 := n3_; have GE155 := n4_; clear n0_ n1_ n2_ n3_ n4_; clear hb hbox hg; have hcz7_0 := bc BK155 0; have hcz7_1 := bc BK155 1; have hcz7_2 := bc BK155 2; have hfz7_0 := qA BK155.out 0; have hfz7_1 := qA BK155.out 1; have hfz7_2 := qA BK155.out 2; obtain ⟨Ao8, co8, eo8⟩ := Kd.qy HO153.out; subst eo8) | (go_at_call 32; (with_reducible refine (qP.calls k t149 t150 _ _ t151 t156 _ ?side1 ?side2 A4.out).mono ?_); (case side1 => refine (Kd.qQ (e := 5) (base := w.heap.size) (ok := fun k_ => True) (n := t151.length) (c := co8) ?_).2.2; exact (by (with_reducible repeat (first | apply Kd.qF | apply Kd.qG | apply Kd.qI)); exact (Kd.qj (Kd.R_far (p := ⟨gb155, 2, none⟩) (Kd.R_far (p := ⟨gb155, 1, none⟩) (Kd.R_far (p := ⟨gb155, 0, none⟩) (Kd.quA HO153.out BK155.out (by decide)) (fun _ hk => hk.2) (.int .i64 t149)) (fun _ hk => hk.2) (.int .i64 t150)) (fun _ hk => hk.2) (.slice Ao8 t151.length co8)) (fun _ h_ => h_.1)))); (case side2 => exact (Kd.qQ HO153.out).2.1); rintro e w9 ⟨rfl, hb⟩; have n0_ := Aside0.mk (Kd.qa (by (with_reducible repeat (first | apply Kd.qF | apply Kd.qG | apply Kd.qI)); exact (Kd.qj (Kd.R_far (p := ⟨gb155, 2, none⟩) (Kd.R_far (p := ⟨gb155, 1, none⟩) (Kd.R_far (p := ⟨gb155, 0, none⟩) (Kd.quA HO153.out BK155.out (by decide)) (fun _ hk => hk.2) (.int .i64 t149)) (fun _ hk => hk.2) (.int .i64 t150)) (fun _ hk => hk.2) (.slice Ao8 t151.length co8)) (fun _ h_ => h_.1))) hb); have n1_ := Aside0.mk (blk_below (g := gb155) (o := .cells #[.int .i64 t149, .int .i64 t150, .slice Ao8 t151.length co8] 45 (0, 0)) (by (with_reducible repeat (first | refine qD ?_ _ | refine qE ?_ | refine qC ?_ _)); refine qR (cs := #[.int .i64 t149, .int .i64 t150, .slice none 0 0]) ?_ 2 _ rfl; (with_reducible repeat (first | refine qD ?_ _ | refine qE ?_ | refine qC ?_ _)); refine qR (cs := #[.int .i64 t149, .int .i64 0, .slice none 0 0]) ?_ 1 _ rfl; (with_reducible repeat (first | refine qD ?_ _ | refine qE ?_ | refine qC ?_ _)); refine qR (cs := #[.int .i64 0, .int .i64 0, .slice none 0 0]) ?_ 0 _ rfl; (with_reducible repeat (first | refine qD ?_ _ | refine qE ?_ | refine qC ?_ _)); exact BK155.out) hb); have n2_ := Aside0.mk (qL bl hb); clear HO153; clear BK155; clear HB; have HO153 := n0_; have BK155 := n1_; have HB := n2_; clear n0_ n1_ n2_; (try clear hb); (try clear hb2); (try clear hk); (try clear hi)))
  go_ret
  exact ⟨by first | rfl | (simp [qN, qM] <;> rfl) | (simp [*, qN, qM] <;> rfl), bl⟩
 ·replace c3 := Bool.eq_false_iff.mpr c3
  subst c3
  have H1 : (some false) = some r := by rw [if_neg (show ¬ (false = true) by decide)] at H; exact H
  clear H
  have H := H1
  clear H1
  obtain rfl := Option.some.inj H
  go_enter Tryd.func10, Tryd.ntmps10
  go_wp2_with (first | ((with_reducible refine qd (f := 31) rfl ?_); refine qSA (some 7) rfl rfl Tryd.func31 (by kernel_rfl) rfl #[.string a0, .bool false] rfl (by (try simp only [List.map_toArray, List.map_cons, List.map_nil]); first | done | rfl | (simp only [List.length_drop, List.length_take]; rfl)) ?_; (with_reducible refine (qH.calls k a0 false t149 t150 t151 false _ A2.out).mono ?_); rintro e w10 ⟨v152, rfl, ho0, hb⟩; refine ⟨_, rfl, ?_⟩; have n0_ := Aside0.mk (Kd.qHA ho0 (qe bl)); have n1_ := Aside0.mk (qL bl hb); clear HB; have HO153 := n0_; have HB := n1_; clear n0_ n1_; (try clear hb); (try clear hb2); (try clear hk); (try clear hi); (try clear ho0)) | ((with_reducible refine qW (N := 3) rfl ?_); refine qU ?hg (N := 3) ?hd (cs := #[.int .i64 0, .int .i64 0, .slice none 0 0]) (t := 45) ?hr ?_; (case hd => rfl); (case hg => rfl); (case hr => first | (go_simp; done) | (go_simp; rfl)); intro gb155 hg w11 hbox hb; have n0_ := Aside0.mk (Kd.qa (by (with_reducible repeat (first | apply Kd.qF | apply Kd.qG | apply Kd.qI)); exact HO153.out) hb); have n1_ := Aside0.mk (qL bl hb); have n2_ := Aside0.mk (hbox); have n3_ := Aside0.mk ((gg hg)); have n4_ := Aside0.mk ((gg hg)); clear HO153; clear HB; have HO153 := n0_; have HB := n1_; have BK155 := n2_; have GW155 := n3_; have GE155 := n4_; clear n0_ n1_ n2_ n3_ n4_; clear hb hbox hg; have hcz12_0 := bc BK155 0; have hcz12_1 := bc BK155 1; have hcz12_2 := bc BK155 2; have hfz12_0 := qA BK155.out 0; have hfz12_1 := qA BK155.out 1; have hfz12_2 := qA BK155.out 2; obtain ⟨Ao13, co13, eo13⟩ := Kd.qy HO153.out; subst eo13))
  go_ret
  exact ⟨by first | rfl | (simp [qN, qM] <;> rfl) | (simp [*, qN, qM] <;> rfl), bl⟩
end Go.Proofs.YtdncpkppkafkpaaDoor.P
namespace Go.Proofs.YtdncpkppkafkpaaDoor
open Go Go.ChangeMaps Go.MapKept
open Go.Maps (Keyed IsMap Tidy)
set_option linter.unusedVariables false
set_option linter.unusedSectionVars false
theorem plainElem_bool_inv {H : Type} {P : Program} {e : TypeId} (he : P.underlying e = some .bool) {v : Value} {z : DataW H × List MemPlace} (h : plainElem P e v = some z) : ∃ x, v = .bool x ∧ z = (.lit (.bool x), []) := by
 unfold plainElem at h
 rw [he] at h
 cases v <;> simp at h
 exact ⟨_, rfl, h.symm⟩
structure MapKit (P : Program) (κ ν : Type) where
 t : TypeId
 k : TypeId
 e : TypeId
 law : Keyed P k
 ht : P.underlying t = some (.map k e)
 okK : κ → Prop
 key : κ → Value
 lit : κ → Lit
 hkey : ∀ x, okK x → keyOf P k (key x) = some (lit x)
 inj : ∀ x y, key x = key y → x = y
 okV : ν → Prop
 val : ν → Value
 dat : ν → DataW Unit
 R : Value → Option (DataW Unit × List MemPlace)
 hval : ∀ v, okV v → R (val v) = some (dat v, [])
 hdat : ∀ v u ps, R u = some (dat v, ps) → u = val v
 zero : ν
 okz : okV zero
 hz : ∀ w, (zeroValue e).run P w = .ok (val zero) w
namespace MapKit
variable {P : Program} {κ ν : Type} [DecidableEq κ] (M : MapKit P κ ν)
def datum : List (κ × ν) → DataW Unit
 | [] => .map []
 | x :: l => (datum l).put (M.lit x.1) (M.dat x.2)
def look (l : List (κ × ν)) (x : κ) : ν := match l.find? fun y => decide (y.1 = x) with | some y => y.2 | none => M.zero
def met (l : List (κ × ν)) (x : κ) : Bool := l.any fun y => decide (y.1 = x)
structure Is (w : World) (b : Nat) (l : List (κ × ν)) : Prop where
 ok : ∀ y ∈ l, M.okK y.1 ∧ M.okV y.2
 own : w.ownsMap P M.k M.R b l.length (M.datum l)
theorem datum_isMap : ∀ l : List (κ × ν), IsMap (M.datum l)
 | [] => Go.Maps.isMap_empty
 | x :: l => (datum_isMap l).put _ _
theorem lit_ne {x y : κ} (hx : M.okK x) (hy : M.okK y) (h : x ≠ y) : M.lit x ≠ M.lit y := fun e =>
 h (M.inj _ _ (M.law.inj (M.hkey x hx) (by rw [M.hkey y hy, e])))
theorem has_datum {x : κ} (hx : M.okK x) : ∀ (l : List (κ × ν)), (∀ y ∈ l, M.okK y.1 ∧ M.okV y.2) → Go.Maps.has (M.datum l) (M.lit x) = met l x
 | [], _ => rfl
 | y :: l, h => by
  have ih := has_datum hx l (fun z hz => h z (List.mem_cons_of_mem _ hz))
  have hy := (h y List.mem_cons_self).1
  unfold met at ih ⊢
  rw [List.any_cons, ← ih]
  by_cases e : y.1 = x
  ·rw [decide_eq_true e, Bool.true_or]
   show Go.Maps.has ((M.datum l).put (M.lit y.1) (M.dat y.2)) (M.lit x) = true
   rw [e]
   exact Go.Maps.has_put_same (M.datum_isMap l) (M.law.key (M.hkey x hx)) _
  ·rw [decide_eq_false e, Bool.false_or]
   exact Go.Maps.has_put_other (M.lit_ne hx hy (fun q => e q.symm)) _
variable {M} {w : World} {b : Nat} {l : List (κ × ν)}
theorem Is.made (w : World) : M.Is (w.alloc (.map #[] 0)) w.heap.size [] := ⟨fun _ h => (List.not_mem_nil h).elim, World.ownsMap_made _ _ _ _⟩
theorem Is.lt (h : M.Is w b l) : b < w.heap.size := h.own.lt
theorem Is.kept {w' : World} {row : Option Nat} (h : M.Is w b l) (hg : w.grownBy w' row) (hne : some b ≠ row) : M.Is w' b l := ⟨h.ok, h.own.kept hg hne⟩
theorem Is.alloc (h : M.Is w b l) (o : Obj) : M.Is (w.alloc o) b l := ⟨h.ok, h.own.alloc o⟩
theorem Is.setCell (h : M.Is w b l) {a : Addr} (ha : b ≠ a.block) (u : Value) : M.Is (w.setCell a u) b l := ⟨h.ok, h.own.setCell ha u⟩
theorem Is.qDB {w' : World} (h : M.Is w b l) (e : w'.heap[b]? = w.heap[b]?) : M.Is w' b l := by
 obtain ⟨es, clock, hb, r⟩ := h.own
 exact ⟨h.ok, es, clock, by rw [e, hb], r⟩
theorem Is.run_put (h : M.Is w b l) (hn : l.length < maxLen) {x : κ} (hx : M.okK x) {v : ν} (hv : M.okV v) : ∃ w', (Instr.mapUpdate M.t (.map (some b)) (M.key x) (M.val v)).run P w = .ok () w' ∧ M.Is w' b ((x, v) :: l) ∧ w.grownBy w' (some b) := by
 obtain ⟨w', hrun, h1, h2⟩ := h.own.update M.law M.ht hn (M.hkey x hx) (M.hval v hv)
 refine ⟨w', hrun, ⟨fun y hy => ?_, h1⟩, h2⟩
 rcases List.mem_cons.1 hy with rfl | hy
 ·exact ⟨hx, hv⟩
 ·exact h.ok y hy
variable {ops : Array Oper} {rest : List Oper} {o : Oper} {a : Act} {Q : Exit → Act → World → Prop}
end MapKit
theorem elem_bool {P : Program} {e : TypeId} (he : P.underlying e = some .bool) : (∀ v : Bool, True → plainElem (H := Unit) P e (.bool v) = some (.lit (.bool v), [])) ∧ ∀ (v : Bool) (u : Value) ps, plainElem (H := Unit) P e u = some (.lit (.bool v), ps) → u = .bool v := by
 refine ⟨fun v _ => plainElem_bool he v, fun v u ps h => ?_⟩
 obtain ⟨x, rfl, hz⟩ := plainElem_bool_inv he h
 simp only [Prod.mk.injEq, DataW.lit.injEq, Lit.bool.injEq] at hz
 rw [hz.1]
end Go.Proofs.YtdncpkppkafkpaaDoor
namespace Go.Proofs.YtdncpkppkafkpaaDoor
open Go.RowKit Go.Proofs.YtdncpkppkafkpaaDoorW.PrintWords Go.Proofs.YtdncpkppkafkpaaDoorW.PrintLast
set_option linter.unusedVariables false
set_option linter.unusedSectionVars false
namespace MapKit
variable {P : Program} {κ ν : Type} [DecidableEq κ] {M : MapKit P κ ν} {w w1 : World} {b : Nat} {l : List (κ × ν)}
theorem Is.below (h : M.Is w b l) (hb : Below w.heap.size w w1) : M.Is w1 b l := h.qDB (hb.block b h.lt)
theorem Is.drewN (h : M.Is w b l) (n : Nat) : M.Is (w.drewN n) b l := h.qDB rfl
theorem Is.drew (h : M.Is w b l) : M.Is w.drew b l := h.qDB rfl
theorem Is.obj (h : M.Is w b l) : ∃ es clock, w.heap[b]? = some (.map es clock) := by
 obtain ⟨es, clock, hb, _⟩ := h.own
 exact ⟨es, clock, hb⟩
theorem Is.off (h : M.Is w b l) {k : Nat} {cells : Array Value} {q : TypeId} (hc : w.heap[k]? = some (.cells cells q (0, 0))) : k ≠ b := by
 rintro rfl
 obtain ⟨es, clock, hb⟩ := h.obj
 rw [hb] at hc
 cases hc
theorem Is.ne (h : M.Is w b l) {α : Type} {d : Kd α} {e base : Nat} {ok : Nat → Prop} {v : Value} {xs : List α} (hR : d.R e w base ok v xs) : some b ≠ v.ownBlock := by
 intro he
 obtain ⟨_, _, _, q, _, cells, hc⟩ := (Kd.qrA hR).1 b he.symm
 exact h.off hc rfl
theorem Is.row (h : M.Is w b l) {α : Type} {d : Kd α} {e base : Nat} {ok : Nat → Prop} {v : Value} {xs : List α} (hR : d.R e w base ok v xs) (hg : w.grownBy w1 (some b)) : d.R e w1 base ok v xs :=
 Kd.qj (Kd.qGC (Kd.qrA hR) (fun k hk hlt => hg.block k hlt (fun e_ => by
  injection e_ with e_
  obtain ⟨_, _, _, q, _, cells, hc⟩ := hk
  exact h.off hc e_))) (fun _ hk => hk.1)
end MapKit
end Go.Proofs.YtdncpkppkafkpaaDoor
namespace Go.Proofs.YtdncpkppkafkpaaDoor
open Go Go.ChangeMaps Go.MapKept
open Go.Maps (Keyed IsMap Tidy)
set_option linter.unusedVariables false
set_option linter.unusedSectionVars false
namespace MapKit
variable {P : Program} {κ ν : Type} [DecidableEq κ] (M : MapKit P κ ν)
def count : List (κ × ν) → Nat
 | [] => 0
 | x :: l => if met l x.1 = true then count l else count l + 1
theorem tidy_datum : ∀ l : List (κ × ν), (∀ y ∈ l, M.okK y.1 ∧ M.okV y.2) → Tidy (M.datum l)
 | [], _ => Go.Maps.tidy_empty
 | x :: l, h => (tidy_datum l (fun z hz => h z (List.mem_cons_of_mem _ hz))).put (M.law.key (M.hkey x.1 (h x List.mem_cons_self).1)) _
theorem size_datum : ∀ l : List (κ × ν), (∀ y ∈ l, M.okK y.1 ∧ M.okV y.2) → Go.Maps.size (M.datum l) = count l
 | [], _ => rfl
 | x :: l, h => by
  have hl : ∀ y ∈ l, M.okK y.1 ∧ M.okV y.2 := fun z hz => h z (List.mem_cons_of_mem _ hz)
  have ih := size_datum l hl
  show Go.Maps.size ((M.datum l).put (M.lit x.1) (M.dat x.2)) = _
  rw [Go.Maps.size_put (tidy_datum M l hl), M.has_datum (h x List.mem_cons_self).1 l hl, ih, count]
variable {M}
theorem Is.run_len {w : World} {b : Nat} {l : List (κ × ν)} (h : M.Is w b l) (ty : TypeId) : (Builtin.len_ #[M.t] ty #[.map (some b)]).run P w = .ok (.int .i64 (count l)) w := by
 have := h.own.len M.ht ty
 rw [size_datum M l h.ok] at this
 exact this
end MapKit
end Go.Proofs.YtdncpkppkafkpaaDoor
namespace Go.Proofs.YtdncpkppkafkpaaDoor
open Go Go.ChangeMaps Go.RowKit Go.Proofs.YtdncpkppkafkpaaDoor.P
set_option linter.unusedVariables false
set_option linter.unusedSimpArgs false
theorem keyI (n : Int) (h : (Lit.int .i64 n).wf = true) : keyOf Tryd.prog 3 (.int .i64 n) = some (.int .i64 n) := by
 rw [keyOf_int Tryd.underlying3]
 unfold mapKey
 rw [Tryd.underlying3]
 simp only [h, and_self, if_true]
noncomputable def mapI : MapKit Tryd.prog Int Bool where
 t := 64
 k := 3
 e := 4
 law := Go.Maps.int_keyed Tryd.underlying3
 ht := Tryd.underlying64
 okK := fun n => (Lit.int .i64 n).wf = true
 key := .int .i64
 lit := .int .i64
 hkey := keyI
 inj := fun x y h => by injection h
 okV := fun _ => True
 val := .bool
 dat := fun v => .lit (.bool v)
 R := plainElem Tryd.prog 4
 hval := (elem_bool Tryd.underlying4).1
 hdat := (elem_bool Tryd.underlying4).2
 zero := false
 okz := trivial
 hz := Tryd.zeroValue4
end Go.Proofs.YtdncpkppkafkpaaDoor
namespace Go.Proofs
open Go.Shelf
def Tryd.lays146_ren : Go.Shelf.Ren := ⟨fun | 146 => 46 | 221 => 63 | 268 => 79 | 138 => 80 | 143 => 81 | 195 => 90 | 197 => 83 | 218 => 91 | 219 => 92 | 260 => 93 | 217 => 99 | 225 => 100 | 224 => 101 | 267 => 102 | 266 => 116 | 314 => 117 | n => n, fun | 9 => 9 | 31 => 35 | 3 => 3 | 4 => 4 | 0 => 0 | 105 => 102 | 21 => 21 | 5 => 5 | 46 => 113 | 119 => 115 | 139 => 118 | 138 => 117 | 146 => 133 | 51 => 130 | n => n, fun | 1 => 0 | 3 => 1 | 4 => 2 | n => n⟩
theorem Tryd.lays146 : Go.Proofs.Lays.n146 Tryd.prog Tryd.lays146_ren := {
 mixed := by kernel_rfl
 f138 := Tryd.func80.trans (congrArg some (by kernel_rfl))
 f143 := Tryd.func81.trans (congrArg some (by kernel_rfl))
 f146 := Tryd.func46.trans (congrArg some (by kernel_rfl))
 f195 := Tryd.func90.trans (congrArg some (by kernel_rfl))
 f197 := Tryd.func83.trans (congrArg some (by kernel_rfl))
 f217 := Tryd.func99.trans (congrArg some (by kernel_rfl))
 f218 := Tryd.func91.trans (congrArg some (by kernel_rfl))
 f219 := Tryd.func92.trans (congrArg some (by kernel_rfl))
 f221 := Tryd.func63.trans (congrArg some (by kernel_rfl))
 f224 := Tryd.func101.trans (congrArg some (by kernel_rfl))
 f225 := Tryd.func100.trans (congrArg some (by kernel_rfl))
 f260 := Tryd.func93.trans (congrArg some (by kernel_rfl))
 f266 := Tryd.func116.trans (congrArg some (by kernel_rfl))
 f267 := Tryd.func102.trans (congrArg some (by kernel_rfl))
 f268 := Tryd.func79.trans (congrArg some (by kernel_rfl))
 f314 := Tryd.func117.trans (congrArg some (by kernel_rfl))
 t0 := Tryd.underlying0
 a0 := Tryd.isAgg0
 z0 := Tryd.sizeOf0
 v0 := Tryd.zeroValue0
 t3 := Tryd.underlying3
 a3 := Tryd.isAgg3
 z3 := Tryd.sizeOf3
 v3 := Tryd.zeroValue3
 t4 := Tryd.underlying4
 a4 := Tryd.isAgg4
 z4 := Tryd.sizeOf4
 v4 := Tryd.zeroValue4
 t5 := Tryd.underlying5
 a5 := Tryd.isAgg5
 z5 := Tryd.sizeOf5
 v5 := Tryd.zeroValue5
 t9 := Tryd.underlying9
 a9 := Tryd.isAgg9
 z9 := Tryd.sizeOf9
 v9 := Tryd.zeroValue9
 t21 := Tryd.underlying21
 a21 := Tryd.isAgg21
 z21 := Tryd.sizeOf21
 v21 := Tryd.zeroValue21
 t31 := Tryd.underlying35
 a31 := Tryd.isAgg35
 z31 := Tryd.sizeOf35
 v31 := Tryd.zeroValue35
 t46 := Tryd.underlying113
 a46 := Tryd.isAgg113
 z46 := Tryd.sizeOf113
 v46 := Tryd.zeroValue113
 t51 := Tryd.underlying130
 a51 := Tryd.isAgg130
 z51 := Tryd.sizeOf130
 v51 := Tryd.zeroValue130
 t105 := Tryd.underlying102
 a105 := Tryd.isAgg102
 z105 := Tryd.sizeOf102
 v105 := Tryd.zeroValue102
 t119 := Tryd.underlying115
 a119 := Tryd.isAgg115
 z119 := Tryd.sizeOf115
 t138 := Tryd.underlying117
 a138 := Tryd.isAgg117
 z138 := Tryd.sizeOf117
 v138 := Tryd.zeroValue117
 t139 := Tryd.underlying118
 a139 := Tryd.isAgg118
 z139 := Tryd.sizeOf118
 v139 := Tryd.zeroValue118
 t146 := Tryd.underlying133
 a146 := Tryd.isAgg133
 z146 := Tryd.sizeOf133
 v146 := Tryd.zeroValue133
 g1 := by kernel_rfl
 g3 := by kernel_rfl
 g4 := by kernel_rfl }
open Go.RowKit Go.Lib in
theorem Tryd.strings_Split (s sep : ByteArray) (m : Int) (w : World) (hs : s.size < 4294967281) (hm : w.cell? ⟨0, 0, none⟩ = some (.int .i64 m)) (h1 : 1 ≤ sep.size) :
  Calls Tryd.prog 46 #[.string s, .string sep] w fun e w' =>
   e = .returned (.slice (some ⟨w.heap.size, 0, none⟩) (Lib.countB s sep + 1) (Lib.countB s sep + 1)) ∧ w' = w.alloc (.cells ((Lib.splitB sep 0 (Lib.countB s sep) s).map Value.string).toArray 9) := Any.strings_Split Tryd.lays146 (by kernel_rfl) s sep m w hs hm h1
def Tryd.lays160_ren : Go.Shelf.Ren := ⟨fun | 160 => 47 | 232 => 65 | 231 => 64 | 227 => 66 | 234 => 68 | 233 => 67 | 236 => 70 | 235 => 69 | 228 => 82 | 271 => 85 | 151 => 84 | 197 => 83 | 120 => 95 | 152 => 94 | 260 => 93 | 137 => 103 | 119 => 104 | 224 => 101 | 225 => 100 | 217 => 99 | 266 => 116 | n => n, fun | 9 => 9 | 4 => 4 | 3 => 3 | 5 => 5 | 117 => 86 | 116 => 85 | 0 => 0 | 124 => 89 | 21 => 21 | 105 => 102 | 46 => 113 | 119 => 115 | 139 => 118 | 138 => 117 | n => n, fun | 3 => 1 | 4 => 2 | n => n⟩
theorem Tryd.lays160 : Go.Proofs.Lays.n160 Tryd.prog Tryd.lays160_ren := {
 mixed := by kernel_rfl
 f119 := Tryd.func104.trans (congrArg some (by kernel_rfl))
 f120 := Tryd.func95.trans (congrArg some (by kernel_rfl))
 f137 := Tryd.func103.trans (congrArg some (by kernel_rfl))
 f151 := Tryd.func84.trans (congrArg some (by kernel_rfl))
 f152 := Tryd.func94.trans (congrArg some (by kernel_rfl))
 f160 := Tryd.func47.trans (congrArg some (by kernel_rfl))
 f197 := Tryd.func83.trans (congrArg some (by kernel_rfl))
 f217 := Tryd.func99.trans (congrArg some (by kernel_rfl))
 f224 := Tryd.func101.trans (congrArg some (by kernel_rfl))
 f225 := Tryd.func100.trans (congrArg some (by kernel_rfl))
 f227 := Tryd.func66.trans (congrArg some (by kernel_rfl))
 f228 := Tryd.func82.trans (congrArg some (by kernel_rfl))
 f231 := Tryd.func64.trans (congrArg some (by kernel_rfl))
 f232 := Tryd.func65.trans (congrArg some (by kernel_rfl))
 f233 := Tryd.func67.trans (congrArg some (by kernel_rfl))
 f234 := Tryd.func68.trans (congrArg some (by kernel_rfl))
 f235 := Tryd.func69.trans (congrArg some (by kernel_rfl))
 f236 := Tryd.func70.trans (congrArg some (by kernel_rfl))
 f260 := Tryd.func93.trans (congrArg some (by kernel_rfl))
 f266 := Tryd.func116.trans (congrArg some (by kernel_rfl))
 f271 := Tryd.func85.trans (congrArg some (by kernel_rfl))
 t0 := Tryd.underlying0
 a0 := Tryd.isAgg0
 z0 := Tryd.sizeOf0
 v0 := Tryd.zeroValue0
 t3 := Tryd.underlying3
 a3 := Tryd.isAgg3
 z3 := Tryd.sizeOf3
 v3 := Tryd.zeroValue3
 t4 := Tryd.underlying4
 a4 := Tryd.isAgg4
 z4 := Tryd.sizeOf4
 v4 := Tryd.zeroValue4
 t5 := Tryd.underlying5
 a5 := Tryd.isAgg5
 z5 := Tryd.sizeOf5
 v5 := Tryd.zeroValue5
 t9 := Tryd.underlying9
 a9 := Tryd.isAgg9
 z9 := Tryd.sizeOf9
 v9 := Tryd.zeroValue9
 t21 := Tryd.underlying21
 a21 := Tryd.isAgg21
 z21 := Tryd.sizeOf21
 v21 := Tryd.zeroValue21
 t46 := Tryd.underlying113
 a46 := Tryd.isAgg113
 z46 := Tryd.sizeOf113
 v46 := Tryd.zeroValue113
 t105 := Tryd.underlying102
 a105 := Tryd.isAgg102
 z105 := Tryd.sizeOf102
 v105 := Tryd.zeroValue102
 t116 := Tryd.underlying85
 a116 := Tryd.isAgg85
 z116 := Tryd.sizeOf85
 t117 := Tryd.underlying86
 a117 := Tryd.isAgg86
 z117 := Tryd.sizeOf86
 v117 := Tryd.zeroValue86
 t119 := Tryd.underlying115
 a119 := Tryd.isAgg115
 z119 := Tryd.sizeOf115
 t124 := Tryd.underlying89
 a124 := Tryd.isAgg89
 z124 := Tryd.sizeOf89
 v124 := Tryd.zeroValue89
 t138 := Tryd.underlying117
 a138 := Tryd.isAgg117
 z138 := Tryd.sizeOf117
 v138 := Tryd.zeroValue117
 t139 := Tryd.underlying118
 a139 := Tryd.isAgg118
 z139 := Tryd.sizeOf118
 v139 := Tryd.zeroValue118
 g3 := by kernel_rfl
 g4 := by kernel_rfl }
end Go.Proofs
namespace Go.Proofs.YtdncpkppkafkpaaDoor
open Go.RowKit Go.Proofs.YtdncpkppkafkpaaDoorW.PrintWords Go.Proofs.YtdncpkppkafkpaaDoorW.PrintLast
set_option linter.unusedVariables false
set_option linter.unusedSimpArgs false
def strings_Split.f (a0 a1 : ByteArray) : Option (List ByteArray) := if a0.size < 4294967281 ∧ 1 ≤ a1.size then some (Lib.splitB a1 0 (Lib.countB a0 a1) a0) else none
theorem strings_Split.calls (a0 a1 : ByteArray) (r : List ByteArray) (w : World) (hL : Laid w) (h : strings_Split.f a0 a1 = some r) :
  Calls Tryd.prog 46 #[.string a0, .string a1] w fun e w' => ∃ v0_ : Value, e = .returned v0_ ∧ Kd.R Kd.string 9 w' w.heap.size (fun _ => True) v0_ r ∧ Below w.heap.size w w' := by
 unfold strings_Split.f at h
 split at h
 ·rename_i hs
  obtain rfl := Option.some.inj h
  obtain ⟨m, hm⟩ := hL
  have hlen := Lib.splitB_all a1 hs.2 0 _ a0 rfl
  have hle := Lib.countB_le a1 hs.2 a0.size a0 (Nat.le_refl _)
  refine (Tryd.strings_Split a0 a1 m w hs.1 hm hs.2).mono fun e w' ⟨h1, h2⟩ => ⟨_, h1, ?_, ?_⟩
  ·subst h2
   generalize Lib.splitB a1 0 (Lib.countB a0 a1) a0 = l at *
   rw [← hlen]
   refine Kd.R_of_own ⟨by rw [qSB, Nat.mul_one], .inr ⟨w.heap.size, l.length, (l.map Value.string).toArray, rfl, Nat.le_refl _, ?_, Nat.le_refl _, ?_, ?_, ?_⟩⟩ (fun _ _ => trivial)
   ·exact blk_new _ _
   ·unfold maxLen; omega
   ·simp
   ·simp only [encs, Nat.mul_one]
    rw [List.take_of_length_le (by simp)]
  ·subst h2
   exact qv (Below.refl _ _) _
 ·cases h
def qIA.f (a0 a1 : ByteArray) : Option ByteArray := if a0.size ≤ 9223372036854775807 ∧ a1.size < 4294967281 ∧ (a1.data.toList.all fun b => decide (b.toNat < 128)) = true then some ⟨(Lib.trimS a0.data.toList a1.data.toList).toArray⟩ else none
theorem qIA.calls (a0 a1 : ByteArray) (r : ByteArray) (w : World) (h : qIA.f a0 a1 = some r) :
  Calls Tryd.prog 47 #[.string a0, .string a1] w fun e w' => e = .returned (.string r) ∧ Below w.heap.size w w' := by
 unfold qIA.f at h
 split at h
 ·rename_i hs
  obtain rfl := Option.some.inj h
  exact Any.strings_Trim_laid Tryd.lays160 (by kernel_rfl) a0 a1 w hs.1 hs.2.1 (ascii_of_all hs.2.2)
 ·cases h
theorem Ev.at_ {α : Type} {g : Nat → Option α} {r : α} (n : Nat) (h : ∀ k, g (k + n) = some r) : Ev g r := ⟨n, fun k hk => by
 obtain ⟨m, rfl⟩ : ∃ m, k = m + n := ⟨k - n, by omega⟩
 exact h m⟩
theorem Ev.pos {α : Type} {c : Prop} [Decidable c] {g f : Nat → Option α} {r : α} (hc : c) (h : Ev g r) : Ev (fun k => if c then g k else f k) r := h.congr fun k => if_pos hc
theorem Ev.neg {α : Type} {c : Prop} [Decidable c] {g f : Nat → Option α} {r : α} (hc : ¬ c) (h : Ev f r) : Ev (fun k => if c then g k else f k) r := h.congr fun k => if_neg hc
theorem Ev.some_ {α : Type} {a r : α} (h : a = r) : Ev (fun _ => some a) r := ⟨0, fun _ _ => by rw [h]⟩
theorem Ev.bindc {α β : Type} {o : Option α} {f : Nat → α → Option β} {a : α} {r : β} (h : o = some a) (k : Ev (fun n => f n a) r) : Ev (fun n => o.bind (f n)) r := k.congr fun n => by rw [h]; rfl
def sp (c : UInt8) : List UInt8 → List UInt8 × List (List UInt8)
 | [] => ([], [])
 | b :: r => if b = c then ([], (sp c r).1 :: (sp c r).2) else (b :: (sp c r).1, (sp c r).2)
theorem splitK_sp (c : UInt8) (l : List UInt8) : Lib.splitK [c] 0 (Lib.count l [c]) l = (sp c l).1 :: (sp c l).2 := by
 induction l with
 | nil =>
  have : Lib.count [] [c] = 0 := by rw [Lib.count_one]; rfl
  rw [this]; rfl
 | cons b l ih =>
  by_cases h : b = c
  ·subst h
   have hix : Lib.index (b :: l) [b] = 0 := by rw [Lib.index]; simp [List.isPrefixOf]
   rw [Lib.count_cons_eq, show 1 + Lib.count l [b] = Lib.count l [b] + 1 by omega, Lib.splitK, hix]
   simp only [sp, if_true]
   rw [if_neg (by decide), ← ih]
   rfl
  ·have hp : ([c] : List UInt8).isPrefixOf (b :: l) = false := by simp [List.isPrefixOf, Ne.symm h]
   have hix : Lib.index (b :: l) [c] = if Lib.index l [c] == -1 then -1 else Lib.index l [c] + 1 := by rw [Lib.index, hp]; simp
   rw [Lib.count_cons_ne b c l h]
   simp only [sp, if_neg h]
   by_cases hm : Lib.index l [c] = -1
   ·have h0 : Lib.count l [c] = 0 := Lib.count_miss hm
    rw [h0] at ih ⊢
    simp only [Lib.splitK] at ih ⊢
    injection ih with e1 e2
    rw [← e1, ← e2]
   ·have hge := Lib.index_ge l [c]
    obtain ⟨j, hj⟩ : ∃ j : Nat, Lib.index l [c] = j := ⟨(Lib.index l [c]).toNat, by omega⟩
    have hc := Lib.count_hit (sub := [c]) (by simp) hj
    obtain ⟨k, hk⟩ : ∃ k, Lib.count l [c] = k + 1 := ⟨Lib.count l [c] - 1, by omega⟩
    rw [hk] at ih ⊢
    have hne : ¬ ((j : Int) == -1) = true := by intro e; have := beq_iff_eq.1 e; omega
    have hne' : ¬ ((j : Int) + 1 == -1) = true := by intro e; have := beq_iff_eq.1 e; omega
    rw [Lib.splitK, hj, if_neg hne] at ih
    rw [Lib.splitK, hix, hj, if_neg hne, if_neg hne']
    have e1 : ((j : Int) + 1).toNat = j + 1 := by omega
    rw [e1]
    simp only [Int.toNat_natCast, Nat.add_zero, List.length_singleton] at ih ⊢
    injection ih with i1 i2
    rw [← i1, ← i2]
    rfl
theorem split_sp (a : ByteArray) (c : UInt8) : (Lib.splitB ⟨#[c]⟩ 0 (Lib.countB a ⟨#[c]⟩) a).map (·.data.toList) = (sp c a.data.toList).1 :: (sp c a.data.toList).2 := by
 rw [Lib.splitB_data]
 exact splitK_sp c a.data.toList
theorem qlB (c : UInt8) (l : List UInt8) : l.length = (sp c l).1.length + ((sp c l).2.map List.length).sum + (sp c l).2.length := by
 induction l with
 | nil => rfl
 | cons b l ih =>
  by_cases h : b = c
  ·simp only [sp, if_pos h, List.length_cons, List.length_nil, List.map_cons, List.sum_cons]; omega
  ·simp only [sp, if_neg h, List.length_cons]; omega
theorem sp_all (c : UInt8) (p : UInt8 → Bool) (l : List UInt8) (hp : p c = false) : ((sp c l).1.all p && (sp c l).2.all (·.all p)) = l.all fun b => b == c || p b := by
 induction l with
 | nil => rfl
 | cons b l ih =>
  by_cases h : b = c
  ·subst h
   simp only [sp, if_true, List.all_nil, Bool.true_and, List.all_cons, ih, beq_self_eq_true, Bool.true_or]
  ·have : (b == c) = false := by simpa using h
   simp only [sp, if_neg h, List.all_cons, Bool.and_assoc, ih, this, Bool.false_or]
theorem qaA {p : UInt8 → Bool} {e : UInt8} (he : p e = false) : ∀ l : List UInt8, e ∈ l → e ∈ l.dropWhile p
 | [], h => h
 | b :: l, h => by
  rw [List.dropWhile_cons]
  split
  ·rename_i hb
   rcases List.mem_cons.1 h with rfl | h
   ·rw [he] at hb; cases hb
   ·exact qaA he l h
  ·exact h
theorem dropWhile_all {p : UInt8 → Bool} : ∀ l : List UInt8, l.all p = true → l.dropWhile p = []
 | [], _ => rfl
 | b :: l, h => by
  rw [List.all_cons, Bool.and_eq_true] at h
  rw [List.dropWhile_cons, if_pos h.1]
  exact dropWhile_all l h.2
theorem trimS_nil (l cs : List UInt8) : (Lib.trimS l cs = []) ↔ l.all (cs.contains ·) = true := by
 unfold Lib.trimS Lib.trimLeftS Lib.trimRightS
 constructor
 ·intro h
  rw [List.all_eq_true]
  intro e he
  cases hc : cs.contains e with
  | true => rfl
  | false =>
   have h1 := qaA (p := (cs.contains ·)) (e := e) hc l.reverse (by simpa using he)
   have h2 := qaA (p := (cs.contains ·)) (e := e) hc (l.reverse.dropWhile (cs.contains ·)).reverse (by simpa using h1)
   rw [h] at h2; cases h2
 ·intro h
  rw [dropWhile_all l.reverse (by rw [List.all_reverse]; exact h)]
  rfl
end Go.Proofs.YtdncpkppkafkpaaDoor
namespace Go.Proofs.YtdncpkppkafkpaaDoor.P
open Go.RowKit Go.Proofs.YtdncpkppkafkpaaDoorW.PrintWords Go.Proofs.YtdncpkppkafkpaaDoorW.PrintLast Go.Proofs.YtdncpkppkafkpaaDoorW.PrintMore
attribute [local go_sem] qq qo qAA qz qg qf qp qn
set_option linter.unusedVariables false
set_option linter.unusedSimpArgs false
def qNA.f (a0 : Int) : Option (Bool) := if a0 ≥ 48 then (some (decide (a0 ≤ 57))) else (some false)
set_option maxHeartbeats 8000000 in
set_option maxRecDepth 100000 in
theorem qNA.calls (a0 : Int) (r : Bool) (w : World) (h : qNA.f a0 = some r) :
  Calls Tryd.prog 48 #[.int .u8 a0] w fun e w' => e = .returned (.bool r) ∧ Drawn0 w w' := by
 have H : (if a0 ≥ 48 then (some (decide (a0 ≤ 57))) else (some false)) = some r := h
 clear h
 by_cases c2 : a0 ≥ 48
 ·rw [if_pos c2] at H
  have c2b0 : decide (48 ≤ a0) = true := decide_eq_true c2
  clear c2
  obtain rfl := Option.some.inj H
  go_enter Tryd.func48, Tryd.ntmps48
  go_wp2
  go_ret
  exact ⟨by first | rfl | (simp; done) | (simp [*]; done), by repeat (first | exact Drawn0.refl _ | apply Drawn0.step)⟩
 ·rw [if_neg c2] at H
  have c2b0 : decide (48 ≤ a0) = false := decide_eq_false c2
  clear c2
  obtain rfl := Option.some.inj H
  go_enter Tryd.func48, Tryd.ntmps48
  go_wp2
  go_ret
  exact ⟨by first | rfl | (simp; done) | (simp [*]; done), by repeat (first | exact Drawn0.refl _ | apply Drawn0.step)⟩
def qkA.f  : Option (Int × Int × Int × Int × Int × Int) := some (0, 1, 2, 3, 4, 5)
set_option maxHeartbeats 8000000 in
set_option maxRecDepth 100000 in
theorem qkA.calls  (r1 : Int) (r2 : Int) (r3 : Int) (r4 : Int) (r5 : Int) (r6 : Int) (w : World) (h : qkA.f  = some (r1, r2, r3, r4, r5, r6)) :
  Calls Tryd.prog 52 #[] w fun e w' => e = .returned (.agg #[.int .i64 r1, .int .i64 r2, .int .i64 r3, .int .i64 r4, .int .i64 r5, .int .i64 r6]) ∧ Below w.heap.size w w' := by
 have hu31 := Tryd.underlying31
 have HB := Aside0.mk (Below.refl w.heap.size w)
 have H : (some (0, 1, 2, 3, 4, 5)) = some (r1, r2, r3, r4, r5, r6) := h
 clear h
 simp only [Option.some.injEq, Prod.mk.injEq] at H
 obtain ⟨rfl, rfl, rfl, rfl, rfl, rfl⟩ := H
 go_enter Tryd.func52, Tryd.ntmps52
 go_wp2_with (first | ((with_reducible refine qW (N := 0) rfl ?_); refine qU ?hg (N := 0) ?hd (cs := #[.int .i64 0, .int .i64 0, .int .i64 0, .int .i64 0, .int .i64 0, .int .i64 0]) (t := 31) ?hr ?_; (case hd => rfl); (case hg => rfl); (case hr => first | (go_simp; done) | (go_simp; rfl)); intro gb161 hg w1 hbox hb; have n0_ := Aside0.mk (qL bl hb); have n1_ := Aside0.mk (hbox); have n2_ := Aside0.mk ((gg hg)); have n3_ := Aside0.mk ((gg hg)); clear HB; have HB := n0_; have BK161 := n1_; have GW161 := n2_; have GE161 := n3_; clear n0_ n1_ n2_ n3_; clear hb hbox hg; have hcz2_0 := bc BK161 0; have hcz2_1 := bc BK161 1; have hcz2_2 := bc BK161 2; have hcz2_3 := bc BK161 3; have hcz2_4 := bc BK161 4; have hcz2_5 := bc BK161 5; have hfz2_0 := qA BK161.out 0; have hfz2_1 := qA BK161.out 1; have hfz2_2 := qA BK161.out 2; have hfz2_3 := qA BK161.out 3; have hfz2_4 := qA BK161.out 4; have hfz2_5 := qA BK161.out 5))
 refine bodyPost_ret (results_cell_row rfl _ _ gb161 31 #[.int .i64 0, .int .i64 1, .int .i64 2, .int .i64 3, .int .i64 4, .int .i64 5] (0, 0) _ rfl (by (with_reducible repeat (first | refine qD ?_ _ | refine qE ?_ | refine qC ?_ _)); refine qR (cs := #[.int .i64 0, .int .i64 1, .int .i64 2, .int .i64 3, .int .i64 4, .int .i64 0]) ?_ 5 _ rfl; (with_reducible repeat (first | refine qD ?_ _ | refine qE ?_ | refine qC ?_ _)); refine qR (cs := #[.int .i64 0, .int .i64 1, .int .i64 2, .int .i64 3, .int .i64 0, .int .i64 0]) ?_ 4 _ rfl; (with_reducible repeat (first | refine qD ?_ _ | refine qE ?_ | refine qC ?_ _)); refine qR (cs := #[.int .i64 0, .int .i64 1, .int .i64 2, .int .i64 0, .int .i64 0, .int .i64 0]) ?_ 3 _ rfl; (with_reducible repeat (first | refine qD ?_ _ | refine qE ?_ | refine qC ?_ _)); refine qR (cs := #[.int .i64 0, .int .i64 1, .int .i64 0, .int .i64 0, .int .i64 0, .int .i64 0]) ?_ 2 _ rfl; (with_reducible repeat (first | refine qD ?_ _ | refine qE ?_ | refine qC ?_ _)); refine qR (cs := #[.int .i64 0, .int .i64 0, .int .i64 0, .int .i64 0, .int .i64 0, .int .i64 0]) ?_ 1 _ rfl; (with_reducible repeat (first | refine qD ?_ _ | refine qE ?_ | refine qC ?_ _)); refine qR (cs := #[.int .i64 0, .int .i64 0, .int .i64 0, .int .i64 0, .int .i64 0, .int .i64 0]) ?_ 0 _ rfl; (with_reducible repeat (first | refine qD ?_ _ | refine qE ?_ | refine qC ?_ _)); exact BK161.out) Tryd.underlying31 rfl (by kernel_rfl)) rfl ?_
 exact ⟨by first | rfl | (simp [qN, qM] <;> rfl) | (simp [*, qN, qM] <;> rfl), bl⟩
theorem eqA61 (d : Nat) (w : World) (x0 y0 : Int) (x1 y1 : Int) :
  (Op.equalIn (d + 2) 61 (.agg #[.int .i64 x0, .int .i64 x1]) (.agg #[.int .i64 y0, .int .i64 y1])).run Tryd.prog w = .ok (x0 == y0 && (x1 == y1)) w := by
 have e : ∀ a b : Int, (Op.equalIn (d + 1) 3 (.int .i64 a) (.int .i64 b)).run Tryd.prog w = .ok (a == b) w := fun a b => run_equalIn_int (P := Tryd.prog) w d 3 .i64 .i64 a b Tryd.underlying3
 have p0 : ∀ a0 a1 : Int, (part 3 #[.int .i64 a0, .int .i64 a1] 0).run Tryd.prog w = .ok (.int .i64 a0) w := fun a0 a1 => by go_simp; try rfl
 have p1 : ∀ a0 a1 : Int, (part 3 #[.int .i64 a0, .int .i64 a1] 1).run Tryd.prog w = .ok (.int .i64 a1) w := fun a0 a1 => by go_simp; try rfl
 have hs : (Go.sizeOf 3).run Tryd.prog w = .ok 1 w := by go_simp; try rfl
 have hr : List.range' 0 2 = [0, 1] := by decide
 rw [Op.equalIn]
 simp only [Sem.run_bind, run_underlying Tryd.underlying61, Result.andThen_ok, hs]
 simp only [Std.Legacy.Range.forIn_eq_forIn_range', Std.Legacy.Range.size]
 simp [hr, List.forIn_cons, p0, p1, e, Sem.run_bind, Sem.run_ite]
 by_cases h0 : x0 = y0 <;> by_cases h1 : x1 = y1 <;> simp [h0, h1]
end Go.Proofs.YtdncpkppkafkpaaDoor.P
namespace Go.Proofs.YtdncpkppkafkpaaDoor.P
open Go.RowKit Go.Proofs.YtdncpkppkafkpaaDoorW.PrintWords Go.Proofs.YtdncpkppkafkpaaDoorW.PrintLast Go.Proofs.YtdncpkppkafkpaaDoorW.PrintMore
attribute [local go_sem] qq qo qAA qz qg qf qp qn
set_option linter.unusedVariables false
set_option linter.unusedSimpArgs false
attribute [local go_sem high] eqA61
def qJ.l0 : Nat → List (S61) → Int → Int → Int → Int → Option (Int)
 | 0, _, _, _, _, _ => none
 | k + 1, x0, x7, x8, x163000, x163001 => if x8 < x7 then (if 0 ≤ x8 then (if x8 < (x0.length : Int) then (if (x163000 == ((ql x0 x8).f0) && (x163001 == ((ql x0 x8).f1))) = true then (some x8) else (qJ.l0 k x0 x7 (wrap64 (x8 + 1)) x163000 x163001)) else (none)) else (none)) else (some (-1))
def qJ.f (k : Nat) (l0 : List (S61)) (a1_0 : Int) (a1_1 : Int) : Option (Int) := qJ.l0 k l0 (l0.length : Int) 0 a1_0 a1_1
set_option maxHeartbeats 8000000 in
set_option maxRecDepth 100000 in
theorem qJ.calls (k : Nat) (A0 : Option Addr) (c0 : Nat) (l0 : List (S61)) (a1_0 : Int) (a1_1 : Int) (r : Int) (w : World) (hr0 : Kd.C k61 w A0 l0.length l0) (hc0 : l0.length ≤ c0) (h : qJ.f k l0 a1_0 a1_1 = some r) :
  Calls Tryd.prog 77 #[.slice A0 l0.length c0, .agg #[.int .i64 a1_0, .int .i64 a1_1]] w fun e w' => e = .returned (.int .i64 r) ∧ Below w.heap.size w w' := by
 have hu61 := Tryd.underlying61
 have HR0 := Aside0.mk hr0
 have HC0 := Aside0.mk hc0
 clear hr0 hc0
 have HB := Aside0.mk (Below.refl w.heap.size w)
 have H : (qJ.l0 k l0 (l0.length : Int) 0 a1_0 a1_1) = some r := h
 clear h
 have H' := Aside0.mk H
 clear H
 go_enter Tryd.func77, Tryd.ntmps77
 go_wp2_with (first | ((with_reducible refine qW (N := 3) rfl ?_); refine qU ?hg (N := 3) ?hd (cs := #[.int .i64 a1_0, .int .i64 a1_1]) (t := 61) ?hr ?_; (case hd => rfl); (case hg => rfl); (case hr => first | (go_simp; done) | (go_simp; rfl)); intro gb162 hg w3 hbox hb; have n0_ := Aside0.mk (qL bl hb); have n1_ := Aside0.mk (hbox); have n2_ := Aside0.mk ((gg hg)); have n3_ := Aside0.mk ((gg hg)); clear HB; have HB := n0_; have BK162 := n1_; have GW162 := n2_; have GE162 := n3_; clear n0_ n1_ n2_ n3_; clear hb hbox hg))
 repeat (go_quiet (first | ((with_reducible refine qW (N := 3) rfl ?_); refine qU ?hg (N := 3) ?hd (cs := #[.int .i64 a1_0, .int .i64 a1_1]) (t := 61) ?hr ?_; (case hd => rfl); (case hg => rfl); (case hr => first | (go_simp; done) | (go_simp; rfl)); intro gb162 hg w3 hbox hb; have n0_ := Aside0.mk (qL bl hb); have n1_ := Aside0.mk (hbox); have n2_ := Aside0.mk ((gg hg)); have n3_ := Aside0.mk ((gg hg)); clear HB; have HB := n0_; have BK162 := n1_; have GW162 := n2_; have GE162 := n3_; clear n0_ n1_ n2_ n3_; clear hb hbox hg)); try go_wp2_with (first | ((with_reducible refine qW (N := 3) rfl ?_); refine qU ?hg (N := 3) ?hd (cs := #[.int .i64 a1_0, .int .i64 a1_1]) (t := 61) ?hr ?_; (case hd => rfl); (case hg => rfl); (case hr => first | (go_simp; done) | (go_simp; rfl)); intro gb162 hg w3 hbox hb; have n0_ := Aside0.mk (qL bl hb); have n1_ := Aside0.mk (hbox); have n2_ := Aside0.mk ((gg hg)); have n3_ := Aside0.mk ((gg hg)); clear HB; have HB := n0_; have BK162 := n1_; have GW162 := n2_; have GE162 := n3_; clear n0_ n1_ n2_ n3_; clear hb hbox hg)))
 go_loopg [8] k (fun kq v8 w' => ∃ (x8_1 : Int), v8 = .int .i64 x8_1 ∧ Aside0 (qJ.l0 kq l0 (l0.length : Int) x8_1 a1_0 a1_1 = some r) ∧ Aside0 (kq ≤ k) ∧ Aside0 (w'.heap[gb162]? = some (.cells #[.int .i64 a1_0, .int .i64 a1_1] 61 (0, 0))) ∧ Aside0 (Below w.heap.size w w'))
 case atStart => exact ⟨(0), (by first | rfl | (simp; done) | (simp [*]; done)), H', ⟨Nat.le_refl _⟩, ⟨by (with_reducible repeat (first | refine qD ?_ _ | refine qE ?_ | refine qC ?_ _)); exact BK162.out⟩, ⟨bl⟩⟩
 case round =>
  clear H'
  try clear p2
  obtain ⟨x8_1, rfl, HA, HK1, BK162, HB⟩ := hrel
  cases gk with
  | zero => exact absurd HA.out (by simp [qJ.l0])
  | succ k1 =>
   have H := HA.out
   clear HA
   simp only [qJ.l0] at H
   by_cases c4 : x8_1 < (l0.length : Int)
   ·rw [if_pos c4] at H
    have c4b0 : decide (x8_1 < (l0.length : Int)) = true := decide_eq_true c4
    clear c4
    by_cases c5 : 0 ≤ x8_1
    ·rw [if_pos c5] at H
     have c5b0 : decide (0 ≤ x8_1) = true := decide_eq_true c5
     clear c5
     by_cases c6 : x8_1 < (l0.length : Int)
     ·rw [if_pos c6] at H
      have c6b0 : decide (x8_1 < (l0.length : Int)) = true := decide_eq_true c6
      clear c6
      by_cases c7 : (a1_0 == ((ql l0 x8_1).f0) && (a1_1 == ((ql l0 x8_1).f1))) = true
      ·rw [if_pos c7] at H
       have c7b0 : (a1_0 == ((ql l0 x8_1).f0) && (a1_1 == ((ql l0 x8_1).f1))) = true := c7
       (try (have c7b1 : decide (a1_0 = ((ql l0 x8_1).f0) && (a1_1 == ((ql l0 x8_1).f1))) = true := by simpa using c7))
       (try (have c7b2 : (a1_0 == ((ql l0 x8_1).f0) && (a1_1 == ((ql l0 x8_1).f1))) = true := by simpa using c7))
       clear c7
       obtain rfl := Option.some.inj H
       have hcz8_0 := bc BK162 0
       have hcz8_1 := bc BK162 1
       have hfz8_0 := qA BK162.out 0
       have hfz8_1 := qA BK162.out 1
       have p163 : 0 ≤ (x8_1 : Int) := of_decide_eq_true (by first | (with_reducible assumption) | assumption)
       have q163 : x8_1 < (l0.length : Int) := of_decide_eq_true (by first | (with_reducible assumption) | assumption)
       obtain ⟨ad163, e163, hx163_0, hx163_1⟩ := qiB HR0.out x8_1 p163 q163
       cases e163
       replace hx163_0 := (HB.out.cell (World.block_lt_of_cell? w _ hx163_0)).trans hx163_0
       replace hx163_1 := (HB.out.cell (World.block_lt_of_cell? w _ hx163_1)).trans hx163_1
       replace p163 := eq_true p163
       replace q163 := eq_true q163
       go_wp2
       repeat (go_quiet (fail); try go_wp2)
       go_ret
       exact ⟨by first | rfl | (simp [qN, qM] <;> rfl) | (simp [*, qN, qM] <;> rfl), bl⟩
      ·rw [if_neg c7] at H
       have c7b0 : (a1_0 == ((ql l0 x8_1).f0) && (a1_1 == ((ql l0 x8_1).f1))) = false := by simpa using c7
       (try (have c7b1 : decide (a1_0 = ((ql l0 x8_1).f0) && (a1_1 == ((ql l0 x8_1).f1))) = false := by simpa using c7))
       (try (have c7b2 : (a1_0 == ((ql l0 x8_1).f0) && (a1_1 == ((ql l0 x8_1).f1))) = false := by simpa using c7))
       (try (have c7b3 : ¬ (a1_0 = ((ql l0 x8_1).f0) && (a1_1 == ((ql l0 x8_1).f1))) := by simpa using c7))
       clear c7
       have H' := Aside0.mk H
       clear H
       have hcz9_0 := bc BK162 0
       have hcz9_1 := bc BK162 1
       have hfz9_0 := qA BK162.out 0
       have hfz9_1 := qA BK162.out 1
       have p163 : 0 ≤ (x8_1 : Int) := of_decide_eq_true (by first | (with_reducible assumption) | assumption)
       have q163 : x8_1 < (l0.length : Int) := of_decide_eq_true (by first | (with_reducible assumption) | assumption)
       obtain ⟨ad163, e163, hx163_0, hx163_1⟩ := qiB HR0.out x8_1 p163 q163
       cases e163
       replace hx163_0 := (HB.out.cell (World.block_lt_of_cell? w _ hx163_0)).trans hx163_0
       replace hx163_1 := (HB.out.cell (World.block_lt_of_cell? w _ hx163_1)).trans hx163_1
       replace p163 := eq_true p163
       replace q163 := eq_true q163
       go_wp2
       repeat (go_quiet (fail); try go_wp2)
       go_roundg k1
       case measure => have := HK1.out; omega
       case rel => exact ⟨(wrap64 (x8_1 + 1)), (by first | rfl | (simp; done) | (simp [*]; done)), H', ⟨by have := HK1.out; omega⟩, ⟨by (with_reducible repeat (first | refine qD ?_ _ | refine qE ?_ | refine qC ?_ _)); exact BK162.out⟩, ⟨bl⟩⟩
     ·rw [if_neg c6] at H
      exact absurd H (by simp)
    ·rw [if_neg c5] at H
     exact absurd H (by simp)
   ·rw [if_neg c4] at H
    have c4b0 : decide (x8_1 < (l0.length : Int)) = false := decide_eq_false c4
    clear c4
    obtain rfl := Option.some.inj H
    go_wp2
    repeat (go_quiet (fail); try go_wp2)
    go_ret
    exact ⟨by first | rfl | (simp [qN, qM] <;> rfl) | (simp [*, qN, qM] <;> rfl), bl⟩
end Go.Proofs.YtdncpkppkafkpaaDoor.P
namespace Go.Proofs.YtdncpkppkafkpaaDoor.P
open Go.RowKit Go.Proofs.YtdncpkppkafkpaaDoorW.PrintWords Go.Proofs.YtdncpkppkafkpaaDoorW.PrintLast Go.Proofs.YtdncpkppkafkpaaDoorW.PrintMore
attribute [local go_sem] qq qo qAA qz qg qf qp qn
set_option linter.unusedVariables false
set_option linter.unusedSimpArgs false
def qt.f (k : Nat) (l0 : List (S61)) (a1 : Int) (a2 : Int) : Option (Int) := (qJ.f k l0 a1 a2).bind fun t164 => (some t164)
set_option maxHeartbeats 8000000 in
set_option maxRecDepth 100000 in
theorem qt.calls (k : Nat) (A0 : Option Addr) (c0 : Nat) (l0 : List (S61)) (a1 : Int) (a2 : Int) (r : Int) (w : World) (hr0 : Kd.C k61 w A0 l0.length l0) (hc0 : l0.length ≤ c0) (h : qt.f k l0 a1 a2 = some r) :
  Calls Tryd.prog 53 #[.slice A0 l0.length c0, .int .i64 a1, .int .i64 a2] w fun e w' => e = .returned (.int .i64 r) ∧ Below w.heap.size w w' := by
 have hu61 := Tryd.underlying61
 have HR0 := Aside0.mk hr0
 have HC0 := Aside0.mk hc0
 clear hr0 hc0
 have HB := Aside0.mk (Below.refl w.heap.size w)
 have H : ((qJ.f k l0 a1 a2).bind fun t164 => (some t164)) = some r := h
 clear h
 replace H := Option.bind_eq_some_iff.mp H
 obtain ⟨t164, A40, H⟩ := H
 replace H : (some t164) = some r := H
 have A4 := Aside0.mk A40
 clear A40
 obtain rfl := Option.some.inj H
 go_enter Tryd.func53, Tryd.ntmps53
 go_wp2_with (first | ((with_reducible refine qd (f := 77) rfl ?_); refine qSA (some 11) rfl rfl Tryd.func77 (by kernel_rfl) rfl #[.slice A0 l0.length c0, .agg #[.int .i64 a1, .int .i64 a2]] rfl (by (try simp only [List.map_toArray, List.map_cons, List.map_nil]); first | done | rfl | (simp only [List.length_drop, List.length_take]; rfl)) ?_; (with_reducible refine (qJ.calls k _ _ l0 a1 a2 t164 _ ?side1 ?side2 A4.out).mono ?_); (case side1 => repeat (first | exact HR0.out | (with_reducible refine Kd.qZA ?_ _) | (with_reducible refine Kd.qXA ?_ _) | (with_reducible refine Kd.qtA ?_))); (case side2 => exact HC0.out); rintro e w5 ⟨rfl, hb⟩; refine ⟨_, rfl, ?_⟩; have n0_ := Aside0.mk (qL bl hb); clear HB; have HB := n0_; clear n0_; (try clear hb); (try clear hb2); (try clear hk); (try clear hi)))
 go_ret
 exact ⟨by first | rfl | (simp [qN, qM] <;> rfl) | (simp [*, qN, qM] <;> rfl), bl⟩
def qVA.f (a0 : Int) (a1 : Int) (a2 : Int) : Option (Int × Int) := if a2 = 110 then (some (a0, wrap64 (a1 - 1))) else (if a2 = 101 then (some (wrap64 (a0 + 1), a1)) else (if a2 = 115 then (some (a0, wrap64 (a1 + 1))) else (some (wrap64 (a0 - 1), a1))))
set_option maxHeartbeats 8000000 in
set_option maxRecDepth 100000 in
theorem qVA.calls (a0 : Int) (a1 : Int) (a2 : Int) (r1 : Int) (r2 : Int) (w : World) (h : qVA.f a0 a1 a2 = some (r1, r2)) :
  Calls Tryd.prog 54 #[.int .i64 a0, .int .i64 a1, .int .u8 a2] w fun e w' => e = .returned (.tuple #[.int .i64 r1, .int .i64 r2]) ∧ Drawn0 w w' := by
 have H : (if a2 = 110 then (some (a0, wrap64 (a1 - 1))) else (if a2 = 101 then (some (wrap64 (a0 + 1), a1)) else (if a2 = 115 then (some (a0, wrap64 (a1 + 1))) else (some (wrap64 (a0 - 1), a1))))) = some (r1, r2) := h
 clear h
 by_cases c4 : a2 = 110
 ·rw [if_pos c4] at H
  have c4b0 : (a2 == 110) = true := beq_iff_eq.mpr c4
  have c4b1 : (a2 != 110) = false := bne_eq_false_iff_eq.mpr c4
  clear c4
  simp only [Option.some.injEq, Prod.mk.injEq] at H
  obtain ⟨rfl, rfl⟩ := H
  go_enter Tryd.func54, Tryd.ntmps54
  go_wp2
  go_ret2
  exact ⟨by first | rfl | (simp; done) | (simp [*]; done), by repeat (first | exact Drawn0.refl _ | apply Drawn0.step)⟩
 ·rw [if_neg c4] at H
  have c4b0 : (a2 == 110) = false := beq_eq_false_iff_ne.mpr c4
  have c4b1 : (a2 != 110) = true := bne_iff_ne.mpr c4
  by_cases c5 : a2 = 101
  ·rw [if_pos c5] at H
   have c5b0 : (a2 == 101) = true := beq_iff_eq.mpr c5
   have c5b1 : (a2 != 101) = false := bne_eq_false_iff_eq.mpr c5
   clear c5
   simp only [Option.some.injEq, Prod.mk.injEq] at H
   obtain ⟨rfl, rfl⟩ := H
   go_enter Tryd.func54, Tryd.ntmps54
   go_wp2
   go_ret2
   exact ⟨by first | rfl | (simp; done) | (simp [*]; done), by repeat (first | exact Drawn0.refl _ | apply Drawn0.step)⟩
  ·rw [if_neg c5] at H
   have c5b0 : (a2 == 101) = false := beq_eq_false_iff_ne.mpr c5
   have c5b1 : (a2 != 101) = true := bne_iff_ne.mpr c5
   by_cases c6 : a2 = 115
   ·rw [if_pos c6] at H
    have c6b0 : (a2 == 115) = true := beq_iff_eq.mpr c6
    have c6b1 : (a2 != 115) = false := bne_eq_false_iff_eq.mpr c6
    clear c6
    simp only [Option.some.injEq, Prod.mk.injEq] at H
    obtain ⟨rfl, rfl⟩ := H
    go_enter Tryd.func54, Tryd.ntmps54
    go_wp2
    go_ret2
    exact ⟨by first | rfl | (simp; done) | (simp [*]; done), by repeat (first | exact Drawn0.refl _ | apply Drawn0.step)⟩
   ·rw [if_neg c6] at H
    have c6b0 : (a2 == 115) = false := beq_eq_false_iff_ne.mpr c6
    have c6b1 : (a2 != 115) = true := bne_iff_ne.mpr c6
    simp only [Option.some.injEq, Prod.mk.injEq] at H
    obtain ⟨rfl, rfl⟩ := H
    go_enter Tryd.func54, Tryd.ntmps54
    go_wp2
    go_ret2
    exact ⟨by first | rfl | (simp; done) | (simp [*]; done), by repeat (first | exact Drawn0.refl _ | apply Drawn0.step)⟩
def qu.f (a0_0 : Int) (a0_1 : Int) (a0_2 : Int) (a0_3 : Int) (a0_4 : Int) (a0_5 : Int) (a1 : Int) : Option (Int × Int × Int × Int × Int × Int) := if a1 = 110 then (some (a0_3, a0_0, a0_2, a0_5, a0_4, a0_1)) else (if a1 = 101 then (some (a0_4, a0_1, a0_0, a0_3, a0_5, a0_2)) else (if a1 = 115 then (some (a0_1, a0_5, a0_2, a0_0, a0_4, a0_3)) else (some (a0_2, a0_1, a0_5, a0_3, a0_0, a0_4))))
set_option maxHeartbeats 8000000 in
set_option maxRecDepth 100000 in
theorem qu.calls (a0_0 : Int) (a0_1 : Int) (a0_2 : Int) (a0_3 : Int) (a0_4 : Int) (a0_5 : Int) (a1 : Int) (r1 : Int) (r2 : Int) (r3 : Int) (r4 : Int) (r5 : Int) (r6 : Int) (w : World) (h : qu.f a0_0 a0_1 a0_2 a0_3 a0_4 a0_5 a1 = some (r1, r2, r3, r4, r5, r6)) :
  Calls Tryd.prog 55 #[.agg #[.int .i64 a0_0, .int .i64 a0_1, .int .i64 a0_2, .int .i64 a0_3, .int .i64 a0_4, .int .i64 a0_5], .int .u8 a1] w fun e w' => e = .returned (.agg #[.int .i64 r1, .int .i64 r2, .int .i64 r3, .int .i64 r4, .int .i64 r5, .int .i64 r6]) ∧ Below w.heap.size w w' := by
 have hu31 := Tryd.underlying31
 have HB := Aside0.mk (Below.refl w.heap.size w)
 have H : (if a1 = 110 then (some (a0_3, a0_0, a0_2, a0_5, a0_4, a0_1)) else (if a1 = 101 then (some (a0_4, a0_1, a0_0, a0_3, a0_5, a0_2)) else (if a1 = 115 then (some (a0_1, a0_5, a0_2, a0_0, a0_4, a0_3)) else (some (a0_2, a0_1, a0_5, a0_3, a0_0, a0_4))))) = some (r1, r2, r3, r4, r5, r6) := h
 clear h
 by_cases c3 : a1 = 110
 ·rw [if_pos c3] at H
  have c3b0 : (a1 == 110) = true := beq_iff_eq.mpr c3
  have c3b1 : (a1 != 110) = false := bne_eq_false_iff_eq.mpr c3
  clear c3
  simp only [Option.some.injEq, Prod.mk.injEq] at H
  obtain ⟨rfl, rfl, rfl, rfl, rfl, rfl⟩ := H
  go_enter Tryd.func55, Tryd.ntmps55
  go_wp2_with (first | ((with_reducible refine qW (N := 2) rfl ?_); refine qU ?hg (N := 2) ?hd (cs := #[.int .i64 a0_0, .int .i64 a0_1, .int .i64 a0_2, .int .i64 a0_3, .int .i64 a0_4, .int .i64 a0_5]) (t := 31) ?hr ?_; (case hd => rfl); (case hg => rfl); (case hr => first | (go_simp; done) | (go_simp; rfl)); intro gb165 hg w4 hbox hb; have n0_ := Aside0.mk (qL bl hb); have n1_ := Aside0.mk (hbox); have n2_ := Aside0.mk ((gg hg)); have n3_ := Aside0.mk ((gg hg)); clear HB; have HB := n0_; have BK165 := n1_; have GW165 := n2_; have GE165 := n3_; clear n0_ n1_ n2_ n3_; clear hb hbox hg) | ((with_reducible refine qW (N := 4) rfl ?_); refine qU ?hg (N := 4) ?hd (cs := #[.int .i64 0, .int .i64 0, .int .i64 0, .int .i64 0, .int .i64 0, .int .i64 0]) (t := 31) ?hr ?_; (case hd => rfl); (case hg => rfl); (case hr => first | (go_simp; done) | (go_simp; rfl)); intro gb166 hg w5 hbox hb; have n0_ := Aside0.mk (bb BK165 hb); have n1_ := Aside0.mk (qL bl hb); have n2_ := Aside0.mk (hbox); have n3_ := Aside0.mk ((gg hg)); have n4_ := Aside0.mk ((gg hg)); have n5_ := Aside0.mk ((nl BK165 hg)); have n6_ := Aside0.mk ((nr BK165 hg)); clear BK165; clear HB; have BK165 := n0_; have HB := n1_; have BK166 := n2_; have GW166 := n3_; have GE166 := n4_; have NB165_166 := n5_; have NB166_165 := n6_; clear n0_ n1_ n2_ n3_ n4_ n5_ n6_; clear hb hbox hg; have hnb6 := NB165_166.out; have hnc6 := NB166_165.out; have hcz7_0 := bc BK165 0; have hcz7_1 := bc BK165 1; have hcz7_2 := bc BK165 2; have hcz7_3 := bc BK165 3; have hcz7_4 := bc BK165 4; have hcz7_5 := bc BK165 5; have hfz7_0 := qA BK165.out 0; have hfz7_1 := qA BK165.out 1; have hfz7_2 := qA BK165.out 2; have hfz7_3 := qA BK165.out 3; have hfz7_4 := qA BK165.out 4; have hfz7_5 := qA BK165.out 5; have hcz8_0 := bc BK166 0; have hcz8_1 := bc BK166 1; have hcz8_2 := bc BK166 2; have hcz8_3 := bc BK166 3; have hcz8_4 := bc BK166 4; have hcz8_5 := bc BK166 5; have hfz8_0 := qA BK166.out 0; have hfz8_1 := qA BK166.out 1; have hfz8_2 := qA BK166.out 2; have hfz8_3 := qA BK166.out 3; have hfz8_4 := qA BK166.out 4; have hfz8_5 := qA BK166.out 5))
  refine bodyPost_ret (results_cell_row rfl _ _ gb166 31 #[.int .i64 a0_3, .int .i64 a0_0, .int .i64 a0_2, .int .i64 a0_5, .int .i64 a0_4, .int .i64 a0_1] (0, 0) _ rfl (by (with_reducible repeat (first | refine qD ?_ _ | refine qE ?_ | refine qC ?_ _)); refine qR (cs := #[.int .i64 a0_3, .int .i64 a0_0, .int .i64 a0_2, .int .i64 a0_5, .int .i64 a0_4, .int .i64 0]) ?_ 5 _ rfl; (with_reducible repeat (first | refine qD ?_ _ | refine qE ?_ | refine qC ?_ _)); refine qR (cs := #[.int .i64 a0_3, .int .i64 a0_0, .int .i64 a0_2, .int .i64 a0_5, .int .i64 0, .int .i64 0]) ?_ 4 _ rfl; (with_reducible repeat (first | refine qD ?_ _ | refine qE ?_ | refine qC ?_ _)); refine qR (cs := #[.int .i64 a0_3, .int .i64 a0_0, .int .i64 a0_2, .int .i64 0, .int .i64 0, .int .i64 0]) ?_ 3 _ rfl; (with_reducible repeat (first | refine qD ?_ _ | refine qE ?_ | refine qC ?_ _)); refine qR (cs := #[.int .i64 a0_3, .int .i64 a0_0, .int .i64 0, .int .i64 0, .int .i64 0, .int .i64 0]) ?_ 2 _ rfl; (with_reducible repeat (first | refine qD ?_ _ | refine qE ?_ | refine qC ?_ _)); refine qR (cs := #[.int .i64 a0_3, .int .i64 0, .int .i64 0, .int .i64 0, .int .i64 0, .int .i64 0]) ?_ 1 _ rfl; (with_reducible repeat (first | refine qD ?_ _ | refine qE ?_ | refine qC ?_ _)); refine qR (cs := #[.int .i64 0, .int .i64 0, .int .i64 0, .int .i64 0, .int .i64 0, .int .i64 0]) ?_ 0 _ rfl; (with_reducible repeat (first | refine qD ?_ _ | refine qE ?_ | refine qC ?_ _)); exact BK166.out) Tryd.underlying31 rfl (by kernel_rfl)) rfl ?_
  exact ⟨by first | rfl | (simp [qN, qM] <;> rfl) | (simp [*, qN, qM] <;> rfl), bl⟩
 ·rw [if_neg c3] at H
  have c3b0 : (a1 == 110) = false := beq_eq_false_iff_ne.mpr c3
  have c3b1 : (a1 != 110) = true := bne_iff_ne.mpr c3
  by_cases c9 : a1 = 101
  ·rw [if_pos c9] at H
   have c9b0 : (a1 == 101) = true := beq_iff_eq.mpr c9
   have c9b1 : (a1 != 101) = false := bne_eq_false_iff_eq.mpr c9
   clear c9
   simp only [Option.some.injEq, Prod.mk.injEq] at H
   obtain ⟨rfl, rfl, rfl, rfl, rfl, rfl⟩ := H
   go_enter Tryd.func55, Tryd.ntmps55
   go_wp2_with (first | ((with_reducible refine qW (N := 2) rfl ?_); refine qU ?hg (N := 2) ?hd (cs := #[.int .i64 a0_0, .int .i64 a0_1, .int .i64 a0_2, .int .i64 a0_3, .int .i64 a0_4, .int .i64 a0_5]) (t := 31) ?hr ?_; (case hd => rfl); (case hg => rfl); (case hr => first | (go_simp; done) | (go_simp; rfl)); intro gb165 hg w10 hbox hb; have n0_ := Aside0.mk (qL bl hb); have n1_ := Aside0.mk (hbox); have n2_ := Aside0.mk ((gg hg)); have n3_ := Aside0.mk ((gg hg)); clear HB; have HB := n0_; have BK165 := n1_; have GW165 := n2_; have GE165 := n3_; clear n0_ n1_ n2_ n3_; clear hb hbox hg) | ((with_reducible refine qW (N := 4) rfl ?_); refine qU ?hg (N := 4) ?hd (cs := #[.int .i64 0, .int .i64 0, .int .i64 0, .int .i64 0, .int .i64 0, .int .i64 0]) (t := 31) ?hr ?_; (case hd => rfl); (case hg => rfl); (case hr => first | (go_simp; done) | (go_simp; rfl)); intro gb166 hg w11 hbox hb; have n0_ := Aside0.mk (bb BK165 hb); have n1_ := Aside0.mk (qL bl hb); have n2_ := Aside0.mk (hbox); have n3_ := Aside0.mk ((gg hg)); have n4_ := Aside0.mk ((gg hg)); have n5_ := Aside0.mk ((nl BK165 hg)); have n6_ := Aside0.mk ((nr BK165 hg)); clear BK165; clear HB; have BK165 := n0_; have HB := n1_; have BK166 := n2_; have GW166 := n3_; have GE166 := n4_; have NB165_166 := n5_; have NB166_165 := n6_; clear n0_ n1_ n2_ n3_ n4_ n5_ n6_; clear hb hbox hg; have hnb12 := NB165_166.out; have hnc12 := NB166_165.out; have hcz13_0 := bc BK165 0; have hcz13_1 := bc BK165 1; have hcz13_2 := bc BK165 2; have hcz13_3 := bc BK165 3; have hcz13_4 := bc BK165 4; have hcz13_5 := bc BK165 5; have hfz13_0 := qA BK165.out 0; have hfz13_1 := qA BK165.out 1; have hfz13_2 := qA BK165.out 2; have hfz13_3 := qA BK165.out 3; have hfz13_4 := qA BK165.out 4; have hfz13_5 := qA BK165.out 5; have hcz14_0 := bc BK166 0; have hcz14_1 := bc BK166 1; have hcz14_2 := bc BK166 2; have hcz14_3 := bc BK166 3; have hcz14_4 := bc BK166 4; have hcz14_5 := bc BK166 5; have hfz14_0 := qA BK166.out 0; have hfz14_1 := qA BK166.out 1; have hfz14_2 := qA BK166.out 2; have hfz14_3 := qA BK166.out 3; have hfz14_4 := qA BK166.out 4; have hfz14_5 := qA BK166.out 5))
   refine bodyPost_ret (results_cell_row rfl _ _ gb166 31 #[.int .i64 a0_4, .int .i64 a0_1, .int .i64 a0_0, .int .i64 a0_3, .int .i64 a0_5, .int .i64 a0_2] (0, 0) _ rfl (by (with_reducible repeat (first | refine qD ?_ _ | refine qE ?_ | refine qC ?_ _)); refine qR (cs := #[.int .i64 a0_4, .int .i64 a0_1, .int .i64 a0_0, .int .i64 a0_3, .int .i64 a0_5, .int .i64 0]) ?_ 5 _ rfl; (with_reducible repeat (first | refine qD ?_ _ | refine qE ?_ | refine qC ?_ _)); refine qR (cs := #[.int .i64 a0_4, .int .i64 a0_1, .int .i64 a0_0, .int .i64 a0_3, .int .i64 0, .int .i64 0]) ?_ 4 _ rfl; (with_reducible repeat (first | refine qD ?_ _ | refine qE ?_ | refine qC ?_ _)); refine qR (cs := #[.int .i64 a0_4, .int .i64 a0_1, .int .i64 a0_0, .int .i64 0, .int .i64 0, .int .i64 0]) ?_ 3 _ rfl; (with_reducible repeat (first | refine qD ?_ _ | refine qE ?_ | refine qC ?_ _)); refine qR (cs := #[.int .i64 a0_4, .int .i64 a0_1, .int .i64 0, .int .i64 0, .int .i64 0, .int .i64 0]) ?_ 2 _ rfl; (with_reducible repeat (first | refine qD ?_ _ | refine qE ?_ | refine qC ?_ _)); refine qR (cs := #[.int .i64 a0_4, .int .i64 0, .int .i64 0, .int .i64 0, .int .i64 0, .int .i64 0]) ?_ 1 _ rfl; (with_reducible repeat (first | refine qD ?_ _ | refine qE ?_ | refine qC ?_ _)); refine qR (cs := #[.int .i64 0, .int .i64 0, .int .i64 0, .int .i64 0, .int .i64 0, .int .i64 0]) ?_ 0 _ rfl; (with_reducible repeat (first | refine qD ?_ _ | refine qE ?_ | refine qC ?_ _)); exact BK166.out) Tryd.underlying31 rfl (by kernel_rfl)) rfl ?_
   exact ⟨by first | rfl | (simp [qN, qM] <;> rfl) | (simp [*, qN, qM] <;> rfl), bl⟩
  ·rw [if_neg c9] at H
   have c9b0 : (a1 == 101) = false := beq_eq_false_iff_ne.mpr c9
   have c9b1 : (a1 != 101) = true := bne_iff_ne.mpr c9
   by_cases c15 : a1 = 115
   ·rw [if_pos c15] at H
    have c15b0 : (a1 == 115) = true := beq_iff_eq.mpr c15
    have c15b1 : (a1 != 115) = false := bne_eq_false_iff_eq.mpr c15
    clear c15
    simp only [Option.some.injEq, Prod.mk.injEq] at H
    obtain ⟨rfl, rfl, rfl, rfl, rfl, rfl⟩ := H
    go_enter Tryd.func55, Tryd.ntmps55
    go_wp2_with (first | ((with_reducible refine qW (N := 2) rfl ?_); refine qU ?hg (N := 2) ?hd (cs := #[.int .i64 a0_0, .int .i64 a0_1, .int .i64 a0_2, .int .i64 a0_3, .int .i64 a0_4, .int .i64 a0_5]) (t := 31) ?hr ?_; (case hd => rfl); (case hg => rfl); (case hr => first | (go_simp; done) | (go_simp; rfl)); intro gb165 hg w16 hbox hb; have n0_ := Aside0.mk (qL bl hb); have n1_ := Aside0.mk (hbox); have n2_ := Aside0.mk ((gg hg)); have n3_ := Aside0.mk ((gg hg)); clear HB; have HB := n0_; have BK165 := n1_; have GW165 := n2_; have GE165 := n3_; clear n0_ n1_ n2_ n3_; clear hb hbox hg) | ((with_reducible refine qW (N := 4) rfl ?_); refine qU ?hg (N := 4) ?hd (cs := #[.int .i64 0, .int .i64 0, .int .i64 0, .int .i64 0, .int .i64 0, .int .i64 0]) (t := 31) ?hr ?_; (case hd => rfl); (case hg => rfl); (case hr => first | (go_simp; done) | (go_simp; rfl)); intro gb166 hg w17 hbox hb; have n0_ := Aside0.mk (bb BK165 hb); have n1_ := Aside0.mk (qL bl hb); have n2_ := Aside0.mk (hbox); have n3_ := Aside0.mk ((gg hg)); have n4_ := Aside0.mk ((gg hg)); have n5_ := Aside0.mk ((nl BK165 hg)); have n6_ := Aside0.mk ((nr BK165 hg)); clear BK165; clear HB; have BK165 := n0_; have HB := n1_; have BK166 := n2_; have GW166 := n3_; have GE166 := n4_; have NB165_166 := n5_; have NB166_165 := n6_; clear n0_ n1_ n2_ n3_ n4_ n5_ n6_; clear hb hbox hg; have hnb18 := NB165_166.out; have hnc18 := NB166_165.out; have hcz19_0 := bc BK165 0; have hcz19_1 := bc BK165 1; have hcz19_2 := bc BK165 2; have hcz19_3 := bc BK165 3; have hcz19_4 := bc BK165 4; have hcz19_5 := bc BK165 5; have hfz19_0 := qA BK165.out 0; have hfz19_1 := qA BK165.out 1; have hfz19_2 := qA BK165.out 2; have hfz19_3 := qA BK165.out 3; have hfz19_4 := qA BK165.out 4; have hfz19_5 := qA BK165.out 5; have hcz20_0 := bc BK166 0; have hcz20_1 := bc BK166 1; have hcz20_2 := bc BK166 2; have hcz20_3 := bc BK166 3; have hcz20_4 := bc BK166 4; have hcz20_5 := bc BK166 5; have hfz20_0 := qA BK166.out 0; have hfz20_1 := qA BK166.out 1; have hfz20_2 := qA BK166.out 2; have hfz20_3 := qA BK166.out 3; have hfz20_4 := qA BK166.out 4; have hfz20_5 := qA BK166.out 5))
    refine bodyPost_ret (results_cell_row rfl _ _ gb166 31 #[.int .i64 a0_1, .int .i64 a0_5, .int .i64 a0_2, .int .i64 a0_0, .int .i64 a0_4, .int .i64 a0_3] (0, 0) _ rfl (by (with_reducible repeat (first | refine qD ?_ _ | refine qE ?_ | refine qC ?_ _)); refine qR (cs := #[.int .i64 a0_1, .int .i64 a0_5, .int .i64 a0_2, .int .i64 a0_0, .int .i64 a0_4, .int .i64 0]) ?_ 5 _ rfl; (with_reducible repeat (first | refine qD ?_ _ | refine qE ?_ | refine qC ?_ _)); refine qR (cs := #[.int .i64 a0_1, .int .i64 a0_5, .int .i64 a0_2, .int .i64 a0_0, .int .i64 0, .int .i64 0]) ?_ 4 _ rfl; (with_reducible repeat (first | refine qD ?_ _ | refine qE ?_ | refine qC ?_ _)); refine qR (cs := #[.int .i64 a0_1, .int .i64 a0_5, .int .i64 a0_2, .int .i64 0, .int .i64 0, .int .i64 0]) ?_ 3 _ rfl; (with_reducible repeat (first | refine qD ?_ _ | refine qE ?_ | refine qC ?_ _)); refine qR (cs := #[.int .i64 a0_1, .int .i64 a0_5, .int .i64 0, .int .i64 0, .int .i64 0, .int .i64 0]) ?_ 2 _ rfl; (with_reducible repeat (first | refine qD ?_ _ | refine qE ?_ | refine qC ?_ _)); refine qR (cs := #[.int .i64 a0_1, .int .i64 0, .int .i64 0, .int .i64 0, .int .i64 0, .int .i64 0]) ?_ 1 _ rfl; (with_reducible repeat (first | refine qD ?_ _ | refine qE ?_ | refine qC ?_ _)); refine qR (cs := #[.int .i64 0, .int .i64 0, .int .i64 0, .int .i64 0, .int .i64 0, .int .i64 0]) ?_ 0 _ rfl; (with_reducible repeat (first | refine qD ?_ _ | refine qE ?_ | refine qC ?_ _)); exact BK166.out) Tryd.underlying31 rfl (by kernel_rfl)) rfl ?_
    exact ⟨by first | rfl | (simp [qN, qM] <;> rfl) | (simp [*, qN, qM] <;> rfl), bl⟩
   ·rw [if_neg c15] at H
    have c15b0 : (a1 == 115) = false := beq_eq_false_iff_ne.mpr c15
    have c15b1 : (a1 != 115) = true := bne_iff_ne.mpr c15
    simp only [Option.some.injEq, Prod.mk.injEq] at H
    obtain ⟨rfl, rfl, rfl, rfl, rfl, rfl⟩ := H
    go_enter Tryd.func55, Tryd.ntmps55
    go_wp2_with (first | ((with_reducible refine qW (N := 2) rfl ?_); refine qU ?hg (N := 2) ?hd (cs := #[.int .i64 a0_0, .int .i64 a0_1, .int .i64 a0_2, .int .i64 a0_3, .int .i64 a0_4, .int .i64 a0_5]) (t := 31) ?hr ?_; (case hd => rfl); (case hg => rfl); (case hr => first | (go_simp; done) | (go_simp; rfl)); intro gb165 hg w21 hbox hb; have n0_ := Aside0.mk (qL bl hb); have n1_ := Aside0.mk (hbox); have n2_ := Aside0.mk ((gg hg)); have n3_ := Aside0.mk ((gg hg)); clear HB; have HB := n0_; have BK165 := n1_; have GW165 := n2_; have GE165 := n3_; clear n0_ n1_ n2_ n3_; clear hb hbox hg) | ((with_reducible refine qW (N := 4) rfl ?_); refine qU ?hg (N := 4) ?hd (cs := #[.int .i64 0, .int .i64 0, .int .i64 0, .int .i64 0, .int .i64 0, .int .i64 0]) (t := 31) ?hr ?_; (case hd => rfl); (case hg => rfl); (case hr => first | (go_simp; done) | (go_simp; rfl)); intro gb166 hg w22 hbox hb; have n0_ := Aside0.mk (bb BK165 hb); have n1_ := Aside0.mk (qL bl hb); have n2_ := Aside0.mk (hbox); have n3_ := Aside0.mk ((gg hg)); have n4_ := Aside0.mk ((gg hg)); have n5_ := Aside0.mk ((nl BK165 hg)); have n6_ := Aside0.mk ((nr BK165 hg)); clear BK165; clear HB; have BK165 := n0_; have HB := n1_; have BK166 := n2_; have GW166 := n3_; have GE166 := n4_; have NB165_166 := n5_; have NB166_165 := n6_; clear n0_ n1_ n2_ n3_ n4_ n5_ n6_; clear hb hbox hg; have hnb23 := NB165_166.out; have hnc23 := NB166_165.out; have hcz24_0 := bc BK165 0; have hcz24_1 := bc BK165 1; have hcz24_2 := bc BK165 2; have hcz24_3 := bc BK165 3; have hcz24_4 := bc BK165 4; have hcz24_5 := bc BK165 5; have hfz24_0 := qA BK165.out 0; have hfz24_1 := qA BK165.out 1; have hfz24_2 := qA BK165.out 2; have hfz24_3 := qA BK165.out 3; have hfz24_4 := qA BK165.out 4; have hfz24_5 := qA BK165.out 5; have hcz25_0 := bc BK166 0; have hcz25_1 := bc BK166 1; have hcz25_2 := bc BK166 2; have hcz25_3 := bc BK166 3; have hcz25_4 := bc BK166 4; have hcz25_5 := bc BK166 5; have hfz25_0 := qA BK166.out 0; have hfz25_1 := qA BK166.out 1; have hfz25_2 := qA BK166.out 2; have hfz25_3 := qA BK166.out 3; have hfz25_4 := qA BK166.out 4; have hfz25_5 := qA BK166.out 5))
    refine bodyPost_ret (results_cell_row rfl _ _ gb166 31 #[.int .i64 a0_2, .int .i64 a0_1, .int .i64 a0_5, .int .i64 a0_3, .int .i64 a0_0, .int .i64 a0_4] (0, 0) _ rfl (by (with_reducible repeat (first | refine qD ?_ _ | refine qE ?_ | refine qC ?_ _)); refine qR (cs := #[.int .i64 a0_2, .int .i64 a0_1, .int .i64 a0_5, .int .i64 a0_3, .int .i64 a0_0, .int .i64 0]) ?_ 5 _ rfl; (with_reducible repeat (first | refine qD ?_ _ | refine qE ?_ | refine qC ?_ _)); refine qR (cs := #[.int .i64 a0_2, .int .i64 a0_1, .int .i64 a0_5, .int .i64 a0_3, .int .i64 0, .int .i64 0]) ?_ 4 _ rfl; (with_reducible repeat (first | refine qD ?_ _ | refine qE ?_ | refine qC ?_ _)); refine qR (cs := #[.int .i64 a0_2, .int .i64 a0_1, .int .i64 a0_5, .int .i64 0, .int .i64 0, .int .i64 0]) ?_ 3 _ rfl; (with_reducible repeat (first | refine qD ?_ _ | refine qE ?_ | refine qC ?_ _)); refine qR (cs := #[.int .i64 a0_2, .int .i64 a0_1, .int .i64 0, .int .i64 0, .int .i64 0, .int .i64 0]) ?_ 2 _ rfl; (with_reducible repeat (first | refine qD ?_ _ | refine qE ?_ | refine qC ?_ _)); refine qR (cs := #[.int .i64 a0_2, .int .i64 0, .int .i64 0, .int .i64 0, .int .i64 0, .int .i64 0]) ?_ 1 _ rfl; (with_reducible repeat (first | refine qD ?_ _ | refine qE ?_ | refine qC ?_ _)); refine qR (cs := #[.int .i64 0, .int .i64 0, .int .i64 0, .int .i64 0, .int .i64 0, .int .i64 0]) ?_ 0 _ rfl; (with_reducible repeat (first | refine qD ?_ _ | refine qE ?_ | refine qC ?_ _)); exact BK166.out) Tryd.underlying31 rfl (by kernel_rfl)) rfl ?_
    exact ⟨by first | rfl | (simp [qN, qM] <;> rfl) | (simp [*, qN, qM] <;> rfl), bl⟩
end Go.Proofs.YtdncpkppkafkpaaDoor.P
