/- The program's MirrorNet returns what the reference's returns, for all texts (the law lets longer texts by). No further condition. -/
import Derived.Test.YtdncpkppkafkpaaGreatDoorKFnExactMirrorNet1
import Derived.Shelf.SlGeneric
import Derived.Shelf.SortM.Plain
import Derived.Ground.SlgmProg
import Derived.Test.YtdncpkppkafkpaaGreatDoorProg
import Derived.Shelf.SortM.SortNone
import Derived.RangeFuncBox
import Derived.RangeFuncLeaves
import Derived.Shelf.Abstract
import Derived.WalkKit
import Derived.OwnWalkIn
import Derived.TacticsInMore
import Derived.LoopNIn
import Derived.LoopIn
import Derived.Maps.AppendAt
import Derived.Shelf.Slices.CompactI
import Derived.Ground.Names2Prog

namespace Go.Proofs.YtdncpkppkafkpaaGreatDoor.P
open Go.RowKit Go.Proofs.YtdncpkppkafkpaaGreatDoorW.PrintWords Go.Proofs.YtdncpkppkafkpaaGreatDoorW.PrintLast Go.Proofs.YtdncpkppkafkpaaGreatDoorW.PrintMore
attribute [local go_sem] qw qu qHA qGA qj qi qv qt
set_option linter.unusedVariables false
set_option linter.unusedSimpArgs false
mutual
def qJ.l0 : Nat → List Int → List (S53) → Int → Int → Int → Int → List Int → Option (List Int × Bool)
 | 0, _, _, _, _, _, _, _ => none
 | k + 1, x18, x22, x24, x25, x169000, x169001, x169002 => if x25 < x24 then (if 0 ≤ x25 then (if x25 < (x18.length : Int) then (qJ.l0 k (x18.set (x25 : Int).toNat (-1)) x22 x24 (wrap64 (x25 + 1)) x169000 x169001 x169002) else (none)) else (none)) else ((qg.f k x169000 x169001 x169002).bind fun t176 => (if 0 < (t176.length : Int) then ((qEB.f).bind fun bt180 => (if 0 ≤ (rd t176 0) then (if (rd t176 0) < (x22.length : Int) then (if (rd t176 0) < (x18.length : Int) then (qJ.l1 k (([rd t176 0] : List Int)) 0 (x18.set ((rd t176 0) : Int).toNat 5) (x22.set ((rd t176 0) : Int).toNat (⟨bt180.1, bt180.2.1, bt180.2.2.1, bt180.2.2.2.1, bt180.2.2.2.2.1, bt180.2.2.2.2.2⟩ : S53)) t176 x169000 x169001 x169002) else (none)) else (none)) else (none))) else (none)))
def qJ.l1 : Nat → List Int → Int → List Int → List (S53) → List Int → Int → Int → List Int → Option (List Int × Bool)
 | 0, _, _, _, _, _, _, _, _ => none
 | k + 1, x8, x9, x18, x22, x33, x169000, x169001, x169002 => if x9 < (x8.length : Int) then (qJ.l2 k x8 x9 0 x18 x22 x33 x169000 x169001 x169002) else (qJ.l3 k 0 x18 x33 (x33.length : Int) 0)
def qJ.l2 : Nat → List Int → Int → Int → List Int → List (S53) → List Int → Int → Int → List Int → Option (List Int × Bool)
 | 0, _, _, _, _, _, _, _, _, _ => none
 | k + 1, x8, x9, x10, x18, x22, x33, x169000, x169001, x169002 => if x10 < 4 then (if 0 ≤ x9 then (if x9 < (x8.length : Int) then ((qVA.f x169000 x169001 x169002 (rd x8 x9) x10).bind fun t194 => (if t194 ≥ 0 then (if 0 ≤ t194 then (if t194 < (x18.length : Int) then (if (rd x18 t194) < 0 then (if 0 ≤ (rd x8 x9) then (if (rd x8 x9) < (x22.length : Int) then ((qyA.f ((qZ x22 (rd x8 x9)).f0) ((qZ x22 (rd x8 x9)).f1) ((qZ x22 (rd x8 x9)).f2) ((qZ x22 (rd x8 x9)).f3) ((qZ x22 (rd x8 x9)).f4) ((qZ x22 (rd x8 x9)).f5) x10).bind fun bt198 => (if t194 < (x22.length : Int) then ((some (x22.set (t194 : Int).toNat (⟨bt198.1, bt198.2.1, bt198.2.2.1, bt198.2.2.2.1, bt198.2.2.2.2.1, bt198.2.2.2.2.2⟩ : S53) : List (S53))).bind fun y204 => (if x8.length < 17592186044416 then (qJ.l2 k (x8 ++ [t194]) x9 (wrap64 (x10 + 1)) (x18.set (t194 : Int).toNat ((qZ y204 t194).f5)) y204 x33 x169000 x169001 x169002) else (none))) else (none))) else (none)) else (none)) else (qJ.l2 k x8 x9 (wrap64 (x10 + 1)) x18 x22 x33 x169000 x169001 x169002)) else (none)) else (none)) else (qJ.l2 k x8 x9 (wrap64 (x10 + 1)) x18 x22 x33 x169000 x169001 x169002))) else (none)) else (none)) else (qJ.l1 k x8 (wrap64 (x9 + 1)) x18 x22 x33 x169000 x169001 x169002)
def qJ.l3 : Nat → Int → List Int → List Int → Int → Int → Option (List Int × Bool)
 | 0, _, _, _, _, _ => none
 | k + 1, x12, x18, x33, x100, x101 => if x101 < x100 then (if 0 ≤ x101 then (if x101 < (x33.length : Int) then (if 0 ≤ (rd x33 x101) then (if (rd x33 x101) < (x18.length : Int) then (if 0 ≤ (rd x18 (rd x33 x101)) then (if (Int.tmod (shr .i64 x12 (rd x18 (rd x33 x101))) 2) = 1 then (some (x18, false)) else (qJ.l3 k (Go.bits .or .i64 x12 (shl .i64 1 (rd x18 (rd x33 x101)))) x18 x33 x100 (wrap64 (x101 + 1)))) else (none)) else (none)) else (none)) else (none)) else (none)) else (some (x18, true))
end
def qJ.f (k : Nat) (a0_0 : Int) (a0_1 : Int) (l0_2 : List Int) : Option (List Int × Bool) := if 0 ≤ (l0_2.length : Int) then (if ((l0_2.length : Int) : Int).toNat ≤ 35184372088832 then ((some (List.replicate ((l0_2.length : Int) : Int).toNat 0 : List Int)).bind fun y169 => (if ((l0_2.length : Int) : Int).toNat ≤ 5864062014805 then (qJ.l0 k y169 (List.replicate ((l0_2.length : Int) : Int).toNat z53) (y169.length : Int) 0 a0_0 a0_1 l0_2) else (none))) else (none)) else (none)
def qJ.T18 : Bool × List (List Nat × List Nat) := (true, [([], []), ([], []), ([], []), ([1, 2], [1, 2]), ([3], [3]), ([], []), ([0, 4, 5], [0, 4, 5]), ([6, 6, 0, 1, 2, 3, 4, 5, 6], [6])])
def qJ.B18 : List Nat := [0, 0, 0, 6, 14, 0, 63, 127]
theorem qJ.tab18 : rtab .any (opsOf Tryz.f13 18) = qJ.T18 := by kernel_rfl
theorem qJ.bits18 : waitsOk qJ.T18.2 qJ.B18 = true := by kernel_rfl
set_option maxHeartbeats 8000000 in
set_option maxRecDepth 100000 in
theorem qJ.calls (k : Nat) (a0_0 : Int) (a0_1 : Int) (A0_2 : Option Addr) (c0_2 : Nat) (l0_2 : List Int) (r1 : List Int) (r2 : Bool) (w : World) (hr0_2 : Kd.C (Kd.int .u8) w A0_2 l0_2.length l0_2) (hc0_2 : l0_2.length ≤ c0_2) (h : qJ.f k a0_0 a0_1 l0_2 = some (r1, r2)) :
  Calls Tryz.prog 13 #[.agg #[.int .i64 a0_0, .int .i64 a0_1, .slice A0_2 l0_2.length c0_2]] w fun e w' => ∃ v0_ : Value, e = .returned (.tuple #[v0_, .bool r2]) ∧ Kd.R (Kd.int .i64) 3 w' w.heap.size (fun _ => True) v0_ r1 ∧ Below w.heap.size w w' := by
 have hu27 := Tryz.underlying27
 have hu53 := Tryz.underlying53
 have HR0_2 := Aside0.mk hr0_2
 have HC0_2 := Aside0.mk hc0_2
 clear hr0_2 hc0_2
 have HB := Aside0.mk (Below.refl w.heap.size w)
 have H : (if 0 ≤ (l0_2.length : Int) then (if ((l0_2.length : Int) : Int).toNat ≤ 35184372088832 then ((some (List.replicate ((l0_2.length : Int) : Int).toNat 0 : List Int)).bind fun y169 => (if ((l0_2.length : Int) : Int).toNat ≤ 5864062014805 then (qJ.l0 k y169 (List.replicate ((l0_2.length : Int) : Int).toNat z53) (y169.length : Int) 0 a0_0 a0_1 l0_2) else (none))) else (none)) else (none)) = some (r1, r2) := h
 clear h
 by_cases c2 : 0 ≤ (l0_2.length : Int)
 ·rw [if_pos c2] at H
  have c2b0 := eq_true c2
  have c2b1 : decide (0 ≤ (l0_2.length : Int)) = true := decide_eq_true c2
  clear c2
  by_cases c3 : ((l0_2.length : Int) : Int).toNat ≤ 35184372088832
  ·rw [if_pos c3] at H
   have c3b0 := eq_true c3
   have c3b1 : decide (((l0_2.length : Int) : Int).toNat ≤ 35184372088832) = true := decide_eq_true c3
   clear c3
   obtain ⟨y169, hy169⟩ : ∃ y_ : List Int, y_ = (List.replicate ((l0_2.length : Int) : Int).toNat 0) := ⟨_, rfl⟩
   replace H : (if ((l0_2.length : Int) : Int).toNat ≤ 5864062014805 then (qJ.l0 k y169 (List.replicate ((l0_2.length : Int) : Int).toNat z53) (y169.length : Int) 0 a0_0 a0_1 l0_2) else (none)) = some (r1, r2) := by first | (rw [hy169]; with_reducible exact H) | (have H2_ := (Option.bind_some _ _).symm.trans H; rw [hy169]; with_reducible exact H2_) | (have H2_ := (Option.bind_some _ _).symm.trans H; with_reducible exact H2_) | with_reducible exact H | (rw [hy169]; exact H) | exact H
   have Ny169 := Aside0.mk hy169
   clear hy169
   by_cases c4 : ((l0_2.length : Int) : Int).toNat ≤ 5864062014805
   ·rw [if_pos c4] at H
    have c4b0 := eq_true c4
    have c4b1 : decide (((l0_2.length : Int) : Int).toNat ≤ 5864062014805) = true := decide_eq_true c4
    clear c4
    obtain ⟨y172, hy172⟩ : ∃ y_ : List (S53), y_ = (List.replicate ((l0_2.length : Int) : Int).toNat z53) := ⟨_, rfl⟩
    replace H : (qJ.l0 k y169 y172 (y169.length : Int) 0 a0_0 a0_1 l0_2) = some (r1, r2) := by first | (rw [hy172]; with_reducible exact H) | (have H2_ := (Option.bind_some _ _).symm.trans H; rw [hy172]; with_reducible exact H2_) | (have H2_ := (Option.bind_some _ _).symm.trans H; with_reducible exact H2_) | with_reducible exact H | (rw [hy172]; exact H) | exact H
    have Ny172 := Aside0.mk hy172
    clear hy172
    have H' := Aside0.mk H
    clear H
    go_enter Tryz.func13, Tryz.ntmps13
    go_wp2_with (first | ((with_reducible refine qX (N := 1) rfl ?_); refine qV ?hg (N := 1) ?hd (cs := #[.int .i64 a0_0, .int .i64 a0_1, .slice A0_2 l0_2.length c0_2]) (t := 27) ?hr ?_; (case hd => rfl); (case hg => rfl); (case hr => first | (go_simp; done) | (go_simp; rfl)); intro gb168 hg w5 hbox hb; have n0_ := Aside0.mk (qK bl hb); have n1_ := Aside0.mk (hbox); have n2_ := Aside0.mk ((gg hg)); have n3_ := Aside0.mk ((gg hg)); clear HB; have HB := n0_; have BK168 := n1_; have GW168 := n2_; have GE168 := n3_; clear n0_ n1_ n2_ n3_; clear hb hbox hg; have hcz6_0 := bc BK168 0; have hcz6_1 := bc BK168 1; have hcz6_2 := bc BK168 2; have hfz6_0 := qA BK168.out 0; have hfz6_1 := qA BK168.out 1; have hfz6_2 := qA BK168.out 2) | ((with_reducible refine qX (N := 18) rfl ?_); refine Kd.qoC (Kd.int .i64) _ 3 rfl (N := 18) rfl 28 _ _ rfl (l0_2.length : Int) rfl rfl Tryz.underlying28 (.int .i64 0) 8 info3 rfl (by decide) (by omega) 0 (ok := fun _ => True) (okp := fun _ => True) rfl (fun _ hk => hk) trivial (of_decide_eq_true (by first | (with_reducible assumption) | assumption)) (Nat.le_trans (Nat.mul_le_mul_right _ (of_decide_eq_true (by first | (with_reducible assumption) | assumption) : (l0_2.length : Int).toNat ≤ 35184372088832)) (by omega)) (Below.refl _ _) (Nat.le_refl _) ?_; intro v170 w7 ho8 hb hg_ hnew_; clear hg_ hnew_; (first | rw [← Ny169.out] at ho8 | (simp only [Int.reduceToNat] at ho8; rw [← Ny169.out] at ho8)); have n0_ := Aside0.mk (Kd.qAA ho8 (qa bl)); have n1_ := Aside0.mk (bb BK168 hb); have n2_ := Aside0.mk (qK bl hb); clear BK168; clear HB; have HO171 := n0_; have BK168 := n1_; have HB := n2_; clear n0_ n1_ n2_; clear hb ho8; have hcz9_0 := bc BK168 0; have hcz9_1 := bc BK168 1; have hcz9_2 := bc BK168 2; have hfz9_0 := qA BK168.out 0; have hfz9_1 := qA BK168.out 1; have hfz9_2 := qA BK168.out 2) | ((with_reducible refine qX (N := 22) rfl ?_); refine Kd.qoC k53 _ 53 rfl (N := 22) rfl 51 _ _ rfl (l0_2.length : Int) rfl rfl Tryz.underlying51 (.agg #[(.int .i64 0), (.int .i64 0), (.int .i64 0), (.int .i64 0), (.int .i64 0), (.int .i64 0)]) 48 info53 rfl (by decide) (by omega) z53 (ok := fun _ => True) (okp := fun _ => True) (qLC _ _ _ z53 ) (fun _ hk => hk) trivial (of_decide_eq_true (by first | (with_reducible assumption) | assumption)) (Nat.le_trans (Nat.mul_le_mul_right _ (of_decide_eq_true (by first | (with_reducible assumption) | assumption) : (l0_2.length : Int).toNat ≤ 5864062014805)) (by omega)) (Below.refl _ _) (Nat.le_refl _) ?_; intro v173 w10 ho11 hb hg_ hnew_; clear hg_ hnew_; (first | rw [← Ny172.out] at ho11 | (simp only [Int.reduceToNat] at ho11; rw [← Ny172.out] at ho11)); have n0_ := Aside0.mk (Kd.qW (by (with_reducible repeat (first | apply Kd.qG | apply Kd.qH | apply Kd.qI)); exact HO171.out) hb); have n1_ := Aside0.mk (Kd.qAA ho11 (qa bl)); have n2_ := Aside0.mk (bb BK168 hb); have n3_ := Aside0.mk (qK bl hb); clear HO171; clear BK168; clear HB; have HO171 := n0_; have HO174 := n1_; have BK168 := n2_; have HB := n3_; clear n0_ n1_ n2_ n3_; clear hb ho11; obtain ⟨Ao12, co12, eo12⟩ := Kd.qp HO171.out; subst eo12))
    go_loopg [25] k (fun kq v25 w' => ∃ (x18_1 : List Int) (x25_1 : Int), v25 = .int .i64 x25_1 ∧ Aside0 (qJ.l0 kq x18_1 y172 (y169.length : Int) x25_1 a0_0 a0_1 l0_2 = some (r1, r2)) ∧ Aside0 (kq ≤ k) ∧ Aside0 (Kd.R (Kd.int .i64) 3 w' w.heap.size (fun _ => True) (.slice Ao12 y169.length co12) x18_1) ∧ Aside0 (Kd.R k53 53 w' w.heap.size (fun _ => True) v173 y172) ∧ Aside0 (w'.heap[gb168]? = some (.cells #[.int .i64 a0_0, .int .i64 a0_1, (.slice A0_2 l0_2.length c0_2)] 27 (0, 0))) ∧ Aside0 (Below w.heap.size w w'))
    case atStart => exact ⟨(y169), (0), (by first | rfl | (simp; done) | (simp [*]; done)), H', ⟨Nat.le_refl _⟩, ⟨by (with_reducible repeat (first | apply Kd.qG | apply Kd.qH | apply Kd.qI)); exact HO171.out⟩, ⟨by (with_reducible repeat (first | apply Kd.qG | apply Kd.qH | apply Kd.qI)); exact HO174.out⟩, ⟨by (with_reducible repeat (first | refine qC ?_ _ | refine qD ?_ | refine qB ?_ _)); exact BK168.out⟩, ⟨bl⟩⟩
    case round =>
     clear H'
     try clear c1
     try clear c2
     try clear c2b0
     try clear c2b1
     try clear p2
     try clear c3
     try clear c3b0
     try clear c3b1
     try clear c4
     try clear c4b0
     try clear c4b1
     try clear hcz6_0
     try clear hcz6_1
     try clear hcz6_2
     try clear hcz9_0
     try clear hcz9_1
     try clear hcz9_2
     try clear hfz6_0
     try clear hfz6_1
     try clear hfz6_2
     try clear hfz9_0
     try clear hfz9_1
     try clear hfz9_2
     obtain ⟨x18_1, x25_1, rfl, HA, HK1, HO_18, HO_22, BK168, HB⟩ := hrel
     have hl18_1 := (Kd.qQ HO_18.out).1
     rw [hl18_1] at HO_18
     (try simp only [hl18_1])
     (try simp only [hl18_1] at BK168)
     (try simp only [hl18_1] at HO_22)
     cases gk with
     | zero => exact absurd HA.out (by simp [qJ.l0])
     | succ k1 =>
      have H := HA.out
      clear HA
      simp only [qJ.l0] at H
      by_cases c13 : x25_1 < (y169.length : Int)
      ·rw [if_pos c13] at H
       have c13b0 : decide (x25_1 < (y169.length : Int)) = true := decide_eq_true c13
       (try (have c13b0_hl18_1 := c13b0; simp only [hl18_1] at c13b0_hl18_1))
       clear c13
       by_cases c14 : 0 ≤ x25_1
       ·rw [if_pos c14] at H
        have c14b0 : decide (0 ≤ x25_1) = true := decide_eq_true c14
        clear c14
        by_cases c15 : x25_1 < (x18_1.length : Int)
        ·rw [if_pos c15] at H
         have c15b0 : decide (x25_1 < (x18_1.length : Int)) = true := decide_eq_true c15
         (try (have c15b0_hl18_1 := c15b0; simp only [hl18_1] at c15b0_hl18_1))
         clear c15
         obtain ⟨y175, hy175⟩ : ∃ y_ : List Int, y_ = (x18_1.set (x25_1 : Int).toNat (-1)) := ⟨_, rfl⟩
         replace H : (qJ.l0 k1 y175 y172 (y169.length : Int) (wrap64 (x25_1 + 1)) a0_0 a0_1 l0_2) = some (r1, r2) := by first | (rw [hy175]; with_reducible exact H) | (have H2_ := (Option.bind_some _ _).symm.trans H; rw [hy175]; with_reducible exact H2_) | (have H2_ := (Option.bind_some _ _).symm.trans H; with_reducible exact H2_) | with_reducible exact H | (rw [hy175]; exact H) | exact H
         have Ny175 := Aside0.mk hy175
         clear hy175
         have H' := Aside0.mk H
         clear H
         have p16 : 0 ≤ (x25_1 : Int) := of_decide_eq_true (by first | (with_reducible assumption) | assumption)
         have q16 : (x25_1 : Int) < ((x18_1.length : Int) : Int) := of_decide_eq_true (by first | (with_reducible assumption) | assumption)
         obtain ⟨go16, co16, eo16, gb16, gl16, cl16, HG16⟩ := Kd.qkB HO_18.out (by omega)
         (first | cases eo16 | (injection eo16 with ea_ en_ ec_; (first | subst ea_ | (injection ea_ with ea_; subst ea_)); subst ec_; clear en_))
         have GB16 := Aside0.mk gb16
         have GG16 := Aside0.mk HG16
         clear gb16 gl16 HG16
         obtain ⟨hx16_0, hf16_0⟩ := Kd.qhA 0 HO_18.out (x25_1 : Int) p16 q16
         replace p16 := eq_true p16
         replace q16 := eq_true q16
         have HP17 := Kd.qnB HO_18.out (x25_1 : Int) (-1)
         go_wp2_with (first | ((with_reducible refine qeA (t := 3) (p := 30) rfl ?_); refine qUA (t := 3) (p := 30) (v := ?vo_w18) (w1 := (wr.setCell ⟨go16, (x25_1 : Int).toNat, none⟩ (.int .i64 (-1)))) ?hg ?ho ?hn ?hr ?_; (case ho => rfl); (case hg => rfl); (case hn => rfl); (case hr => first | (go_simp; done) | (go_simp; rfl)); intro w18 hw; have hg : wr.grownBy w18 (some go16) := (by rw [hw]; exact HP17.2); have hp_ : Kd.R (Kd.int .i64) 3 w18 w.heap.size (fun _ => True) (.slice (some ⟨go16, 0, none⟩) x18_1.length co12) y175 := (by rw [hw, Ny175.out]; exact HP17.1); clear HP17; have n0_ := Aside0.mk (hp_); have n1_ := Aside0.mk (Kd.qnA (v := (.slice (some ⟨go16, 0, none⟩) x18_1.length co12)) (by (with_reducible repeat (first | apply Kd.qG | apply Kd.qH | apply Kd.qI)); exact HO_22.out) (Kd.qEA HO_18.out) (by decide) hg); have n2_ := Aside0.mk (qaA (g := gb168) (o := .cells #[.int .i64 a0_0, .int .i64 a0_1, .slice A0_2 l0_2.length c0_2] 27 (0, 0)) (by (with_reducible repeat (first | refine qC ?_ _ | refine qD ?_ | refine qB ?_ _)); exact BK168.out) hg (Kd.R_ne HO_18.out BK168.out (by decide))); have n3_ := Aside0.mk ((by rw [hw]; exact qe (HB.out) GB16.out : Below w.heap.size w w18)); clear HO_18; clear HO_22; clear BK168; clear HB; have HO_18 := n0_; have HO_22 := n1_; have BK168 := n2_; have HB := n3_; clear n0_ n1_ n2_ n3_; clear hg hw hp_))
         (try simp only [← hl18_1])
         go_roundg k1
         case measure => have := HK1.out; omega
         case rel => exact ⟨(y175), (wrap64 (x25_1 + 1)), (by first | rfl | (simp; done) | (simp [*]; done)), H', ⟨by have := HK1.out; omega⟩, ⟨by (try simp only [hl18_1]); (with_reducible repeat (first | apply Kd.qG | apply Kd.qH | apply Kd.qI)); exact HO_18.out⟩, ⟨by (try simp only [hl18_1]); (with_reducible repeat (first | apply Kd.qG | apply Kd.qH | apply Kd.qI)); exact HO_22.out⟩, ⟨by (try simp only [hl18_1]); (with_reducible repeat (first | refine qC ?_ _ | refine qD ?_ | refine qB ?_ _)); exact BK168.out⟩, ⟨bl⟩⟩
        ·rw [if_neg c15] at H
         exact absurd H (by simp)
       ·rw [if_neg c14] at H
        exact absurd H (by simp)
      ·rw [if_neg c13] at H
       have c13b0 : decide (x25_1 < (y169.length : Int)) = false := decide_eq_false c13
       (try (have c13b0_hl18_1 := c13b0; simp only [hl18_1] at c13b0_hl18_1))
       clear c13
       replace H := Option.bind_eq_some_iff.mp H
       obtain ⟨t176, A190, H⟩ := H
       replace H : (if 0 < (t176.length : Int) then ((qEB.f).bind fun bt180 => (if 0 ≤ (rd t176 0) then (if (rd t176 0) < (y172.length : Int) then (if (rd t176 0) < (x18_1.length : Int) then (qJ.l1 k1 (([rd t176 0] : List Int)) 0 (x18_1.set ((rd t176 0) : Int).toNat 5) (y172.set ((rd t176 0) : Int).toNat (⟨bt180.1, bt180.2.1, bt180.2.2.1, bt180.2.2.2.1, bt180.2.2.2.2.1, bt180.2.2.2.2.2⟩ : S53)) t176 a0_0 a0_1 l0_2) else (none)) else (none)) else (none))) else (none)) = some (r1, r2) := H
       have A19 := Aside0.mk A190
       clear A190
       by_cases c20 : 0 < (t176.length : Int)
       ·rw [if_pos c20] at H
        have c20b0 : decide (0 < (t176.length : Int)) = true := decide_eq_true c20
        (try (have c20b0_hl18_1 := c20b0; simp only [hl18_1] at c20b0_hl18_1))
        have c20b1 : decide (0 < t176.length) = true := decide_eq_true (by omega)
        clear c20
        replace H := Option.bind_eq_some_iff.mp H
        obtain ⟨⟨t180, t181, t182, t183, t184, t185⟩, A210, H⟩ := H
        replace H : (if 0 ≤ (rd t176 0) then (if (rd t176 0) < (y172.length : Int) then (if (rd t176 0) < (x18_1.length : Int) then (qJ.l1 k1 (([rd t176 0] : List Int)) 0 (x18_1.set ((rd t176 0) : Int).toNat 5) (y172.set ((rd t176 0) : Int).toNat (⟨t180, t181, t182, t183, t184, t185⟩ : S53)) t176 a0_0 a0_1 l0_2) else (none)) else (none)) else (none)) = some (r1, r2) := H
        have A21 := Aside0.mk A210
        clear A210
        by_cases c22 : 0 ≤ (rd t176 0)
        ·rw [if_pos c22] at H
         have c22b0 : decide (0 ≤ (rd t176 0)) = true := decide_eq_true c22
         clear c22
         by_cases c23 : (rd t176 0) < (y172.length : Int)
         ·rw [if_pos c23] at H
          have c23b0 : decide ((rd t176 0) < (y172.length : Int)) = true := decide_eq_true c23
          (try (have c23b0_hl18_1 := c23b0; simp only [hl18_1] at c23b0_hl18_1))
          clear c23
          obtain ⟨y186, hy186⟩ : ∃ y_ : List (S53), y_ = (y172.set ((rd t176 0) : Int).toNat (⟨t180, t181, t182, t183, t184, t185⟩ : S53)) := ⟨_, rfl⟩
          replace H : (if (rd t176 0) < (x18_1.length : Int) then (qJ.l1 k1 (([rd t176 0] : List Int)) 0 (x18_1.set ((rd t176 0) : Int).toNat 5) y186 t176 a0_0 a0_1 l0_2) else (none)) = some (r1, r2) := by first | (rw [hy186]; with_reducible exact H) | (have H2_ := (Option.bind_some _ _).symm.trans H; rw [hy186]; with_reducible exact H2_) | (have H2_ := (Option.bind_some _ _).symm.trans H; with_reducible exact H2_) | with_reducible exact H | (rw [hy186]; exact H) | exact H
          have Ny186 := Aside0.mk hy186
          clear hy186
          by_cases c25 : (rd t176 0) < (x18_1.length : Int)
          ·rw [if_pos c25] at H
           have c25b0 : decide ((rd t176 0) < (x18_1.length : Int)) = true := decide_eq_true c25
           (try (have c25b0_hl18_1 := c25b0; simp only [hl18_1] at c25b0_hl18_1))
           clear c25
           obtain ⟨y188, hy188⟩ : ∃ y_ : List Int, y_ = (x18_1.set ((rd t176 0) : Int).toNat 5) := ⟨_, rfl⟩
           replace H : (qJ.l1 k1 (([rd t176 0] : List Int)) 0 y188 y186 t176 a0_0 a0_1 l0_2) = some (r1, r2) := by first | (rw [hy188]; with_reducible exact H) | (have H2_ := (Option.bind_some _ _).symm.trans H; rw [hy188]; with_reducible exact H2_) | (have H2_ := (Option.bind_some _ _).symm.trans H; with_reducible exact H2_) | with_reducible exact H | (rw [hy188]; exact H) | exact H
           have Ny188 := Aside0.mk hy188
           clear hy188
           obtain ⟨y190, hy190⟩ : ∃ y_ : List Int, y_ = (([rd t176 0] : List Int)) := ⟨_, rfl⟩
           replace H : (qJ.l1 k1 y190 0 y188 y186 t176 a0_0 a0_1 l0_2) = some (r1, r2) := by first | (rw [hy190]; with_reducible exact H) | (have H2_ := (Option.bind_some _ _).symm.trans H; rw [hy190]; with_reducible exact H2_) | (have H2_ := (Option.bind_some _ _).symm.trans H; with_reducible exact H2_) | with_reducible exact H | (rw [hy190]; exact H) | exact H
           have Ny190 := Aside0.mk hy190
           clear hy190
           have H' := Aside0.mk H
           clear H
           have hcz27_0 := bc BK168 0
           have hcz27_1 := bc BK168 1
           have hcz27_2 := bc BK168 2
           have hfz27_0 := qA BK168.out 0
           have hfz27_1 := qA BK168.out 1
           have hfz27_2 := qA BK168.out 2
           try go_wp2_with (first | ((with_reducible refine qb (f := 20) rfl ?_); refine qRA (some 33) rfl rfl Tryz.func20 (by kernel_rfl) rfl #[.agg #[.int .i64 a0_0, .int .i64 a0_1, .slice A0_2 l0_2.length c0_2]] rfl (by (try simp only [List.map_toArray, List.map_cons, List.map_nil]); first | done | rfl | (simp only [List.length_drop, List.length_take]; rfl)) ?_; (with_reducible refine (qg.calls k1 a0_0 a0_1 _ _ l0_2 t176 _ ?side1 ?side2 A19.out).mono ?_); (case side1 => repeat (first | exact (Kd.qiA HR0_2.out HB.out) | (with_reducible refine Kd.qcA ?_ _) | (with_reducible refine Kd.qbA ?_ _) | (with_reducible refine Kd.qtA ?_))); (case side2 => exact HC0_2.out); rintro e w28 ⟨v177, rfl, ho0, hb⟩; refine ⟨_, rfl, ?_⟩; have n0_ := Aside0.mk (Kd.quA (by (with_reducible repeat (first | apply Kd.qG | apply Kd.qH | apply Kd.qI)); exact HO_18.out) (Kd.qZB ho0) hb); have n1_ := Aside0.mk (Kd.qW (by (with_reducible repeat (first | apply Kd.qG | apply Kd.qH | apply Kd.qI)); exact HO_22.out) hb); have n2_ := Aside0.mk (Kd.qAA (Kd.qYB ho0 (Kd.R_lt (by (with_reducible repeat (first | apply Kd.qG | apply Kd.qH | apply Kd.qI)); exact HO_18.out))) (qa bl)); have n3_ := Aside0.mk (bb BK168 hb); have n4_ := Aside0.mk (qK bl hb); clear HO_18; clear HO_22; clear BK168; clear HB; have HO_18 := n0_; have HO_22 := n1_; have HO178 := n2_; have BK168 := n3_; have HB := n4_; clear n0_ n1_ n2_ n3_ n4_; (try clear hb); (try clear hb2); (try clear hk); (try clear hi); (try clear ho0)))
           have n0_ := Aside0.mk (Kd.qI HO_18.out)
           have n1_ := Aside0.mk (Kd.qI HO_22.out)
           have n2_ := Aside0.mk (Kd.qI HO178.out)
           have n3_ := Aside0.mk (qD BK168.out)
           have n4_ := Aside0.mk (qh HB.out)
           clear HO_18
           clear HO_22
           clear HO178
           clear BK168
           clear HB
           have HO_18 := n0_
           have HO_22 := n1_
           have HO178 := n2_
           have BK168 := n3_
           have HB := n4_
           clear n0_ n1_ n2_ n3_ n4_
           obtain ⟨Ao30, co30, eo30⟩ := Kd.qp HO178.out
           (first | subst eo30 | (injection eo30 with f1_ f2_ f3_; have f4_ := f1_.symm; have f5_ := f3_.symm; clear f1_ f2_ f3_; subst f4_; subst f5_))
           have p179 : 0 ≤ (0 : Int) := (by omega)
           have q179 : 0 < (t176.length : Int) := of_decide_eq_true (by first | (with_reducible assumption) | assumption)
           obtain ⟨ad179, e179, hx179_0⟩ := Kd.qCA (Kd.qQ HO178.out).2.2 0 p179 q179
           cases e179
           have qi179 : (0 < t176.length) = True := eq_true (by omega)
           (try rw [show ((0 : Int)).toNat = 0 from rfl] at hx179_0)
           (try rw [Addr.add_zero'] at hx179_0)
           replace p179 := eq_true p179
           replace q179 := eq_true q179
           refine qxA (n := 7) (S := fun w' => w'.cell? ad179 = some (.int .i64 (rd t176 0))) (ds := [6]) #[false, false, false, false, false, false, false] (by kernel_rfl) rfl rfl (hx179_0) (fun hHeld => ?_)
           generalize w28.drew = w29 at HO_18 HO_22 HO178 BK168 HB hx179_0 hHeld ⊢
           refine pure_ (i := 0) (N := some 34) (v := ?_) (a' := ?_) #[true, false, false, false, false, false, false] rfl rfl (by kernel_rfl) (fun _ _ _ h => h) (Or.inl ⟨by rfl, ?_⟩) ?_ ?_
           rotate_left
           ·intro w'
            go_simp
            first | (with_reducible rfl) | (rw [if_neg (by simp only [ByteArray.size_extract, ByteArray.size_append] at * <;> omega)]; try with_reducible rfl)
           rotate_left
           ·simp only [Act.put, List.setIfInBounds_toArray, List.set_cons_zero, List.set_cons_succ, i64_w, i32_w]
            rfl
           refine pure_ (i := 1) (N := some 35) (v := ?_) (a' := ?_) #[true, true, false, false, false, false, false] rfl rfl (by kernel_rfl) (fun _ _ _ h => h) (Or.inl ⟨by rfl, ?_⟩) ?_ ?_
           rotate_left
           ·intro w'
            go_simp
            first | (with_reducible rfl) | (rw [if_neg (by simp only [ByteArray.size_extract, ByteArray.size_append] at * <;> omega)]; try with_reducible rfl)
           rotate_left
           ·simp only [Act.put, List.setIfInBounds_toArray, List.set_cons_zero, List.set_cons_succ, i64_w, i32_w]
            rfl
           refine pure_ (i := 2) (N := some 36) (v := ?_) (a' := ?_) #[true, true, true, false, false, false, false] rfl rfl (by kernel_rfl) (fun _ _ _ h => h) (Or.inl ⟨by rfl, ?_⟩) ?_ ?_
           rotate_left
           ·intro w'
            go_simp
            first | (with_reducible rfl) | (rw [if_neg (by simp only [ByteArray.size_extract, ByteArray.size_append] at * <;> omega)]; try with_reducible rfl)
           rotate_left
           ·simp only [Act.put, List.setIfInBounds_toArray, List.set_cons_zero, List.set_cons_succ, i64_w, i32_w]
            rfl
           refine take_ (i := 3) (N := some 37) (v := ?_) (a' := ?_) #[true, true, true, true, false, false, false] rfl rfl (by kernel_rfl) (fun _ _ _ h => h) (Or.inl ⟨by rfl, ?_⟩) hHeld ?_ ?_
           rotate_left
           ·intro w' s0
            go_simp
            first | (with_reducible rfl) | (rw [if_neg (by simp only [ByteArray.size_extract, ByteArray.size_append] at * <;> omega)]; try with_reducible rfl)
           rotate_left
           ·simp only [Act.put, List.setIfInBounds_toArray, List.set_cons_zero, List.set_cons_succ, i64_w, i32_w]
            rfl
           refine one_ (i := 4) (N := some 38) #[true, true, true, true, true, false, false] rfl rfl (by kernel_rfl) (by decide) (fun K hK => ?_)
           refine goes_ Tryz.func22 (by kernel_rfl) rfl #[] (by rfl) rfl rfl (by (try simp only [List.map_toArray, List.map_cons, List.map_nil]); first | done | rfl | (simp only [List.length_drop, List.length_take]; rfl)) ?_
           with_reducible refine (qEB.calls  t180 t181 t182 t183 t184 t185 _ A21.out).mono ?_
           rintro e w31 ⟨rfl, hb⟩
           have HS0_ := (hb.cell (World.block_lt_of_cell? _ _ (hHeld))).trans (hHeld)
           refine ⟨_, rfl, ?_⟩
           have n0_ := Aside0.mk (Kd.qW (by (with_reducible repeat (first | apply Kd.qG | apply Kd.qH | apply Kd.qI)); exact HO_18.out) hb)
           have n1_ := Aside0.mk (Kd.qW (by (with_reducible repeat (first | apply Kd.qG | apply Kd.qH | apply Kd.qI)); exact HO_22.out) hb)
           have n2_ := Aside0.mk (Kd.qW (by (with_reducible repeat (first | apply Kd.qG | apply Kd.qH | apply Kd.qI)); exact HO178.out) hb)
           have n3_ := Aside0.mk (bb BK168 hb)
           have n4_ := Aside0.mk (qK bl hb)
           clear HO_18
           clear HO_22
           clear HO178
           clear BK168
           clear HB
           have HO_18 := n0_
           have HO_22 := n1_
           have HO178 := n2_
           have BK168 := n3_
           have HB := n4_
           clear n0_ n1_ n2_ n3_ n4_
           (try clear hb)
           (try clear hb2)
           (try clear hk)
           (try clear hi)
           have p24 : 0 ≤ ((rd t176 0) : Int) := of_decide_eq_true (by first | (with_reducible assumption) | assumption)
           have q24 : ((rd t176 0) : Int) < ((y172.length : Int) : Int) := of_decide_eq_true (by first | (with_reducible assumption) | assumption)
           obtain ⟨go24, co24, eo24, gb24, gl24, cl24, HG24⟩ := Kd.qkB HO_22.out (by omega)
           (first | cases eo24 | (injection eo24 with ea_ en_ ec_; (first | subst ea_ | (injection ea_ with ea_; subst ea_)); subst ec_; clear en_))
           have GB24 := Aside0.mk gb24
           have GG24 := Aside0.mk HG24
           clear gb24 gl24 HG24
           obtain ⟨ce24, hcl24, hM24, hcc24, hfr24⟩ := Kd.qEC HO_22.out z53 ((rd t176 0) : Int) p24 q24
           obtain rfl := qBB hM24
           have hx24_0 : World.cell? _ ⟨go24, ((rd t176 0) : Int).toNat * 6, none⟩ = some (.int .i64 ((qZ y172 (rd t176 0)).f0)) := hcc24 0 _ rfl
           have hx24_1 : World.cell? _ ⟨go24, ((rd t176 0) : Int).toNat * 6 + 1, none⟩ = some (.int .i64 ((qZ y172 (rd t176 0)).f1)) := hcc24 1 _ rfl
           have hx24_2 : World.cell? _ ⟨go24, ((rd t176 0) : Int).toNat * 6 + 2, none⟩ = some (.int .i64 ((qZ y172 (rd t176 0)).f2)) := hcc24 2 _ rfl
           have hx24_3 : World.cell? _ ⟨go24, ((rd t176 0) : Int).toNat * 6 + 3, none⟩ = some (.int .i64 ((qZ y172 (rd t176 0)).f3)) := hcc24 3 _ rfl
           have hx24_4 : World.cell? _ ⟨go24, ((rd t176 0) : Int).toNat * 6 + 4, none⟩ = some (.int .i64 ((qZ y172 (rd t176 0)).f4)) := hcc24 4 _ rfl
           have hx24_5 : World.cell? _ ⟨go24, ((rd t176 0) : Int).toNat * 6 + 5, none⟩ = some (.int .i64 ((qZ y172 (rd t176 0)).f5)) := hcc24 5 _ rfl
           have hf24_0 : World.frozen? _ ⟨go24, ((rd t176 0) : Int).toNat * 6, none⟩ = false := hfr24 0
           have hf24_1 : World.frozen? _ ⟨go24, ((rd t176 0) : Int).toNat * 6 + 1, none⟩ = false := hfr24 1
           have hf24_2 : World.frozen? _ ⟨go24, ((rd t176 0) : Int).toNat * 6 + 2, none⟩ = false := hfr24 2
           have hf24_3 : World.frozen? _ ⟨go24, ((rd t176 0) : Int).toNat * 6 + 3, none⟩ = false := hfr24 3
           have hf24_4 : World.frozen? _ ⟨go24, ((rd t176 0) : Int).toNat * 6 + 4, none⟩ = false := hfr24 4
           have hf24_5 : World.frozen? _ ⟨go24, ((rd t176 0) : Int).toNat * 6 + 5, none⟩ = false := hfr24 5
           clear hcl24 hcc24 hfr24 hM24
           replace p24 := eq_true p24
           replace q24 := eq_true q24
           obtain ⟨ce32, hcl32, hM32, hcc32, hfr32⟩ := Kd.qEC (Kd.qHB (Kd.qHB HO_22.out (Kd.qEA HO_18.out) (by decide)) (Kd.qEA HO178.out) (by decide)) z53 ((rd t176 0) : Int) (of_decide_eq_true (by first | (with_reducible assumption) | assumption)) (by have h_ : ((rd t176 0) : Int) < ((y172.length : Int) : Int) := of_decide_eq_true (by first | (with_reducible assumption) | assumption); first | exact h_ | (have e_ := (Kd.qQ HO_22.out).1; omega) | simpa using h_)
           obtain rfl := qBB hM32
           have HP32 := (Kd.R_seg (Kd.qHB (Kd.qHB HO_22.out (Kd.qEA HO_18.out) (by decide)) (Kd.qEA HO178.out) (by decide)) ((rd t176 0) : Int) (of_decide_eq_true (by first | (with_reducible assumption) | assumption)) (by have h_ : ((rd t176 0) : Int) < ((y172.length : Int) : Int) := of_decide_eq_true (by first | (with_reducible assumption) | assumption); first | exact h_ | (have e_ := (Kd.qQ HO_22.out).1; omega) | simpa using h_) (seg := [.int .i64 t180, .int .i64 t181, .int .i64 t182, .int .i64 t183, .int .i64 t184, .int .i64 t185]) (j := 0) hcl32 hcc32 (show 6 ≤ 6 from by decide) (x' := (⟨t180, t181, t182, t183, t184, t185⟩ : S53)) (qLC _ _ _ (⟨t180, t181, t182, t183, t184, t185⟩ : S53) ) (fun _ hk => hk)).1
           rw [← Ny186.out] at HP32
           have HQ32 := Aside0.mk HP32
           clear hcl32 hcc32 hfr32 hM32 HP32
           refine hK.out _ _ (HS0_) (fun hHeld => ?_)
           clear hK K
           refine norm_ (a' := ?_) ?_ ?_
           rotate_left
           ·show Act.put _ (some 38) _ = _
            simp only [Act.put, List.setIfInBounds_toArray, List.set_cons_zero, List.set_cons_succ, i64_w, i32_w]
            rfl
           refine pure_ (i := 5) (N := some 39) (v := ?_) (a' := ?_) #[true, true, true, true, true, true, false] rfl rfl (by kernel_rfl) (fun _ _ _ h => h) (Or.inl ⟨by rfl, ?_⟩) ?_ ?_
           rotate_left
           ·intro w'
            go_simp
            first | (with_reducible rfl) | (rw [if_neg (by simp only [ByteArray.size_extract, ByteArray.size_append] at * <;> omega)]; try with_reducible rfl)
           rotate_left
           ·simp only [Act.put, List.setIfInBounds_toArray, List.set_cons_zero, List.set_cons_succ, i64_w, i32_w]
            rfl
           refine last_ (i := 6) (N := none) #[true, true, true, true, true, true, true] rfl rfl (by kernel_rfl) (by decide) (fun K hK => ?_)
           refine skip_ (w1 := ?_) (by rfl) rfl ?_ ?_
           rotate_left
           ·go_simp
            rfl
           refine hK.out _ _ ?_
           clear hK K
           refine done_ (by kernel_rfl) ?_
           have n0_ : Aside0 (Kd.R (Kd.int .i64) 3 ((((((w31.setCell ⟨go24, ((rd t176 0) : Int).toNat * 6, none⟩ (.int .i64 t180)).setCell ⟨go24, ((rd t176 0) : Int).toNat * 6 + 1, none⟩ (.int .i64 t181)).setCell ⟨go24, ((rd t176 0) : Int).toNat * 6 + 2, none⟩ (.int .i64 t182)).setCell ⟨go24, ((rd t176 0) : Int).toNat * 6 + 3, none⟩ (.int .i64 t183)).setCell ⟨go24, ((rd t176 0) : Int).toNat * 6 + 4, none⟩ (.int .i64 t184)).setCell ⟨go24, ((rd t176 0) : Int).toNat * 6 + 5, none⟩ (.int .i64 t185)) w.heap.size (fun k_ => some k_ ≠ (.slice (some ad179) t176.length co30 : Value).ownBlock) (.slice Ao12 x18_1.length co12) x18_1) := ⟨by (with_reducible repeat (first | apply Kd.qG | apply Kd.qH | apply Kd.qI)); exact Kd.qf (Kd.R_far (p := ⟨go24, ((rd t176 0) : Int).toNat * 6 + 5, none⟩) (Kd.R_far (p := ⟨go24, ((rd t176 0) : Int).toNat * 6 + 4, none⟩) (Kd.R_far (p := ⟨go24, ((rd t176 0) : Int).toNat * 6 + 3, none⟩) (Kd.R_far (p := ⟨go24, ((rd t176 0) : Int).toNat * 6 + 2, none⟩) (Kd.R_far (p := ⟨go24, ((rd t176 0) : Int).toNat * 6 + 1, none⟩) (Kd.R_far (p := ⟨go24, ((rd t176 0) : Int).toNat * 6, none⟩) (Kd.qXA HO_18.out (by first | exact GG24.out | exact (Kd.qEA HO_22.out go24 rfl).choose_spec) (by decide)) (fun _ hk => hk.2) (.int .i64 t180)) (fun _ hk => hk.2) (.int .i64 t181)) (fun _ hk => hk.2) (.int .i64 t182)) (fun _ hk => hk.2) (.int .i64 t183)) (fun _ hk => hk.2) (.int .i64 t184)) (fun _ hk => hk.2) (.int .i64 t185)) (fun _ hk => hk.1.2)⟩
           have n1_ : Aside0 (Kd.R k53 53 ((((((w31.setCell ⟨go24, ((rd t176 0) : Int).toNat * 6, none⟩ (.int .i64 t180)).setCell ⟨go24, ((rd t176 0) : Int).toNat * 6 + 1, none⟩ (.int .i64 t181)).setCell ⟨go24, ((rd t176 0) : Int).toNat * 6 + 2, none⟩ (.int .i64 t182)).setCell ⟨go24, ((rd t176 0) : Int).toNat * 6 + 3, none⟩ (.int .i64 t183)).setCell ⟨go24, ((rd t176 0) : Int).toNat * 6 + 4, none⟩ (.int .i64 t184)).setCell ⟨go24, ((rd t176 0) : Int).toNat * 6 + 5, none⟩ (.int .i64 t185)) w.heap.size (fun _ => True) (.slice (some ⟨go24, 0, none⟩) y172.length co24) y186) := ⟨by (with_reducible repeat (first | apply Kd.qG | apply Kd.qH | apply Kd.qI)); exact Kd.qf HQ32.out (fun _ hk => trivial)⟩
           have n2_ : Aside0 (Kd.R (Kd.int .i64) 3 ((((((w31.setCell ⟨go24, ((rd t176 0) : Int).toNat * 6, none⟩ (.int .i64 t180)).setCell ⟨go24, ((rd t176 0) : Int).toNat * 6 + 1, none⟩ (.int .i64 t181)).setCell ⟨go24, ((rd t176 0) : Int).toNat * 6 + 2, none⟩ (.int .i64 t182)).setCell ⟨go24, ((rd t176 0) : Int).toNat * 6 + 3, none⟩ (.int .i64 t183)).setCell ⟨go24, ((rd t176 0) : Int).toNat * 6 + 4, none⟩ (.int .i64 t184)).setCell ⟨go24, ((rd t176 0) : Int).toNat * 6 + 5, none⟩ (.int .i64 t185)) w.heap.size (fun k_ => some k_ ≠ (.slice Ao12 x18_1.length co12 : Value).ownBlock) (.slice (some ad179) t176.length co30) t176) := ⟨by (with_reducible repeat (first | apply Kd.qG | apply Kd.qH | apply Kd.qI)); exact Kd.qf (Kd.R_far (p := ⟨go24, ((rd t176 0) : Int).toNat * 6 + 5, none⟩) (Kd.R_far (p := ⟨go24, ((rd t176 0) : Int).toNat * 6 + 4, none⟩) (Kd.R_far (p := ⟨go24, ((rd t176 0) : Int).toNat * 6 + 3, none⟩) (Kd.R_far (p := ⟨go24, ((rd t176 0) : Int).toNat * 6 + 2, none⟩) (Kd.R_far (p := ⟨go24, ((rd t176 0) : Int).toNat * 6 + 1, none⟩) (Kd.R_far (p := ⟨go24, ((rd t176 0) : Int).toNat * 6, none⟩) (Kd.qXA HO178.out (by first | exact GG24.out | exact (Kd.qEA HO_22.out go24 rfl).choose_spec) (by decide)) (fun _ hk => hk.2) (.int .i64 t180)) (fun _ hk => hk.2) (.int .i64 t181)) (fun _ hk => hk.2) (.int .i64 t182)) (fun _ hk => hk.2) (.int .i64 t183)) (fun _ hk => hk.2) (.int .i64 t184)) (fun _ hk => hk.2) (.int .i64 t185)) (fun _ hk => hk.1.2)⟩
           have n3_ : Aside0 (((((((w31.setCell ⟨go24, ((rd t176 0) : Int).toNat * 6, none⟩ (.int .i64 t180)).setCell ⟨go24, ((rd t176 0) : Int).toNat * 6 + 1, none⟩ (.int .i64 t181)).setCell ⟨go24, ((rd t176 0) : Int).toNat * 6 + 2, none⟩ (.int .i64 t182)).setCell ⟨go24, ((rd t176 0) : Int).toNat * 6 + 3, none⟩ (.int .i64 t183)).setCell ⟨go24, ((rd t176 0) : Int).toNat * 6 + 4, none⟩ (.int .i64 t184)).setCell ⟨go24, ((rd t176 0) : Int).toNat * 6 + 5, none⟩ (.int .i64 t185)).heap[gb168]? = some (.cells #[.int .i64 a0_0, .int .i64 a0_1, .slice A0_2 l0_2.length c0_2] 27 (0, 0))) := ⟨by (with_reducible repeat (first | refine qC ?_ _ | refine qD ?_ | refine qB ?_ _)); refine qIA ?_ (by have h_ := Kd.R_ne HO_22.out BK168.out (by decide); intro e_; exact h_ (by rw [e_]; rfl)) _; (with_reducible repeat (first | refine qC ?_ _ | refine qD ?_ | refine qB ?_ _)); refine qIA ?_ (by have h_ := Kd.R_ne HO_22.out BK168.out (by decide); intro e_; exact h_ (by rw [e_]; rfl)) _; (with_reducible repeat (first | refine qC ?_ _ | refine qD ?_ | refine qB ?_ _)); refine qIA ?_ (by have h_ := Kd.R_ne HO_22.out BK168.out (by decide); intro e_; exact h_ (by rw [e_]; rfl)) _; (with_reducible repeat (first | refine qC ?_ _ | refine qD ?_ | refine qB ?_ _)); refine qIA ?_ (by have h_ := Kd.R_ne HO_22.out BK168.out (by decide); intro e_; exact h_ (by rw [e_]; rfl)) _; (with_reducible repeat (first | refine qC ?_ _ | refine qD ?_ | refine qB ?_ _)); refine qIA ?_ (by have h_ := Kd.R_ne HO_22.out BK168.out (by decide); intro e_; exact h_ (by rw [e_]; rfl)) _; (with_reducible repeat (first | refine qC ?_ _ | refine qD ?_ | refine qB ?_ _)); refine qIA ?_ (by have h_ := Kd.R_ne HO_22.out BK168.out (by decide); intro e_; exact h_ (by rw [e_]; rfl)) _; (with_reducible repeat (first | refine qC ?_ _ | refine qD ?_ | refine qB ?_ _)); exact BK168.out⟩
           have n4_ : Aside0 (Below w.heap.size w ((((((w31.setCell ⟨go24, ((rd t176 0) : Int).toNat * 6, none⟩ (.int .i64 t180)).setCell ⟨go24, ((rd t176 0) : Int).toNat * 6 + 1, none⟩ (.int .i64 t181)).setCell ⟨go24, ((rd t176 0) : Int).toNat * 6 + 2, none⟩ (.int .i64 t182)).setCell ⟨go24, ((rd t176 0) : Int).toNat * 6 + 3, none⟩ (.int .i64 t183)).setCell ⟨go24, ((rd t176 0) : Int).toNat * 6 + 4, none⟩ (.int .i64 t184)).setCell ⟨go24, ((rd t176 0) : Int).toNat * 6 + 5, none⟩ (.int .i64 t185))) := ⟨by repeat (first | (with_reducible first | exact HB.out | apply qMA | apply qgA | apply qh | refine qe ?_ GB24.out | refine qe ?_ GB24.out | refine qe ?_ GB24.out | refine qe ?_ GB24.out | refine qe ?_ GB24.out | refine qe ?_ GB24.out | refine qe ?_ GE168.out) | exact HB.out)⟩
           (try clear HO_18)
           (try clear HO_22)
           (try clear HO178)
           (try clear BK168)
           (try clear HB)
           generalize ((((((w31.setCell ⟨go24, ((rd t176 0) : Int).toNat * 6, none⟩ (.int .i64 t180)).setCell ⟨go24, ((rd t176 0) : Int).toNat * 6 + 1, none⟩ (.int .i64 t181)).setCell ⟨go24, ((rd t176 0) : Int).toNat * 6 + 2, none⟩ (.int .i64 t182)).setCell ⟨go24, ((rd t176 0) : Int).toNat * 6 + 3, none⟩ (.int .i64 t183)).setCell ⟨go24, ((rd t176 0) : Int).toNat * 6 + 4, none⟩ (.int .i64 t184)).setCell ⟨go24, ((rd t176 0) : Int).toNat * 6 + 5, none⟩ (.int .i64 t185)) = w33 at n0_ n1_ n2_ n3_ n4_ ⊢
           have HO_18 := n0_
           have HO_22 := n1_
           have HO178 := n2_
           have BK168 := n3_
           have HB := n4_
           clear n0_ n1_ n2_ n3_ n4_
           have p187 : 0 ≤ (0 : Int) := (by omega)
           have q187 : 0 < (t176.length : Int) := of_decide_eq_true (by first | (with_reducible assumption) | assumption)
           obtain ⟨ad187, e187, hx187_0⟩ := Kd.qCA (Kd.qQ HO178.out).2.2 0 p187 q187
           obtain rfl : ad179 = ad187 := (by injection e187)
           have qi187 : (0 < t176.length) = True := eq_true (by omega)
           (try rw [show ((0 : Int)).toNat = 0 from rfl] at hx187_0)
           (try rw [Addr.add_zero'] at hx187_0)
           replace p187 := eq_true p187
           replace q187 := eq_true q187
           have p26 : 0 ≤ ((rd t176 0) : Int) := of_decide_eq_true (by first | (with_reducible assumption) | assumption)
           have q26 : ((rd t176 0) : Int) < ((x18_1.length : Int) : Int) := of_decide_eq_true (by first | (with_reducible assumption) | assumption)
           obtain ⟨go26, co26, eo26, gb26, gl26, cl26, HG26⟩ := Kd.qkB HO_18.out (by omega)
           (first | cases eo26 | (injection eo26 with ea_ en_ ec_; (first | subst ea_ | (injection ea_ with ea_; subst ea_)); subst ec_; clear en_))
           have GB26 := Aside0.mk gb26
           have GG26 := Aside0.mk HG26
           clear gb26 gl26 HG26
           obtain ⟨hx26_0, hf26_0⟩ := Kd.qhA 0 HO_18.out ((rd t176 0) : Int) p26 q26
           replace p26 := eq_true p26
           replace q26 := eq_true q26
           obtain ⟨hy34_, hz34_⟩ := Kd.qhA 0 HO_18.out ((rd t176 0) : Int) (of_decide_eq_true (by first | (with_reducible assumption) | assumption)) (of_decide_eq_true (by first | (with_reducible assumption) | assumption))
           have HP34 := Kd.qnB HO_18.out ((rd t176 0) : Int) 5
           try go_wp2_with (first | ((with_reducible refine qeA (t := 3) (p := 44) rfl ?_); refine qUA (t := 3) (p := 44) (v := ?vo_w35) (w1 := (w33.setCell ⟨go26, ((rd t176 0) : Int).toNat, none⟩ (.int .i64 5))) ?hg ?ho ?hn ?hr ?_; (case ho => rfl); (case hg => rfl); (case hn => rfl); (case hr => first | (go_simp; done) | (go_simp; rfl)); intro w35 hw; have hg : w33.grownBy w35 (some go26) := (by rw [hw]; exact HP34.2); have hp_ : Kd.R (Kd.int .i64) 3 w35 w.heap.size (fun k_ => some k_ ≠ (.slice (some ad179) t176.length co30 : Value).ownBlock) (.slice (some ⟨go26, 0, none⟩) x18_1.length co12) y188 := (by rw [hw, Ny188.out]; exact HP34.1); clear HP34; have n0_ := Aside0.mk (hp_); have n1_ := Aside0.mk (Kd.qnA (v := (.slice (some ⟨go26, 0, none⟩) x18_1.length co12)) (by (with_reducible repeat (first | apply Kd.qG | apply Kd.qH | apply Kd.qI)); exact HO_22.out) (Kd.qEA HO_18.out) (by decide) hg); have n2_ := Aside0.mk (qaA (g := gb168) (o := .cells #[.int .i64 a0_0, .int .i64 a0_1, .slice A0_2 l0_2.length c0_2] 27 (0, 0)) (by (with_reducible repeat (first | refine qC ?_ _ | refine qD ?_ | refine qB ?_ _)); exact BK168.out) hg (Kd.R_ne HO_18.out BK168.out (by decide))); have n3_ := Aside0.mk (Kd.qsA (v := (.slice (some ⟨go26, 0, none⟩) x18_1.length co12)) (v1 := (.slice (some ⟨go26, 0, none⟩) x18_1.length co12)) (ok := (fun _ => True)) (by (with_reducible repeat (first | apply Kd.qG | apply Kd.qH | apply Kd.qI)); exact Kd.qf HO178.out (fun _ hk => ⟨trivial, hk⟩)) hg (.inl rfl)); have n4_ := Aside0.mk ((by rw [hw]; exact qe (HB.out) GB26.out : Below w.heap.size w w35)); clear HO_18; clear HO_22; clear BK168; clear HO178; clear HB; have HO_18 := n0_; have HO_22 := n1_; have BK168 := n2_; have HO178 := n3_; have HB := n4_; clear n0_ n1_ n2_ n3_ n4_; clear hg hw hp_; have p189 : 0 ≤ (0 : Int) := (by omega); have q189 : 0 < (t176.length : Int) := of_decide_eq_true (by first | (with_reducible assumption) | assumption); obtain ⟨ad189, e189, hx189_0⟩ := Kd.qCA (Kd.qQ HO178.out).2.2 0 p189 q189; obtain rfl : ad179 = ad189 := (by injection e189); have qi189 : (0 < t176.length) = True := eq_true (by omega); (try rw [show ((0 : Int)).toNat = 0 from rfl] at hx189_0); (try rw [Addr.add_zero'] at hx189_0); replace p189 := eq_true p189; replace q189 := eq_true q189) | ((with_reducible refine qX (N := 48) rfl ?_); refine Kd.R_lit (Kd.int .i64) _ 3 ?hg (N := 48) ?hd (xs := ([rd t176 0] : List Int)) (inner := [.int .i64 (rd t176 0)]) (ok := fun _ => True) (okp := fun _ => True) ?hr ?hp (fun _ hk => hk) trivial (Below.refl _ _) (Nat.le_refl _) (by simp) ?_; (case hd => rfl); (case hg => rfl); (case hr => first | (go_simp; done) | (go_simp; rfl)); (case hp => exact (Reps.one (show Kd.M (Kd.int .i64) _ _ _ (rd t176 0) [.int .i64 (rd t176 0)] from rfl) (Reps.none _ _))); intro v191 w36 ho37 hb hg_ hnew_; clear hg_ hnew_; (first | rw [← Ny190.out] at ho37 | (simp only [Int.reduceToNat] at ho37; rw [← Ny190.out] at ho37)); have n0_ := Aside0.mk (Kd.quA (by (with_reducible repeat (first | apply Kd.qG | apply Kd.qH | apply Kd.qI)); exact HO_18.out) (Kd.qZB ho37) hb); have n1_ := Aside0.mk (Kd.qW (by (with_reducible repeat (first | apply Kd.qG | apply Kd.qH | apply Kd.qI)); exact HO_22.out) hb); have n2_ := Aside0.mk (Kd.quA (by (with_reducible repeat (first | apply Kd.qG | apply Kd.qH | apply Kd.qI)); exact HO178.out) (Kd.qZB ho37) hb); have n3_ := Aside0.mk (Kd.qAA (Kd.qYB (Kd.qYB ho37 (Kd.R_lt (by (with_reducible repeat (first | apply Kd.qG | apply Kd.qH | apply Kd.qI)); exact HO_18.out))) (Kd.R_lt (by (with_reducible repeat (first | apply Kd.qG | apply Kd.qH | apply Kd.qI)); exact HO178.out))) (qa bl)); have n4_ := Aside0.mk (bb BK168 hb); have n5_ := Aside0.mk (qK bl hb); clear HO_18; clear HO_22; clear HO178; clear BK168; clear HB; have HO_18 := n0_; have HO_22 := n1_; have HO178 := n2_; have HO192 := n3_; have BK168 := n4_; have HB := n5_; clear n0_ n1_ n2_ n3_ n4_ n5_; clear hb ho37))
           go_loopg [8, 9] k1 (fun kq v8 v9 w' => ∃ (x8_2 : List Int) (x9_2 : Int) (x18_2 : List Int) (x22_2 : List (S53)), v9 = .int .i64 x9_2 ∧ Aside0 (qJ.l1 kq x8_2 x9_2 x18_2 x22_2 t176 a0_0 a0_1 l0_2 = some (r1, r2)) ∧ Aside0 (kq ≤ k1) ∧ Aside0 (Kd.R (Kd.int .i64) 3 w' w.heap.size (fun k_ => some k_ ≠ ((.slice (some ⟨go26, 0, none⟩) x18_1.length co12) : Value).ownBlock ∧ some k_ ≠ ((.slice (some ad179) t176.length co30) : Value).ownBlock) v8 x8_2) ∧ Aside0 (Kd.R (Kd.int .i64) 3 w' w.heap.size (fun k_ => some k_ ≠ (v8 : Value).ownBlock ∧ some k_ ≠ ((.slice (some ad179) t176.length co30) : Value).ownBlock) (.slice (some ⟨go26, 0, none⟩) x18_1.length co12) x18_2) ∧ Aside0 (Kd.R k53 53 w' w.heap.size (fun _ => True) (.slice (some ⟨go24, 0, none⟩) y172.length co24) x22_2) ∧ Aside0 (Kd.R (Kd.int .i64) 3 w' w.heap.size (fun k_ => some k_ ≠ (v8 : Value).ownBlock ∧ some k_ ≠ ((.slice (some ⟨go26, 0, none⟩) x18_1.length co12) : Value).ownBlock) (.slice (some ad179) t176.length co30) t176) ∧ Aside0 (w'.heap[gb168]? = some (.cells #[.int .i64 a0_0, .int .i64 a0_1, (.slice A0_2 l0_2.length c0_2)] 27 (0, 0))) ∧ Aside0 (Below w.heap.size w w'))
           case atStart => exact ⟨(y190), (0), (y188), (y186), (by first | rfl | (simp; done) | (simp [*]; done)), H', ⟨Nat.le_refl _⟩, ⟨by (try simp only [hl18_1]); (with_reducible repeat (first | apply Kd.qG | apply Kd.qH | apply Kd.qI)); exact Kd.qf HO192.out (fun _ hk => ⟨hk.1.2, hk.2⟩)⟩, ⟨by (try simp only [hl18_1]); (with_reducible repeat (first | apply Kd.qG | apply Kd.qH | apply Kd.qI)); exact Kd.qf HO_18.out (fun _ hk => ⟨hk.2, hk.1⟩)⟩, ⟨by (try simp only [hl18_1]); (with_reducible repeat (first | apply Kd.qG | apply Kd.qH | apply Kd.qI)); exact HO_22.out⟩, ⟨by (try simp only [hl18_1]); (with_reducible repeat (first | apply Kd.qG | apply Kd.qH | apply Kd.qI)); exact Kd.qf HO178.out (fun _ hk => ⟨hk.2, hk.1.2⟩)⟩, ⟨by (try simp only [hl18_1]); (with_reducible repeat (first | refine qC ?_ _ | refine qD ?_ | refine qB ?_ _)); exact BK168.out⟩, ⟨bl⟩⟩
           case round =>
            clear H'
            try clear c1
            try clear p1
            try clear q1
            try clear hx1
            try clear qi1
            try clear hf1
            try clear c2
            try clear c2b0
            try clear c2b1
            try clear p2
            try clear q2
            try clear hx2
            try clear hf2
            try clear c3
            try clear c3b0
            try clear c3b1
            try clear c4
            try clear c4b0
            try clear c4b1
            try clear p6
            try clear c13
            try clear c13b0
            try clear c14
            try clear c14b0
            try clear c15
            try clear c15b0
            try clear p16
            try clear q16
            try clear hx16
            try clear hf16
            try clear p17
            try clear q17
            try clear hx17
            try clear qi17
            try clear p18
            try clear q18
            try clear hx18
            try clear qi18
            try clear c20
            try clear c20b0
            try clear c20b1
            try clear c22
            try clear c22b0
            try clear c23
            try clear c23b0
            try clear c24
            try clear p24
            try clear q24
            try clear hx24
            try clear hf24
            try clear c25
            try clear c25b0
            try clear p26
            try clear q26
            try clear hx26
            try clear hf26
            try clear c32
            try clear hcz27_0
            try clear hcz27_1
            try clear hcz27_2
            try clear hcz6_0
            try clear hcz6_1
            try clear hcz6_2
            try clear hcz9_0
            try clear hcz9_1
            try clear hcz9_2
            try clear hfz27_0
            try clear hfz27_1
            try clear hfz27_2
            try clear hfz6_0
            try clear hfz6_1
            try clear hfz6_2
            try clear hfz9_0
            try clear hfz9_1
            try clear hfz9_2
            try clear hx16_0
            try clear hx179_0
            try clear hx187_0
            try clear hx189_0
            try clear hx24_0
            try clear hx24_1
            try clear hx24_2
            try clear hx24_3
            try clear hx24_4
            try clear hx24_5
            try clear hx26_0
            try clear p16
            try clear p179
            try clear p187
            try clear p189
            try clear p2
            try clear p24
            try clear p26
            try clear q16
            try clear q179
            try clear q187
            try clear q189
            try clear q24
            try clear q26
            obtain ⟨x8_2, x9_2, x18_2, x22_2, rfl, HA, HK2, HO_8, HO_18, HO_22, HO_33, BK168, HB⟩ := hrel
            have hl18_2 := (Kd.qQ HO_18.out).1
            rw [hl18_2] at HO_18
            (try simp only [hl18_2])
            (try simp only [hl18_2] at BK168)
            (try simp only [hl18_2] at HO_8)
            (try simp only [hl18_2] at HO_22)
            (try simp only [hl18_2] at HO_33)
            have hl22_2 := (Kd.qQ HO_22.out).1
            rw [hl22_2] at HO_22
            (try simp only [hl22_2])
            (try simp only [hl22_2] at BK168)
            (try simp only [hl22_2] at HO_8)
            (try simp only [hl22_2] at HO_18)
            (try simp only [hl22_2] at HO_33)
            cases gk with
            | zero => exact absurd HA.out (by simp [qJ.l1])
            | succ k2 =>
             have H := HA.out
             clear HA
             simp only [qJ.l1] at H
             by_cases c38 : x9_2 < (x8_2.length : Int)
             ·rw [if_pos c38] at H
              have c38b0 : decide (x9_2 < (x8_2.length : Int)) = true := decide_eq_true c38
              (try (have c38b0_hl18_1 := c38b0; simp only [hl18_1] at c38b0_hl18_1))
              (try (have c38b0_hl18_2 := c38b0; simp only [hl18_2] at c38b0_hl18_2))
              (try (have c38b0_hl22_2 := c38b0; simp only [hl22_2] at c38b0_hl22_2))
              clear c38
              have H' := Aside0.mk H
              clear H
              obtain ⟨Ao39, co39, eo39⟩ := Kd.qp HO_8.out
              subst eo39
              go_wp2
              go_loopg [8, 10] k2 (fun kq v8 v10 w' => ∃ (x8_3 : List Int) (x10_3 : Int) (x18_3 : List Int) (x22_3 : List (S53)), v10 = .int .i64 x10_3 ∧ Aside0 (qJ.l2 kq x8_3 x9_2 x10_3 x18_3 x22_3 t176 a0_0 a0_1 l0_2 = some (r1, r2)) ∧ Aside0 (kq ≤ k2) ∧ Aside0 (Kd.R (Kd.int .i64) 3 w' w.heap.size (fun k_ => some k_ ≠ ((.slice (some ⟨go26, 0, none⟩) x18_2.length co12) : Value).ownBlock ∧ some k_ ≠ ((.slice (some ad179) t176.length co30) : Value).ownBlock) v8 x8_3) ∧ Aside0 (Kd.R (Kd.int .i64) 3 w' w.heap.size (fun k_ => some k_ ≠ (v8 : Value).ownBlock ∧ some k_ ≠ ((.slice (some ad179) t176.length co30) : Value).ownBlock) (.slice (some ⟨go26, 0, none⟩) x18_2.length co12) x18_3) ∧ Aside0 (Kd.R k53 53 w' w.heap.size (fun _ => True) (.slice (some ⟨go24, 0, none⟩) x22_2.length co24) x22_3) ∧ Aside0 (Kd.R (Kd.int .i64) 3 w' w.heap.size (fun k_ => some k_ ≠ (v8 : Value).ownBlock ∧ some k_ ≠ ((.slice (some ⟨go26, 0, none⟩) x18_2.length co12) : Value).ownBlock) (.slice (some ad179) t176.length co30) t176) ∧ Aside0 (w'.heap[gb168]? = some (.cells #[.int .i64 a0_0, .int .i64 a0_1, (.slice A0_2 l0_2.length c0_2)] 27 (0, 0))) ∧ Aside0 (Below w.heap.size w w'))
              case atStart => exact ⟨(x8_2), (0), (x18_2), (x22_2), (by first | rfl | (simp; done) | (simp [*]; done)), H', ⟨Nat.le_refl _⟩, ⟨by (try simp only [hl18_1]); (try simp only [hl18_2]); (try simp only [hl22_2]); (with_reducible repeat (first | apply Kd.qG | apply Kd.qH | apply Kd.qI)); exact HO_8.out⟩, ⟨by (try simp only [hl18_1]); (try simp only [hl18_2]); (try simp only [hl22_2]); (with_reducible repeat (first | apply Kd.qG | apply Kd.qH | apply Kd.qI)); exact HO_18.out⟩, ⟨by (try simp only [hl18_1]); (try simp only [hl18_2]); (try simp only [hl22_2]); (with_reducible repeat (first | apply Kd.qG | apply Kd.qH | apply Kd.qI)); exact HO_22.out⟩, ⟨by (try simp only [hl18_1]); (try simp only [hl18_2]); (try simp only [hl22_2]); (with_reducible repeat (first | apply Kd.qG | apply Kd.qH | apply Kd.qI)); exact HO_33.out⟩, ⟨by (try simp only [hl18_1]); (try simp only [hl18_2]); (try simp only [hl22_2]); (with_reducible repeat (first | refine qC ?_ _ | refine qD ?_ | refine qB ?_ _)); exact BK168.out⟩, ⟨bl⟩⟩
              case round =>
               clear H'
               try clear c1
               try clear p1
               try clear q1
               try clear hx1
               try clear qi1
               try clear hf1
               try clear c2
               try clear c2b0
               try clear c2b1
               try clear p2
               try clear q2
               try clear hx2
               try clear hf2
               try clear c3
               try clear c3b0
               try clear c3b1
               try clear c4
               try clear c4b0
               try clear c4b1
               try clear p6
               try clear c13
               try clear c13b0
               try clear c14
               try clear c14b0
               try clear c15
               try clear c15b0
               try clear p16
               try clear q16
               try clear hx16
               try clear hf16
               try clear p17
               try clear q17
               try clear hx17
               try clear qi17
               try clear p18
               try clear q18
               try clear hx18
               try clear qi18
               try clear c20
               try clear c20b0
               try clear c20b1
               try clear c22
               try clear c22b0
               try clear c23
               try clear c23b0
               try clear c24
               try clear p24
               try clear q24
               try clear hx24
               try clear hf24
               try clear c25
               try clear c25b0
               try clear p26
               try clear q26
               try clear hx26
               try clear hf26
               try clear c32
               try clear c38
               try clear c38b0
               try clear hcz27_0
               try clear hcz27_1
               try clear hcz27_2
               try clear hcz6_0
               try clear hcz6_1
               try clear hcz6_2
               try clear hcz9_0
               try clear hcz9_1
               try clear hcz9_2
               try clear hfz27_0
               try clear hfz27_1
               try clear hfz27_2
               try clear hfz6_0
               try clear hfz6_1
               try clear hfz6_2
               try clear hfz9_0
               try clear hfz9_1
               try clear hfz9_2
               try clear hx16_0
               try clear hx179_0
               try clear hx187_0
               try clear hx189_0
               try clear hx24_0
               try clear hx24_1
               try clear hx24_2
               try clear hx24_3
               try clear hx24_4
               try clear hx24_5
               try clear hx26_0
               try clear p1
               try clear p16
               try clear p17
               try clear p179
               try clear p18
               try clear p187
               try clear p189
               try clear p2
               try clear p24
               try clear p26
               try clear p6
               try clear q1
               try clear q16
               try clear q17
               try clear q179
               try clear q18
               try clear q187
               try clear q189
               try clear q2
               try clear q24
               try clear q26
               obtain ⟨x8_3, x10_3, x18_3, x22_3, rfl, HA, HK3, HO_8, HO_18, HO_22, HO_33, BK168, HB⟩ := hrel
               have hl18_3 := (Kd.qQ HO_18.out).1
               rw [hl18_3] at HO_18
               (try simp only [hl18_3])
               (try simp only [hl18_3] at BK168)
               (try simp only [hl18_3] at HO_8)
               (try simp only [hl18_3] at HO_22)
               (try simp only [hl18_3] at HO_33)
               have hl22_3 := (Kd.qQ HO_22.out).1
               rw [hl22_3] at HO_22
               (try simp only [hl22_3])
               (try simp only [hl22_3] at BK168)
               (try simp only [hl22_3] at HO_8)
               (try simp only [hl22_3] at HO_18)
               (try simp only [hl22_3] at HO_33)
               cases gk with
               | zero => exact absurd HA.out (by simp [qJ.l2])
               | succ k3 =>
                have H := HA.out
                clear HA
                simp only [qJ.l2] at H
                by_cases c40 : x10_3 < 4
                ·rw [if_pos c40] at H
                 have c40b0 : decide (x10_3 < 4) = true := decide_eq_true c40
                 clear c40
                 by_cases c41 : 0 ≤ x9_2
                 ·rw [if_pos c41] at H
                  have c41b0 : decide (0 ≤ x9_2) = true := decide_eq_true c41
                  clear c41
                  by_cases c42 : x9_2 < (x8_3.length : Int)
                  ·rw [if_pos c42] at H
                   have c42b0 : decide (x9_2 < (x8_3.length : Int)) = true := decide_eq_true c42
                   (try (have c42b0_hl18_1 := c42b0; simp only [hl18_1] at c42b0_hl18_1))
                   (try (have c42b0_hl18_2 := c42b0; simp only [hl18_2] at c42b0_hl18_2))
                   (try (have c42b0_hl22_2 := c42b0; simp only [hl22_2] at c42b0_hl22_2))
                   (try (have c42b0_hl18_3 := c42b0; simp only [hl18_3] at c42b0_hl18_3))
                   (try (have c42b0_hl22_3 := c42b0; simp only [hl22_3] at c42b0_hl22_3))
                   clear c42
                   replace H := Option.bind_eq_some_iff.mp H
                   obtain ⟨t194, A430, H⟩ := H
                   replace H : (if t194 ≥ 0 then (if 0 ≤ t194 then (if t194 < (x18_3.length : Int) then (if (rd x18_3 t194) < 0 then (if 0 ≤ (rd x8_3 x9_2) then (if (rd x8_3 x9_2) < (x22_3.length : Int) then ((qyA.f ((qZ x22_3 (rd x8_3 x9_2)).f0) ((qZ x22_3 (rd x8_3 x9_2)).f1) ((qZ x22_3 (rd x8_3 x9_2)).f2) ((qZ x22_3 (rd x8_3 x9_2)).f3) ((qZ x22_3 (rd x8_3 x9_2)).f4) ((qZ x22_3 (rd x8_3 x9_2)).f5) x10_3).bind fun bt198 => (if t194 < (x22_3.length : Int) then ((some (x22_3.set (t194 : Int).toNat (⟨bt198.1, bt198.2.1, bt198.2.2.1, bt198.2.2.2.1, bt198.2.2.2.2.1, bt198.2.2.2.2.2⟩ : S53) : List (S53))).bind fun y204 => (if x8_3.length < 17592186044416 then (qJ.l2 k3 (x8_3 ++ [t194]) x9_2 (wrap64 (x10_3 + 1)) (x18_3.set (t194 : Int).toNat ((qZ y204 t194).f5)) y204 t176 a0_0 a0_1 l0_2) else (none))) else (none))) else (none)) else (none)) else (qJ.l2 k3 x8_3 x9_2 (wrap64 (x10_3 + 1)) x18_3 x22_3 t176 a0_0 a0_1 l0_2)) else (none)) else (none)) else (qJ.l2 k3 x8_3 x9_2 (wrap64 (x10_3 + 1)) x18_3 x22_3 t176 a0_0 a0_1 l0_2)) = some (r1, r2) := H
                   have A43 := Aside0.mk A430
                   clear A430
                   by_cases c44 : t194 ≥ 0
                   ·rw [if_pos c44] at H
                    have c44b0 : decide (0 ≤ t194) = true := decide_eq_true c44
                    clear c44
                    by_cases c45 : 0 ≤ t194
                    ·rw [if_pos c45] at H
                     have c45b0 : decide (0 ≤ t194) = true := decide_eq_true c45
                     clear c45
                     by_cases c46 : t194 < (x18_3.length : Int)
                     ·rw [if_pos c46] at H
                      have c46b0 : decide (t194 < (x18_3.length : Int)) = true := decide_eq_true c46
                      (try (have c46b0_hl18_1 := c46b0; simp only [hl18_1] at c46b0_hl18_1))
                      (try (have c46b0_hl18_2 := c46b0; simp only [hl18_2] at c46b0_hl18_2))
                      (try (have c46b0_hl22_2 := c46b0; simp only [hl22_2] at c46b0_hl22_2))
                      (try (have c46b0_hl18_3 := c46b0; simp only [hl18_3] at c46b0_hl18_3))
                      (try (have c46b0_hl22_3 := c46b0; simp only [hl22_3] at c46b0_hl22_3))
                      clear c46
                      by_cases c47 : (rd x18_3 t194) < 0
                      ·rw [if_pos c47] at H
                       have c47b0 : decide ((rd x18_3 t194) < 0) = true := decide_eq_true c47
                       clear c47
                       by_cases c48 : 0 ≤ (rd x8_3 x9_2)
                       ·rw [if_pos c48] at H
                        have c48b0 : decide (0 ≤ (rd x8_3 x9_2)) = true := decide_eq_true c48
                        clear c48
                        by_cases c49 : (rd x8_3 x9_2) < (x22_3.length : Int)
                        ·rw [if_pos c49] at H
                         have c49b0 : decide ((rd x8_3 x9_2) < (x22_3.length : Int)) = true := decide_eq_true c49
                         (try (have c49b0_hl18_1 := c49b0; simp only [hl18_1] at c49b0_hl18_1))
                         (try (have c49b0_hl18_2 := c49b0; simp only [hl18_2] at c49b0_hl18_2))
                         (try (have c49b0_hl22_2 := c49b0; simp only [hl22_2] at c49b0_hl22_2))
                         (try (have c49b0_hl18_3 := c49b0; simp only [hl18_3] at c49b0_hl18_3))
                         (try (have c49b0_hl22_3 := c49b0; simp only [hl22_3] at c49b0_hl22_3))
                         clear c49
                         replace H := Option.bind_eq_some_iff.mp H
                         obtain ⟨⟨t198, t199, t200, t201, t202, t203⟩, A500, H⟩ := H
                         replace H : (if t194 < (x22_3.length : Int) then ((some (x22_3.set (t194 : Int).toNat (⟨t198, t199, t200, t201, t202, t203⟩ : S53) : List (S53))).bind fun y204 => (if x8_3.length < 17592186044416 then (qJ.l2 k3 (x8_3 ++ [t194]) x9_2 (wrap64 (x10_3 + 1)) (x18_3.set (t194 : Int).toNat ((qZ y204 t194).f5)) y204 t176 a0_0 a0_1 l0_2) else (none))) else (none)) = some (r1, r2) := H
                         have A50 := Aside0.mk A500
                         clear A500
                         by_cases c51 : t194 < (x22_3.length : Int)
                         ·rw [if_pos c51] at H
                          have c51b0 : decide (t194 < (x22_3.length : Int)) = true := decide_eq_true c51
                          (try (have c51b0_hl18_1 := c51b0; simp only [hl18_1] at c51b0_hl18_1))
                          (try (have c51b0_hl18_2 := c51b0; simp only [hl18_2] at c51b0_hl18_2))
                          (try (have c51b0_hl22_2 := c51b0; simp only [hl22_2] at c51b0_hl22_2))
                          (try (have c51b0_hl18_3 := c51b0; simp only [hl18_3] at c51b0_hl18_3))
                          (try (have c51b0_hl22_3 := c51b0; simp only [hl22_3] at c51b0_hl22_3))
                          clear c51
                          obtain ⟨y204, hy204⟩ : ∃ y_ : List (S53), y_ = (x22_3.set (t194 : Int).toNat (⟨t198, t199, t200, t201, t202, t203⟩ : S53)) := ⟨_, rfl⟩
                          replace H : (if x8_3.length < 17592186044416 then (qJ.l2 k3 (x8_3 ++ [t194]) x9_2 (wrap64 (x10_3 + 1)) (x18_3.set (t194 : Int).toNat ((qZ y204 t194).f5)) y204 t176 a0_0 a0_1 l0_2) else (none)) = some (r1, r2) := by first | (rw [hy204]; with_reducible exact H) | (have H2_ := (Option.bind_some _ _).symm.trans H; rw [hy204]; with_reducible exact H2_) | (have H2_ := (Option.bind_some _ _).symm.trans H; with_reducible exact H2_) | with_reducible exact H | (rw [hy204]; exact H) | exact H
                          have Ny204 := Aside0.mk hy204
                          clear hy204
                          obtain ⟨y206, hy206⟩ : ∃ y_ : List Int, y_ = (x18_3.set (t194 : Int).toNat ((qZ y204 t194).f5)) := ⟨_, rfl⟩
                          replace H : (if x8_3.length < 17592186044416 then (qJ.l2 k3 (x8_3 ++ [t194]) x9_2 (wrap64 (x10_3 + 1)) y206 y204 t176 a0_0 a0_1 l0_2) else (none)) = some (r1, r2) := by first | (rw [hy206]; with_reducible exact H) | (have H2_ := (Option.bind_some _ _).symm.trans H; rw [hy206]; with_reducible exact H2_) | (have H2_ := (Option.bind_some _ _).symm.trans H; with_reducible exact H2_) | with_reducible exact H | (rw [hy206]; exact H) | exact H
                          have Ny206 := Aside0.mk hy206
                          clear hy206
                          by_cases c54 : x8_3.length < 17592186044416
                          ·rw [if_pos c54] at H
                           have LMc54 := Aside0.mk c54
                           clear c54
                           obtain ⟨y207, hy207⟩ : ∃ y_ : List Int, y_ = (x8_3 ++ [t194]) := ⟨_, rfl⟩
                           replace H : (qJ.l2 k3 y207 x9_2 (wrap64 (x10_3 + 1)) y206 y204 t176 a0_0 a0_1 l0_2) = some (r1, r2) := by first | (rw [hy207]; with_reducible exact H) | (have H2_ := (Option.bind_some _ _).symm.trans H; rw [hy207]; with_reducible exact H2_) | (have H2_ := (Option.bind_some _ _).symm.trans H; with_reducible exact H2_) | with_reducible exact H | (rw [hy207]; exact H) | exact H
                           have Ny207 := Aside0.mk hy207
                           clear hy207
                           have H' := Aside0.mk H
                           clear H
                           try go_wp2
                           have n0_ := Aside0.mk (Kd.qI HO_8.out)
                           have n1_ := Aside0.mk (Kd.qI HO_18.out)
                           have n2_ := Aside0.mk (Kd.qI HO_22.out)
                           have n3_ := Aside0.mk (Kd.qI HO_33.out)
                           have n4_ := Aside0.mk (qD BK168.out)
                           have n5_ := Aside0.mk (qh HB.out)
                           clear HO_8
                           clear HO_18
                           clear HO_22
                           clear HO_33
                           clear BK168
                           clear HB
                           have HO_8 := n0_
                           have HO_18 := n1_
                           have HO_22 := n2_
                           have HO_33 := n3_
                           have BK168 := n4_
                           have HB := n5_
                           clear n0_ n1_ n2_ n3_ n4_ n5_
                           obtain ⟨Ao56, co56, eo56⟩ := Kd.qp HO_8.out
                           (first | subst eo56 | (injection eo56 with f1_ f2_ f3_; have f4_ := f1_.symm; have f5_ := f3_.symm; clear f1_ f2_ f3_; subst f4_; subst f5_))
                           have p193 : 0 ≤ (x9_2 : Int) := of_decide_eq_true (by first | (with_reducible assumption) | assumption)
                           have q193 : x9_2 < (x8_3.length : Int) := of_decide_eq_true (by first | (with_reducible assumption) | assumption)
                           obtain ⟨ad193, e193, hx193_0⟩ := Kd.qCA (Kd.qQ HO_8.out).2.2 x9_2 p193 q193
                           cases e193
                           replace p193 := eq_true p193
                           replace q193 := eq_true q193
                           refine qxA (n := 8) (S := fun w' => w'.cell? ⟨gb168, 0, none⟩ = some (.int .i64 a0_0) ∧ w'.cell? ⟨gb168, 1, none⟩ = some (.int .i64 a0_1) ∧ w'.cell? ⟨gb168, 2, none⟩ = some (.slice A0_2 l0_2.length c0_2) ∧ w'.cell? (ad193.add (x9_2).toNat) = some (.int .i64 (rd x8_3 x9_2))) (ds := []) #[false, false, false, false, false, false, false, false] (by kernel_rfl) rfl rfl ⟨(qU BK168.out 0).trans rfl, (qU BK168.out 1).trans rfl, (qU BK168.out 2).trans rfl, hx193_0⟩ (fun hHeld => ?_); refine qNA qJ.tab18 qJ.bits18 (fun HT_ HW_ => ?_)
                           generalize wr.drew = w55 at HO_8 HO_18 HO_22 HO_33 BK168 HB hx193_0 hHeld ⊢
                           refine pS (i := 1) (N := some 60) #[false, true, false, false, false, false, false, false] HT_ ?_
                           refine pS (i := 2) (N := some 61) #[false, true, true, false, false, false, false, false] HT_ ?_
                           refine pS (i := 3) (N := some 62) #[false, true, true, true, false, false, false, false] HT_ ?_
                           refine pS (i := 5) (N := some 64) #[false, true, true, true, false, true, false, false] HT_ ?_
                           refine tS (i := 0) (N := some 59) #[true, true, true, true, false, true, false, false] HT_ HW_ hHeld ?_
                           refine tS (i := 4) (N := some 63) #[true, true, true, true, true, true, false, false] HT_ HW_ hHeld ?_
                           refine one_ (i := 6) (N := some 65) #[true, true, true, true, true, true, true, false] rfl rfl (qjA HT_.out (by kernel_rfl)) (by decide) (fun K hK => ?_)
                           refine goes_ Tryz.func23 (by kernel_rfl) rfl #[.agg #[.int .i64 a0_0, .int .i64 a0_1, .slice A0_2 l0_2.length c0_2], .int .i64 (rd x8_3 x9_2), .int .i64 x10_3] (by rfl) rfl rfl (by (try simp only [List.map_toArray, List.map_cons, List.map_nil]); first | done | rfl | (simp only [List.length_drop, List.length_take]; rfl)) ?_
                           with_reducible refine (qVA.calls a0_0 a0_1 _ _ l0_2 (rd x8_3 x9_2) x10_3 t194 _ ?side1 ?side2 A43.out).mono ?_
                           (case side1 => repeat (first | exact (Kd.qiA HR0_2.out HB.out) | (with_reducible refine Kd.qcA ?_ _) | (with_reducible refine Kd.qbA ?_ _) | (with_reducible refine Kd.qtA ?_)))
                           (case side2 => exact HC0_2.out)
                           rintro e w57 ⟨rfl, hb⟩
                           have HS3_ := (hb.cell (World.block_lt_of_cell? _ _ (hHeld.2.2.2))).trans (hHeld.2.2.2)
                           refine ⟨_, rfl, ?_⟩
                           have n0_ := Aside0.mk (Kd.qW (by (with_reducible repeat (first | apply Kd.qG | apply Kd.qH | apply Kd.qI)); exact HO_8.out) hb)
                           have n1_ := Aside0.mk (Kd.qW (by (with_reducible repeat (first | apply Kd.qG | apply Kd.qH | apply Kd.qI)); exact HO_18.out) hb)
                           have n2_ := Aside0.mk (Kd.qW (by (with_reducible repeat (first | apply Kd.qG | apply Kd.qH | apply Kd.qI)); exact HO_22.out) hb)
                           have n3_ := Aside0.mk (Kd.qW (by (with_reducible repeat (first | apply Kd.qG | apply Kd.qH | apply Kd.qI)); exact HO_33.out) hb)
                           have n4_ := Aside0.mk (bb BK168 hb)
                           have n5_ := Aside0.mk (qK bl hb)
                           clear HO_8
                           clear HO_18
                           clear HO_22
                           clear HO_33
                           clear BK168
                           clear HB
                           have HO_8 := n0_
                           have HO_18 := n1_
                           have HO_22 := n2_
                           have HO_33 := n3_
                           have BK168 := n4_
                           have HB := n5_
                           clear n0_ n1_ n2_ n3_ n4_ n5_
                           (try clear hb)
                           (try clear hb2)
                           (try clear hk)
                           (try clear hi)
                           refine hK.out _ _ ⟨(qU BK168.out 0).trans rfl, (qU BK168.out 1).trans rfl, (qU BK168.out 2).trans rfl, HS3_⟩ (fun hHeld => ?_)
                           clear hK K
                           refine norm_ (a' := ?_) ?_ ?_
                           rotate_left
                           ·show Act.put _ (some 65) _ = _
                            simp only [Act.put, List.setIfInBounds_toArray, List.set_cons_zero, List.set_cons_succ, i64_w, i32_w]
                            rfl
                           refine pS (i := 7) (N := some 11) #[true, true, true, true, true, true, true, true] HT_ ?_
                           refine done_ (qvA HT_.out (by kernel_rfl)) ?_
                           have p195 : 0 ≤ (t194 : Int) := of_decide_eq_true (by first | (with_reducible assumption) | assumption)
                           have q195 : t194 < (x18_3.length : Int) := of_decide_eq_true (by first | (with_reducible assumption) | assumption)
                           obtain ⟨ad195, e195, hx195_0⟩ := Kd.qCA (Kd.qQ HO_18.out).2.2 t194 p195 q195
                           obtain rfl : (⟨go26, 0, none⟩ : Addr) = ad195 := (by injection e195)
                           (first | simp only [ql] at hx195_0 | simp only [qfA] at hx195_0 | simp only [Addr.add, Nat.zero_add] at hx195_0 | skip)
                           replace p195 := eq_true p195
                           replace q195 := eq_true q195
                           have p196 : 0 ≤ (x9_2 : Int) := of_decide_eq_true (by first | (with_reducible assumption) | assumption)
                           have q196 : x9_2 < (x8_3.length : Int) := of_decide_eq_true (by first | (with_reducible assumption) | assumption)
                           obtain ⟨ad196, e196, hx196_0⟩ := Kd.qCA (Kd.qQ HO_8.out).2.2 x9_2 p196 q196
                           obtain rfl : ad193 = ad196 := (by injection e196)
                           replace p196 := eq_true p196
                           replace q196 := eq_true q196
                           have p197 : 0 ≤ ((rd x8_3 x9_2) : Int) := of_decide_eq_true (by first | (with_reducible assumption) | assumption)
                           have q197 : (rd x8_3 x9_2) < (x22_3.length : Int) := of_decide_eq_true (by first | (with_reducible assumption) | assumption)
                           obtain ⟨ad197, e197, hx197_0, hx197_1, hx197_2, hx197_3, hx197_4, hx197_5⟩ := qqC (Kd.qQ HO_22.out).2.2 (rd x8_3 x9_2) p197 q197
                           obtain rfl : (⟨go24, 0, none⟩ : Addr) = ad197 := (by injection e197)
                           (first | simp only [ql] at hx197_0 | simp only [qfA] at hx197_0 | simp only [Addr.add, Nat.zero_add] at hx197_0 | skip)
                           (first | simp only [ql] at hx197_1 | simp only [qfA] at hx197_1 | simp only [Addr.add, Nat.zero_add] at hx197_1 | skip)
                           (first | simp only [ql] at hx197_2 | simp only [qfA] at hx197_2 | simp only [Addr.add, Nat.zero_add] at hx197_2 | skip)
                           (first | simp only [ql] at hx197_3 | simp only [qfA] at hx197_3 | simp only [Addr.add, Nat.zero_add] at hx197_3 | skip)
                           (first | simp only [ql] at hx197_4 | simp only [qfA] at hx197_4 | simp only [Addr.add, Nat.zero_add] at hx197_4 | skip)
                           (first | simp only [ql] at hx197_5 | simp only [qfA] at hx197_5 | simp only [Addr.add, Nat.zero_add] at hx197_5 | skip)
                           replace p197 := eq_true p197
                           replace q197 := eq_true q197
                           try go_wp2_with (first | ((with_reducible refine qb (f := 24) rfl ?_); refine qRA (some 85) rfl rfl Tryz.func24 (by kernel_rfl) rfl #[.agg #[.int .i64 ((qZ x22_3 (rd x8_3 x9_2)).f0), .int .i64 ((qZ x22_3 (rd x8_3 x9_2)).f1), .int .i64 ((qZ x22_3 (rd x8_3 x9_2)).f2), .int .i64 ((qZ x22_3 (rd x8_3 x9_2)).f3), .int .i64 ((qZ x22_3 (rd x8_3 x9_2)).f4), .int .i64 ((qZ x22_3 (rd x8_3 x9_2)).f5)], .int .i64 x10_3] rfl (by (try simp only [List.map_toArray, List.map_cons, List.map_nil]); first | done | rfl | (simp only [List.length_drop, List.length_take]; rfl)) ?_; (with_reducible refine (qyA.calls ((qZ x22_3 (rd x8_3 x9_2)).f0) ((qZ x22_3 (rd x8_3 x9_2)).f1) ((qZ x22_3 (rd x8_3 x9_2)).f2) ((qZ x22_3 (rd x8_3 x9_2)).f3) ((qZ x22_3 (rd x8_3 x9_2)).f4) ((qZ x22_3 (rd x8_3 x9_2)).f5) x10_3 t198 t199 t200 t201 t202 t203 _ A50.out).mono ?_); rintro e w58 ⟨rfl, hb⟩; refine ⟨_, rfl, ?_⟩; have n0_ := Aside0.mk (Kd.qW (by (with_reducible repeat (first | apply Kd.qG | apply Kd.qH | apply Kd.qI)); exact HO_8.out) hb); have n1_ := Aside0.mk (Kd.qW (by (with_reducible repeat (first | apply Kd.qG | apply Kd.qH | apply Kd.qI)); exact HO_18.out) hb); have n2_ := Aside0.mk (Kd.qW (by (with_reducible repeat (first | apply Kd.qG | apply Kd.qH | apply Kd.qI)); exact HO_22.out) hb); have n3_ := Aside0.mk (Kd.qW (by (with_reducible repeat (first | apply Kd.qG | apply Kd.qH | apply Kd.qI)); exact HO_33.out) hb); have n4_ := Aside0.mk (bb BK168 hb); have n5_ := Aside0.mk (qK bl hb); clear HO_8; clear HO_18; clear HO_22; clear HO_33; clear BK168; clear HB; have HO_8 := n0_; have HO_18 := n1_; have HO_22 := n2_; have HO_33 := n3_; have BK168 := n4_; have HB := n5_; clear n0_ n1_ n2_ n3_ n4_ n5_; (try clear hb); (try clear hb2); (try clear hk); (try clear hi); have p52 : 0 ≤ (t194 : Int) := of_decide_eq_true (by first | (with_reducible assumption) | assumption); have q52 : (t194 : Int) < ((x22_3.length : Int) : Int) := of_decide_eq_true (by first | (with_reducible assumption) | assumption); obtain ⟨ce52, hcl52, hM52, hcc52, hfr52⟩ := Kd.qEC HO_22.out z53 (t194 : Int) p52 q52; obtain rfl := qBB hM52; have hx52_0 : w58.cell? ⟨go24, (t194 : Int).toNat * 6, none⟩ = some (.int .i64 ((qZ x22_3 t194).f0)) := hcc52 0 _ rfl; have hx52_1 : w58.cell? ⟨go24, (t194 : Int).toNat * 6 + 1, none⟩ = some (.int .i64 ((qZ x22_3 t194).f1)) := hcc52 1 _ rfl; have hx52_2 : w58.cell? ⟨go24, (t194 : Int).toNat * 6 + 2, none⟩ = some (.int .i64 ((qZ x22_3 t194).f2)) := hcc52 2 _ rfl; have hx52_3 : w58.cell? ⟨go24, (t194 : Int).toNat * 6 + 3, none⟩ = some (.int .i64 ((qZ x22_3 t194).f3)) := hcc52 3 _ rfl; have hx52_4 : w58.cell? ⟨go24, (t194 : Int).toNat * 6 + 4, none⟩ = some (.int .i64 ((qZ x22_3 t194).f4)) := hcc52 4 _ rfl; have hx52_5 : w58.cell? ⟨go24, (t194 : Int).toNat * 6 + 5, none⟩ = some (.int .i64 ((qZ x22_3 t194).f5)) := hcc52 5 _ rfl; have hf52_0 : w58.frozen? ⟨go24, (t194 : Int).toNat * 6, none⟩ = false := hfr52 0; have hf52_1 : w58.frozen? ⟨go24, (t194 : Int).toNat * 6 + 1, none⟩ = false := hfr52 1; have hf52_2 : w58.frozen? ⟨go24, (t194 : Int).toNat * 6 + 2, none⟩ = false := hfr52 2; have hf52_3 : w58.frozen? ⟨go24, (t194 : Int).toNat * 6 + 3, none⟩ = false := hfr52 3; have hf52_4 : w58.frozen? ⟨go24, (t194 : Int).toNat * 6 + 4, none⟩ = false := hfr52 4; have hf52_5 : w58.frozen? ⟨go24, (t194 : Int).toNat * 6 + 5, none⟩ = false := hfr52 5; clear hcl52 hcc52 hfr52 hM52; replace p52 := eq_true p52; replace q52 := eq_true q52; have HX59 := Aside0.mk (show Kd.R k53 53 w58 w.heap.size (fun _ => True) (.slice (some ⟨go24, 0, none⟩) x22_3.length co24) x22_3 from (by (with_reducible repeat (first | apply Kd.qG | apply Kd.qH | apply Kd.qI)); exact HO_22.out)); obtain ⟨ce59, hcl59, hM59, hcc59, hfr59⟩ := Kd.qEC HX59.out z53 (t194 : Int) (of_decide_eq_true (by first | (with_reducible assumption) | assumption)) (by have h_ : (t194 : Int) < ((x22_3.length : Int) : Int) := of_decide_eq_true (by first | (with_reducible assumption) | assumption); first | exact h_ | (have e_ := (Kd.qQ HO_22.out).1; omega) | simpa using h_); obtain rfl := qBB hM59; have HP59 := Kd.R_seg HX59.out (t194 : Int) (of_decide_eq_true (by first | (with_reducible assumption) | assumption)) (by have h_ : (t194 : Int) < ((x22_3.length : Int) : Int) := of_decide_eq_true (by first | (with_reducible assumption) | assumption); first | exact h_ | (have e_ := (Kd.qQ HO_22.out).1; omega) | simpa using h_) (seg := [.int .i64 t198, .int .i64 t199, .int .i64 t200, .int .i64 t201, .int .i64 t202, .int .i64 t203]) (j := 0) hcl59 hcc59 (show 6 ≤ 6 from by decide) (x' := (⟨t198, t199, t200, t201, t202, t203⟩ : S53)) (qLC _ _ _ (⟨t198, t199, t200, t201, t202, t203⟩ : S53) ) (fun _ hk => hk); have hx59_0 := hcc59 0 _ rfl; (try simp only [show (k53).sz = 6 from rfl, Nat.mul_one, Nat.add_zero] at hx59_0); have hf59_0 := hfr59 0; (try simp only [show (k53).sz = 6 from rfl, Nat.mul_one, Nat.add_zero] at hf59_0); have hx59_1 := hcc59 1 _ rfl; (try simp only [show (k53).sz = 6 from rfl, Nat.mul_one, Nat.add_zero] at hx59_1); have hf59_1 := hfr59 1; (try simp only [show (k53).sz = 6 from rfl, Nat.mul_one, Nat.add_zero] at hf59_1); have hx59_2 := hcc59 2 _ rfl; (try simp only [show (k53).sz = 6 from rfl, Nat.mul_one, Nat.add_zero] at hx59_2); have hf59_2 := hfr59 2; (try simp only [show (k53).sz = 6 from rfl, Nat.mul_one, Nat.add_zero] at hf59_2); have hx59_3 := hcc59 3 _ rfl; (try simp only [show (k53).sz = 6 from rfl, Nat.mul_one, Nat.add_zero] at hx59_3); have hf59_3 := hfr59 3; (try simp only [show (k53).sz = 6 from rfl, Nat.mul_one, Nat.add_zero] at hf59_3); have hx59_4 := hcc59 4 _ rfl; (try simp only [show (k53).sz = 6 from rfl, Nat.mul_one, Nat.add_zero] at hx59_4); have hf59_4 := hfr59 4; (try simp only [show (k53).sz = 6 from rfl, Nat.mul_one, Nat.add_zero] at hf59_4); have hx59_5 := hcc59 5 _ rfl; (try simp only [show (k53).sz = 6 from rfl, Nat.mul_one, Nat.add_zero] at hx59_5); have hf59_5 := hfr59 5; (try simp only [show (k53).sz = 6 from rfl, Nat.mul_one, Nat.add_zero] at hf59_5); clear hcl59 hcc59 hfr59 hM59) | ((with_reducible refine qeA (t := 53) (p := 86) rfl ?_); refine qUA (t := 53) (p := 86) (v := ?vo_w60) (w1 := ((((((w58.setCell ⟨go24, (t194 : Int).toNat * 6, none⟩ (.int .i64 t198)).setCell ⟨go24, (t194 : Int).toNat * 6 + 1, none⟩ (.int .i64 t199)).setCell ⟨go24, (t194 : Int).toNat * 6 + 2, none⟩ (.int .i64 t200)).setCell ⟨go24, (t194 : Int).toNat * 6 + 3, none⟩ (.int .i64 t201)).setCell ⟨go24, (t194 : Int).toNat * 6 + 4, none⟩ (.int .i64 t202)).setCell ⟨go24, (t194 : Int).toNat * 6 + 5, none⟩ (.int .i64 t203))) ?hg ?ho ?hn ?hr ?_; (case ho => rfl); (case hg => rfl); (case hn => rfl); (case hr => first | (go_simp; done) | (go_simp; rfl)); intro w60 hw; have hg : w58.grownBy w60 (some go24) := (by rw [hw]; exact HP59.2); have hp_ : Kd.R k53 53 w60 w.heap.size (fun _ => True) (.slice (some ⟨go24, 0, none⟩) x22_3.length co24) y204 := (by rw [hw, Ny204.out]; exact HP59.1); clear HP59; have n0_ := Aside0.mk (Kd.qnA (v := (.slice (some ⟨go24, 0, none⟩) x22_3.length co24)) (by (with_reducible repeat (first | apply Kd.qG | apply Kd.qH | apply Kd.qI)); exact HO_8.out) (Kd.qEA HO_22.out) (by decide) hg); have n1_ := Aside0.mk (Kd.qnA (v := (.slice (some ⟨go24, 0, none⟩) x22_3.length co24)) (by (with_reducible repeat (first | apply Kd.qG | apply Kd.qH | apply Kd.qI)); exact HO_18.out) (Kd.qEA HO_22.out) (by decide) hg); have n2_ := Aside0.mk (hp_); have n3_ := Aside0.mk (Kd.qnA (v := (.slice (some ⟨go24, 0, none⟩) x22_3.length co24)) (by (with_reducible repeat (first | apply Kd.qG | apply Kd.qH | apply Kd.qI)); exact HO_33.out) (Kd.qEA HO_22.out) (by decide) hg); have n4_ := Aside0.mk (qaA (g := gb168) (o := .cells #[.int .i64 a0_0, .int .i64 a0_1, .slice A0_2 l0_2.length c0_2] 27 (0, 0)) (by (with_reducible repeat (first | refine qC ?_ _ | refine qD ?_ | refine qB ?_ _)); exact BK168.out) hg (Kd.R_ne HO_22.out BK168.out (by decide))); have n5_ := Aside0.mk ((by rw [hw]; exact qe (qe (qe (qe (qe (qe (HB.out) GB24.out) GB24.out) GB24.out) GB24.out) GB24.out) GB24.out : Below w.heap.size w w60)); clear HO_8; clear HO_18; clear HO_22; clear HO_33; clear BK168; clear HB; have HO_8 := n0_; have HO_18 := n1_; have HO_22 := n2_; have HO_33 := n3_; have BK168 := n4_; have HB := n5_; clear n0_ n1_ n2_ n3_ n4_ n5_; clear hg hw hp_; have p205 : 0 ≤ (t194 : Int) := of_decide_eq_true (by first | (with_reducible assumption) | assumption); have q205 : t194 < (y204.length : Int) := (by have h_ : (t194 : Int) < ((x22_3.length : Int) : Int) := of_decide_eq_true (by first | (with_reducible assumption) | assumption); first | (have e_ := (Kd.qQ HO_22.out).1; omega) | simpa only [Ny204.out, List.length_set] using h_); have ql205 : ((t194 : Int) < ((x22_3.length : Int) : Int)) = True := eq_true (of_decide_eq_true (by first | (with_reducible assumption) | assumption)); obtain ⟨ad205, e205, hx205_0, hx205_1, hx205_2, hx205_3, hx205_4, hx205_5⟩ := qqC (Kd.qQ HO_22.out).2.2 t194 p205 q205; obtain rfl : (⟨go24, 0, none⟩ : Addr) = ad205 := (by injection e205); (first | simp only [ql] at hx205_0 | simp only [qfA] at hx205_0 | simp only [Addr.add, Nat.zero_add] at hx205_0 | skip); (first | simp only [ql] at hx205_1 | simp only [qfA] at hx205_1 | simp only [Addr.add, Nat.zero_add] at hx205_1 | skip); (first | simp only [ql] at hx205_2 | simp only [qfA] at hx205_2 | simp only [Addr.add, Nat.zero_add] at hx205_2 | skip); (first | simp only [ql] at hx205_3 | simp only [qfA] at hx205_3 | simp only [Addr.add, Nat.zero_add] at hx205_3 | skip); (first | simp only [ql] at hx205_4 | simp only [qfA] at hx205_4 | simp only [Addr.add, Nat.zero_add] at hx205_4 | skip); (first | simp only [ql] at hx205_5 | simp only [qfA] at hx205_5 | simp only [Addr.add, Nat.zero_add] at hx205_5 | skip); replace p205 := eq_true p205; replace q205 := eq_true q205; have p53 : 0 ≤ (t194 : Int) := of_decide_eq_true (by first | (with_reducible assumption) | assumption); have q53 : (t194 : Int) < ((x18_3.length : Int) : Int) := of_decide_eq_true (by first | (with_reducible assumption) | assumption); obtain ⟨hx53_0, hf53_0⟩ := Kd.qhA 0 HO_18.out (t194 : Int) p53 q53; replace p53 := eq_true p53; replace q53 := eq_true q53; obtain ⟨hy61_, hz61_⟩ := Kd.qhA 0 HO_18.out (t194 : Int) (of_decide_eq_true (by first | (with_reducible assumption) | assumption)) (of_decide_eq_true (by first | (with_reducible assumption) | assumption)); have HP61 := Kd.qnB HO_18.out (t194 : Int) ((qZ y204 t194).f5)) | ((with_reducible refine qeA (t := 3) (p := 94) rfl ?_); refine qUA (t := 3) (p := 94) (v := ?vo_w62) (w1 := (w60.setCell ⟨go26, (t194 : Int).toNat, none⟩ (.int .i64 ((qZ y204 t194).f5)))) ?hg ?ho ?hn ?hr ?_; (case ho => rfl); (case hg => rfl); (case hn => rfl); (case hr => first | (go_simp; done) | (go_simp; rfl)); intro w62 hw; have hg : w60.grownBy w62 (some go26) := (by rw [hw]; exact HP61.2); have hp_ : Kd.R (Kd.int .i64) 3 w62 w.heap.size (fun k_ => some k_ ≠ (.slice (some ad193) x8_3.length co56 : Value).ownBlock ∧ some k_ ≠ (.slice (some ad179) t176.length co30 : Value).ownBlock) (.slice (some ⟨go26, 0, none⟩) x18_3.length co12) y206 := (by rw [hw, Ny206.out]; exact HP61.1); clear HP61; have n0_ := Aside0.mk (Kd.qsA (v := (.slice (some ⟨go26, 0, none⟩) x18_3.length co12)) (v1 := (.slice (some ⟨go26, 0, none⟩) x18_3.length co12)) (ok := (fun k_ => some k_ ≠ (.slice (some ad179) t176.length co30 : Value).ownBlock)) (by (with_reducible repeat (first | apply Kd.qG | apply Kd.qH | apply Kd.qI)); exact Kd.qf HO_8.out (fun _ hk => ⟨hk.2, hk.1⟩)) hg (.inl rfl)); have n1_ := Aside0.mk (hp_); have n2_ := Aside0.mk (Kd.qnA (v := (.slice (some ⟨go26, 0, none⟩) x18_3.length co12)) (by (with_reducible repeat (first | apply Kd.qG | apply Kd.qH | apply Kd.qI)); exact HO_22.out) (Kd.qEA HO_18.out) (by decide) hg); have n3_ := Aside0.mk (Kd.qsA (v := (.slice (some ⟨go26, 0, none⟩) x18_3.length co12)) (v1 := (.slice (some ⟨go26, 0, none⟩) x18_3.length co12)) (ok := (fun k_ => some k_ ≠ (.slice (some ad193) x8_3.length co56 : Value).ownBlock)) (by (with_reducible repeat (first | apply Kd.qG | apply Kd.qH | apply Kd.qI)); exact HO_33.out) hg (.inl rfl)); have n4_ := Aside0.mk (qaA (g := gb168) (o := .cells #[.int .i64 a0_0, .int .i64 a0_1, .slice A0_2 l0_2.length c0_2] 27 (0, 0)) (by (with_reducible repeat (first | refine qC ?_ _ | refine qD ?_ | refine qB ?_ _)); exact BK168.out) hg (Kd.R_ne HO_18.out BK168.out (by decide))); have n5_ := Aside0.mk ((by rw [hw]; exact qe (HB.out) GB26.out : Below w.heap.size w w62)); clear HO_8; clear HO_18; clear HO_22; clear HO_33; clear BK168; clear HB; have HO_8 := n0_; have HO_18 := n1_; have HO_22 := n2_; have HO_33 := n3_; have BK168 := n4_; have HB := n5_; clear n0_ n1_ n2_ n3_ n4_ n5_; clear hg hw hp_) | ((with_reducible refine qSB (b := .append) (xs := #[.tmp 95, .tmp 97]) rfl ?_); at_builtin; refine Kd.qQC (Kd.int .i64) (w0 := w) w.heap.size rfl (.tmp 95) (.tmp 97) 28 3 (.int .i64 0) 8 rfl Tryz.underlying28 info3 rfl (by decide) (by omega) (.slice (some ad193) x8_3.length co56) x8_3 t194 [.int .i64 t194] (fun k_ => some k_ ≠ (.slice (some ⟨go26, 0, none⟩) x18_3.length co12 : Value).ownBlock ∧ some k_ ≠ (.slice (some ad179) t176.length co30 : Value).ownBlock) (fun _ => False) rfl rfl ?aP (fun _ hk => hk.elim) ?aF ?aO ?aB ?aS ?aL ?_; (case aP => exact rfl); (case aB => exact bl); (case aF => exact (fun k_ hk => ⟨Kd.fresh' (Kd.R_lt (by (with_reducible repeat (first | apply Kd.qG | apply Kd.qH | apply Kd.qI)); exact HO_18.out)) k_ hk, Kd.fresh' (Kd.R_lt (by (with_reducible repeat (first | apply Kd.qG | apply Kd.qH | apply Kd.qI)); exact HO_33.out)) k_ hk⟩)); (case aO => exact (by (with_reducible repeat (first | apply Kd.qG | apply Kd.qH | apply Kd.qI)); exact Kd.qf HO_8.out (fun _ hk => ⟨hk.2, hk.1⟩))); (case aS => exact (qa bl)); (case aL => have := LMc54.out; omega); intro v208 w63 ho hb hg hat; rw [← Ny207.out] at ho; have n0_ := Aside0.mk (Kd.qsA (ok := (fun k_ => some k_ ≠ (.slice (some ad179) t176.length co30 : Value).ownBlock)) (by (with_reducible repeat (first | apply Kd.qG | apply Kd.qH | apply Kd.qI)); exact Kd.qf HO_18.out (fun _ hk => ⟨hk.2, hk.1⟩)) hg hat); have n1_ := Aside0.mk (Kd.qnA (by (with_reducible repeat (first | apply Kd.qG | apply Kd.qH | apply Kd.qI)); exact HO_22.out) (Kd.qEA (by (with_reducible repeat (first | apply Kd.qG | apply Kd.qH | apply Kd.qI)); exact HO_8.out)) (by decide) hg); have n2_ := Aside0.mk (Kd.qsA (ok := (fun k_ => some k_ ≠ (.slice (some ⟨go26, 0, none⟩) x18_3.length co12 : Value).ownBlock)) (by (with_reducible repeat (first | apply Kd.qG | apply Kd.qH | apply Kd.qI)); exact Kd.qf HO_33.out (fun _ hk => ⟨hk.2, hk.1⟩)) hg hat); have n3_ := Aside0.mk (qaA (g := gb168) (o := .cells #[.int .i64 a0_0, .int .i64 a0_1, .slice A0_2 l0_2.length c0_2] 27 (0, 0)) (by (with_reducible repeat (first | refine qC ?_ _ | refine qD ?_ | refine qB ?_ _)); exact BK168.out) hg (Kd.R_ne HO_8.out BK168.out (by decide))); have n4_ := Aside0.mk (hb); have n5_ := Aside0.mk (ho); clear HO_18; clear HO_22; clear HO_33; clear BK168; clear HB; clear HO_8; have HO_18 := n0_; have HO_22 := n1_; have HO_33 := n2_; have BK168 := n3_; have HB := n4_; have HO209 := n5_; clear n0_ n1_ n2_ n3_ n4_ n5_; clear ho hb hg hat))
                           (try simp only [← hl18_3, ← hl22_3])
                           go_roundg k3
                           case measure => have := HK1.out; have := HK2.out; have := HK3.out; omega
                           case rel => exact ⟨(y207), (wrap64 (x10_3 + 1)), (y206), (y204), (by first | rfl | (simp; done) | (simp [*]; done)), H', ⟨by have := HK1.out; have := HK2.out; have := HK3.out; omega⟩, ⟨by (try simp only [hl18_1]); (try simp only [hl18_2]); (try simp only [hl22_2]); (try simp only [hl18_3]); (try simp only [hl22_3]); (with_reducible repeat (first | apply Kd.qG | apply Kd.qH | apply Kd.qI)); exact HO209.out⟩, ⟨by (try simp only [hl18_1]); (try simp only [hl18_2]); (try simp only [hl22_2]); (try simp only [hl18_3]); (try simp only [hl22_3]); (with_reducible repeat (first | apply Kd.qG | apply Kd.qH | apply Kd.qI)); exact Kd.qf HO_18.out (fun _ hk => ⟨hk.2, hk.1⟩)⟩, ⟨by (try simp only [hl18_1]); (try simp only [hl18_2]); (try simp only [hl22_2]); (try simp only [hl18_3]); (try simp only [hl22_3]); (with_reducible repeat (first | apply Kd.qG | apply Kd.qH | apply Kd.qI)); exact HO_22.out⟩, ⟨by (try simp only [hl18_1]); (try simp only [hl18_2]); (try simp only [hl22_2]); (try simp only [hl18_3]); (try simp only [hl22_3]); (with_reducible repeat (first | apply Kd.qG | apply Kd.qH | apply Kd.qI)); exact Kd.qf HO_33.out (fun _ hk => ⟨hk.2, hk.1⟩)⟩, ⟨by (try simp only [hl18_1]); (try simp only [hl18_2]); (try simp only [hl22_2]); (try simp only [hl18_3]); (try simp only [hl22_3]); (with_reducible repeat (first | refine qC ?_ _ | refine qD ?_ | refine qB ?_ _)); exact BK168.out⟩, ⟨bl⟩⟩
                          ·rw [if_neg c54] at H
                           exact absurd H (by simp)
                         ·rw [if_neg c51] at H
                          exact absurd H (by simp)
                        ·rw [if_neg c49] at H
                         exact absurd H (by simp)
                       ·rw [if_neg c48] at H
                        exact absurd H (by simp)
                      ·rw [if_neg c47] at H
                       have c47b0 : decide ((rd x18_3 t194) < 0) = false := decide_eq_false c47
                       clear c47
                       have H' := Aside0.mk H
                       clear H
                       try go_wp2
                       have n0_ := Aside0.mk (Kd.qI HO_8.out)
                       have n1_ := Aside0.mk (Kd.qI HO_18.out)
                       have n2_ := Aside0.mk (Kd.qI HO_22.out)
                       have n3_ := Aside0.mk (Kd.qI HO_33.out)
                       have n4_ := Aside0.mk (qD BK168.out)
                       have n5_ := Aside0.mk (qh HB.out)
                       clear HO_8
                       clear HO_18
                       clear HO_22
                       clear HO_33
                       clear BK168
                       clear HB
                       have HO_8 := n0_
                       have HO_18 := n1_
                       have HO_22 := n2_
                       have HO_33 := n3_
                       have BK168 := n4_
                       have HB := n5_
                       clear n0_ n1_ n2_ n3_ n4_ n5_
                       obtain ⟨Ao65, co65, eo65⟩ := Kd.qp HO_8.out
                       (first | subst eo65 | (injection eo65 with f1_ f2_ f3_; have f4_ := f1_.symm; have f5_ := f3_.symm; clear f1_ f2_ f3_; subst f4_; subst f5_))
                       have p193 : 0 ≤ (x9_2 : Int) := of_decide_eq_true (by first | (with_reducible assumption) | assumption)
                       have q193 : x9_2 < (x8_3.length : Int) := of_decide_eq_true (by first | (with_reducible assumption) | assumption)
                       obtain ⟨ad193, e193, hx193_0⟩ := Kd.qCA (Kd.qQ HO_8.out).2.2 x9_2 p193 q193
                       cases e193
                       replace p193 := eq_true p193
                       replace q193 := eq_true q193
                       refine qxA (n := 8) (S := fun w' => w'.cell? ⟨gb168, 0, none⟩ = some (.int .i64 a0_0) ∧ w'.cell? ⟨gb168, 1, none⟩ = some (.int .i64 a0_1) ∧ w'.cell? ⟨gb168, 2, none⟩ = some (.slice A0_2 l0_2.length c0_2) ∧ w'.cell? (ad193.add (x9_2).toNat) = some (.int .i64 (rd x8_3 x9_2))) (ds := []) #[false, false, false, false, false, false, false, false] (by kernel_rfl) rfl rfl ⟨(qU BK168.out 0).trans rfl, (qU BK168.out 1).trans rfl, (qU BK168.out 2).trans rfl, hx193_0⟩ (fun hHeld => ?_); refine qNA qJ.tab18 qJ.bits18 (fun HT_ HW_ => ?_)
                       generalize wr.drew = w64 at HO_8 HO_18 HO_22 HO_33 BK168 HB hx193_0 hHeld ⊢
                       refine pS (i := 1) (N := some 60) #[false, true, false, false, false, false, false, false] HT_ ?_
                       refine pS (i := 2) (N := some 61) #[false, true, true, false, false, false, false, false] HT_ ?_
                       refine pS (i := 3) (N := some 62) #[false, true, true, true, false, false, false, false] HT_ ?_
                       refine pS (i := 5) (N := some 64) #[false, true, true, true, false, true, false, false] HT_ ?_
                       refine tS (i := 0) (N := some 59) #[true, true, true, true, false, true, false, false] HT_ HW_ hHeld ?_
                       refine tS (i := 4) (N := some 63) #[true, true, true, true, true, true, false, false] HT_ HW_ hHeld ?_
                       refine one_ (i := 6) (N := some 65) #[true, true, true, true, true, true, true, false] rfl rfl (qjA HT_.out (by kernel_rfl)) (by decide) (fun K hK => ?_)
                       refine goes_ Tryz.func23 (by kernel_rfl) rfl #[.agg #[.int .i64 a0_0, .int .i64 a0_1, .slice A0_2 l0_2.length c0_2], .int .i64 (rd x8_3 x9_2), .int .i64 x10_3] (by rfl) rfl rfl (by (try simp only [List.map_toArray, List.map_cons, List.map_nil]); first | done | rfl | (simp only [List.length_drop, List.length_take]; rfl)) ?_
                       with_reducible refine (qVA.calls a0_0 a0_1 _ _ l0_2 (rd x8_3 x9_2) x10_3 t194 _ ?side1 ?side2 A43.out).mono ?_
                       (case side1 => repeat (first | exact (Kd.qiA HR0_2.out HB.out) | (with_reducible refine Kd.qcA ?_ _) | (with_reducible refine Kd.qbA ?_ _) | (with_reducible refine Kd.qtA ?_)))
                       (case side2 => exact HC0_2.out)
                       rintro e w66 ⟨rfl, hb⟩
                       have HS3_ := (hb.cell (World.block_lt_of_cell? _ _ (hHeld.2.2.2))).trans (hHeld.2.2.2)
                       refine ⟨_, rfl, ?_⟩
                       have n0_ := Aside0.mk (Kd.qW (by (with_reducible repeat (first | apply Kd.qG | apply Kd.qH | apply Kd.qI)); exact HO_8.out) hb)
                       have n1_ := Aside0.mk (Kd.qW (by (with_reducible repeat (first | apply Kd.qG | apply Kd.qH | apply Kd.qI)); exact HO_18.out) hb)
                       have n2_ := Aside0.mk (Kd.qW (by (with_reducible repeat (first | apply Kd.qG | apply Kd.qH | apply Kd.qI)); exact HO_22.out) hb)
                       have n3_ := Aside0.mk (Kd.qW (by (with_reducible repeat (first | apply Kd.qG | apply Kd.qH | apply Kd.qI)); exact HO_33.out) hb)
                       have n4_ := Aside0.mk (bb BK168 hb)
                       have n5_ := Aside0.mk (qK bl hb)
                       clear HO_8
                       clear HO_18
                       clear HO_22
                       clear HO_33
                       clear BK168
                       clear HB
                       have HO_8 := n0_
                       have HO_18 := n1_
                       have HO_22 := n2_
                       have HO_33 := n3_
                       have BK168 := n4_
                       have HB := n5_
                       clear n0_ n1_ n2_ n3_ n4_ n5_
                       (try clear hb)
                       (try clear hb2)
                       (try clear hk)
                       (try clear hi)
                       refine hK.out _ _ ⟨(qU BK168.out 0).trans rfl, (qU BK168.out 1).trans rfl, (qU BK168.out 2).trans rfl, HS3_⟩ (fun hHeld => ?_)
                       clear hK K
                       refine norm_ (a' := ?_) ?_ ?_
                       rotate_left
                       ·show Act.put _ (some 65) _ = _
                        simp only [Act.put, List.setIfInBounds_toArray, List.set_cons_zero, List.set_cons_succ, i64_w, i32_w]
                        rfl
                       refine pS (i := 7) (N := some 11) #[true, true, true, true, true, true, true, true] HT_ ?_
                       refine done_ (qvA HT_.out (by kernel_rfl)) ?_
                       have p195 : 0 ≤ (t194 : Int) := of_decide_eq_true (by first | (with_reducible assumption) | assumption)
                       have q195 : t194 < (x18_3.length : Int) := of_decide_eq_true (by first | (with_reducible assumption) | assumption)
                       obtain ⟨ad195, e195, hx195_0⟩ := Kd.qCA (Kd.qQ HO_18.out).2.2 t194 p195 q195
                       obtain rfl : (⟨go26, 0, none⟩ : Addr) = ad195 := (by injection e195)
                       (first | simp only [ql] at hx195_0 | simp only [qfA] at hx195_0 | simp only [Addr.add, Nat.zero_add] at hx195_0 | skip)
                       replace p195 := eq_true p195
                       replace q195 := eq_true q195
                       try go_wp2
                       (try simp only [← hl18_3, ← hl22_3])
                       go_roundg k3
                       case measure => have := HK1.out; have := HK2.out; have := HK3.out; omega
                       case rel => exact ⟨(x8_3), (wrap64 (x10_3 + 1)), (x18_3), (x22_3), (by first | rfl | (simp; done) | (simp [*]; done)), H', ⟨by have := HK1.out; have := HK2.out; have := HK3.out; omega⟩, ⟨by (try simp only [hl18_1]); (try simp only [hl18_2]); (try simp only [hl22_2]); (try simp only [hl18_3]); (try simp only [hl22_3]); (with_reducible repeat (first | apply Kd.qG | apply Kd.qH | apply Kd.qI)); exact HO_8.out⟩, ⟨by (try simp only [hl18_1]); (try simp only [hl18_2]); (try simp only [hl22_2]); (try simp only [hl18_3]); (try simp only [hl22_3]); (with_reducible repeat (first | apply Kd.qG | apply Kd.qH | apply Kd.qI)); exact HO_18.out⟩, ⟨by (try simp only [hl18_1]); (try simp only [hl18_2]); (try simp only [hl22_2]); (try simp only [hl18_3]); (try simp only [hl22_3]); (with_reducible repeat (first | apply Kd.qG | apply Kd.qH | apply Kd.qI)); exact HO_22.out⟩, ⟨by (try simp only [hl18_1]); (try simp only [hl18_2]); (try simp only [hl22_2]); (try simp only [hl18_3]); (try simp only [hl22_3]); (with_reducible repeat (first | apply Kd.qG | apply Kd.qH | apply Kd.qI)); exact HO_33.out⟩, ⟨by (try simp only [hl18_1]); (try simp only [hl18_2]); (try simp only [hl22_2]); (try simp only [hl18_3]); (try simp only [hl22_3]); (with_reducible repeat (first | refine qC ?_ _ | refine qD ?_ | refine qB ?_ _)); exact BK168.out⟩, ⟨bl⟩⟩
                     ·rw [if_neg c46] at H
                      exact absurd H (by simp)
                    ·rw [if_neg c45] at H
                     exact absurd H (by simp)
                   ·rw [if_neg c44] at H
                    have c44b0 : decide (0 ≤ t194) = false := decide_eq_false c44
                    clear c44
                    have H' := Aside0.mk H
                    clear H
                    try go_wp2
                    have n0_ := Aside0.mk (Kd.qI HO_8.out)
                    have n1_ := Aside0.mk (Kd.qI HO_18.out)
                    have n2_ := Aside0.mk (Kd.qI HO_22.out)
                    have n3_ := Aside0.mk (Kd.qI HO_33.out)
                    have n4_ := Aside0.mk (qD BK168.out)
                    have n5_ := Aside0.mk (qh HB.out)
                    clear HO_8
                    clear HO_18
                    clear HO_22
                    clear HO_33
                    clear BK168
                    clear HB
                    have HO_8 := n0_
                    have HO_18 := n1_
                    have HO_22 := n2_
                    have HO_33 := n3_
                    have BK168 := n4_
                    have HB := n5_
                    clear n0_ n1_ n2_ n3_ n4_ n5_
                    obtain ⟨Ao68, co68, eo68⟩ := Kd.qp HO_8.out
                    (first | subst eo68 | (injection eo68 with f1_ f2_ f3_; have f4_ := f1_.symm; have f5_ := f3_.symm; clear f1_ f2_ f3_; subst f4_; subst f5_))
                    have p193 : 0 ≤ (x9_2 : Int) := of_decide_eq_true (by first | (with_reducible assumption) | assumption)
                    have q193 : x9_2 < (x8_3.length : Int) := of_decide_eq_true (by first | (with_reducible assumption) | assumption)
                    obtain ⟨ad193, e193, hx193_0⟩ := Kd.qCA (Kd.qQ HO_8.out).2.2 x9_2 p193 q193
                    cases e193
                    replace p193 := eq_true p193
                    replace q193 := eq_true q193
                    refine qxA (n := 8) (S := fun w' => w'.cell? ⟨gb168, 0, none⟩ = some (.int .i64 a0_0) ∧ w'.cell? ⟨gb168, 1, none⟩ = some (.int .i64 a0_1) ∧ w'.cell? ⟨gb168, 2, none⟩ = some (.slice A0_2 l0_2.length c0_2) ∧ w'.cell? (ad193.add (x9_2).toNat) = some (.int .i64 (rd x8_3 x9_2))) (ds := []) #[false, false, false, false, false, false, false, false] (by kernel_rfl) rfl rfl ⟨(qU BK168.out 0).trans rfl, (qU BK168.out 1).trans rfl, (qU BK168.out 2).trans rfl, hx193_0⟩ (fun hHeld => ?_); refine qNA qJ.tab18 qJ.bits18 (fun HT_ HW_ => ?_)
                    generalize wr.drew = w67 at HO_8 HO_18 HO_22 HO_33 BK168 HB hx193_0 hHeld ⊢
                    refine pS (i := 1) (N := some 60) #[false, true, false, false, false, false, false, false] HT_ ?_
                    refine pS (i := 2) (N := some 61) #[false, true, true, false, false, false, false, false] HT_ ?_
                    refine pS (i := 3) (N := some 62) #[false, true, true, true, false, false, false, false] HT_ ?_
                    refine pS (i := 5) (N := some 64) #[false, true, true, true, false, true, false, false] HT_ ?_
                    refine tS (i := 0) (N := some 59) #[true, true, true, true, false, true, false, false] HT_ HW_ hHeld ?_
                    refine tS (i := 4) (N := some 63) #[true, true, true, true, true, true, false, false] HT_ HW_ hHeld ?_
                    refine one_ (i := 6) (N := some 65) #[true, true, true, true, true, true, true, false] rfl rfl (qjA HT_.out (by kernel_rfl)) (by decide) (fun K hK => ?_)
                    refine goes_ Tryz.func23 (by kernel_rfl) rfl #[.agg #[.int .i64 a0_0, .int .i64 a0_1, .slice A0_2 l0_2.length c0_2], .int .i64 (rd x8_3 x9_2), .int .i64 x10_3] (by rfl) rfl rfl (by (try simp only [List.map_toArray, List.map_cons, List.map_nil]); first | done | rfl | (simp only [List.length_drop, List.length_take]; rfl)) ?_
                    with_reducible refine (qVA.calls a0_0 a0_1 _ _ l0_2 (rd x8_3 x9_2) x10_3 t194 _ ?side1 ?side2 A43.out).mono ?_
                    (case side1 => repeat (first | exact (Kd.qiA HR0_2.out HB.out) | (with_reducible refine Kd.qcA ?_ _) | (with_reducible refine Kd.qbA ?_ _) | (with_reducible refine Kd.qtA ?_)))
                    (case side2 => exact HC0_2.out)
                    rintro e w69 ⟨rfl, hb⟩
                    have HS3_ := (hb.cell (World.block_lt_of_cell? _ _ (hHeld.2.2.2))).trans (hHeld.2.2.2)
                    refine ⟨_, rfl, ?_⟩
                    have n0_ := Aside0.mk (Kd.qW (by (with_reducible repeat (first | apply Kd.qG | apply Kd.qH | apply Kd.qI)); exact HO_8.out) hb)
                    have n1_ := Aside0.mk (Kd.qW (by (with_reducible repeat (first | apply Kd.qG | apply Kd.qH | apply Kd.qI)); exact HO_18.out) hb)
                    have n2_ := Aside0.mk (Kd.qW (by (with_reducible repeat (first | apply Kd.qG | apply Kd.qH | apply Kd.qI)); exact HO_22.out) hb)
                    have n3_ := Aside0.mk (Kd.qW (by (with_reducible repeat (first | apply Kd.qG | apply Kd.qH | apply Kd.qI)); exact HO_33.out) hb)
                    have n4_ := Aside0.mk (bb BK168 hb)
                    have n5_ := Aside0.mk (qK bl hb)
                    clear HO_8
                    clear HO_18
                    clear HO_22
                    clear HO_33
                    clear BK168
                    clear HB
                    have HO_8 := n0_
                    have HO_18 := n1_
                    have HO_22 := n2_
                    have HO_33 := n3_
                    have BK168 := n4_
                    have HB := n5_
                    clear n0_ n1_ n2_ n3_ n4_ n5_
                    (try clear hb)
                    (try clear hb2)
                    (try clear hk)
                    (try clear hi)
                    refine hK.out _ _ ⟨(qU BK168.out 0).trans rfl, (qU BK168.out 1).trans rfl, (qU BK168.out 2).trans rfl, HS3_⟩ (fun hHeld => ?_)
                    clear hK K
                    refine norm_ (a' := ?_) ?_ ?_
                    rotate_left
                    ·show Act.put _ (some 65) _ = _
                     simp only [Act.put, List.setIfInBounds_toArray, List.set_cons_zero, List.set_cons_succ, i64_w, i32_w]
                     rfl
                    refine pS (i := 7) (N := some 11) #[true, true, true, true, true, true, true, true] HT_ ?_
                    refine done_ (qvA HT_.out (by kernel_rfl)) ?_
                    try go_wp2
                    (try simp only [← hl18_3, ← hl22_3])
                    go_roundg k3
                    case measure => have := HK1.out; have := HK2.out; have := HK3.out; omega
                    case rel => exact ⟨(x8_3), (wrap64 (x10_3 + 1)), (x18_3), (x22_3), (by first | rfl | (simp; done) | (simp [*]; done)), H', ⟨by have := HK1.out; have := HK2.out; have := HK3.out; omega⟩, ⟨by (try simp only [hl18_1]); (try simp only [hl18_2]); (try simp only [hl22_2]); (try simp only [hl18_3]); (try simp only [hl22_3]); (with_reducible repeat (first | apply Kd.qG | apply Kd.qH | apply Kd.qI)); exact HO_8.out⟩, ⟨by (try simp only [hl18_1]); (try simp only [hl18_2]); (try simp only [hl22_2]); (try simp only [hl18_3]); (try simp only [hl22_3]); (with_reducible repeat (first | apply Kd.qG | apply Kd.qH | apply Kd.qI)); exact HO_18.out⟩, ⟨by (try simp only [hl18_1]); (try simp only [hl18_2]); (try simp only [hl22_2]); (try simp only [hl18_3]); (try simp only [hl22_3]); (with_reducible repeat (first | apply Kd.qG | apply Kd.qH | apply Kd.qI)); exact HO_22.out⟩, ⟨by (try simp only [hl18_1]); (try simp only [hl18_2]); (try simp only [hl22_2]); (try simp only [hl18_3]); (try simp only [hl22_3]); (with_reducible repeat (first | apply Kd.qG | apply Kd.qH | apply Kd.qI)); exact HO_33.out⟩, ⟨by (try simp only [hl18_1]); (try simp only [hl18_2]); (try simp only [hl22_2]); (try simp only [hl18_3]); (try simp only [hl22_3]); (with_reducible repeat (first | refine qC ?_ _ | refine qD ?_ | refine qB ?_ _)); exact BK168.out⟩, ⟨bl⟩⟩
                  ·rw [if_neg c42] at H
                   exact absurd H (by simp)
                 ·rw [if_neg c41] at H
                  exact absurd H (by simp)
                ·rw [if_neg c40] at H
                 have c40b0 : decide (x10_3 < 4) = false := decide_eq_false c40
                 clear c40
                 have H' := Aside0.mk H
                 clear H
                 go_wp2
                 (try simp only [← hl18_2, ← hl22_2, ← hl18_3, ← hl22_3])
                 go_roundg k3
                 case measure => have := HK1.out; have := HK2.out; have := HK3.out; omega
                 case rel => exact ⟨(x8_3), (wrap64 (x9_2 + 1)), (x18_3), (x22_3), (by first | rfl | (simp; done) | (simp [*]; done)), H', ⟨by have := HK1.out; have := HK2.out; have := HK3.out; omega⟩, ⟨by (try simp only [hl18_1]); (try simp only [hl18_2]); (try simp only [hl22_2]); (try simp only [hl18_3]); (try simp only [hl22_3]); (with_reducible repeat (first | apply Kd.qG | apply Kd.qH | apply Kd.qI)); exact HO_8.out⟩, ⟨by (try simp only [hl18_1]); (try simp only [hl18_2]); (try simp only [hl22_2]); (try simp only [hl18_3]); (try simp only [hl22_3]); (with_reducible repeat (first | apply Kd.qG | apply Kd.qH | apply Kd.qI)); exact HO_18.out⟩, ⟨by (try simp only [hl18_1]); (try simp only [hl18_2]); (try simp only [hl22_2]); (try simp only [hl18_3]); (try simp only [hl22_3]); (with_reducible repeat (first | apply Kd.qG | apply Kd.qH | apply Kd.qI)); exact HO_22.out⟩, ⟨by (try simp only [hl18_1]); (try simp only [hl18_2]); (try simp only [hl22_2]); (try simp only [hl18_3]); (try simp only [hl22_3]); (with_reducible repeat (first | apply Kd.qG | apply Kd.qH | apply Kd.qI)); exact HO_33.out⟩, ⟨by (try simp only [hl18_1]); (try simp only [hl18_2]); (try simp only [hl22_2]); (try simp only [hl18_3]); (try simp only [hl22_3]); (with_reducible repeat (first | refine qC ?_ _ | refine qD ?_ | refine qB ?_ _)); exact BK168.out⟩, ⟨bl⟩⟩
             ·rw [if_neg c38] at H
              have c38b0 : decide (x9_2 < (x8_2.length : Int)) = false := decide_eq_false c38
              (try (have c38b0_hl18_1 := c38b0; simp only [hl18_1] at c38b0_hl18_1))
              (try (have c38b0_hl18_2 := c38b0; simp only [hl18_2] at c38b0_hl18_2))
              (try (have c38b0_hl22_2 := c38b0; simp only [hl22_2] at c38b0_hl22_2))
              clear c38
              have H' := Aside0.mk H
              clear H
              obtain ⟨Ao70, co70, eo70⟩ := Kd.qp HO_8.out
              subst eo70
              go_wp2
              go_loopg [12, 101] k2 (fun kq v12 v101 w' => ∃ (x12_3 : Int) (x101_3 : Int), v12 = .int .i64 x12_3 ∧ v101 = .int .i64 x101_3 ∧ Aside0 (qJ.l3 kq x12_3 x18_2 t176 (t176.length : Int) x101_3 = some (r1, r2)) ∧ Aside0 (kq ≤ k2) ∧ Aside0 (Kd.R (Kd.int .i64) 3 w' w.heap.size (fun k_ => some k_ ≠ ((.slice (some ad179) t176.length co30) : Value).ownBlock) (.slice (some ⟨go26, 0, none⟩) x18_2.length co12) x18_2) ∧ Aside0 (Kd.R (Kd.int .i64) 3 w' w.heap.size (fun k_ => some k_ ≠ ((.slice (some ⟨go26, 0, none⟩) x18_2.length co12) : Value).ownBlock) (.slice (some ad179) t176.length co30) t176) ∧ Aside0 (w'.heap[gb168]? = some (.cells #[.int .i64 a0_0, .int .i64 a0_1, (.slice A0_2 l0_2.length c0_2)] 27 (0, 0))) ∧ Aside0 (Below w.heap.size w w'))
              case atStart => exact ⟨(0), (0), (by first | rfl | (simp; done) | (simp [*]; done)), (by first | rfl | (simp; done) | (simp [*]; done)), H', ⟨Nat.le_refl _⟩, ⟨by (try simp only [hl18_1]); (try simp only [hl18_2]); (try simp only [hl22_2]); (with_reducible repeat (first | apply Kd.qG | apply Kd.qH | apply Kd.qI)); exact Kd.qf HO_18.out (fun _ hk => hk.2)⟩, ⟨by (try simp only [hl18_1]); (try simp only [hl18_2]); (try simp only [hl22_2]); (with_reducible repeat (first | apply Kd.qG | apply Kd.qH | apply Kd.qI)); exact Kd.qf HO_33.out (fun _ hk => hk.2)⟩, ⟨by (try simp only [hl18_1]); (try simp only [hl18_2]); (try simp only [hl22_2]); (with_reducible repeat (first | refine qC ?_ _ | refine qD ?_ | refine qB ?_ _)); exact BK168.out⟩, ⟨bl⟩⟩
              case round =>
               clear H'
               try clear p1
               try clear q1
               try clear hx1
               try clear c2
               try clear p2
               try clear q2
               try clear hx2
               try clear c3
               try clear c4
               try clear c5
               try clear p5
               try clear q5
               try clear hx5
               try clear hf5
               try clear p6
               try clear p16
               try clear q16
               try clear hx16
               try clear p17
               try clear q17
               try clear hx17
               try clear p18
               try clear q18
               try clear hx18
               try clear p19
               try clear q19
               try clear hx19
               try clear p20
               try clear q20
               try clear hx20
               try clear c23
               try clear c24
               try clear p24
               try clear q24
               try clear hx24
               try clear p26
               try clear q26
               try clear hx26
               try clear c38
               try clear c38b0
               try clear c40
               try clear c40b0
               try clear c41
               try clear c41b0
               try clear c42
               try clear c42b0
               try clear c44
               try clear c44b0
               try clear c45
               try clear c45b0
               try clear c46
               try clear c46b0
               try clear c47
               try clear c47b0
               try clear c48
               try clear c48b0
               try clear c49
               try clear c49b0
               try clear c51
               try clear c51b0
               try clear c52
               try clear p52
               try clear q52
               try clear hx52
               try clear hf52
               try clear p53
               try clear q53
               try clear hx53
               try clear hf53
               try clear c54
               try clear c59
               try clear hx59
               try clear hf59
               try clear p64
               try clear hfz27_0
               try clear hfz27_1
               try clear hfz27_2
               try clear hfz6_0
               try clear hfz6_1
               try clear hfz6_2
               try clear hfz9_0
               try clear hfz9_1
               try clear hfz9_2
               try clear hx16_0
               try clear hx179_0
               try clear hx187_0
               try clear hx189_0
               try clear hx193_0
               try clear hx195_0
               try clear hx196_0
               try clear hx197_0
               try clear hx197_1
               try clear hx197_2
               try clear hx197_3
               try clear hx197_4
               try clear hx197_5
               try clear hx205_0
               try clear hx205_1
               try clear hx205_2
               try clear hx205_3
               try clear hx205_4
               try clear hx205_5
               try clear hx24_0
               try clear hx24_1
               try clear hx24_2
               try clear hx24_3
               try clear hx24_4
               try clear hx24_5
               try clear hx26_0
               try clear hx52_0
               try clear hx52_1
               try clear hx52_2
               try clear hx52_3
               try clear hx52_4
               try clear hx52_5
               try clear hx53_0
               try clear hx59_0
               try clear hx59_1
               try clear hx59_2
               try clear hx59_3
               try clear hx59_4
               try clear hx59_5
               try clear p1
               try clear p16
               try clear p17
               try clear p179
               try clear p18
               try clear p187
               try clear p189
               try clear p193
               try clear p195
               try clear p196
               try clear p197
               try clear p2
               try clear p205
               try clear p24
               try clear p26
               try clear p52
               try clear p53
               try clear p6
               try clear q1
               try clear q16
               try clear q17
               try clear q179
               try clear q18
               try clear q187
               try clear q189
               try clear q193
               try clear q195
               try clear q196
               try clear q197
               try clear q2
               try clear q205
               try clear q24
               try clear q26
               try clear q52
               try clear q53
               obtain ⟨x12_3, x101_3, rfl, rfl, HA, HK3, HO_18, HO_33, BK168, HB⟩ := hrel
               cases gk with
               | zero => exact absurd HA.out (by simp [qJ.l3])
               | succ k3 =>
                have H := HA.out
                clear HA
                simp only [qJ.l3] at H
                by_cases c71 : x101_3 < (t176.length : Int)
                ·rw [if_pos c71] at H
                 have c71b0 : decide (x101_3 < (t176.length : Int)) = true := decide_eq_true c71
                 (try (have c71b0_hl18_1 := c71b0; simp only [hl18_1] at c71b0_hl18_1))
                 (try (have c71b0_hl18_2 := c71b0; simp only [hl18_2] at c71b0_hl18_2))
                 (try (have c71b0_hl22_2 := c71b0; simp only [hl22_2] at c71b0_hl22_2))
                 clear c71
                 by_cases c72 : 0 ≤ x101_3
                 ·rw [if_pos c72] at H
                  have c72b0 : decide (0 ≤ x101_3) = true := decide_eq_true c72
                  clear c72
                  by_cases c73 : x101_3 < (t176.length : Int)
                  ·rw [if_pos c73] at H
                   have c73b0 : decide (x101_3 < (t176.length : Int)) = true := decide_eq_true c73
                   (try (have c73b0_hl18_1 := c73b0; simp only [hl18_1] at c73b0_hl18_1))
                   (try (have c73b0_hl18_2 := c73b0; simp only [hl18_2] at c73b0_hl18_2))
                   (try (have c73b0_hl22_2 := c73b0; simp only [hl22_2] at c73b0_hl22_2))
                   clear c73
                   by_cases c74 : 0 ≤ (rd t176 x101_3)
                   ·rw [if_pos c74] at H
                    have c74b0 : decide (0 ≤ (rd t176 x101_3)) = true := decide_eq_true c74
                    clear c74
                    by_cases c75 : (rd t176 x101_3) < (x18_2.length : Int)
                    ·rw [if_pos c75] at H
                     have c75b0 : decide ((rd t176 x101_3) < (x18_2.length : Int)) = true := decide_eq_true c75
                     (try (have c75b0_hl18_1 := c75b0; simp only [hl18_1] at c75b0_hl18_1))
                     (try (have c75b0_hl18_2 := c75b0; simp only [hl18_2] at c75b0_hl18_2))
                     (try (have c75b0_hl22_2 := c75b0; simp only [hl22_2] at c75b0_hl22_2))
                     clear c75
                     by_cases c76 : 0 ≤ (rd x18_2 (rd t176 x101_3))
                     ·rw [if_pos c76] at H
                      have c76b0 := eq_true c76
                      have c76b1 : decide (0 ≤ (rd x18_2 (rd t176 x101_3))) = true := decide_eq_true c76
                      clear c76
                      obtain ⟨ji77, hji77⟩ : ∃ j_ : Int, (shr .i64 x12_3 (rd x18_2 (rd t176 x101_3))) = j_ := ⟨_, rfl⟩
                      replace H : (if (Int.tmod (ji77) 2) = 1 then (some (x18_2, false)) else (qJ.l3 k3 (Go.bits .or .i64 x12_3 (shl .i64 1 (rd x18_2 (rd t176 x101_3)))) x18_2 t176 (t176.length : Int) (wrap64 (x101_3 + 1)))) = some (r1, r2) := by first | (rw [hji77] at H; exact H) | (simp only [hji77] at H ⊢; exact H)
                      have hji77_ : (x12_3 / 2 ^ min (rd x18_2 (rd t176 x101_3)).toNat 64) = ji77 := hji77
                      have hji77z : (rd x18_2 (rd t176 x101_3)) ≤ 64 → (x12_3 / 2 ^ (rd x18_2 (rd t176 x101_3)).toNat) = ji77 := shr_small hji77
                      by_cases c78 : (Int.tmod (ji77) 2) = 1
                      ·rw [if_pos c78] at H
                       have c78b0 : ((Int.tmod (ji77) 2) == 1) = true := beq_iff_eq.mpr c78
                       have c78b1 : ((Int.tmod (ji77) 2) != 1) = false := bne_eq_false_iff_eq.mpr c78
                       clear c78
                       simp only [Option.some.injEq, Prod.mk.injEq] at H
                       obtain ⟨rfl, rfl⟩ := H
                       have p210 : 0 ≤ (x101_3 : Int) := of_decide_eq_true (by first | (with_reducible assumption) | assumption)
                       have q210 : x101_3 < (t176.length : Int) := of_decide_eq_true (by first | (with_reducible assumption) | assumption)
                       obtain ⟨ad210, e210, hx210_0⟩ := Kd.qCA (Kd.qQ HO_33.out).2.2 x101_3 p210 q210
                       obtain rfl : ad179 = ad210 := (by injection e210)
                       replace p210 := eq_true p210
                       replace q210 := eq_true q210
                       have p211 : 0 ≤ ((rd t176 x101_3) : Int) := of_decide_eq_true (by first | (with_reducible assumption) | assumption)
                       have q211 : (rd t176 x101_3) < (x18_2.length : Int) := of_decide_eq_true (by first | (with_reducible assumption) | assumption)
                       obtain ⟨ad211, e211, hx211_0⟩ := Kd.qCA (Kd.qQ HO_18.out).2.2 (rd t176 x101_3) p211 q211
                       obtain rfl : (⟨go26, 0, none⟩ : Addr) = ad211 := (by injection e211)
                       (first | simp only [ql] at hx211_0 | simp only [qfA] at hx211_0 | simp only [Addr.add, Nat.zero_add] at hx211_0 | skip)
                       replace p211 := eq_true p211
                       replace q211 := eq_true q211
                       go_wp2
                       go_ret2
                       exact ⟨_, by first | rfl | (simp [qN, qM] <;> rfl) | (simp only [← hji77]; first | rfl | (simp [qN, qM] <;> rfl)) | (simp [*, qN, qM] <;> rfl), by (with_reducible repeat (first | apply Kd.qG | apply Kd.qH | apply Kd.qI)); exact Kd.qf HO_18.out (fun _ hk => trivial), bl⟩
                      ·rw [if_neg c78] at H
                       have c78b0 : ((Int.tmod (ji77) 2) == 1) = false := beq_eq_false_iff_ne.mpr c78
                       have c78b1 : ((Int.tmod (ji77) 2) != 1) = true := bne_iff_ne.mpr c78
                       have c79b0 := eq_true (of_decide_eq_true (by first | (with_reducible assumption) | assumption) : 0 ≤ (rd x18_2 (rd t176 x101_3)))
                       obtain ⟨ji80, hji80⟩ : ∃ j_ : Int, (shl .i64 1 (rd x18_2 (rd t176 x101_3))) = j_ := ⟨_, rfl⟩
                       replace H : (qJ.l3 k3 (Go.bits .or .i64 x12_3 (ji80)) x18_2 t176 (t176.length : Int) (wrap64 (x101_3 + 1))) = some (r1, r2) := by first | (rw [hji80] at H; exact H) | (simp only [hji80] at H ⊢; exact H)
                       have hji80_ : (IntKind.i64.wrap (1 * 2 ^ min (rd x18_2 (rd t176 x101_3)).toNat 64)) = ji80 := hji80
                       have hji80z : (rd x18_2 (rd t176 x101_3)) ≤ 64 → (IntKind.i64.wrap (1 * 2 ^ (rd x18_2 (rd t176 x101_3)).toNat)) = ji80 := qhB hji80
                       have hji80u : (IntKind.i64.wrap (2 ^ min (rd x18_2 (rd t176 x101_3)).toNat 64)) = ji80 := by have h_ := hji80_; rw [Int.one_mul] at h_; exact h_
                       have hji80v : (rd x18_2 (rd t176 x101_3)) ≤ 64 → (IntKind.i64.wrap (2 ^ (rd x18_2 (rd t176 x101_3)).toNat)) = ji80 := fun hle_ => by have h_ := hji80z hle_; rw [Int.one_mul] at h_; exact h_
                       have hji80y : (wrap64 (1 * 2 ^ min (rd x18_2 (rd t176 x101_3)).toNat 64)) = ji80 := (i64_w _).symm.trans hji80_
                       have hji80x : (rd x18_2 (rd t176 x101_3)) ≤ 64 → (wrap64 (1 * 2 ^ (rd x18_2 (rd t176 x101_3)).toNat)) = ji80 := fun h_ => (i64_w _).symm.trans (hji80z h_)
                       have H' := Aside0.mk H
                       clear H
                       have p210 : 0 ≤ (x101_3 : Int) := of_decide_eq_true (by first | (with_reducible assumption) | assumption)
                       have q210 : x101_3 < (t176.length : Int) := of_decide_eq_true (by first | (with_reducible assumption) | assumption)
                       obtain ⟨ad210, e210, hx210_0⟩ := Kd.qCA (Kd.qQ HO_33.out).2.2 x101_3 p210 q210
                       obtain rfl : ad179 = ad210 := (by injection e210)
                       replace p210 := eq_true p210
                       replace q210 := eq_true q210
                       have p211 : 0 ≤ ((rd t176 x101_3) : Int) := of_decide_eq_true (by first | (with_reducible assumption) | assumption)
                       have q211 : (rd t176 x101_3) < (x18_2.length : Int) := of_decide_eq_true (by first | (with_reducible assumption) | assumption)
                       obtain ⟨ad211, e211, hx211_0⟩ := Kd.qCA (Kd.qQ HO_18.out).2.2 (rd t176 x101_3) p211 q211
                       obtain rfl : (⟨go26, 0, none⟩ : Addr) = ad211 := (by injection e211)
                       (first | simp only [ql] at hx211_0 | simp only [qfA] at hx211_0 | simp only [Addr.add, Nat.zero_add] at hx211_0 | skip)
                       replace p211 := eq_true p211
                       replace q211 := eq_true q211
                       have p212 : 0 ≤ ((rd t176 x101_3) : Int) := of_decide_eq_true (by first | (with_reducible assumption) | assumption)
                       have q212 : (rd t176 x101_3) < (x18_2.length : Int) := of_decide_eq_true (by first | (with_reducible assumption) | assumption)
                       obtain ⟨ad212, e212, hx212_0⟩ := Kd.qCA (Kd.qQ HO_18.out).2.2 (rd t176 x101_3) p212 q212
                       obtain rfl : (⟨go26, 0, none⟩ : Addr) = ad212 := (by injection e212)
                       (first | simp only [ql] at hx212_0 | simp only [qfA] at hx212_0 | simp only [Addr.add, Nat.zero_add] at hx212_0 | skip)
                       replace p212 := eq_true p212
                       replace q212 := eq_true q212
                       go_wp2
                       go_roundg k3
                       case measure => have := HK1.out; have := HK2.out; have := HK3.out; omega
                       case rel => exact ⟨(Go.bits .or .i64 x12_3 (ji80)), (wrap64 (x101_3 + 1)), (by first | rfl | (simp; done) | (simp only [← hji80] <;> (first | rfl | simp)) | (simp [*]; done)), (by first | rfl | (simp; done) | (simp [*]; done)), H', ⟨by have := HK1.out; have := HK2.out; have := HK3.out; omega⟩, ⟨by (try simp only [hl18_1]); (try simp only [hl18_2]); (try simp only [hl22_2]); (with_reducible repeat (first | apply Kd.qG | apply Kd.qH | apply Kd.qI)); exact HO_18.out⟩, ⟨by (try simp only [hl18_1]); (try simp only [hl18_2]); (try simp only [hl22_2]); (with_reducible repeat (first | apply Kd.qG | apply Kd.qH | apply Kd.qI)); exact HO_33.out⟩, ⟨by (try simp only [hl18_1]); (try simp only [hl18_2]); (try simp only [hl22_2]); (with_reducible repeat (first | refine qC ?_ _ | refine qD ?_ | refine qB ?_ _)); exact BK168.out⟩, ⟨bl⟩⟩
                     ·rw [if_neg c76] at H
                      exact absurd H (by simp)
                    ·rw [if_neg c75] at H
                     exact absurd H (by simp)
                   ·rw [if_neg c74] at H
                    exact absurd H (by simp)
                  ·rw [if_neg c73] at H
                   exact absurd H (by simp)
                 ·rw [if_neg c72] at H
                  exact absurd H (by simp)
                ·rw [if_neg c71] at H
                 have c71b0 : decide (x101_3 < (t176.length : Int)) = false := decide_eq_false c71
                 (try (have c71b0_hl18_1 := c71b0; simp only [hl18_1] at c71b0_hl18_1))
                 (try (have c71b0_hl18_2 := c71b0; simp only [hl18_2] at c71b0_hl18_2))
                 (try (have c71b0_hl22_2 := c71b0; simp only [hl22_2] at c71b0_hl22_2))
                 clear c71
                 simp only [Option.some.injEq, Prod.mk.injEq] at H
                 obtain ⟨rfl, rfl⟩ := H
                 go_wp2
                 go_ret2
                 exact ⟨_, by first | rfl | (simp [qN, qM] <;> rfl) | (simp [*, qN, qM] <;> rfl), by (with_reducible repeat (first | apply Kd.qG | apply Kd.qH | apply Kd.qI)); exact Kd.qf HO_18.out (fun _ hk => trivial), bl⟩
          ·rw [if_neg c25] at H
           exact absurd H (by simp)
         ·rw [if_neg c23] at H
          exact absurd H (by simp)
        ·rw [if_neg c22] at H
         exact absurd H (by simp)
       ·rw [if_neg c20] at H
        exact absurd H (by simp)
   ·rw [if_neg c4] at H
    exact absurd H (by simp)
  ·rw [if_neg c3] at H
   exact absurd H (by simp)
 ·rw [if_neg c2] at H
  exact absurd H (by simp)
def qzA.f (k : Nat) (a0 : ByteArray) : Option (Int × Int × List Int × List Int × Bool) := (qO.f k a0 false).bind fun bt214 => (if bt214.2.2.2 = true then ((qc.f k bt214.1 bt214.2.1 bt214.2.2.1).bind fun t221 => (if t221 = true then ((qJ.f k bt214.1 bt214.2.1 bt214.2.2.1).bind fun bt222 => (some (bt214.1, bt214.2.1, bt214.2.2.1, bt222.1, bt222.2))) else (some (bt214.1, bt214.2.1, bt214.2.2.1, ([] : List Int), false)))) else (some (bt214.1, bt214.2.1, bt214.2.2.1, ([] : List Int), false)))
set_option maxHeartbeats 8000000 in
set_option maxRecDepth 100000 in
theorem qzA.calls (k : Nat) (a0 : ByteArray) (r1 : Int) (r2 : Int) (r3 : List Int) (r4 : List Int) (r5 : Bool) (w : World) (h : qzA.f k a0 = some (r1, r2, r3, r4, r5)) :
  Calls Tryz.prog 6 #[.string a0] w fun e w' => ∃ v2_ v3_ : Value, e = .returned (.tuple #[.agg #[.int .i64 r1, .int .i64 r2, v2_], v3_, .bool r5]) ∧ Kd.R (Kd.int .u8) 5 w' w.heap.size (fun _ => True) v2_ r3 ∧ Kd.R (Kd.int .i64) 3 w' w.heap.size (fun _ => True) v3_ r4 ∧ Below w.heap.size w w' := by
 have hu27 := Tryz.underlying27
 have HB := Aside0.mk (Below.refl w.heap.size w)
 have H : ((qO.f k a0 false).bind fun bt214 => (if bt214.2.2.2 = true then ((qc.f k bt214.1 bt214.2.1 bt214.2.2.1).bind fun t221 => (if t221 = true then ((qJ.f k bt214.1 bt214.2.1 bt214.2.2.1).bind fun bt222 => (some (bt214.1, bt214.2.1, bt214.2.2.1, bt222.1, bt222.2))) else (some (bt214.1, bt214.2.1, bt214.2.2.1, ([] : List Int), false)))) else (some (bt214.1, bt214.2.1, bt214.2.2.1, ([] : List Int), false)))) = some (r1, r2, r3, r4, r5) := h
 clear h
 replace H := Option.bind_eq_some_iff.mp H
 obtain ⟨⟨t214, t215, t216, t219⟩, A20, H⟩ := H
 replace H : (if t219 = true then ((qc.f k t214 t215 t216).bind fun t221 => (if t221 = true then ((qJ.f k t214 t215 t216).bind fun bt222 => (some (t214, t215, t216, bt222.1, bt222.2))) else (some (t214, t215, t216, ([] : List Int), false)))) else (some (t214, t215, t216, ([] : List Int), false))) = some (r1, r2, r3, r4, r5) := H
 have A2 := Aside0.mk A20
 clear A20
 by_cases c3 : t219 = true
 ·subst c3
  have H1 : ((qc.f k t214 t215 t216).bind fun t221 => (if t221 = true then ((qJ.f k t214 t215 t216).bind fun bt222 => (some (t214, t215, t216, bt222.1, bt222.2))) else (some (t214, t215, t216, ([] : List Int), false)))) = some (r1, r2, r3, r4, r5) := by rw [if_pos rfl] at H; exact H
  clear H
  have H := H1
  clear H1
  replace H := Option.bind_eq_some_iff.mp H
  obtain ⟨t221, A40, H⟩ := H
  replace H : (if t221 = true then ((qJ.f k t214 t215 t216).bind fun bt222 => (some (t214, t215, t216, bt222.1, bt222.2))) else (some (t214, t215, t216, ([] : List Int), false))) = some (r1, r2, r3, r4, r5) := H
  have A4 := Aside0.mk A40
  clear A40
  by_cases c5 : t221 = true
  ·subst c5
   have H1 : ((qJ.f k t214 t215 t216).bind fun bt222 => (some (t214, t215, t216, bt222.1, bt222.2))) = some (r1, r2, r3, r4, r5) := by rw [if_pos rfl] at H; exact H
   clear H
   have H := H1
   clear H1
   replace H := Option.bind_eq_some_iff.mp H
   obtain ⟨⟨t222, t225⟩, A60, H⟩ := H
   replace H : (some (t214, t215, t216, t222, t225)) = some (r1, r2, r3, r4, r5) := H
   have A6 := Aside0.mk A60
   clear A60
   simp only [Option.some.injEq, Prod.mk.injEq] at H
   obtain ⟨rfl, rfl, rfl, rfl, rfl⟩ := H
   go_enter Tryz.func6, Tryz.ntmps6
   go_wp2_with (first | ((with_reducible refine qX (N := 2) rfl ?_); refine qV ?hg (N := 2) ?hd (cs := #[.int .i64 0, .int .i64 0, .slice none 0 0]) (t := 27) ?hr ?_; (case hd => rfl); (case hg => rfl); (case hr => first | (go_simp; done) | (go_simp; rfl)); intro gb213 hg w7 hbox hb; have n0_ := Aside0.mk (qK bl hb); have n1_ := Aside0.mk (hbox); have n2_ := Aside0.mk ((gg hg)); have n3_ := Aside0.mk ((gg hg)); clear HB; have HB := n0_; have BK213 := n1_; have GW213 := n2_; have GE213 := n3_; clear n0_ n1_ n2_ n3_; clear hb hbox hg) | ((with_reducible refine qb (f := 11) rfl ?_); refine qRA (some 11) rfl rfl Tryz.func11 (by kernel_rfl) rfl #[.string a0, .bool false] rfl (by (try simp only [List.map_toArray, List.map_cons, List.map_nil]); first | done | rfl | (simp only [List.length_drop, List.length_take]; rfl)) ?_; (with_reducible refine (qO.calls k a0 false t214 t215 t216 true _ A2.out).mono ?_); rintro e w8 ⟨v217, rfl, ho0, hb⟩; refine ⟨_, rfl, ?_⟩; have n0_ := Aside0.mk (Kd.qAA ho0 (qa bl)); have n1_ := Aside0.mk (bb BK213 hb); have n2_ := Aside0.mk (qK bl hb); clear BK213; clear HB; have HO218 := n0_; have BK213 := n1_; have HB := n2_; clear n0_ n1_ n2_; (try clear hb); (try clear hb2); (try clear hk); (try clear hi); (try clear ho0)) | ((with_reducible refine qX (N := 5) rfl ?_); refine qV ?hg (N := 5) ?hd (cs := #[.int .i64 0, .int .i64 0, .slice none 0 0]) (t := 27) ?hr ?_; (case hd => rfl); (case hg => rfl); (case hr => first | (go_simp; done) | (go_simp; rfl)); intro gb220 hg w9 hbox hb; have n0_ := Aside0.mk (Kd.qW (by (with_reducible repeat (first | apply Kd.qG | apply Kd.qH | apply Kd.qI)); exact HO218.out) hb); have n1_ := Aside0.mk (bb BK213 hb); have n2_ := Aside0.mk (qK bl hb); have n3_ := Aside0.mk (hbox); have n4_ := Aside0.mk ((gg hg)); have n5_ := Aside0.mk ((gg hg)); have n6_ := Aside0.mk ((nl BK213 hg)); have n7_ := Aside0.mk ((nr BK213 hg)); clear HO218; clear BK213; clear HB; have HO218 := n0_; have BK213 := n1_; have HB := n2_; have BK220 := n3_; have GW220 := n4_; have GE220 := n5_; have NB213_220 := n6_; have NB220_213 := n7_; clear n0_ n1_ n2_ n3_ n4_ n5_ n6_ n7_; clear hb hbox hg; have hnb10 := NB220_213.out; have hnc10 := NB213_220.out; have hcz11_0 := bc BK220 0; have hcz11_1 := bc BK220 1; have hcz11_2 := bc BK220 2; have hfz11_0 := qA BK220.out 0; have hfz11_1 := qA BK220.out 1; have hfz11_2 := qA BK220.out 2; obtain ⟨Ao12, co12, eo12⟩ := Kd.qp HO218.out; subst eo12) | (go_at_call 12; (with_reducible refine (qc.calls k t214 t215 _ _ t216 true _ ?side1 ?side2 A4.out).mono ?_); (case side1 => refine (Kd.qQ (e := 5) (base := w.heap.size) (ok := fun k_ => True) (n := t216.length) (c := co12) ?_).2.2; exact (by (with_reducible repeat (first | apply Kd.qG | apply Kd.qH | apply Kd.qI)); exact (Kd.qf (Kd.R_far (p := ⟨gb220, 2, none⟩) (Kd.R_far (p := ⟨gb220, 1, none⟩) (Kd.R_far (p := ⟨gb220, 0, none⟩) (Kd.qXA HO218.out BK220.out (by decide)) (fun _ hk => hk.2) (.int .i64 t214)) (fun _ hk => hk.2) (.int .i64 t215)) (fun _ hk => hk.2) (.slice Ao12 t216.length co12)) (fun _ h_ => h_.1)))); (case side2 => exact (Kd.qQ HO218.out).2.1); rintro e w13 ⟨rfl, hb⟩; have n0_ := Aside0.mk (Kd.qW (by (with_reducible repeat (first | apply Kd.qG | apply Kd.qH | apply Kd.qI)); exact (Kd.qf (Kd.R_far (p := ⟨gb220, 2, none⟩) (Kd.R_far (p := ⟨gb220, 1, none⟩) (Kd.R_far (p := ⟨gb220, 0, none⟩) (Kd.qXA HO218.out BK220.out (by decide)) (fun _ hk => hk.2) (.int .i64 t214)) (fun _ hk => hk.2) (.int .i64 t215)) (fun _ hk => hk.2) (.slice Ao12 t216.length co12)) (fun _ h_ => h_.1))) hb); have n1_ := Aside0.mk (qVB (g := gb213) (o := .cells #[.int .i64 0, .int .i64 0, .slice none 0 0] 27 (0, 0)) (by (with_reducible repeat (first | refine qC ?_ _ | refine qD ?_ | refine qB ?_ _)); refine qIA ?_ NB213_220.out _; (with_reducible repeat (first | refine qC ?_ _ | refine qD ?_ | refine qB ?_ _)); refine qIA ?_ NB213_220.out _; (with_reducible repeat (first | refine qC ?_ _ | refine qD ?_ | refine qB ?_ _)); refine qIA ?_ NB213_220.out _; (with_reducible repeat (first | refine qC ?_ _ | refine qD ?_ | refine qB ?_ _)); exact BK213.out) hb); have n2_ := Aside0.mk (qVB (g := gb220) (o := .cells #[.int .i64 t214, .int .i64 t215, .slice Ao12 t216.length co12] 27 (0, 0)) (by (with_reducible repeat (first | refine qC ?_ _ | refine qD ?_ | refine qB ?_ _)); refine qR (cs := #[.int .i64 t214, .int .i64 t215, .slice none 0 0]) ?_ 2 _ rfl; (with_reducible repeat (first | refine qC ?_ _ | refine qD ?_ | refine qB ?_ _)); refine qR (cs := #[.int .i64 t214, .int .i64 0, .slice none 0 0]) ?_ 1 _ rfl; (with_reducible repeat (first | refine qC ?_ _ | refine qD ?_ | refine qB ?_ _)); refine qR (cs := #[.int .i64 0, .int .i64 0, .slice none 0 0]) ?_ 0 _ rfl; (with_reducible repeat (first | refine qC ?_ _ | refine qD ?_ | refine qB ?_ _)); exact BK220.out) hb); have n3_ := Aside0.mk (qK bl hb); clear HO218; clear BK213; clear BK220; clear HB; have HO218 := n0_; have BK213 := n1_; have BK220 := n2_; have HB := n3_; clear n0_ n1_ n2_ n3_; (try clear hb); (try clear hb2); (try clear hk); (try clear hi); have hcz14_0 := bc BK220 0; have hcz14_1 := bc BK220 1; have hcz14_2 := bc BK220 2; have hfz14_0 := qA BK220.out 0; have hfz14_1 := qA BK220.out 1; have hfz14_2 := qA BK220.out 2) | ((with_reducible refine qb (f := 13) rfl ?_); refine qRA (some 24) rfl rfl Tryz.func13 (by kernel_rfl) rfl #[.agg #[.int .i64 t214, .int .i64 t215, .slice Ao12 t216.length co12]] rfl (by (try simp only [List.map_toArray, List.map_cons, List.map_nil]); first | done | rfl | (simp only [List.length_drop, List.length_take]; rfl)) ?_; (with_reducible refine (qJ.calls k t214 t215 _ _ t216 t222 t225 _ ?side1 ?side2 A6.out).mono ?_); (case side1 => repeat (first | exact (Kd.qQ HO218.out).2.2 | (with_reducible refine Kd.qcA ?_ _) | (with_reducible refine Kd.qbA ?_ _) | (with_reducible refine Kd.qtA ?_))); (case side2 => exact (Kd.qQ HO218.out).2.1); rintro e w15 ⟨v223, rfl, ho0, hb⟩; refine ⟨_, rfl, ?_⟩; have n0_ := Aside0.mk (Kd.qW (by (with_reducible repeat (first | apply Kd.qG | apply Kd.qH | apply Kd.qI)); exact HO218.out) hb); have n1_ := Aside0.mk (Kd.qAA ho0 (qa bl)); have n2_ := Aside0.mk (bb BK213 hb); have n3_ := Aside0.mk (bb BK220 hb); have n4_ := Aside0.mk (qK bl hb); clear HO218; clear BK213; clear BK220; clear HB; have HO218 := n0_; have HO224 := n1_; have BK213 := n2_; have BK220 := n3_; have HB := n4_; clear n0_ n1_ n2_ n3_ n4_; (try clear hb); (try clear hb2); (try clear hk); (try clear hi); (try clear ho0); have hcz16_0 := bc BK220 0; have hcz16_1 := bc BK220 1; have hcz16_2 := bc BK220 2; have hfz16_0 := qA BK220.out 0; have hfz16_1 := qA BK220.out 1; have hfz16_2 := qA BK220.out 2; have hcz17_0 := bc BK213 0; have hcz17_1 := bc BK213 1; have hcz17_2 := bc BK213 2; have hfz17_0 := qA BK213.out 0; have hfz17_1 := qA BK213.out 1; have hfz17_2 := qA BK213.out 2))
   refine bodyPost_ret (qqB rfl _ _ gb213 27 #[.int .i64 t214, .int .i64 t215, .slice Ao12 t216.length co12] (0, 0) _ rfl (by (with_reducible repeat (first | refine qC ?_ _ | refine qD ?_ | refine qB ?_ _)); refine qR (cs := #[.int .i64 t214, .int .i64 t215, .slice none 0 0]) ?_ 2 _ rfl; (with_reducible repeat (first | refine qC ?_ _ | refine qD ?_ | refine qB ?_ _)); refine qR (cs := #[.int .i64 t214, .int .i64 0, .slice none 0 0]) ?_ 1 _ rfl; (with_reducible repeat (first | refine qC ?_ _ | refine qD ?_ | refine qB ?_ _)); refine qR (cs := #[.int .i64 0, .int .i64 0, .slice none 0 0]) ?_ 0 _ rfl; (with_reducible repeat (first | refine qC ?_ _ | refine qD ?_ | refine qB ?_ _)); exact BK213.out) Tryz.underlying27 rfl (by kernel_rfl)) rfl ?_
   exact ⟨_, _, by first | rfl | (simp [qN, qM] <;> rfl) | (simp [*, qN, qM] <;> rfl), by (with_reducible repeat (first | apply Kd.qG | apply Kd.qH | apply Kd.qI)); exact Kd.qf (Kd.R_far (p := ⟨gb213, 2, none⟩) (Kd.R_far (p := ⟨gb213, 1, none⟩) (Kd.R_far (p := ⟨gb213, 0, none⟩) (Kd.qXA HO218.out BK213.out (by decide)) (fun _ hk => hk.2) (.int .i64 t214)) (fun _ hk => hk.2) (.int .i64 t215)) (fun _ hk => hk.2) (.slice Ao12 t216.length co12)) (fun _ hk => trivial), by (with_reducible repeat (first | apply Kd.qG | apply Kd.qH | apply Kd.qI)); exact Kd.qf (Kd.R_far (p := ⟨gb213, 2, none⟩) (Kd.R_far (p := ⟨gb213, 1, none⟩) (Kd.R_far (p := ⟨gb213, 0, none⟩) (Kd.qXA HO224.out BK213.out (by decide)) (fun _ hk => hk.2) (.int .i64 t214)) (fun _ hk => hk.2) (.int .i64 t215)) (fun _ hk => hk.2) (.slice Ao12 t216.length co12)) (fun _ hk => trivial), bl⟩
  ·replace c5 := Bool.eq_false_iff.mpr c5
   subst c5
   have H1 : (some (t214, t215, t216, ([] : List Int), false)) = some (r1, r2, r3, r4, r5) := by rw [if_neg (show ¬ (false = true) by decide)] at H; exact H
   clear H
   have H := H1
   clear H1
   simp only [Option.some.injEq, Prod.mk.injEq] at H
   obtain ⟨rfl, rfl, rfl, rfl, rfl⟩ := H
   go_enter Tryz.func6, Tryz.ntmps6
   go_wp2_with (first | ((with_reducible refine qX (N := 2) rfl ?_); refine qV ?hg (N := 2) ?hd (cs := #[.int .i64 0, .int .i64 0, .slice none 0 0]) (t := 27) ?hr ?_; (case hd => rfl); (case hg => rfl); (case hr => first | (go_simp; done) | (go_simp; rfl)); intro gb213 hg w18 hbox hb; have n0_ := Aside0.mk (qK bl hb); have n1_ := Aside0.mk (hbox); have n2_ := Aside0.mk ((gg hg)); have n3_ := Aside0.mk ((gg hg)); clear HB; have HB := n0_; have BK213 := n1_; have GW213 := n2_; have GE213 := n3_; clear n0_ n1_ n2_ n3_; clear hb hbox hg) | ((with_reducible refine qb (f := 11) rfl ?_); refine qRA (some 11) rfl rfl Tryz.func11 (by kernel_rfl) rfl #[.string a0, .bool false] rfl (by (try simp only [List.map_toArray, List.map_cons, List.map_nil]); first | done | rfl | (simp only [List.length_drop, List.length_take]; rfl)) ?_; (with_reducible refine (qO.calls k a0 false t214 t215 t216 true _ A2.out).mono ?_); rintro e w19 ⟨v217, rfl, ho0, hb⟩; refine ⟨_, rfl, ?_⟩; have n0_ := Aside0.mk (Kd.qAA ho0 (qa bl)); have n1_ := Aside0.mk (bb BK213 hb); have n2_ := Aside0.mk (qK bl hb); clear BK213; clear HB; have HO218 := n0_; have BK213 := n1_; have HB := n2_; clear n0_ n1_ n2_; (try clear hb); (try clear hb2); (try clear hk); (try clear hi); (try clear ho0)) | ((with_reducible refine qX (N := 5) rfl ?_); refine qV ?hg (N := 5) ?hd (cs := #[.int .i64 0, .int .i64 0, .slice none 0 0]) (t := 27) ?hr ?_; (case hd => rfl); (case hg => rfl); (case hr => first | (go_simp; done) | (go_simp; rfl)); intro gb220 hg w20 hbox hb; have n0_ := Aside0.mk (Kd.qW (by (with_reducible repeat (first | apply Kd.qG | apply Kd.qH | apply Kd.qI)); exact HO218.out) hb); have n1_ := Aside0.mk (bb BK213 hb); have n2_ := Aside0.mk (qK bl hb); have n3_ := Aside0.mk (hbox); have n4_ := Aside0.mk ((gg hg)); have n5_ := Aside0.mk ((gg hg)); have n6_ := Aside0.mk ((nl BK213 hg)); have n7_ := Aside0.mk ((nr BK213 hg)); clear HO218; clear BK213; clear HB; have HO218 := n0_; have BK213 := n1_; have HB := n2_; have BK220 := n3_; have GW220 := n4_; have GE220 := n5_; have NB213_220 := n6_; have NB220_213 := n7_; clear n0_ n1_ n2_ n3_ n4_ n5_ n6_ n7_; clear hb hbox hg; have hnb21 := NB220_213.out; have hnc21 := NB213_220.out; have hcz22_0 := bc BK220 0; have hcz22_1 := bc BK220 1; have hcz22_2 := bc BK220 2; have hfz22_0 := qA BK220.out 0; have hfz22_1 := qA BK220.out 1; have hfz22_2 := qA BK220.out 2; obtain ⟨Ao23, co23, eo23⟩ := Kd.qp HO218.out; subst eo23) | (go_at_call 12; (with_reducible refine (qc.calls k t214 t215 _ _ t216 false _ ?side1 ?side2 A4.out).mono ?_); (case side1 => refine (Kd.qQ (e := 5) (base := w.heap.size) (ok := fun k_ => True) (n := t216.length) (c := co23) ?_).2.2; exact (by (with_reducible repeat (first | apply Kd.qG | apply Kd.qH | apply Kd.qI)); exact (Kd.qf (Kd.R_far (p := ⟨gb220, 2, none⟩) (Kd.R_far (p := ⟨gb220, 1, none⟩) (Kd.R_far (p := ⟨gb220, 0, none⟩) (Kd.qXA HO218.out BK220.out (by decide)) (fun _ hk => hk.2) (.int .i64 t214)) (fun _ hk => hk.2) (.int .i64 t215)) (fun _ hk => hk.2) (.slice Ao23 t216.length co23)) (fun _ h_ => h_.1)))); (case side2 => exact (Kd.qQ HO218.out).2.1); rintro e w24 ⟨rfl, hb⟩; have n0_ := Aside0.mk (Kd.qW (by (with_reducible repeat (first | apply Kd.qG | apply Kd.qH | apply Kd.qI)); exact (Kd.qf (Kd.R_far (p := ⟨gb220, 2, none⟩) (Kd.R_far (p := ⟨gb220, 1, none⟩) (Kd.R_far (p := ⟨gb220, 0, none⟩) (Kd.qXA HO218.out BK220.out (by decide)) (fun _ hk => hk.2) (.int .i64 t214)) (fun _ hk => hk.2) (.int .i64 t215)) (fun _ hk => hk.2) (.slice Ao23 t216.length co23)) (fun _ h_ => h_.1))) hb); have n1_ := Aside0.mk (qVB (g := gb213) (o := .cells #[.int .i64 0, .int .i64 0, .slice none 0 0] 27 (0, 0)) (by (with_reducible repeat (first | refine qC ?_ _ | refine qD ?_ | refine qB ?_ _)); refine qIA ?_ NB213_220.out _; (with_reducible repeat (first | refine qC ?_ _ | refine qD ?_ | refine qB ?_ _)); refine qIA ?_ NB213_220.out _; (with_reducible repeat (first | refine qC ?_ _ | refine qD ?_ | refine qB ?_ _)); refine qIA ?_ NB213_220.out _; (with_reducible repeat (first | refine qC ?_ _ | refine qD ?_ | refine qB ?_ _)); exact BK213.out) hb); have n2_ := Aside0.mk (qVB (g := gb220) (o := .cells #[.int .i64 t214, .int .i64 t215, .slice Ao23 t216.length co23] 27 (0, 0)) (by (with_reducible repeat (first | refine qC ?_ _ | refine qD ?_ | refine qB ?_ _)); refine qR (cs := #[.int .i64 t214, .int .i64 t215, .slice none 0 0]) ?_ 2 _ rfl; (with_reducible repeat (first | refine qC ?_ _ | refine qD ?_ | refine qB ?_ _)); refine qR (cs := #[.int .i64 t214, .int .i64 0, .slice none 0 0]) ?_ 1 _ rfl; (with_reducible repeat (first | refine qC ?_ _ | refine qD ?_ | refine qB ?_ _)); refine qR (cs := #[.int .i64 0, .int .i64 0, .slice none 0 0]) ?_ 0 _ rfl; (with_reducible repeat (first | refine qC ?_ _ | refine qD ?_ | refine qB ?_ _)); exact BK220.out) hb); have n3_ := Aside0.mk (qK bl hb); clear HO218; clear BK213; clear BK220; clear HB; have HO218 := n0_; have BK213 := n1_; have BK220 := n2_; have HB := n3_; clear n0_ n1_ n2_ n3_; (try clear hb); (try clear hb2); (try clear hk); (try clear hi); have hcz25_0 := bc BK220 0; have hcz25_1 := bc BK220 1; have hcz25_2 := bc BK220 2; have hfz25_0 := qA BK220.out 0; have hfz25_1 := qA BK220.out 1; have hfz25_2 := qA BK220.out 2; have hcz26_0 := bc BK213 0; have hcz26_1 := bc BK213 1; have hcz26_2 := bc BK213 2; have hfz26_0 := qA BK213.out 0; have hfz26_1 := qA BK213.out 1; have hfz26_2 := qA BK213.out 2))
   refine bodyPost_ret (qqB rfl _ _ gb213 27 #[.int .i64 t214, .int .i64 t215, .slice Ao23 t216.length co23] (0, 0) _ rfl (by (with_reducible repeat (first | refine qC ?_ _ | refine qD ?_ | refine qB ?_ _)); refine qR (cs := #[.int .i64 t214, .int .i64 t215, .slice none 0 0]) ?_ 2 _ rfl; (with_reducible repeat (first | refine qC ?_ _ | refine qD ?_ | refine qB ?_ _)); refine qR (cs := #[.int .i64 t214, .int .i64 0, .slice none 0 0]) ?_ 1 _ rfl; (with_reducible repeat (first | refine qC ?_ _ | refine qD ?_ | refine qB ?_ _)); refine qR (cs := #[.int .i64 0, .int .i64 0, .slice none 0 0]) ?_ 0 _ rfl; (with_reducible repeat (first | refine qC ?_ _ | refine qD ?_ | refine qB ?_ _)); exact BK213.out) Tryz.underlying27 rfl (by kernel_rfl)) rfl ?_
   exact ⟨_, _, by first | rfl | (simp [qN, qM] <;> rfl) | (simp [*, qN, qM] <;> rfl), by (with_reducible repeat (first | apply Kd.qG | apply Kd.qH | apply Kd.qI)); exact Kd.qf (Kd.R_far (p := ⟨gb213, 2, none⟩) (Kd.R_far (p := ⟨gb213, 1, none⟩) (Kd.R_far (p := ⟨gb213, 0, none⟩) (Kd.qXA HO218.out BK213.out (by decide)) (fun _ hk => hk.2) (.int .i64 t214)) (fun _ hk => hk.2) (.int .i64 t215)) (fun _ hk => hk.2) (.slice Ao23 t216.length co23)) (fun _ hk => trivial), by first | exact Kd.R_nil _ _ _ _ _ | exact Kd.N_nil _ _ _ _ _ | exact Kd.V_nil _ _ _ _ _ | exact Kd.Q_nil _ _ _ _ _ | exact Kd.S_nil _ _ _ _ _, bl⟩
 ·replace c3 := Bool.eq_false_iff.mpr c3
  subst c3
  have H1 : (some (t214, t215, t216, ([] : List Int), false)) = some (r1, r2, r3, r4, r5) := by rw [if_neg (show ¬ (false = true) by decide)] at H; exact H
  clear H
  have H := H1
  clear H1
  simp only [Option.some.injEq, Prod.mk.injEq] at H
  obtain ⟨rfl, rfl, rfl, rfl, rfl⟩ := H
  go_enter Tryz.func6, Tryz.ntmps6
  go_wp2_with (first | ((with_reducible refine qX (N := 2) rfl ?_); refine qV ?hg (N := 2) ?hd (cs := #[.int .i64 0, .int .i64 0, .slice none 0 0]) (t := 27) ?hr ?_; (case hd => rfl); (case hg => rfl); (case hr => first | (go_simp; done) | (go_simp; rfl)); intro gb213 hg w27 hbox hb; have n0_ := Aside0.mk (qK bl hb); have n1_ := Aside0.mk (hbox); have n2_ := Aside0.mk ((gg hg)); have n3_ := Aside0.mk ((gg hg)); clear HB; have HB := n0_; have BK213 := n1_; have GW213 := n2_; have GE213 := n3_; clear n0_ n1_ n2_ n3_; clear hb hbox hg) | ((with_reducible refine qb (f := 11) rfl ?_); refine qRA (some 11) rfl rfl Tryz.func11 (by kernel_rfl) rfl #[.string a0, .bool false] rfl (by (try simp only [List.map_toArray, List.map_cons, List.map_nil]); first | done | rfl | (simp only [List.length_drop, List.length_take]; rfl)) ?_; (with_reducible refine (qO.calls k a0 false t214 t215 t216 false _ A2.out).mono ?_); rintro e w28 ⟨v217, rfl, ho0, hb⟩; refine ⟨_, rfl, ?_⟩; have n0_ := Aside0.mk (Kd.qAA ho0 (qa bl)); have n1_ := Aside0.mk (bb BK213 hb); have n2_ := Aside0.mk (qK bl hb); clear BK213; clear HB; have HO218 := n0_; have BK213 := n1_; have HB := n2_; clear n0_ n1_ n2_; (try clear hb); (try clear hb2); (try clear hk); (try clear hi); (try clear ho0)) | ((with_reducible refine qX (N := 5) rfl ?_); refine qV ?hg (N := 5) ?hd (cs := #[.int .i64 0, .int .i64 0, .slice none 0 0]) (t := 27) ?hr ?_; (case hd => rfl); (case hg => rfl); (case hr => first | (go_simp; done) | (go_simp; rfl)); intro gb220 hg w29 hbox hb; have n0_ := Aside0.mk (Kd.qW (by (with_reducible repeat (first | apply Kd.qG | apply Kd.qH | apply Kd.qI)); exact HO218.out) hb); have n1_ := Aside0.mk (bb BK213 hb); have n2_ := Aside0.mk (qK bl hb); have n3_ := Aside0.mk (hbox); have n4_ := Aside0.mk ((gg hg)); have n5_ := Aside0.mk ((gg hg)); have n6_ := Aside0.mk ((nl BK213 hg)); have n7_ := Aside0.mk ((nr BK213 hg)); clear HO218; clear BK213; clear HB; have HO218 := n0_; have BK213 := n1_; have HB := n2_; have BK220 := n3_; have GW220 := n4_; have GE220 := n5_; have NB213_220 := n6_; have NB220_213 := n7_; clear n0_ n1_ n2_ n3_ n4_ n5_ n6_ n7_; clear hb hbox hg; have hnb30 := NB220_213.out; have hnc30 := NB213_220.out; have hcz31_0 := bc BK220 0; have hcz31_1 := bc BK220 1; have hcz31_2 := bc BK220 2; have hfz31_0 := qA BK220.out 0; have hfz31_1 := qA BK220.out 1; have hfz31_2 := qA BK220.out 2; obtain ⟨Ao32, co32, eo32⟩ := Kd.qp HO218.out; subst eo32; have hcz33_0 := bc BK213 0; have hcz33_1 := bc BK213 1; have hcz33_2 := bc BK213 2; have hfz33_0 := qA BK213.out 0; have hfz33_1 := qA BK213.out 1; have hfz33_2 := qA BK213.out 2))
  refine bodyPost_ret (qqB rfl _ _ gb213 27 #[.int .i64 t214, .int .i64 t215, .slice Ao32 t216.length co32] (0, 0) _ rfl (by (with_reducible repeat (first | refine qC ?_ _ | refine qD ?_ | refine qB ?_ _)); refine qR (cs := #[.int .i64 t214, .int .i64 t215, .slice none 0 0]) ?_ 2 _ rfl; (with_reducible repeat (first | refine qC ?_ _ | refine qD ?_ | refine qB ?_ _)); refine qR (cs := #[.int .i64 t214, .int .i64 0, .slice none 0 0]) ?_ 1 _ rfl; (with_reducible repeat (first | refine qC ?_ _ | refine qD ?_ | refine qB ?_ _)); refine qR (cs := #[.int .i64 0, .int .i64 0, .slice none 0 0]) ?_ 0 _ rfl; (with_reducible repeat (first | refine qC ?_ _ | refine qD ?_ | refine qB ?_ _)); refine qIA ?_ NB213_220.out _; (with_reducible repeat (first | refine qC ?_ _ | refine qD ?_ | refine qB ?_ _)); refine qIA ?_ NB213_220.out _; (with_reducible repeat (first | refine qC ?_ _ | refine qD ?_ | refine qB ?_ _)); refine qIA ?_ NB213_220.out _; (with_reducible repeat (first | refine qC ?_ _ | refine qD ?_ | refine qB ?_ _)); exact BK213.out) Tryz.underlying27 rfl (by kernel_rfl)) rfl ?_
  exact ⟨_, _, by first | rfl | (simp [qN, qM] <;> rfl) | (simp [*, qN, qM] <;> rfl), by (with_reducible repeat (first | apply Kd.qG | apply Kd.qH | apply Kd.qI)); exact Kd.qf (Kd.R_far (p := ⟨gb213, 2, none⟩) (Kd.R_far (p := ⟨gb213, 1, none⟩) (Kd.R_far (p := ⟨gb213, 0, none⟩) (Kd.R_far (p := ⟨gb220, 2, none⟩) (Kd.R_far (p := ⟨gb220, 1, none⟩) (Kd.R_far (p := ⟨gb220, 0, none⟩) (Kd.qXA (Kd.qXA HO218.out BK220.out (by decide)) BK213.out (by decide)) (fun _ hk => hk.1.2) (.int .i64 t214)) (fun _ hk => hk.1.2) (.int .i64 t215)) (fun _ hk => hk.1.2) (.slice Ao32 t216.length co32)) (fun _ hk => hk.2) (.int .i64 t214)) (fun _ hk => hk.2) (.int .i64 t215)) (fun _ hk => hk.2) (.slice Ao32 t216.length co32)) (fun _ hk => trivial), by first | exact Kd.R_nil _ _ _ _ _ | exact Kd.N_nil _ _ _ _ _ | exact Kd.V_nil _ _ _ _ _ | exact Kd.Q_nil _ _ _ _ _ | exact Kd.S_nil _ _ _ _ _, bl⟩
def qy.l0 : Nat → ByteArray → Int → Int → Int → List Int → Option (ByteArray)
 | 0, _, _, _, _, _ => none
 | k + 1, x3, x4, x227000, x227001, x227002 => if x4 < x227001 then (if x4 > 0 then (if x3.size + 1 ≤ 9223372036854775807 then (if 0 ≤ (wrap64 (x4 * x227000)) then (if (wrap64 (x4 * x227000)) ≤ (wrap64 ((wrap64 (x4 + 1)) * x227000)) then (if (wrap64 ((wrap64 (x4 + 1)) * x227000)) ≤ (x227002.length : Int) then (if (x3 ++ (⟨#[47]⟩ : ByteArray)).size + (strOfNums ((x227002.take ((wrap64 ((wrap64 (x4 + 1)) * x227000)) : Int).toNat).drop ((wrap64 (x4 * x227000)) : Int).toNat)).size ≤ 9223372036854775807 then (qy.l0 k ((x3 ++ (⟨#[47]⟩ : ByteArray)) ++ (strOfNums ((x227002.take ((wrap64 ((wrap64 (x4 + 1)) * x227000)) : Int).toNat).drop ((wrap64 (x4 * x227000)) : Int).toNat))) (wrap64 (x4 + 1)) x227000 x227001 x227002) else (none)) else (none)) else (none)) else (none)) else (none)) else (if 0 ≤ (wrap64 (x4 * x227000)) then (if (wrap64 (x4 * x227000)) ≤ (wrap64 ((wrap64 (x4 + 1)) * x227000)) then (if (wrap64 ((wrap64 (x4 + 1)) * x227000)) ≤ (x227002.length : Int) then (if x3.size + (strOfNums ((x227002.take ((wrap64 ((wrap64 (x4 + 1)) * x227000)) : Int).toNat).drop ((wrap64 (x4 * x227000)) : Int).toNat)).size ≤ 9223372036854775807 then (qy.l0 k (x3 ++ (strOfNums ((x227002.take ((wrap64 ((wrap64 (x4 + 1)) * x227000)) : Int).toNat).drop ((wrap64 (x4 * x227000)) : Int).toNat))) (wrap64 (x4 + 1)) x227000 x227001 x227002) else (none)) else (none)) else (none)) else (none))) else (some x3)
def qy.f (k : Nat) (a0_0 : Int) (a0_1 : Int) (l0_2 : List Int) : Option (ByteArray) := qy.l0 k (⟨#[]⟩ : ByteArray) 0 a0_0 a0_1 l0_2
set_option maxHeartbeats 8000000 in
set_option maxRecDepth 100000 in
theorem qy.calls (k : Nat) (a0_0 : Int) (a0_1 : Int) (A0_2 : Option Addr) (c0_2 : Nat) (l0_2 : List Int) (r : ByteArray) (w : World) (hr0_2 : Kd.C (Kd.int .u8) w A0_2 l0_2.length l0_2) (hc0_2 : l0_2.length ≤ c0_2) (h : qy.f k a0_0 a0_1 l0_2 = some r) :
  Calls Tryz.prog 14 #[.agg #[.int .i64 a0_0, .int .i64 a0_1, .slice A0_2 l0_2.length c0_2]] w fun e w' => e = .returned (.string r) ∧ Below w.heap.size w w' := by
 have hu40 := Tryz.underlying40
 have HR0_2 := Aside0.mk hr0_2
 have HC0_2 := Aside0.mk hc0_2
 clear hr0_2 hc0_2
 have HB := Aside0.mk (Below.refl w.heap.size w)
 have H : (qy.l0 k (⟨#[]⟩ : ByteArray) 0 a0_0 a0_1 l0_2) = some r := h
 clear h
 have H' := Aside0.mk H
 clear H
 go_enter Tryz.func14, Tryz.ntmps14
 go_wp2_with (first | ((with_reducible refine qX (N := 1) rfl ?_); refine qV ?hg (N := 1) ?hd (cs := #[.int .i64 a0_0, .int .i64 a0_1, .slice A0_2 l0_2.length c0_2]) (t := 40) ?hr ?_; (case hd => rfl); (case hg => rfl); (case hr => first | (go_simp; done) | (go_simp; rfl)); intro gb226 hg w2 hbox hb; have n0_ := Aside0.mk (qK bl hb); have n1_ := Aside0.mk (hbox); have n2_ := Aside0.mk ((gg hg)); have n3_ := Aside0.mk ((gg hg)); clear HB; have HB := n0_; have BK226 := n1_; have GW226 := n2_; have GE226 := n3_; clear n0_ n1_ n2_ n3_; clear hb hbox hg))
 go_loopg [3, 4] k (fun kq v3 v4 w' => ∃ (x3_1 : ByteArray) (x4_1 : Int), v3 = .string x3_1 ∧ v4 = .int .i64 x4_1 ∧ Aside0 (qy.l0 kq x3_1 x4_1 a0_0 a0_1 l0_2 = some r) ∧ Aside0 (kq ≤ k) ∧ Aside0 (w'.heap[gb226]? = some (.cells #[.int .i64 a0_0, .int .i64 a0_1, (.slice A0_2 l0_2.length c0_2)] 40 (0, 0))) ∧ Aside0 (Below w.heap.size w w'))
 case atStart => exact ⟨((⟨#[]⟩ : ByteArray)), (0), (by first | rfl | (simp; done) | (simp [*]; done)), (by first | rfl | (simp; done) | (simp [*]; done)), H', ⟨Nat.le_refl _⟩, ⟨by (with_reducible repeat (first | refine qC ?_ _ | refine qD ?_ | refine qB ?_ _)); exact BK226.out⟩, ⟨bl⟩⟩
 case round =>
  clear H'
  try clear c1
  try clear p2
  obtain ⟨x3_1, x4_1, rfl, rfl, HA, HK1, BK226, HB⟩ := hrel
  cases gk with
  | zero => exact absurd HA.out (by simp [qy.l0])
  | succ k1 =>
   have H := HA.out
   clear HA
   simp only [qy.l0] at H
   by_cases c3 : x4_1 < a0_1
   ·rw [if_pos c3] at H
    have c3b0 : decide (x4_1 < a0_1) = true := decide_eq_true c3
    clear c3
    by_cases c4 : x4_1 > 0
    ·rw [if_pos c4] at H
     have c4b0 : decide (0 < x4_1) = true := decide_eq_true c4
     clear c4
     by_cases c5 : x3_1.size + 1 ≤ 9223372036854775807
     ·rw [if_pos c5] at H
      have c5b0 := eq_true c5
      have c5b1 : decide (x3_1.size + 1 ≤ 9223372036854775807) = true := decide_eq_true c5
      try have c5b2 : (9223372036854775807 < x3_1.size + 1) = False := eq_false (Nat.not_lt.2 c5)
      obtain ⟨ji6, hji6⟩ : ∃ j_ : Int, (wrap64 (x4_1 * a0_0)) = j_ := ⟨_, rfl⟩
      replace H : (if 0 ≤ (ji6) then (if (ji6) ≤ (wrap64 ((wrap64 (x4_1 + 1)) * a0_0)) then (if (wrap64 ((wrap64 (x4_1 + 1)) * a0_0)) ≤ (l0_2.length : Int) then (if (x3_1 ++ (⟨#[47]⟩ : ByteArray)).size + (strOfNums ((l0_2.take ((wrap64 ((wrap64 (x4_1 + 1)) * a0_0)) : Int).toNat).drop ((ji6) : Int).toNat)).size ≤ 9223372036854775807 then (qy.l0 k1 ((x3_1 ++ (⟨#[47]⟩ : ByteArray)) ++ (strOfNums ((l0_2.take ((wrap64 ((wrap64 (x4_1 + 1)) * a0_0)) : Int).toNat).drop ((ji6) : Int).toNat))) (wrap64 (x4_1 + 1)) a0_0 a0_1 l0_2) else (none)) else (none)) else (none)) else (none)) = some r := by first | (rw [hji6] at H; exact H) | (simp only [hji6] at H ⊢; exact H)
      have hji6w : (IntKind.i64.wrap (x4_1 * a0_0)) = ji6 := (i64_w _).trans hji6
      by_cases c7 : 0 ≤ (ji6)
      ·rw [if_pos c7] at H
       have c7b0 := eq_true c7
       have c7b1 : decide (0 ≤ (ji6)) = true := decide_eq_true c7
       clear c7
       by_cases c8 : (ji6) ≤ (wrap64 ((wrap64 (x4_1 + 1)) * a0_0))
       ·rw [if_pos c8] at H
        have c8b0 := eq_true c8
        have c8b1 : decide ((ji6) ≤ (wrap64 ((wrap64 (x4_1 + 1)) * a0_0))) = true := decide_eq_true c8
        by_cases c9 : (wrap64 ((wrap64 (x4_1 + 1)) * a0_0)) ≤ (l0_2.length : Int)
        ·rw [if_pos c9] at H
         have c9b0 := eq_true c9
         have c9b1 : decide ((wrap64 ((wrap64 (x4_1 + 1)) * a0_0)) ≤ (l0_2.length : Int)) = true := decide_eq_true c9
         by_cases c10 : (x3_1 ++ (⟨#[47]⟩ : ByteArray)).size + (strOfNums ((l0_2.take ((wrap64 ((wrap64 (x4_1 + 1)) * a0_0)) : Int).toNat).drop ((ji6) : Int).toNat)).size ≤ 9223372036854775807
         ·rw [if_pos c10] at H
          have c10b0 := eq_true c10
          have c10b1 : decide ((x3_1 ++ (⟨#[47]⟩ : ByteArray)).size + (strOfNums ((l0_2.take ((wrap64 ((wrap64 (x4_1 + 1)) * a0_0)) : Int).toNat).drop ((ji6) : Int).toNat)).size ≤ 9223372036854775807) = true := decide_eq_true c10
          try have c10b2 : (9223372036854775807 < (x3_1 ++ (⟨#[47]⟩ : ByteArray)).size + (strOfNums ((l0_2.take ((wrap64 ((wrap64 (x4_1 + 1)) * a0_0)) : Int).toNat).drop ((ji6) : Int).toNat)).size) = False := eq_false (Nat.not_lt.2 c10)
          have H' := Aside0.mk H
          clear H
          have hcz11_0 := bc BK226 0
          have hcz11_1 := bc BK226 1
          have hcz11_2 := bc BK226 2
          have hfz11_0 := qA BK226.out 0
          have hfz11_1 := qA BK226.out 1
          have hfz11_2 := qA BK226.out 2
          obtain ⟨i012, hi012, _, hsz12, _⟩ := info_parts info5
          obtain ⟨A12, hcut12, hA12, hC12⟩ := print_mid_of (P := Tryz.prog) (Value.int .u8) 0 25 5 .i64 .i64 Tryz.underlying25 hi012 hsz12 A0_2 c0_2 l0_2 (ji6) (wrap64 ((wrap64 (x4_1 + 1)) * a0_0)) (of_decide_eq_true (by first | (with_reducible assumption) | assumption)) (by first | omega | exact of_decide_eq_true (by first | (with_reducible assumption) | assumption)) (of_decide_eq_true (by first | (with_reducible assumption) | assumption)) HC0_2.out
          have HR227 := Aside0.mk (Kd.C_of_reads (h1 := fun _ => rfl) (hA12 _ (Kd.qTB HR0_2.out)))
          have HC227 := Aside0.mk hC12
          clear hA12 hC12 hi012 hsz12
          have hcv13 := Kd.C_string (P := Tryz.prog) (A := A12) (c := (c0_2 - (ji6).toNat)) Tryz.underlying25 Tryz.underlying5 Tryz.underlying9 (Kd.qiA HR227.out HB.out)
          have hln_ : ((l0_2.take ((wrap64 ((wrap64 (x4_1 + 1)) * a0_0)) : Int).toNat).drop ((ji6) : Int).toNat).length = ((wrap64 ((wrap64 (x4_1 + 1)) * a0_0)) : Int).toNat - ((ji6) : Int).toNat := by rw [List.length_drop, List.length_take, Nat.min_eq_left (Int.toNat_le.2 (by first | (with_reducible assumption) | assumption))]
          rw [hln_] at hcv13
          clear hln_
          go_wp2
          go_roundg k1
          case measure => have := HK1.out; omega
          case rel => exact ⟨((x3_1 ++ (⟨#[47]⟩ : ByteArray)) ++ (strOfNums ((l0_2.take ((wrap64 ((wrap64 (x4_1 + 1)) * a0_0)) : Int).toNat).drop ((ji6) : Int).toNat))), (wrap64 (x4_1 + 1)), (by first | rfl | (simp; done) | (simp only [← hji6] <;> (first | rfl | simp)) | (simp [*]; done)), (by first | rfl | (simp; done) | (simp [*]; done)), H', ⟨by have := HK1.out; omega⟩, ⟨by (with_reducible repeat (first | refine qC ?_ _ | refine qD ?_ | refine qB ?_ _)); exact BK226.out⟩, ⟨bl⟩⟩
         ·rw [if_neg c10] at H
          exact absurd H (by simp)
        ·rw [if_neg c9] at H
         exact absurd H (by simp)
       ·rw [if_neg c8] at H
        exact absurd H (by simp)
      ·rw [if_neg c7] at H
       exact absurd H (by simp)
     ·rw [if_neg c5] at H
      exact absurd H (by simp)
    ·rw [if_neg c4] at H
     have c4b0 : decide (0 < x4_1) = false := decide_eq_false c4
     clear c4
     obtain ⟨ji14, hji14⟩ : ∃ j_ : Int, (wrap64 (x4_1 * a0_0)) = j_ := ⟨_, rfl⟩
     replace H : (if 0 ≤ (ji14) then (if (ji14) ≤ (wrap64 ((wrap64 (x4_1 + 1)) * a0_0)) then (if (wrap64 ((wrap64 (x4_1 + 1)) * a0_0)) ≤ (l0_2.length : Int) then (if x3_1.size + (strOfNums ((l0_2.take ((wrap64 ((wrap64 (x4_1 + 1)) * a0_0)) : Int).toNat).drop ((ji14) : Int).toNat)).size ≤ 9223372036854775807 then (qy.l0 k1 (x3_1 ++ (strOfNums ((l0_2.take ((wrap64 ((wrap64 (x4_1 + 1)) * a0_0)) : Int).toNat).drop ((ji14) : Int).toNat))) (wrap64 (x4_1 + 1)) a0_0 a0_1 l0_2) else (none)) else (none)) else (none)) else (none)) = some r := by first | (rw [hji14] at H; exact H) | (simp only [hji14] at H ⊢; exact H)
     have hji14w : (IntKind.i64.wrap (x4_1 * a0_0)) = ji14 := (i64_w _).trans hji14
     by_cases c15 : 0 ≤ (ji14)
     ·rw [if_pos c15] at H
      have c15b0 := eq_true c15
      have c15b1 : decide (0 ≤ (ji14)) = true := decide_eq_true c15
      clear c15
      by_cases c16 : (ji14) ≤ (wrap64 ((wrap64 (x4_1 + 1)) * a0_0))
      ·rw [if_pos c16] at H
       have c16b0 := eq_true c16
       have c16b1 : decide ((ji14) ≤ (wrap64 ((wrap64 (x4_1 + 1)) * a0_0))) = true := decide_eq_true c16
       by_cases c17 : (wrap64 ((wrap64 (x4_1 + 1)) * a0_0)) ≤ (l0_2.length : Int)
       ·rw [if_pos c17] at H
        have c17b0 := eq_true c17
        have c17b1 : decide ((wrap64 ((wrap64 (x4_1 + 1)) * a0_0)) ≤ (l0_2.length : Int)) = true := decide_eq_true c17
        by_cases c18 : x3_1.size + (strOfNums ((l0_2.take ((wrap64 ((wrap64 (x4_1 + 1)) * a0_0)) : Int).toNat).drop ((ji14) : Int).toNat)).size ≤ 9223372036854775807
        ·rw [if_pos c18] at H
         have c18b0 := eq_true c18
         have c18b1 : decide (x3_1.size + (strOfNums ((l0_2.take ((wrap64 ((wrap64 (x4_1 + 1)) * a0_0)) : Int).toNat).drop ((ji14) : Int).toNat)).size ≤ 9223372036854775807) = true := decide_eq_true c18
         try have c18b2 : (9223372036854775807 < x3_1.size + (strOfNums ((l0_2.take ((wrap64 ((wrap64 (x4_1 + 1)) * a0_0)) : Int).toNat).drop ((ji14) : Int).toNat)).size) = False := eq_false (Nat.not_lt.2 c18)
         have H' := Aside0.mk H
         clear H
         have hcz19_0 := bc BK226 0
         have hcz19_1 := bc BK226 1
         have hcz19_2 := bc BK226 2
         have hfz19_0 := qA BK226.out 0
         have hfz19_1 := qA BK226.out 1
         have hfz19_2 := qA BK226.out 2
         obtain ⟨i020, hi020, _, hsz20, _⟩ := info_parts info5
         obtain ⟨A20, hcut20, hA20, hC20⟩ := print_mid_of (P := Tryz.prog) (Value.int .u8) 0 25 5 .i64 .i64 Tryz.underlying25 hi020 hsz20 A0_2 c0_2 l0_2 (ji14) (wrap64 ((wrap64 (x4_1 + 1)) * a0_0)) (of_decide_eq_true (by first | (with_reducible assumption) | assumption)) (by first | omega | exact of_decide_eq_true (by first | (with_reducible assumption) | assumption)) (of_decide_eq_true (by first | (with_reducible assumption) | assumption)) HC0_2.out
         have HR228 := Aside0.mk (Kd.C_of_reads (h1 := fun _ => rfl) (hA20 _ (Kd.qTB HR0_2.out)))
         have HC228 := Aside0.mk hC20
         clear hA20 hC20 hi020 hsz20
         have hcv21 := Kd.C_string (P := Tryz.prog) (A := A20) (c := (c0_2 - (ji14).toNat)) Tryz.underlying25 Tryz.underlying5 Tryz.underlying9 (Kd.qiA HR228.out HB.out)
         have hln_ : ((l0_2.take ((wrap64 ((wrap64 (x4_1 + 1)) * a0_0)) : Int).toNat).drop ((ji14) : Int).toNat).length = ((wrap64 ((wrap64 (x4_1 + 1)) * a0_0)) : Int).toNat - ((ji14) : Int).toNat := by rw [List.length_drop, List.length_take, Nat.min_eq_left (Int.toNat_le.2 (by first | (with_reducible assumption) | assumption))]
         rw [hln_] at hcv21
         clear hln_
         go_wp2
         go_roundg k1
         case measure => have := HK1.out; omega
         case rel => exact ⟨(x3_1 ++ (strOfNums ((l0_2.take ((wrap64 ((wrap64 (x4_1 + 1)) * a0_0)) : Int).toNat).drop ((ji14) : Int).toNat))), (wrap64 (x4_1 + 1)), (by first | rfl | (simp; done) | (simp only [← hji14] <;> (first | rfl | simp)) | (simp [*]; done)), (by first | rfl | (simp; done) | (simp [*]; done)), H', ⟨by have := HK1.out; omega⟩, ⟨by (with_reducible repeat (first | refine qC ?_ _ | refine qD ?_ | refine qB ?_ _)); exact BK226.out⟩, ⟨bl⟩⟩
        ·rw [if_neg c18] at H
         exact absurd H (by simp)
       ·rw [if_neg c17] at H
        exact absurd H (by simp)
      ·rw [if_neg c16] at H
       exact absurd H (by simp)
     ·rw [if_neg c15] at H
      exact absurd H (by simp)
   ·rw [if_neg c3] at H
    have c3b0 : decide (x4_1 < a0_1) = false := decide_eq_false c3
    clear c3
    obtain rfl := Option.some.inj H
    have hcz22_0 := bc BK226 0
    have hcz22_1 := bc BK226 1
    have hcz22_2 := bc BK226 2
    have hfz22_0 := qA BK226.out 0
    have hfz22_1 := qA BK226.out 1
    have hfz22_2 := qA BK226.out 2
    go_wp2
    go_ret
    exact ⟨by first | rfl | (simp [qN, qM] <;> rfl) | (simp [*, qN, qM] <;> rfl), bl⟩
def qmA.f (k : Nat) (a0_0 : Int) (a0_1 : Int) (l0_2 : List Int) : Option (ByteArray) := (qy.f k a0_0 a0_1 l0_2).bind fun t230 => (some t230)
set_option maxHeartbeats 8000000 in
set_option maxRecDepth 100000 in
theorem qmA.calls (k : Nat) (a0_0 : Int) (a0_1 : Int) (A0_2 : Option Addr) (c0_2 : Nat) (l0_2 : List Int) (r : ByteArray) (w : World) (hr0_2 : Kd.C (Kd.int .u8) w A0_2 l0_2.length l0_2) (hc0_2 : l0_2.length ≤ c0_2) (h : qmA.f k a0_0 a0_1 l0_2 = some r) :
  Calls Tryz.prog 7 #[.agg #[.int .i64 a0_0, .int .i64 a0_1, .slice A0_2 l0_2.length c0_2]] w fun e w' => e = .returned (.string r) ∧ Below w.heap.size w w' := by
 have hu27 := Tryz.underlying27
 have hu40 := Tryz.underlying40
 have HR0_2 := Aside0.mk hr0_2
 have HC0_2 := Aside0.mk hc0_2
 clear hr0_2 hc0_2
 have HB := Aside0.mk (Below.refl w.heap.size w)
 have H : ((qy.f k a0_0 a0_1 l0_2).bind fun t230 => (some t230)) = some r := h
 clear h
 replace H := Option.bind_eq_some_iff.mp H
 obtain ⟨t230, A20, H⟩ := H
 replace H : (some t230) = some r := H
 have A2 := Aside0.mk A20
 clear A20
 obtain rfl := Option.some.inj H
 go_enter Tryz.func7, Tryz.ntmps7
 go_wp2_with (first | ((with_reducible refine qX (N := 1) rfl ?_); refine qV ?hg (N := 1) ?hd (cs := #[.int .i64 a0_0, .int .i64 a0_1, .slice A0_2 l0_2.length c0_2]) (t := 27) ?hr ?_; (case hd => rfl); (case hg => rfl); (case hr => first | (go_simp; done) | (go_simp; rfl)); intro gb229 hg w3 hbox hb; have n0_ := Aside0.mk (qK bl hb); have n1_ := Aside0.mk (hbox); have n2_ := Aside0.mk ((gg hg)); have n3_ := Aside0.mk ((gg hg)); clear HB; have HB := n0_; have BK229 := n1_; have GW229 := n2_; have GE229 := n3_; clear n0_ n1_ n2_ n3_; clear hb hbox hg; have hcz4_0 := bc BK229 0; have hcz4_1 := bc BK229 1; have hcz4_2 := bc BK229 2; have hfz4_0 := qA BK229.out 0; have hfz4_1 := qA BK229.out 1; have hfz4_2 := qA BK229.out 2) | ((with_reducible refine qb (f := 14) rfl ?_); refine qRA (some 10) rfl rfl Tryz.func14 (by kernel_rfl) rfl #[.agg #[.int .i64 a0_0, .int .i64 a0_1, .slice A0_2 l0_2.length c0_2]] rfl (by (try simp only [List.map_toArray, List.map_cons, List.map_nil]); first | done | rfl | (simp only [List.length_drop, List.length_take]; rfl)) ?_; (with_reducible refine (qy.calls k a0_0 a0_1 _ _ l0_2 t230 _ ?side1 ?side2 A2.out).mono ?_); (case side1 => repeat (first | exact (Kd.qiA HR0_2.out HB.out) | (with_reducible refine Kd.qcA ?_ _) | (with_reducible refine Kd.qbA ?_ _) | (with_reducible refine Kd.qtA ?_))); (case side2 => exact HC0_2.out); rintro e w5 ⟨rfl, hb⟩; refine ⟨_, rfl, ?_⟩; have n0_ := Aside0.mk (bb BK229 hb); have n1_ := Aside0.mk (qK bl hb); clear BK229; clear HB; have BK229 := n0_; have HB := n1_; clear n0_ n1_; (try clear hb); (try clear hb2); (try clear hk); (try clear hi)))
 go_ret
 exact ⟨by first | rfl | (simp [qN, qM] <;> rfl) | (simp [*, qN, qM] <;> rfl), bl⟩
mutual
def qT.l0 : Nat → Int → Int → Int → List Int → Int → Int → List Int → Option (Int × Int × List Int)
 | 0, _, _, _, _, _, _, _ => none
 | k + 1, x4, x232000, x232001, x232002, x234000, x234001, x234002 => if x4 < x232001 then (qT.l1 k x4 (wrap64 (x232000 - 1)) x232000 x232001 x232002 x234000 x234001 x234002) else (some (x234000, x234001, x234002))
def qT.l1 : Nat → Int → Int → Int → Int → List Int → Int → Int → List Int → Option (Int × Int × List Int)
 | 0, _, _, _, _, _, _, _, _ => none
 | k + 1, x4, x5, x232000, x232001, x232002, x234000, x234001, x234002 => if x5 ≥ 0 then (if 0 ≤ (wrap64 ((wrap64 (x4 * x232000)) + x5)) then (if (wrap64 ((wrap64 (x4 * x232000)) + x5)) < (x232002.length : Int) then (if x234002.length < 140737488355328 then (qT.l1 k x4 (wrap64 (x5 - 1)) x232000 x232001 x232002 x234000 x234001 (x234002 ++ [rd x232002 (wrap64 ((wrap64 (x4 * x232000)) + x5))])) else (none)) else (none)) else (none)) else (qT.l0 k (wrap64 (x4 + 1)) x232000 x232001 x232002 x234000 x234001 x234002)
end
def qT.f (k : Nat) (a0_0 : Int) (a0_1 : Int) (l0_2 : List Int) : Option (Int × Int × List Int) := qT.l0 k 0 a0_0 a0_1 l0_2 a0_0 a0_1 ([] : List Int)
def qT.T8 : Bool × List (List Nat × List Nat) := (true, [([], []), ([0], [0]), ([], []), ([2], [2]), ([], []), ([], []), ([5], [5]), ([4, 6], [4, 6]), ([], []), ([7, 8], [7, 8]), ([3, 9], [3, 9]), ([10], [10]), ([11], [11]), ([1, 12], [1, 12]), ([0, 1, 2, 3, 4, 5, 6, 7, 8, 9, 10, 11, 12, 13], []), ([14, 13, 13, 0, 1, 2, 3, 4, 5, 6, 7, 8, 9, 10, 11, 12, 13], [13, 14])])
def qT.B8 : List Nat := [0, 1, 0, 4, 0, 0, 32, 112, 0, 496, 1020, 2044, 4092, 8191, 16383, 32767]
theorem qT.tab8 : rtab .any (opsOf Tryz.f8 8) = qT.T8 := by kernel_rfl
theorem qT.bits8 : waitsOk qT.T8.2 qT.B8 = true := by kernel_rfl
set_option maxHeartbeats 8000000 in
set_option maxRecDepth 100000 in
theorem qT.calls (k : Nat) (a0_0 : Int) (a0_1 : Int) (A0_2 : Option Addr) (c0_2 : Nat) (l0_2 : List Int) (r1 : Int) (r2 : Int) (r3 : List Int) (w : World) (hr0_2 : Kd.C (Kd.int .u8) w A0_2 l0_2.length l0_2) (hc0_2 : l0_2.length ≤ c0_2) (h : qT.f k a0_0 a0_1 l0_2 = some (r1, r2, r3)) :
  Calls Tryz.prog 8 #[.agg #[.int .i64 a0_0, .int .i64 a0_1, .slice A0_2 l0_2.length c0_2]] w fun e w' => ∃ v2_ : Value, e = .returned (.agg #[.int .i64 r1, .int .i64 r2, v2_]) ∧ Kd.R (Kd.int .u8) 5 w' w.heap.size (fun _ => True) v2_ r3 ∧ Below w.heap.size w w' := by
 have hu27 := Tryz.underlying27
 have HR0_2 := Aside0.mk hr0_2
 have HC0_2 := Aside0.mk hc0_2
 clear hr0_2 hc0_2
 have HB := Aside0.mk (Below.refl w.heap.size w)
 have H : (qT.l0 k 0 a0_0 a0_1 l0_2 a0_0 a0_1 ([] : List Int)) = some (r1, r2, r3) := h
 clear h
 have H' := Aside0.mk H
 clear H
 go_enter Tryz.func8, Tryz.ntmps8
 go_wp2_with (first | ((with_reducible refine qX (N := 1) rfl ?_); refine qV ?hg (N := 1) ?hd (cs := #[.int .i64 a0_0, .int .i64 a0_1, .slice A0_2 l0_2.length c0_2]) (t := 27) ?hr ?_; (case hd => rfl); (case hg => rfl); (case hr => first | (go_simp; done) | (go_simp; rfl)); intro gb231 hg w2 hbox hb; have n0_ := Aside0.mk (qK bl hb); have n1_ := Aside0.mk (hbox); have n2_ := Aside0.mk ((gg hg)); have n3_ := Aside0.mk ((gg hg)); clear HB; have HB := n0_; have BK231 := n1_; have GW231 := n2_; have GE231 := n3_; clear n0_ n1_ n2_ n3_; clear hb hbox hg) | ((with_reducible refine qX (N := 2) rfl ?_); refine qV ?hg (N := 2) ?hd (cs := #[.int .i64 0, .int .i64 0, .slice none 0 0]) (t := 27) ?hr ?_; (case hd => rfl); (case hg => rfl); (case hr => first | (go_simp; done) | (go_simp; rfl)); intro gb232 hg w3 hbox hb; have n0_ := Aside0.mk (bb BK231 hb); have n1_ := Aside0.mk (qK bl hb); have n2_ := Aside0.mk (hbox); have n3_ := Aside0.mk ((gg hg)); have n4_ := Aside0.mk ((gg hg)); have n5_ := Aside0.mk ((nl BK231 hg)); have n6_ := Aside0.mk ((nr BK231 hg)); clear BK231; clear HB; have BK231 := n0_; have HB := n1_; have BK232 := n2_; have GW232 := n3_; have GE232 := n4_; have NB231_232 := n5_; have NB232_231 := n6_; clear n0_ n1_ n2_ n3_ n4_ n5_ n6_; clear hb hbox hg; have hnb4 := NB231_232.out; have hnc4 := NB232_231.out; have hcz5_0 := bc BK231 0; have hcz5_1 := bc BK231 1; have hcz5_2 := bc BK231 2; have hfz5_0 := qA BK231.out 0; have hfz5_1 := qA BK231.out 1; have hfz5_2 := qA BK231.out 2) | ((with_reducible refine qX (N := 3) rfl ?_); refine qV ?hg (N := 3) ?hd (cs := #[.int .i64 0, .int .i64 0, .slice none 0 0]) (t := 27) ?hr ?_; (case hd => rfl); (case hg => rfl); (case hr => first | (go_simp; done) | (go_simp; rfl)); intro gb233 hg w6 hbox hb; have n0_ := Aside0.mk (bb BK231 hb); have n1_ := Aside0.mk (bb BK232 hb); have n2_ := Aside0.mk (qK bl hb); have n3_ := Aside0.mk (hbox); have n4_ := Aside0.mk ((gg hg)); have n5_ := Aside0.mk ((gg hg)); have n6_ := Aside0.mk ((nl BK231 hg)); have n7_ := Aside0.mk ((nr BK231 hg)); have n8_ := Aside0.mk ((nl BK232 hg)); have n9_ := Aside0.mk ((nr BK232 hg)); clear BK231; clear BK232; clear HB; have BK231 := n0_; have BK232 := n1_; have HB := n2_; have BK233 := n3_; have GW233 := n4_; have GE233 := n5_; have NB231_233 := n6_; have NB233_231 := n7_; have NB232_233 := n8_; have NB233_232 := n9_; clear n0_ n1_ n2_ n3_ n4_ n5_ n6_ n7_ n8_ n9_; clear hb hbox hg; have hnb7 := NB233_231.out; have hnc7 := NB231_233.out; have hnb8 := NB233_232.out; have hnc8 := NB232_233.out; have hcz9_0 := bc BK233 0; have hcz9_1 := bc BK233 1; have hcz9_2 := bc BK233 2; have hfz9_0 := qA BK233.out 0; have hfz9_1 := qA BK233.out 1; have hfz9_2 := qA BK233.out 2))
 go_loopg [4] k (fun kq v4 w' => ∃ (x4_1 : Int) (x234002_1 : List Int) (u234002 : Value), v4 = .int .i64 x4_1 ∧ Aside0 (qT.l0 kq x4_1 a0_0 a0_1 l0_2 a0_0 a0_1 x234002_1 = some (r1, r2, r3)) ∧ Aside0 (kq ≤ k) ∧ Aside0 (Kd.R (Kd.int .u8) 5 w' w.heap.size (fun _ => True) u234002 x234002_1) ∧ Aside0 (w'.heap[gb231]? = some (.cells #[.int .i64 a0_0, .int .i64 a0_1, (.slice A0_2 l0_2.length c0_2)] 27 (0, 0))) ∧ Aside0 (w'.heap[gb232]? = some (.cells #[.int .i64 0, .int .i64 0, (.slice none 0 0)] 27 (0, 0))) ∧ Aside0 (w'.heap[gb233]? = some (.cells #[.int .i64 a0_0, .int .i64 a0_1, u234002] 27 (0, 0))) ∧ Aside0 (Below w.heap.size w w'))
 case atStart => exact ⟨(0), (([] : List Int)), (.slice none 0 0), (by first | rfl | (simp; done) | (simp [*]; done)), H', ⟨Nat.le_refl _⟩, ⟨by first | exact Kd.R_nil _ _ _ _ _ | exact Kd.N_nil _ _ _ _ _ | exact Kd.V_nil _ _ _ _ _ | exact Kd.Q_nil _ _ _ _ _ | exact Kd.S_nil _ _ _ _ _⟩, ⟨by (with_reducible repeat (first | refine qC ?_ _ | refine qD ?_ | refine qB ?_ _)); refine qIA ?_ NB231_233.out _; (with_reducible repeat (first | refine qC ?_ _ | refine qD ?_ | refine qB ?_ _)); refine qIA ?_ NB231_233.out _; (with_reducible repeat (first | refine qC ?_ _ | refine qD ?_ | refine qB ?_ _)); refine qIA ?_ NB231_233.out _; (with_reducible repeat (first | refine qC ?_ _ | refine qD ?_ | refine qB ?_ _)); exact BK231.out⟩, ⟨by (with_reducible repeat (first | refine qC ?_ _ | refine qD ?_ | refine qB ?_ _)); refine qIA ?_ NB232_233.out _; (with_reducible repeat (first | refine qC ?_ _ | refine qD ?_ | refine qB ?_ _)); refine qIA ?_ NB232_233.out _; (with_reducible repeat (first | refine qC ?_ _ | refine qD ?_ | refine qB ?_ _)); refine qIA ?_ NB232_233.out _; (with_reducible repeat (first | refine qC ?_ _ | refine qD ?_ | refine qB ?_ _)); exact BK232.out⟩, ⟨by (with_reducible repeat (first | refine qC ?_ _ | refine qD ?_ | refine qB ?_ _)); refine qR (cs := #[.int .i64 a0_0, .int .i64 a0_1, .slice none 0 0]) ?_ 2 _ rfl; (with_reducible repeat (first | refine qC ?_ _ | refine qD ?_ | refine qB ?_ _)); refine qR (cs := #[.int .i64 a0_0, .int .i64 0, .slice none 0 0]) ?_ 1 _ rfl; (with_reducible repeat (first | refine qC ?_ _ | refine qD ?_ | refine qB ?_ _)); refine qR (cs := #[.int .i64 0, .int .i64 0, .slice none 0 0]) ?_ 0 _ rfl; (with_reducible repeat (first | refine qC ?_ _ | refine qD ?_ | refine qB ?_ _)); exact BK233.out⟩, ⟨bl⟩⟩
 case round =>
  clear H'
  try clear p2
  try clear c4
  try clear c7
  try clear c8
  try clear hcz5_0
  try clear hcz5_1
  try clear hcz5_2
  try clear hcz9_0
  try clear hcz9_1
  try clear hcz9_2
  try clear hfz5_0
  try clear hfz5_1
  try clear hfz5_2
  try clear hfz9_0
  try clear hfz9_1
  try clear hfz9_2
  obtain ⟨x4_1, x234002_1, u234002, rfl, HA, HK1, HO_234002, BK231, BK232, BK233, HB⟩ := hrel
  cases gk with
  | zero => exact absurd HA.out (by simp [qT.l0])
  | succ k1 =>
   have H := HA.out
   clear HA
   simp only [qT.l0] at H
   by_cases c10 : x4_1 < a0_1
   ·rw [if_pos c10] at H
    have c10b0 : decide (x4_1 < a0_1) = true := decide_eq_true c10
    clear c10
    have H' := Aside0.mk H
    clear H
    have hnb11 := NB231_232.out
    have hnc11 := NB232_231.out
    have hnb12 := NB231_233.out
    have hnc12 := NB233_231.out
    have hcz13_0 := bc BK231 0
    have hcz13_1 := bc BK231 1
    have hcz13_2 := bc BK231 2
    have hfz13_0 := qA BK231.out 0
    have hfz13_1 := qA BK231.out 1
    have hfz13_2 := qA BK231.out 2
    go_wp2
    go_loopg [5] k1 (fun kq v5 w' => ∃ (x5_2 : Int) (x234002_2 : List Int) (u234002 : Value), v5 = .int .i64 x5_2 ∧ Aside0 (qT.l1 kq x4_1 x5_2 a0_0 a0_1 l0_2 a0_0 a0_1 x234002_2 = some (r1, r2, r3)) ∧ Aside0 (kq ≤ k1) ∧ Aside0 (Kd.R (Kd.int .u8) 5 w' w.heap.size (fun _ => True) u234002 x234002_2) ∧ Aside0 (w'.heap[gb231]? = some (.cells #[.int .i64 a0_0, .int .i64 a0_1, (.slice A0_2 l0_2.length c0_2)] 27 (0, 0))) ∧ Aside0 (w'.heap[gb232]? = some (.cells #[.int .i64 0, .int .i64 0, (.slice none 0 0)] 27 (0, 0))) ∧ Aside0 (w'.heap[gb233]? = some (.cells #[.int .i64 a0_0, .int .i64 a0_1, u234002] 27 (0, 0))) ∧ Aside0 (Below w.heap.size w w'))
    case atStart => exact ⟨(wrap64 (a0_0 - 1)), (x234002_1), (u234002), (by first | rfl | (simp; done) | (simp [*]; done)), H', ⟨Nat.le_refl _⟩, ⟨by (with_reducible repeat (first | apply Kd.qG | apply Kd.qH | apply Kd.qI)); exact HO_234002.out⟩, ⟨by (with_reducible repeat (first | refine qC ?_ _ | refine qD ?_ | refine qB ?_ _)); exact BK231.out⟩, ⟨by (with_reducible repeat (first | refine qC ?_ _ | refine qD ?_ | refine qB ?_ _)); exact BK232.out⟩, ⟨by (with_reducible repeat (first | refine qC ?_ _ | refine qD ?_ | refine qB ?_ _)); exact BK233.out⟩, ⟨bl⟩⟩
    case round =>
     clear H'
     try clear c1
     try clear p2
     try clear c4
     try clear p6
     try clear c7
     try clear c8
     try clear c10
     try clear c10b0
     try clear c11
     try clear c12
     try clear hcz13_0
     try clear hcz13_1
     try clear hcz13_2
     try clear hcz5_0
     try clear hcz5_1
     try clear hcz5_2
     try clear hcz9_0
     try clear hcz9_1
     try clear hcz9_2
     try clear hfz13_0
     try clear hfz13_1
     try clear hfz13_2
     try clear hfz5_0
     try clear hfz5_1
     try clear hfz5_2
     try clear hfz9_0
     try clear hfz9_1
     try clear hfz9_2
     try clear p2
     obtain ⟨x5_2, x234002_2, u234002, rfl, HA, HK2, HO_234002, BK231, BK232, BK233, HB⟩ := hrel
     cases gk with
     | zero => exact absurd HA.out (by simp [qT.l1])
     | succ k2 =>
      have H := HA.out
      clear HA
      simp only [qT.l1] at H
      by_cases c14 : x5_2 ≥ 0
      ·rw [if_pos c14] at H
       have c14b0 : decide (0 ≤ x5_2) = true := decide_eq_true c14
       clear c14
       obtain ⟨ji15, hji15⟩ : ∃ j_ : Int, (wrap64 ((wrap64 (x4_1 * a0_0)) + x5_2)) = j_ := ⟨_, rfl⟩
       replace H : (if 0 ≤ (ji15) then (if (ji15) < (l0_2.length : Int) then (if x234002_2.length < 140737488355328 then (qT.l1 k2 x4_1 (wrap64 (x5_2 - 1)) a0_0 a0_1 l0_2 a0_0 a0_1 (x234002_2 ++ [rd l0_2 (ji15)])) else (none)) else (none)) else (none)) = some (r1, r2, r3) := by first | (rw [hji15] at H; exact H) | (simp only [hji15] at H ⊢; exact H)
       have hji15w : (IntKind.i64.wrap ((wrap64 (x4_1 * a0_0)) + x5_2)) = ji15 := (i64_w _).trans hji15
       by_cases c16 : 0 ≤ (ji15)
       ·rw [if_pos c16] at H
        have c16b0 : decide (0 ≤ (ji15)) = true := decide_eq_true c16
        clear c16
        by_cases c17 : (ji15) < (l0_2.length : Int)
        ·rw [if_pos c17] at H
         have c17b0 : decide ((ji15) < (l0_2.length : Int)) = true := decide_eq_true c17
         clear c17
         by_cases c18 : x234002_2.length < 140737488355328
         ·rw [if_pos c18] at H
          have LMc18 := Aside0.mk c18
          clear c18
          obtain ⟨y235, hy235⟩ : ∃ y_ : List Int, y_ = (x234002_2 ++ [rd l0_2 (ji15)]) := ⟨_, rfl⟩
          replace H : (qT.l1 k2 x4_1 (wrap64 (x5_2 - 1)) a0_0 a0_1 l0_2 a0_0 a0_1 y235) = some (r1, r2, r3) := by first | (rw [hy235]; with_reducible exact H) | (have H2_ := (Option.bind_some _ _).symm.trans H; rw [hy235]; with_reducible exact H2_) | (have H2_ := (Option.bind_some _ _).symm.trans H; with_reducible exact H2_) | with_reducible exact H | (rw [hy235]; exact H) | exact H
          have Ny235 := Aside0.mk hy235
          clear hy235
          have H' := Aside0.mk H
          clear H
          try go_wp2
          have n0_ := Aside0.mk (Kd.qI HO_234002.out)
          have n1_ := Aside0.mk (qD BK231.out)
          have n2_ := Aside0.mk (qD BK232.out)
          have n3_ := Aside0.mk (qD BK233.out)
          have n4_ := Aside0.mk (qh HB.out)
          clear HO_234002
          clear BK231
          clear BK232
          clear BK233
          clear HB
          have HO_234002 := n0_
          have BK231 := n1_
          have BK232 := n2_
          have BK233 := n3_
          have HB := n4_
          clear n0_ n1_ n2_ n3_ n4_
          have p234 : 0 ≤ ((ji15) : Int) := of_decide_eq_true (by first | (with_reducible assumption) | assumption)
          have q234 : (ji15) < (l0_2.length : Int) := of_decide_eq_true (by first | (with_reducible assumption) | assumption)
          obtain ⟨ad234, e234, hx234_0⟩ := Kd.qCA HR0_2.out (ji15) p234 q234
          have hw234_0 := hx234_0
          cases e234
          replace hx234_0 := (HB.out.cell (World.block_lt_of_cell? w _ hx234_0)).trans hx234_0
          replace p234 := eq_true p234
          replace q234 := eq_true q234
          refine qxA (n := 16) (S := fun w' => w'.cell? ⟨gb233, 0, none⟩ = some (.int .i64 a0_0) ∧ w'.cell? ⟨gb233, 1, none⟩ = some (.int .i64 a0_1) ∧ w'.cell? ⟨gb233, 2, none⟩ = some (u234002) ∧ w'.cell? ⟨gb231, 0, none⟩ = some (.int .i64 a0_0) ∧ w'.cell? ⟨gb231, 1, none⟩ = some (.int .i64 a0_1) ∧ w'.cell? ⟨gb231, 2, none⟩ = some (.slice (some ad234) l0_2.length c0_2) ∧ w'.cell? (ad234.add ((ji15)).toNat) = some (.int .u8 (rd l0_2 (ji15)))) (ds := [15]) #[false, false, false, false, false, false, false, false, false, false, false, false, false, false, false, false] (by kernel_rfl) rfl rfl ⟨(qU BK233.out 0).trans rfl, (qU BK233.out 1).trans rfl, (qU BK233.out 2).trans rfl, (qU BK231.out 0).trans rfl, (qU BK231.out 1).trans rfl, (qU BK231.out 2).trans rfl, ((HB.out.cell (World.block_lt_of_cell? w _ hw234_0)).trans hw234_0)⟩ (fun hHeld => ?_); refine qNA qT.tab8 qT.bits8 (fun HT_ HW_ => ?_)
          generalize wr.drew = w19 at HO_234002 BK231 BK232 BK233 HB hx234_0 hHeld ⊢
          refine pS (i := 0) (N := some 24) #[true, false, false, false, false, false, false, false, false, false, false, false, false, false, false, false] HT_ ?_
          refine pS (i := 2) (N := some 26) #[true, false, true, false, false, false, false, false, false, false, false, false, false, false, false, false] HT_ ?_
          refine pS (i := 4) (N := some 28) #[true, false, true, false, true, false, false, false, false, false, false, false, false, false, false, false] HT_ ?_
          refine pS (i := 5) (N := some 29) #[true, false, true, false, true, true, false, false, false, false, false, false, false, false, false, false] HT_ ?_
          refine pS (i := 8) (N := some 32) #[true, false, true, false, true, true, false, false, true, false, false, false, false, false, false, false] HT_ ?_
          refine tS (i := 1) (N := some 25) #[true, true, true, false, true, true, false, false, true, false, false, false, false, false, false, false] HT_ HW_ hHeld ?_
          refine tS (i := 3) (N := some 27) #[true, true, true, true, true, true, false, false, true, false, false, false, false, false, false, false] HT_ HW_ hHeld ?_
          refine tS (i := 6) (N := some 30) #[true, true, true, true, true, true, true, false, true, false, false, false, false, false, false, false] HT_ HW_ hHeld ?_
          refine pS (i := 7) (N := some 31) #[true, true, true, true, true, true, true, true, true, false, false, false, false, false, false, false] HT_ ?_
          refine pS (i := 9) (N := some 33) #[true, true, true, true, true, true, true, true, true, true, false, false, false, false, false, false] HT_ ?_
          refine pS (i := 10) (N := some 34) #[true, true, true, true, true, true, true, true, true, true, true, false, false, false, false, false] HT_ ?_
          refine tS (i := 11) (N := some 35) #[true, true, true, true, true, true, true, true, true, true, true, true, false, false, false, false] HT_ HW_ hHeld ?_
          refine one_ (i := 12) (N := some 36) #[true, true, true, true, true, true, true, true, true, true, true, true, true, false, false, false] rfl rfl (qjA HT_.out (by kernel_rfl)) (by decide) (fun K hK => ?_)
          refine qwA (w1 := ?_) (v := ?_) (by rfl) rfl ?_ ?_
          rotate_left 2
          ·go_simp
           constructor
           ·rfl
           ·rfl
          refine hK.out _ _ ⟨(qU (qB BK233.out _) 0).trans rfl, (qU (qB BK233.out _) 1).trans rfl, (qU (qB BK233.out _) 2).trans rfl, (qU (qB BK231.out _) 0).trans rfl, (qU (qB BK231.out _) 1).trans rfl, (qU (qB BK231.out _) 2).trans rfl, (World.cell?_alloc_lt _ _ _ (World.block_lt_of_cell? _ _ (((HB.out.cell (World.block_lt_of_cell? w _ hw234_0)).trans hw234_0)))).trans (((HB.out.cell (World.block_lt_of_cell? w _ hw234_0)).trans hw234_0))⟩ (fun hHeld => ?_)
          clear hK K
          refine norm_ (a' := ?_) ?_ ?_
          rotate_left
          ·show Act.put _ (some 36) _ = _
           simp only [Act.put, List.setIfInBounds_toArray, List.set_cons_zero, List.set_cons_succ, i64_w, i32_w]
           rfl
          refine one_ (i := 13) (N := some 37) #[true, true, true, true, true, true, true, true, true, true, true, true, true, true, false, false] rfl rfl (qjA HT_.out (by kernel_rfl)) (by decide) (fun K hK => ?_)
          refine Kd.R_append_step (Kd.int .u8) (w0 := w) w.heap.size (by rfl) (.tmp 25) (.tmp 36) 25 5 (.int .u8 0) 1 rfl Tryz.underlying25 info5 rfl (by decide) (by omega) u234002 x234002_2 (rd l0_2 (ji15)) [.int .u8 (rd l0_2 (ji15))] (fun _ => True) (fun _ => False) rfl rfl ?aP (fun _ hk => hk.elim) ?aF ?aO ?aB ?aS ?aL ?_
          (case aP => exact rfl)
          (case aB => exact bl)
          (case aF => exact (fun _ _ => trivial))
          (case aO => exact (by (with_reducible repeat (first | apply Kd.qG | apply Kd.qH | apply Kd.qI)); exact HO_234002.out))
          (case aS => exact (qa bl))
          (case aL => have := LMc18.out; omega)
          intro v236 w20 ho hb hg hat
          rw [← Ny235.out] at ho
          have n0_ := Aside0.mk (qaA (g := gb231) (o := .cells #[.int .i64 a0_0, .int .i64 a0_1, .slice (some ad234) l0_2.length c0_2] 27 (0, 0)) (by (with_reducible repeat (first | refine qC ?_ _ | refine qD ?_ | refine qB ?_ _)); exact BK231.out) hg (Kd.R_ne HO_234002.out BK231.out (by decide)))
          have n1_ := Aside0.mk (qaA (g := gb232) (o := .cells #[.int .i64 0, .int .i64 0, .slice none 0 0] 27 (0, 0)) (by (with_reducible repeat (first | refine qC ?_ _ | refine qD ?_ | refine qB ?_ _)); exact BK232.out) hg (Kd.R_ne HO_234002.out BK232.out (by decide)))
          have n2_ := Aside0.mk (qaA (g := gb233) (o := .cells #[.int .i64 a0_0, .int .i64 a0_1, u234002] 27 (0, 0)) (by (with_reducible repeat (first | refine qC ?_ _ | refine qD ?_ | refine qB ?_ _)); exact BK233.out) hg (Kd.R_ne HO_234002.out BK233.out (by decide)))
          have n3_ := Aside0.mk (hb)
          have n4_ := Aside0.mk (ho)
          clear BK231
          clear BK232
          clear BK233
          clear HB
          clear HO_234002
          have BK231 := n0_
          have BK232 := n1_
          have BK233 := n2_
          have HB := n3_
          have HO237 := n4_
          clear n0_ n1_ n2_ n3_ n4_
          clear ho hb hg hat
          obtain ⟨Ao21, co21, eo21⟩ := Kd.qp HO237.out
          (first | subst eo21 | (injection eo21 with f1_ f2_ f3_; have f4_ := f1_.symm; have f5_ := f3_.symm; clear f1_ f2_ f3_; subst f4_; subst f5_))
          refine hK.out _ _ ⟨(qU BK233.out 0).trans rfl, (qU BK233.out 1).trans rfl, (qU BK233.out 2).trans rfl, (qU BK231.out 0).trans rfl, (qU BK231.out 1).trans rfl, (qU BK231.out 2).trans rfl, ((HB.out.cell (World.block_lt_of_cell? w _ hw234_0)).trans hw234_0)⟩ (fun hHeld => ?_)
          clear hK K
          refine norm_ (a' := ?_) ?_ ?_
          rotate_left
          ·show Act.put _ (some 37) _ = _
           simp only [Act.put, List.setIfInBounds_toArray, List.set_cons_zero, List.set_cons_succ, i64_w, i32_w]
           rfl
          refine pS (i := 14) (N := some 38) #[true, true, true, true, true, true, true, true, true, true, true, true, true, true, true, false] HT_ ?_
          refine last_ (i := 15) (N := none) #[true, true, true, true, true, true, true, true, true, true, true, true, true, true, true, true] rfl rfl (qjA HT_.out (by kernel_rfl)) (by decide) (fun K hK => ?_)
          have hs22 : w20.cell? ⟨gb233, 2, none⟩ = some (u234002) := (qU BK233.out 2).trans rfl
          have hfs22 := qA BK233.out 2
          have hns22_0 := NB231_233.out
          have hns22_1 := NB232_233.out
          have hms22_0 := NB233_231.out
          have hms22_1 := NB233_232.out
          refine skip_ (w1 := ?_) (by rfl) rfl ?_ ?_
          rotate_left
          ·go_simp
           rfl
          refine hK.out _ _ ?_
          clear hK K
          refine done_ (qvA HT_.out (by kernel_rfl)) ?_
          try go_wp2
          go_roundg k2
          case measure => have := HK1.out; have := HK2.out; omega
          case rel => exact ⟨(wrap64 (x5_2 - 1)), (y235), (.slice Ao21 y235.length co21), (by first | rfl | (simp; done) | (simp [*]; done)), H', ⟨by have := HK1.out; have := HK2.out; omega⟩, ⟨by (with_reducible repeat (first | apply Kd.qG | apply Kd.qH | apply Kd.qI)); exact Kd.qf (Kd.R_far (p := ⟨gb233, 2, none⟩) (Kd.qXA HO237.out BK233.out (by decide)) (fun _ hk => hk.2) (.slice Ao21 y235.length co21)) (fun _ hk => trivial)⟩, ⟨by (with_reducible repeat (first | refine qC ?_ _ | refine qD ?_ | refine qB ?_ _)); refine qIA ?_ NB231_233.out _; (with_reducible repeat (first | refine qC ?_ _ | refine qD ?_ | refine qB ?_ _)); exact BK231.out⟩, ⟨by (with_reducible repeat (first | refine qC ?_ _ | refine qD ?_ | refine qB ?_ _)); refine qIA ?_ NB232_233.out _; (with_reducible repeat (first | refine qC ?_ _ | refine qD ?_ | refine qB ?_ _)); exact BK232.out⟩, ⟨by (with_reducible repeat (first | refine qC ?_ _ | refine qD ?_ | refine qB ?_ _)); refine qR (cs := #[.int .i64 a0_0, .int .i64 a0_1, u234002]) ?_ 2 _ rfl; (with_reducible repeat (first | refine qC ?_ _ | refine qD ?_ | refine qB ?_ _)); exact BK233.out⟩, ⟨bl⟩⟩
         ·rw [if_neg c18] at H
          exact absurd H (by simp)
        ·rw [if_neg c17] at H
         exact absurd H (by simp)
       ·rw [if_neg c16] at H
        exact absurd H (by simp)
      ·rw [if_neg c14] at H
       have c14b0 : decide (0 ≤ x5_2) = false := decide_eq_false c14
       clear c14
       have H' := Aside0.mk H
       clear H
       go_wp2
       go_roundg k2
       case measure => have := HK1.out; have := HK2.out; omega
       case rel => exact ⟨(wrap64 (x4_1 + 1)), (x234002_2), (u234002), (by first | rfl | (simp; done) | (simp [*]; done)), H', ⟨by have := HK1.out; have := HK2.out; omega⟩, ⟨by (with_reducible repeat (first | apply Kd.qG | apply Kd.qH | apply Kd.qI)); exact HO_234002.out⟩, ⟨by (with_reducible repeat (first | refine qC ?_ _ | refine qD ?_ | refine qB ?_ _)); exact BK231.out⟩, ⟨by (with_reducible repeat (first | refine qC ?_ _ | refine qD ?_ | refine qB ?_ _)); exact BK232.out⟩, ⟨by (with_reducible repeat (first | refine qC ?_ _ | refine qD ?_ | refine qB ?_ _)); exact BK233.out⟩, ⟨bl⟩⟩
   ·rw [if_neg c10] at H
    have c10b0 : decide (x4_1 < a0_1) = false := decide_eq_false c10
    clear c10
    simp only [Option.some.injEq, Prod.mk.injEq] at H
    obtain ⟨rfl, rfl, rfl⟩ := H
    have hnb23 := NB231_232.out
    have hnc23 := NB232_231.out
    have hnb24 := NB231_233.out
    have hnc24 := NB233_231.out
    have hcz25_0 := bc BK231 0
    have hcz25_1 := bc BK231 1
    have hcz25_2 := bc BK231 2
    have hfz25_0 := qA BK231.out 0
    have hfz25_1 := qA BK231.out 1
    have hfz25_2 := qA BK231.out 2
    have hnb26 := NB233_232.out
    have hnc26 := NB232_233.out
    have hcz27_0 := bc BK233 0
    have hcz27_1 := bc BK233 1
    have hcz27_2 := bc BK233 2
    have hfz27_0 := qA BK233.out 0
    have hfz27_1 := qA BK233.out 1
    have hfz27_2 := qA BK233.out 2
    have hcz28_0 := bc BK232 0
    have hcz28_1 := bc BK232 1
    have hcz28_2 := bc BK232 2
    have hfz28_0 := qA BK232.out 0
    have hfz28_1 := qA BK232.out 1
    have hfz28_2 := qA BK232.out 2
    obtain ⟨Ao29, co29, eo29⟩ := Kd.qp HO_234002.out
    subst eo29
    go_wp2
    refine bodyPost_ret (results_cell_row rfl _ _ gb232 27 #[.int .i64 a0_0, .int .i64 a0_1, .slice Ao29 x234002_1.length co29] (0, 0) _ rfl (by (with_reducible repeat (first | refine qC ?_ _ | refine qD ?_ | refine qB ?_ _)); refine qR (cs := #[.int .i64 a0_0, .int .i64 a0_1, .slice none 0 0]) ?_ 2 _ rfl; (with_reducible repeat (first | refine qC ?_ _ | refine qD ?_ | refine qB ?_ _)); refine qR (cs := #[.int .i64 a0_0, .int .i64 0, .slice none 0 0]) ?_ 1 _ rfl; (with_reducible repeat (first | refine qC ?_ _ | refine qD ?_ | refine qB ?_ _)); refine qR (cs := #[.int .i64 0, .int .i64 0, .slice none 0 0]) ?_ 0 _ rfl; (with_reducible repeat (first | refine qC ?_ _ | refine qD ?_ | refine qB ?_ _)); exact BK232.out) Tryz.underlying27 rfl (by kernel_rfl)) rfl ?_
    exact ⟨_, by first | rfl | (simp [qN, qM] <;> rfl) | (simp [*, qN, qM] <;> rfl), by (with_reducible repeat (first | apply Kd.qG | apply Kd.qH | apply Kd.qI)); exact Kd.qf (Kd.R_far (p := ⟨gb232, 2, none⟩) (Kd.R_far (p := ⟨gb232, 1, none⟩) (Kd.R_far (p := ⟨gb232, 0, none⟩) (Kd.qXA HO_234002.out BK232.out (by decide)) (fun _ hk => hk.2) (.int .i64 a0_0)) (fun _ hk => hk.2) (.int .i64 a0_1)) (fun _ hk => hk.2) (.slice Ao29 x234002_1.length co29)) (fun _ hk => trivial), bl⟩
def qTA.f (k : Nat) (a0 : ByteArray) : Option (ByteArray × Bool) := (qzA.f k a0).bind fun bt238 => (if bt238.2.2.2.2 = true then ((qT.f k bt238.1 bt238.2.1 bt238.2.2.1).bind fun bt248 => ((qmA.f k bt248.1 bt248.2.1 bt248.2.2).bind fun t253 => (some (t253, true)))) else (some ((⟨#[]⟩ : ByteArray), false)))
set_option maxHeartbeats 8000000 in
set_option maxRecDepth 100000 in
theorem qTA.calls (k : Nat) (a0 : ByteArray) (r1 : ByteArray) (r2 : Bool) (w : World) (h : qTA.f k a0 = some (r1, r2)) :
  Calls Tryz.prog 4 #[.string a0] w fun e w' => e = .returned (.tuple #[.string r1, .bool r2]) ∧ Below w.heap.size w w' := by
 have hu27 := Tryz.underlying27
 have HB := Aside0.mk (Below.refl w.heap.size w)
 have H : ((qzA.f k a0).bind fun bt238 => (if bt238.2.2.2.2 = true then ((qT.f k bt238.1 bt238.2.1 bt238.2.2.1).bind fun bt248 => ((qmA.f k bt248.1 bt248.2.1 bt248.2.2).bind fun t253 => (some (t253, true)))) else (some ((⟨#[]⟩ : ByteArray), false)))) = some (r1, r2) := h
 clear h
 replace H := Option.bind_eq_some_iff.mp H
 obtain ⟨⟨t238, t239, t240, t243, t246⟩, A20, H⟩ := H
 replace H : (if t246 = true then ((qT.f k t238 t239 t240).bind fun bt248 => ((qmA.f k bt248.1 bt248.2.1 bt248.2.2).bind fun t253 => (some (t253, true)))) else (some ((⟨#[]⟩ : ByteArray), false))) = some (r1, r2) := H
 have A2 := Aside0.mk A20
 clear A20
 by_cases c3 : t246 = true
 ·subst c3
  have H1 : ((qT.f k t238 t239 t240).bind fun bt248 => ((qmA.f k bt248.1 bt248.2.1 bt248.2.2).bind fun t253 => (some (t253, true)))) = some (r1, r2) := by rw [if_pos rfl] at H; exact H
  clear H
  have H := H1
  clear H1
  replace H := Option.bind_eq_some_iff.mp H
  obtain ⟨⟨t248, t249, t250⟩, A40, H⟩ := H
  replace H : ((qmA.f k t248 t249 t250).bind fun t253 => (some (t253, true))) = some (r1, r2) := H
  have A4 := Aside0.mk A40
  clear A40
  replace H := Option.bind_eq_some_iff.mp H
  obtain ⟨t253, A50, H⟩ := H
  replace H : (some (t253, true)) = some (r1, r2) := H
  have A5 := Aside0.mk A50
  clear A50
  simp only [Option.some.injEq, Prod.mk.injEq] at H
  obtain ⟨rfl, rfl⟩ := H
  go_enter Tryz.func4, Tryz.ntmps4
  go_wp2_with (first | ((with_reducible refine qb (f := 6) rfl ?_); refine qRA (some 9) rfl rfl Tryz.func6 (by kernel_rfl) rfl #[.string a0] rfl (by (try simp only [List.map_toArray, List.map_cons, List.map_nil]); first | done | rfl | (simp only [List.length_drop, List.length_take]; rfl)) ?_; (with_reducible refine (qzA.calls k a0 t238 t239 t240 t243 true _ A2.out).mono ?_); rintro e w6 ⟨v241, v244, rfl, ho0, ho1, hb⟩; refine ⟨_, rfl, ?_⟩; have n0_ := Aside0.mk (Kd.qAA ho0 (qa bl)); have n1_ := Aside0.mk (Kd.qAA ho1 (qa bl)); have n2_ := Aside0.mk (qK bl hb); clear HB; have HO242 := n0_; have HO245 := n1_; have HB := n2_; clear n0_ n1_ n2_; (try clear hb); (try clear hb2); (try clear hk); (try clear hi); (try clear ho0); (try clear ho1)) | ((with_reducible refine qX (N := 4) rfl ?_); refine qV ?hg (N := 4) ?hd (cs := #[.int .i64 0, .int .i64 0, .slice none 0 0]) (t := 27) ?hr ?_; (case hd => rfl); (case hg => rfl); (case hr => first | (go_simp; done) | (go_simp; rfl)); intro gb247 hg w7 hbox hb; have n0_ := Aside0.mk (Kd.qW (by (with_reducible repeat (first | apply Kd.qG | apply Kd.qH | apply Kd.qI)); exact HO242.out) hb); have n1_ := Aside0.mk (Kd.qW (by (with_reducible repeat (first | apply Kd.qG | apply Kd.qH | apply Kd.qI)); exact HO245.out) hb); have n2_ := Aside0.mk (qK bl hb); have n3_ := Aside0.mk (hbox); have n4_ := Aside0.mk ((gg hg)); have n5_ := Aside0.mk ((gg hg)); clear HO242; clear HO245; clear HB; have HO242 := n0_; have HO245 := n1_; have HB := n2_; have BK247 := n3_; have GW247 := n4_; have GE247 := n5_; clear n0_ n1_ n2_ n3_ n4_ n5_; clear hb hbox hg; have hcz8_0 := bc BK247 0; have hcz8_1 := bc BK247 1; have hcz8_2 := bc BK247 2; have hfz8_0 := qA BK247.out 0; have hfz8_1 := qA BK247.out 1; have hfz8_2 := qA BK247.out 2; obtain ⟨Ao9, co9, eo9⟩ := Kd.qp HO242.out; subst eo9) | ((with_reducible refine qb (f := 8) rfl ?_); refine qRA (some 16) rfl rfl Tryz.func8 (by kernel_rfl) rfl #[.agg #[.int .i64 t238, .int .i64 t239, .slice Ao9 t240.length co9]] rfl (by (try simp only [List.map_toArray, List.map_cons, List.map_nil]); first | done | rfl | (simp only [List.length_drop, List.length_take]; rfl)) ?_; (with_reducible refine (qT.calls k t238 t239 _ _ t240 t248 t249 t250 _ ?side1 ?side2 A4.out).mono ?_); (case side1 => refine (Kd.qQ (e := 5) (base := w.heap.size) (ok := fun k_ => True) (n := t240.length) (c := co9) ?_).2.2; exact (by (with_reducible repeat (first | apply Kd.qG | apply Kd.qH | apply Kd.qI)); exact (Kd.qf (Kd.R_far (p := ⟨gb247, 2, none⟩) (Kd.R_far (p := ⟨gb247, 1, none⟩) (Kd.R_far (p := ⟨gb247, 0, none⟩) (Kd.qXA HO242.out BK247.out (by decide)) (fun _ hk => hk.2) (.int .i64 t238)) (fun _ hk => hk.2) (.int .i64 t239)) (fun _ hk => hk.2) (.slice Ao9 t240.length co9)) (fun _ h_ => h_.1)))); (case side2 => exact (Kd.qQ HO242.out).2.1); rintro e w10 ⟨v251, rfl, ho0, hb⟩; refine ⟨_, rfl, ?_⟩; have n0_ := Aside0.mk (Kd.quA (by (with_reducible repeat (first | apply Kd.qG | apply Kd.qH | apply Kd.qI)); exact (Kd.qf (Kd.R_far (p := ⟨gb247, 2, none⟩) (Kd.R_far (p := ⟨gb247, 1, none⟩) (Kd.R_far (p := ⟨gb247, 0, none⟩) (Kd.qXA HO242.out BK247.out (by decide)) (fun _ hk => hk.2) (.int .i64 t238)) (fun _ hk => hk.2) (.int .i64 t239)) (fun _ hk => hk.2) (.slice Ao9 t240.length co9)) (fun _ h_ => h_.1))) (Kd.qZB ho0) hb); have n1_ := Aside0.mk (Kd.qW (by (with_reducible repeat (first | apply Kd.qG | apply Kd.qH | apply Kd.qI)); exact (Kd.qf (Kd.R_far (p := ⟨gb247, 2, none⟩) (Kd.R_far (p := ⟨gb247, 1, none⟩) (Kd.R_far (p := ⟨gb247, 0, none⟩) (Kd.qXA HO245.out BK247.out (by decide)) (fun _ hk => hk.2) (.int .i64 t238)) (fun _ hk => hk.2) (.int .i64 t239)) (fun _ hk => hk.2) (.slice Ao9 t240.length co9)) (fun _ h_ => h_.1))) hb); have n2_ := Aside0.mk (Kd.qAA (Kd.qYB ho0 (Kd.R_lt (by (with_reducible repeat (first | apply Kd.qG | apply Kd.qH | apply Kd.qI)); exact (Kd.qf (Kd.R_far (p := ⟨gb247, 2, none⟩) (Kd.R_far (p := ⟨gb247, 1, none⟩) (Kd.R_far (p := ⟨gb247, 0, none⟩) (Kd.qXA HO242.out BK247.out (by decide)) (fun _ hk => hk.2) (.int .i64 t238)) (fun _ hk => hk.2) (.int .i64 t239)) (fun _ hk => hk.2) (.slice Ao9 t240.length co9)) (fun _ h_ => h_.1))))) (qa bl)); have n3_ := Aside0.mk (qVB (g := gb247) (o := .cells #[.int .i64 t238, .int .i64 t239, .slice Ao9 t240.length co9] 27 (0, 0)) (by (with_reducible repeat (first | refine qC ?_ _ | refine qD ?_ | refine qB ?_ _)); refine qR (cs := #[.int .i64 t238, .int .i64 t239, .slice none 0 0]) ?_ 2 _ rfl; (with_reducible repeat (first | refine qC ?_ _ | refine qD ?_ | refine qB ?_ _)); refine qR (cs := #[.int .i64 t238, .int .i64 0, .slice none 0 0]) ?_ 1 _ rfl; (with_reducible repeat (first | refine qC ?_ _ | refine qD ?_ | refine qB ?_ _)); refine qR (cs := #[.int .i64 0, .int .i64 0, .slice none 0 0]) ?_ 0 _ rfl; (with_reducible repeat (first | refine qC ?_ _ | refine qD ?_ | refine qB ?_ _)); exact BK247.out) hb); have n4_ := Aside0.mk (qK bl hb); clear HO242; clear HO245; clear BK247; clear HB; have HO242 := n0_; have HO245 := n1_; have HO252 := n2_; have BK247 := n3_; have HB := n4_; clear n0_ n1_ n2_ n3_ n4_; (try clear hb); (try clear hb2); (try clear hk); (try clear hi); (try clear ho0); obtain ⟨Ao11, co11, eo11⟩ := Kd.qp HO252.out; subst eo11) | ((with_reducible refine qb (f := 7) rfl ?_); refine qRA (some 17) rfl rfl Tryz.func7 (by kernel_rfl) rfl #[.agg #[.int .i64 t248, .int .i64 t249, .slice Ao11 t250.length co11]] rfl (by (try simp only [List.map_toArray, List.map_cons, List.map_nil]); first | done | rfl | (simp only [List.length_drop, List.length_take]; rfl)) ?_; (with_reducible refine (qmA.calls k t248 t249 _ _ t250 t253 _ ?side1 ?side2 A5.out).mono ?_); (case side1 => repeat (first | exact (Kd.qQ HO252.out).2.2 | (with_reducible refine Kd.qcA ?_ _) | (with_reducible refine Kd.qbA ?_ _) | (with_reducible refine Kd.qtA ?_))); (case side2 => exact (Kd.qQ HO252.out).2.1); rintro e w12 ⟨rfl, hb⟩; refine ⟨_, rfl, ?_⟩; have n0_ := Aside0.mk (Kd.qW (by (with_reducible repeat (first | apply Kd.qG | apply Kd.qH | apply Kd.qI)); exact HO242.out) hb); have n1_ := Aside0.mk (Kd.qW (by (with_reducible repeat (first | apply Kd.qG | apply Kd.qH | apply Kd.qI)); exact HO245.out) hb); have n2_ := Aside0.mk (Kd.qW (by (with_reducible repeat (first | apply Kd.qG | apply Kd.qH | apply Kd.qI)); exact HO252.out) hb); have n3_ := Aside0.mk (bb BK247 hb); have n4_ := Aside0.mk (qK bl hb); clear HO242; clear HO245; clear HO252; clear BK247; clear HB; have HO242 := n0_; have HO245 := n1_; have HO252 := n2_; have BK247 := n3_; have HB := n4_; clear n0_ n1_ n2_ n3_ n4_; (try clear hb); (try clear hb2); (try clear hk); (try clear hi)))
  go_ret2
  exact ⟨by first | rfl | (simp [qN, qM] <;> rfl) | (simp [*, qN, qM] <;> rfl), bl⟩
 ·replace c3 := Bool.eq_false_iff.mpr c3
  subst c3
  have H1 : (some ((⟨#[]⟩ : ByteArray), false)) = some (r1, r2) := by rw [if_neg (show ¬ (false = true) by decide)] at H; exact H
  clear H
  have H := H1
  clear H1
  simp only [Option.some.injEq, Prod.mk.injEq] at H
  obtain ⟨rfl, rfl⟩ := H
  go_enter Tryz.func4, Tryz.ntmps4
  go_wp2_with (first | ((with_reducible refine qb (f := 6) rfl ?_); refine qRA (some 9) rfl rfl Tryz.func6 (by kernel_rfl) rfl #[.string a0] rfl (by (try simp only [List.map_toArray, List.map_cons, List.map_nil]); first | done | rfl | (simp only [List.length_drop, List.length_take]; rfl)) ?_; (with_reducible refine (qzA.calls k a0 t238 t239 t240 t243 false _ A2.out).mono ?_); rintro e w13 ⟨v241, v244, rfl, ho0, ho1, hb⟩; refine ⟨_, rfl, ?_⟩; have n0_ := Aside0.mk (Kd.qAA ho0 (qa bl)); have n1_ := Aside0.mk (Kd.qAA ho1 (qa bl)); have n2_ := Aside0.mk (qK bl hb); clear HB; have HO242 := n0_; have HO245 := n1_; have HB := n2_; clear n0_ n1_ n2_; (try clear hb); (try clear hb2); (try clear hk); (try clear hi); (try clear ho0); (try clear ho1)) | ((with_reducible refine qX (N := 4) rfl ?_); refine qV ?hg (N := 4) ?hd (cs := #[.int .i64 0, .int .i64 0, .slice none 0 0]) (t := 27) ?hr ?_; (case hd => rfl); (case hg => rfl); (case hr => first | (go_simp; done) | (go_simp; rfl)); intro gb247 hg w14 hbox hb; have n0_ := Aside0.mk (Kd.qW (by (with_reducible repeat (first | apply Kd.qG | apply Kd.qH | apply Kd.qI)); exact HO242.out) hb); have n1_ := Aside0.mk (Kd.qW (by (with_reducible repeat (first | apply Kd.qG | apply Kd.qH | apply Kd.qI)); exact HO245.out) hb); have n2_ := Aside0.mk (qK bl hb); have n3_ := Aside0.mk (hbox); have n4_ := Aside0.mk ((gg hg)); have n5_ := Aside0.mk ((gg hg)); clear HO242; clear HO245; clear HB; have HO242 := n0_; have HO245 := n1_; have HB := n2_; have BK247 := n3_; have GW247 := n4_; have GE247 := n5_; clear n0_ n1_ n2_ n3_ n4_ n5_; clear hb hbox hg; have hcz15_0 := bc BK247 0; have hcz15_1 := bc BK247 1; have hcz15_2 := bc BK247 2; have hfz15_0 := qA BK247.out 0; have hfz15_1 := qA BK247.out 1; have hfz15_2 := qA BK247.out 2; obtain ⟨Ao16, co16, eo16⟩ := Kd.qp HO242.out; subst eo16))
  go_ret2
  exact ⟨by first | rfl | (simp [qN, qM] <;> rfl) | (simp [*, qN, qM] <;> rfl), bl⟩
end Go.Proofs.YtdncpkppkafkpaaGreatDoor.P
namespace Go.Proofs
open Go.Shelf
def Tryz.sortI_ren : Go.Shelf.Ren := ⟨fun | 5 => 60 | 8 => 74 | 7 => 73 | 19 => 91 | 20 => 92 | 10 => 82 | 11 => 83 | 12 => 84 | 13 => 85 | 14 => 86 | 15 => 87 | 16 => 88 | 17 => 89 | 18 => 90 | 30 => 97 | 31 => 98 | 32 => 99 | 33 => 100 | 34 => 101 | 35 => 102 | 40 => 103 | n => n, fun | 23 => 28 | 25 => 3 | 3 => 3 | 32 => 112 | 22 => 28 | 0 => 0 | 44 => 125 | 46 => 127 | 4 => 4 | 36 => 117 | 35 => 116 | 41 => 122 | 5 => 5 | 9 => 9 | 53 => 135 | 57 => 139 | 63 => 141 | 64 => 69 | n => n, fun | n => n⟩
theorem Tryz.sortI : Go.Proofs.SlLaysM.n5 Tryz.prog Tryz.sortI_ren := {
 mixed := by kernel_rfl
 f5 := ⟨Tryz.f60.name, by decide, Tryz.func60.trans (congrArg some (by kernel_rfl))⟩
 f7 := ⟨Tryz.f73.name, by decide, Tryz.func73.trans (congrArg some (by kernel_rfl))⟩
 f8 := Tryz.func74.trans (congrArg some (by kernel_rfl))
 f10 := ⟨Tryz.f82.name, by decide, Tryz.func82.trans (congrArg some (by kernel_rfl))⟩
 f11 := ⟨Tryz.f83.name, by decide, Tryz.func83.trans (congrArg some (by kernel_rfl))⟩
 f12 := ⟨Tryz.f84.name, by decide, Tryz.func84.trans (congrArg some (by kernel_rfl))⟩
 f13 := ⟨Tryz.f85.name, by decide, Tryz.func85.trans (congrArg some (by kernel_rfl))⟩
 f14 := ⟨Tryz.f86.name, by decide, Tryz.func86.trans (congrArg some (by kernel_rfl))⟩
 f15 := ⟨Tryz.f87.name, by decide, Tryz.func87.trans (congrArg some (by kernel_rfl))⟩
 f16 := ⟨Tryz.f88.name, by decide, Tryz.func88.trans (congrArg some (by kernel_rfl))⟩
 f17 := ⟨Tryz.f89.name, by decide, Tryz.func89.trans (congrArg some (by kernel_rfl))⟩
 f18 := ⟨Tryz.f90.name, by decide, Tryz.func90.trans (congrArg some (by kernel_rfl))⟩
 f19 := Tryz.func91.trans (congrArg some (by kernel_rfl))
 f20 := Tryz.func92.trans (congrArg some (by kernel_rfl))
 f30 := ⟨Tryz.f97.name, by decide, Tryz.func97.trans (congrArg some (by kernel_rfl))⟩
 f31 := Tryz.func98.trans (congrArg some (by kernel_rfl))
 f32 := Tryz.func99.trans (congrArg some (by kernel_rfl))
 f33 := ⟨Tryz.f100.name, by decide, Tryz.func100.trans (congrArg some (by kernel_rfl))⟩
 f34 := ⟨Tryz.f101.name, by decide, Tryz.func101.trans (congrArg some (by kernel_rfl))⟩
 f35 := ⟨Tryz.f102.name, by decide, Tryz.func102.trans (congrArg some (by kernel_rfl))⟩
 f40 := ⟨Tryz.f103.name, by decide, Tryz.func103.trans (congrArg some (by kernel_rfl))⟩
 t0 := Tryz.underlying0
 a0 := Tryz.isAgg0
 z0 := Tryz.sizeOf0
 v0 := Tryz.zeroValue0
 t3 := Tryz.underlying3
 a3 := Tryz.isAgg3
 z3 := Tryz.sizeOf3
 v3 := Tryz.zeroValue3
 t4 := Tryz.underlying4
 a4 := Tryz.isAgg4
 z4 := Tryz.sizeOf4
 v4 := Tryz.zeroValue4
 t5 := Tryz.underlying5
 a5 := Tryz.isAgg5
 z5 := Tryz.sizeOf5
 v5 := Tryz.zeroValue5
 t9 := Tryz.underlying9
 a9 := Tryz.isAgg9
 z9 := Tryz.sizeOf9
 v9 := Tryz.zeroValue9
 t22 := Tryz.underlying28
 a22 := Tryz.isAgg28
 z22 := Tryz.sizeOf28
 v22 := Tryz.zeroValue28
 t23 := Tryz.underlying28
 a23 := Tryz.isAgg28
 z23 := Tryz.sizeOf28
 v23 := Tryz.zeroValue28
 t25 := Tryz.underlying3
 a25 := Tryz.isAgg3
 z25 := Tryz.sizeOf3
 v25 := Tryz.zeroValue3
 t32 := Tryz.underlying112
 a32 := Tryz.isAgg112
 z32 := Tryz.sizeOf112
 v32 := Tryz.zeroValue112
 t35 := Tryz.underlying116
 a35 := Tryz.isAgg116
 z35 := Tryz.sizeOf116
 v35 := Tryz.zeroValue116
 t36 := Tryz.underlying117
 a36 := Tryz.isAgg117
 z36 := Tryz.sizeOf117
 v36 := Tryz.zeroValue117
 t41 := Tryz.underlying122
 a41 := Tryz.isAgg122
 z41 := Tryz.sizeOf122
 v41 := Tryz.zeroValue122
 t44 := Tryz.underlying125
 a44 := Tryz.isAgg125
 z44 := Tryz.sizeOf125
 v44 := Tryz.zeroValue125
 t46 := Tryz.underlying127
 a46 := Tryz.isAgg127
 z46 := Tryz.sizeOf127
 v46 := Tryz.zeroValue127
 t53 := Tryz.underlying135
 a53 := Tryz.isAgg135
 z53 := Tryz.sizeOf135
 v53 := Tryz.zeroValue135
 t57 := Tryz.underlying139
 a57 := Tryz.isAgg139
 z57 := Tryz.sizeOf139
 v57 := Tryz.zeroValue139
 t63 := Tryz.underlying141
 a63 := Tryz.isAgg141
 z63 := Tryz.sizeOf141
 v63 := Tryz.zeroValue141
 t64 := Tryz.underlying69
 a64 := Tryz.isAgg69
 z64 := Tryz.sizeOf69
 v64 := Tryz.zeroValue69 }
end Go.Proofs
namespace Go.Proofs.YtdncpkppkafkpaaGreatDoor
open Go.RowKit Go.Sort Go.Proofs.YtdncpkppkafkpaaGreatDoorW.PrintWords Go.Proofs.YtdncpkppkafkpaaGreatDoorW.PrintLast
set_option linter.unusedVariables false
set_option linter.unusedSimpArgs false
def qYA.f (l0 : List Int) : Option (List Int) := if l0.length < 4611686018427387904 then some (l0.mergeSort fun x y => decide (x ≤ y)) else none
theorem qGC {xs : List Int} {cs : List Value} {w : World} {base : Nat} {ok : Nat → Prop} (h : Reps ((Kd.int .i64).M w base ok) 1 xs cs) : cs = xs.map (Value.int .i64) := by
 obtain ⟨hl, hc⟩ := h
 rw [Nat.mul_one] at hl
 refine List.ext_getElem? fun i => ?_
 rw [List.getElem?_map]
 by_cases hi : i < xs.length
 ·have h1 : (cs.drop (i * 1)).take 1 = [Value.int .i64 xs[i]] := hc i xs[i] (List.getElem?_eq_getElem hi)
  rw [List.getElem?_eq_getElem hi, Option.map_some]
  have h2 : ((cs.drop (i * 1)).take 1)[0]? = some (Value.int .i64 xs[i]) := by rw [h1]; rfl
  rw [List.getElem?_take, if_pos (by omega), List.getElem?_drop] at h2
  simpa using h2
 ·rw [List.getElem?_eq_none (by omega), List.getElem?_eq_none (by omega)]; rfl
theorem qHC {xs : List Int} {w : World} {base : Nat} {ok : Nat → Prop} : Reps ((Kd.int .i64).M w base ok) 1 xs (xs.map (Value.int .i64)) := by
 refine ⟨by simp, fun j p hp => ?_⟩
 show _ = [Value.int .i64 p]
 have hj : j < xs.length := (List.getElem?_eq_some_iff.1 hp).1
 have hv : xs[j] = p := by rw [List.getElem?_eq_getElem hj] at hp; injection hp
 rw [Nat.mul_one, List.drop_eq_getElem_cons (by simpa using hj)]
 simp [hv]
theorem sortI_holds {w : World} {g : Nat} {cur : Array Value} {t : TypeId} {xs : List Int} (hh : w.heap[g]? = some (.cells cur t (0, 0))) (ht : cur.toList.take xs.length = xs.map (Value.int .i64)) : Holds (Value.int .i64) w g 0 xs.toArray := by
 intro j hj
 have hj' : j < xs.length := by simpa using hj
 have h1 : cur[j]? = some (Value.int .i64 xs[j]) := by
  have : (cur.toList.take xs.length)[j]? = some (Value.int .i64 xs[j]) := by rw [ht, List.getElem?_map, List.getElem?_eq_getElem hj']; rfl
  rw [List.getElem?_take, if_pos hj'] at this
  simpa using this
 refine ⟨?_, ?_⟩
 ·simp only [World.cell?, hh, Nat.zero_add]
  rw [h1]
  simp [hj']
 ·simp [World.frozen?, hh]
theorem sortI_put {cur : Array Value} {xs ys : List Int} (hlen : ys.length = xs.length) (hc : xs.length ≤ cur.size) :
  (putCells (Value.int .i64) 0 ys.toArray cur).toList.take xs.length = ys.map (Value.int .i64) := by
 refine List.ext_getElem? fun i => ?_
 rw [List.getElem?_map, List.getElem?_take]
 by_cases hi : i < xs.length
 ·rw [if_pos hi, List.getElem?_eq_getElem (show i < ys.length by omega), Option.map_some]
  rw [Array.getElem?_toList]
  simp only [putCells, Array.getElem?_mapIdx]
  rw [Array.getElem?_eq_getElem (show i < cur.size by omega), Option.map_some, if_pos (by constructor; exact Nat.zero_le _; simp; omega)]
  simp [show i < ys.length by omega]
 ·rw [if_neg hi, List.getElem?_eq_none (by omega)]; rfl
theorem qYA.calls (P0_ : Nat → Prop) (u9000_ : Value) (l0 : List Int) (r : List Int) (w0 w : World) (hB : Below w0.heap.size w0 w) (ho0 : Kd.R (Kd.int .i64) 3 w w0.heap.size P0_ u9000_ l0) (h : qYA.f l0 = some r) :
  Calls Tryz.prog 60 #[u9000_] w fun e w' => e = .returned (.tuple #[]) ∧ Kd.R (Kd.int .i64) 3 w' w0.heap.size (fun k_ => (P0_ k_ ∨ w.heap.size ≤ k_)) u9000_ r ∧ Below w0.heap.size w0 w' ∧ Kept w w' (fun k_ => P0_ k_) := by
 unfold qYA.f at h
 by_cases hs : l0.length < 4611686018427387904
 case neg => rw [if_neg hs] at h; cases h
 rw [if_pos hs] at h
 obtain rfl := Option.some.inj h
 obtain ⟨hok, inner, hown, hr⟩ := ho0
 have hi := qGC hr
 rcases hown.2 with ⟨hv, hn⟩ | ⟨g, cap, cur, hv, hbase, hheap, hncap, hmax, hsize, htake⟩
 ·subst hv
  have hl : l0 = [] := List.eq_nil_of_length_eq_zero hn
  subst hl
  refine (AnyM.slices_Sort_int_none Tryz.sortI none 0 w).mono fun e w' hq => ?_
  obtain ⟨he, rfl⟩ := hq
  exact ⟨he, by simpa using Kd.R_nil (Kd.int .i64) 3 w' w0.heap.size _, hB, Kept.refl _ _⟩
 ·subst hv
  have hsz : (Kd.int .i64).sz = 1 := rfl
  rw [hsz, Nat.mul_one] at htake hsize
  have ht : cur.toList.take l0.length = l0.map (Value.int .i64) := by rw [htake, hi]
  have hg : g < w.heap.size := by
   rcases Nat.lt_or_ge g w.heap.size with h1 | h1
   ·exact h1
   ·rw [Array.getElem?_eq_none h1] at hheap; cases hheap
  refine (AnyM.slices_Sort_int Tryz.sortI g 0 cap l0 w (sortI_holds hheap ht) hg hs).mono fun e w' hq => ?_
  obtain ⟨he, n, os, rfl⟩ := hq
  have hoth : ∀ k, k < w.heap.size → k ≠ g → (grow (putRow (Value.int .i64) (Sort.ahead w n) g 0 (l0.mergeSort fun x y => decide (x ≤ y)).toArray) os).heap[k]? = w.heap[k]? := by
   intro k hk hne
   rw [heap_grow_old _ _ (by simpa using hk)]
   simp only [putRow, mapBlock, Array.getElem?_modify, if_neg (Ne.symm hne), heap_ahead]
  have hown' : (grow (putRow (Value.int .i64) (Sort.ahead w n) g 0 (l0.mergeSort fun x y => decide (x ≤ y)).toArray) os).heap[g]? = some (.cells (putCells (Value.int .i64) 0 (l0.mergeSort fun x y => decide (x ≤ y)).toArray cur) 3 (0, 0)) := by
   rw [heap_grow_old _ _ (by simpa using hg)]
   simp only [putRow, mapBlock, Array.getElem?_modify, heap_ahead, hheap, if_true, Option.map_some, onCells]
  have hlen : (l0.mergeSort fun x y => decide (x ≤ y)).length = l0.length := List.length_mergeSort l0
  refine ⟨he, ⟨fun k hk => .inl (hok k hk), (l0.mergeSort fun x y => decide (x ≤ y)).map (Value.int .i64), ⟨by simp [hsz], .inr ⟨g, cap, _, by rw [hlen], hbase, hown', by rw [hlen]; exact hncap, hmax, by rw [hsz, Nat.mul_one]; simpa [putCells] using hsize, ?_⟩⟩, qHC⟩, ⟨hB.os, hB.tape, hB.output, Nat.le_trans hB.size (by simp), ?_⟩, ⟨by simp, ?_⟩⟩
  ·rw [hsz, Nat.mul_one, hlen]
   exact sortI_put hlen (by omega)
  ·intro k hk
   rw [hoth k (Nat.lt_of_lt_of_le hk hB.size) (by omega)]
   exact hB.block k hk
  ·intro k hk hn
   exact hoth k hk (fun e => hn (e ▸ hok g rfl))
end Go.Proofs.YtdncpkppkafkpaaGreatDoor
namespace Go.Proofs.YtdncpkppkafkpaaGreatDoor
open Go.RowKit Go.Shelf Go.Sort Go.Proofs.YtdncpkppkafkpaaGreatDoorW.PrintWords Go.Proofs.YtdncpkppkafkpaaGreatDoorW.PrintLast
set_option linter.unusedVariables false
set_option linter.unusedSimpArgs false
attribute [local go_sem] Oper.semAt_some
def valUpto (zs : List Int) (k : Nat) : List Int := (List.range k).map fun j => zs[j]?.getD 0
theorem valUpto_succ (zs : List Int) (k : Nat) : valUpto zs (k + 1) = valUpto zs k ++ [zs[k]?.getD 0] := by simp [valUpto, List.range_succ]
theorem valUpto_length (zs : List Int) (k : Nat) : (valUpto zs k).length = k := by simp [valUpto]
theorem valUpto_take (zs : List Int) {k : Nat} (hk : k ≤ zs.length) : valUpto zs k = zs.take k := by
 apply List.ext_getElem
 ·simp [valUpto, hk]
 ·intro i h1 h2
  have : i < zs.length := by simp [valUpto] at h1; omega
  simp [valUpto, this]
def ValsAt (n₀ : Nat) (W : World) (sv : Value) (zs : List Int) : Prop :=
 (sv = .slice none 0 0 ∧ zs = []) ∨ ∃ b off cap, sv = .slice (some ⟨b, off, none⟩) zs.length cap ∧ b < n₀ ∧ ∀ j, j < zs.length → W.cell? ⟨b, off + j, none⟩ = some (.int .i64 (zs[j]?.getD 0))
theorem ValsAt.later {n₀ : Nat} {A B : World} (h : Below n₀ A B) {sv : Value} {zs : List Int} : ValsAt n₀ A sv zs → ValsAt n₀ B sv zs
 | .inl e => .inl e
 | .inr ⟨b, off, cap, e, hb, hc⟩ => .inr ⟨b, off, cap, e, hb, fun j hj => (h.cell (p := ⟨b, off + j, none⟩) hb).trans (hc j hj)⟩
set_option maxRecDepth 100000 in
set_option maxHeartbeats 2000000 in
theorem vals1_in (F : Fence) (n : Nat) (h7 : F.fn 61) (hro : F.round = none) (hn : 1 ≤ n) (l Bs n₀ b off len cap : Nat) (zs : List Int) (hreach : len * 8 ≤ 140737488351232) (hb : b < n₀) (J Jx : List Int → World → Prop)
  (hY : ∀ pre x W, J pre W → pre.length < len → YieldAt F (n - 1) Tryz.prog l #[.int .i64 x] W fun e W' =>
   (e = .returned (.bool true) ∧ J (pre ++ [x]) W' ∧ Below n₀ W W') ∨ (e = .returned (.bool false) ∧ Jx (pre ++ [x]) W'))
  (W : World) (hBs : W.cell? ⟨Bs, 0, none⟩ = some (.slice (some ⟨b, off, none⟩) len cap)) (hc : ∀ j, j < len → W.cell? ⟨b, off + j, none⟩ = some (.int .i64 (zs[j]?.getD 0))) (h0 : J [] W) :
  CallsIn F n Tryz.prog 61 #[.func (.yield l) #[] #[], .pointer (some ⟨Bs, 0, none⟩)] W fun e W' => (∃ v, e = .returned v) ∧
   ((∃ ys, ys = valUpto zs len ∧ J ys W') ∨ (∃ pre, (∃ k, k ≤ len ∧ pre = valUpto zs k) ∧ Jx pre W')) := by
 refine callsIn_of_wp Tryz.func61 rfl h7 ?_ hro
 simp only [Tryz.ntmps61, List.size_toArray, List.length_cons, List.length_nil, Nat.reduceAdd, Nat.reduceSub, Array.replicate_succ, Array.replicate_zero, List.push_toArray, List.append_toArray, List.nil_append, List.cons_append]
 gi_wp2
 gi_loopw [7] (fun i wr => ∃ k : Nat, k ≤ len ∧ i = .int .i64 k ∧ J (valUpto zs k) wr ∧ Below n₀ W wr)
  (fun i _ => len - (intOf i).toNat)
 case atStart => exact ⟨0, Nat.zero_le _, rfl, h0, Below.refl _ _⟩
 case round =>
  obtain ⟨k, hk, rfl, hJs, hnx⟩ := hrel
  have hcx : k < len → wr.cell? ⟨b, off + k, none⟩ = some (.int .i64 (zs[k]?.getD 0)) := fun h => (hnx.cell (p := ⟨b, off + k, none⟩) hb).trans (hc k h)
  by_cases hlt : k < len
  ·obtain ⟨fn, tmps, assign, body, hy, hR⟩ := hY _ (zs[k]?.getD 0) wr hJs (by rw [valUpto_length]; exact hlt)
   have hcx' := hcx hlt
   gi_wp2
   refine hR.mono ?_
   rintro e W3 (⟨rfl, hJ3, hk3⟩ | ⟨rfl, hJx3⟩)
   ·gi_wp2
    go_roundw
    case rel => exact ⟨k + 1, by omega, by simp, by rw [valUpto_succ]; exact hJ3, hnx.trans hk3⟩
    case measure => simp [intOf]; omega
   ·gi_wp2
    refine bodyPost_ret (results_none rfl _ _ _) rfl ?_
    exact ⟨⟨_, rfl⟩, .inr ⟨_, ⟨k + 1, by omega, (valUpto_succ _ _).symm⟩, hJx3⟩⟩
  ·obtain rfl : k = len := by omega
   gi_wp2
   go_end0
   exact ⟨⟨_, rfl⟩, .inl ⟨_, rfl, hJs⟩⟩
set_option maxRecDepth 100000 in
set_option maxHeartbeats 1000000 in
theorem vals1_nil_in (F : Fence) (n : Nat) (h7 : F.fn 61) (hro : F.round = none) (l Bs : Nat) (J : List Int → World → Prop) (W : World) (hBs : W.cell? ⟨Bs, 0, none⟩ = some (.slice none 0 0)) (h0 : J [] W) :
  CallsIn F n Tryz.prog 61 #[.func (.yield l) #[] #[], .pointer (some ⟨Bs, 0, none⟩)] W fun e W' => (∃ v, e = .returned v) ∧ J [] W' := by
 refine callsIn_of_wp Tryz.func61 rfl h7 ?_ hro
 simp only [Tryz.ntmps61, List.size_toArray, List.length_cons, List.length_nil, Nat.reduceAdd, Nat.reduceSub, Array.replicate_succ, Array.replicate_zero, List.push_toArray, List.append_toArray, List.nil_append, List.cons_append]
 gi_wp2
 gi_loopw [7] (fun i wr => i = .int .i64 0 ∧ J [] wr) (fun _ _ => 0)
 case atStart => exact ⟨rfl, h0⟩
 case round =>
  obtain ⟨rfl, hJs⟩ := hrel
  gi_wp2
  go_end0
  exact ⟨⟨_, rfl⟩, hJs⟩
theorem vals_stops (F : Fence) (n : Nat) (h7 : F.fn 61) (hro : F.round = none) (hn : 1 ≤ n) (Bs n₀ : Nat) (sv : Value) (zs : List Int) (hreach : zs.length * 8 ≤ 140737488351232) (w : World) (hBs : Bs < w.heap.size) (hn₀ : n₀ ≤ w.heap.size)
  (hc : w.cell? ⟨Bs, 0, none⟩ = some sv) (hI : ValsAt n₀ w sv zs) :
  SeqStopsK F n Tryz.prog 61 #[.pointer (some ⟨Bs, 0, none⟩)] (fun x : Int => #[Value.int .i64 x]) (Below n₀) (fun ys => ys = zs) (fun pre => pre <+: zs) zs.length w := fun l J Jx W hW _ _ hY h0 => by
 have hc' := (hW.cell (p := ⟨Bs, 0, none⟩) hBs).trans hc
 rcases hI.later (hW.mono hn₀) with ⟨rfl, rfl⟩ | ⟨b, off, cap, rfl, hb, hcs⟩
 ·exact (vals1_nil_in F n h7 hro l Bs J W hc' h0).mono fun e W' ⟨he, hj⟩ => ⟨he, .inl ⟨_, rfl, hj⟩⟩
 ·refine (vals1_in F n h7 hro hn l Bs n₀ b off zs.length cap zs hreach hb J Jx hY W hc' hcs h0).mono ?_
  rintro e W' ⟨he, ⟨ys, rfl, hj⟩ | ⟨pre, ⟨k, hk, rfl⟩, hj⟩⟩
  ·exact ⟨he, .inl ⟨_, by rw [valUpto_take zs (Nat.le_refl _), List.take_length], hj⟩⟩
  ·exact ⟨he, .inr ⟨_, by rw [valUpto_take zs hk]; exact List.take_prefix _ _, hj⟩⟩
set_option maxRecDepth 100000 in
set_option maxHeartbeats 1000000 in
theorem vals_calls (a : Option Addr) (len cap : Nat) (w : World) :
  Calls Tryz.prog 41 #[.slice a len cap] w fun e w' => e = .returned (.func (.func 61) #[] #[.pointer (some ⟨w.heap.size, 0, none⟩)]) ∧ w' = w.alloc (.cells #[.slice a len cap] 28) := by
 refine (callsIn_wide (n := 6)).1 ?_
 refine callsIn_of_wp Tryz.func41 rfl trivial ?_ rfl
 simp only [Tryz.ntmps41, List.size_toArray, List.length_cons, List.length_nil, Nat.reduceAdd, Nat.reduceSub, Array.replicate_succ, Array.replicate_zero, List.push_toArray, List.append_toArray, List.nil_append, List.cons_append]
 gi_wp2
 go_ret
 exact ⟨rfl, rfl⟩
theorem vals_own {W : World} {base : Nat} {v : Value} {zs : List Int} (h : W.ownsRow base 3 1 v zs.length (zs.map (Value.int .i64))) : Kd.R (Kd.int .i64) 3 W base (fun _ => True) v zs := ⟨fun _ _ => trivial, _, h, qHC⟩
set_option maxRecDepth 100000 in
set_option maxHeartbeats 2000000 in
theorem valsAppend_in (F : Fence) (n : Nat) (h3 : F.fn 72) (h7 : F.fn 61) (hro : F.round = none) (hn : 3 ≤ n) (Bs : Nat) (sv : Value) (zs : List Int) (hlen : zs.length ≤ maxLen) (hbytes : zs.length * 8 ≤ 140737488351232) (w : World) (hBs : Bs < w.heap.size)
  (hcs : w.cell? ⟨Bs, 0, none⟩ = some sv) (hI : ValsAt w.heap.size w sv zs) :
  CallsIn F n Tryz.prog 72 #[.slice none 0 0, .func (.func 61) #[] #[.pointer (some ⟨Bs, 0, none⟩)]] w fun e W' => ∃ v, e = .returned v ∧ W'.ownsRow w.heap.size 3 1 v zs.length (zs.map (Value.int .i64)) ∧ Below w.heap.size w W' := by
 have h1 : 1 ≤ n := by omega
 obtain ⟨i0, hi, hz0, hz1, hz2⟩ := info_parts P.info3
 refine callsIn_of_wp_marks Tryz.func72 rfl h3 ?_ hro
 simp only [Tryz.ntmps72, List.size_toArray, List.length_cons, List.length_nil, Nat.reduceAdd, Nat.reduceSub, Array.replicate_succ, Array.replicate_zero, List.push_toArray, List.append_toArray, List.nil_append, List.cons_append]
 gi_wp2
 have bO := Boxed.new w 28 (.slice none 0 0)
 have hB0 : Below w.heap.size w (w.alloc (.cells #[.slice none 0 0] 28)) := (Below.refl _ w).alloc (Nat.le_refl _) _
 refine wpIn_rangeFunc_ownG hro h1 (gf := 61) (lb := #[.pointer (some ⟨Bs, 0, none⟩)]) rfl h7 (enters_of Tryz.func61 (by kernel_rfl) rfl)
  (vals_stops F (n - 1) h7 hro (by omega) Bs w.heap.size sv zs hbytes _ (by simp; omega) (by simp) ((hB0.cell (p := ⟨Bs, 0, none⟩) hBs).trans hcs) (hI.later hB0)) belowK_t (belowK_b (by simp)) (Below.refl _ _) (fun _ => rfl)
  (fun pre W => (∃ v, Boxed W w.heap.size 28 v ∧ W.ownsRow w.heap.size 3 1 v pre.length (pre.map (Value.int .i64)) ∧ (v = .slice none 0 0 ↔ pre = [])) ∧ Below w.heap.size w W)
  (fun _ _ _ => False)
  (OwnFrom.and (Own.from (holdsRow_own w.heap.size w.heap.size 28 3 1 (fun pre => pre.length) (fun pre => pre.map (Value.int .i64)) (fun pre v => v = .slice none 0 0 ↔ pre = [])) _) (ownFrom_below (Nat.le_refl _) (by simp)))
  (fun _ _ _ _ _ hs _ _ => hs)
  ⟨⟨_, bO, World.ownsRow_nil _ _ _ _, by simp⟩, hB0⟩
  (fun x => { tmps := #[.slice none 0 0, .func (.func 61) #[] #[.pointer (some ⟨Bs, 0, none⟩)], .pointer (some ⟨w.heap.size, 0, none⟩), undef, .slice none 0 0, .int .i64 x, .func (.func 61) #[] #[.pointer (some ⟨Bs, 0, none⟩)], .int .i64 x, undef, undef, undef, undef, undef], defers := [] }) ?assign ?body ?done ?stop
 case assign =>
  intro l x W K hK
  gi_wp2
  exact hK
 case body =>
  rintro l pre x W ⟨⟨v, hv, hrow, hnil⟩, hB⟩ hlt
  have hc := hv.cell
  gi_wp2_with (gi_at_builtin; refine wpListIn_append_own _ rfl _ _ 28 rfl w.heap.size 3 i0 (.int .i64 0) 1 8 Tryz.underlying28 hi hz0 hz1 hz2 rfl (by decide) _ _ _ rfl (hrow.alloc _) ⟨W.heap.size, 0, none⟩ 1 1 [.int .i64 x] rfl rfl (cell_one_new _ _ _) (by simp [Value.oneCell']) (by omega) (by omega) (by have := hB.size; simp; omega) ?_; intro v' w1 hown' hgrow _; obtain ⟨g', cap', rfl⟩ := ownsRow_succ hown'; obtain ⟨hv1, hv2, hr2, hk2, hb2⟩ := hv.appended (by decide) hrow hB.size (Nat.le_refl _) hown' hgrow; have hc1 := hv1.cell; have hf1 := hv1.frozen)
  exact ⟨hk2.from _, hb2, ⟨_, hv2, by simpa using hr2, by simp⟩, hB.trans hb2⟩
 case done =>
  rintro D ys W hD rfl ⟨⟨v, hv, hrow, hnil⟩, hB⟩ hK
  have hc := hv.cell
  gi_wp2
  refine ⟨by simp, .inl ⟨_, _, rfl, run_takeDeferred hK, ?_⟩⟩
  exact ⟨_, results_tmp rfl _ _ _, v, rfl, ownsRow_putObj hrow _ hK rfl, hB.trans (belowK_b (w := w) (Nat.le_refl _) W D _ _ (by simp at hD; omega) hK rfl rfl)⟩
 case stop =>
  rintro D c pre W _ _ h _
  exact h.elim
set_option maxRecDepth 100000 in
set_option maxHeartbeats 1000000 in
theorem valsCollect_in (F : Fence) (n : Nat) (h8 : F.fn 59) (h3 : F.fn 72) (h7 : F.fn 61) (hro : F.round = none) (hn : 4 ≤ n) (Bs : Nat) (sv : Value) (zs : List Int) (hlen : zs.length ≤ maxLen) (hbytes : zs.length * 8 ≤ 140737488351232) (w : World) (hBs : Bs < w.heap.size)
  (hcs : w.cell? ⟨Bs, 0, none⟩ = some sv) (hI : ValsAt w.heap.size w sv zs) :
  CallsIn F n Tryz.prog 59 #[.func (.func 61) #[] #[.pointer (some ⟨Bs, 0, none⟩)]] w fun e W' => ∃ v, e = .returned v ∧ W'.ownsRow w.heap.size 3 1 v zs.length (zs.map (Value.int .i64)) ∧ Below w.heap.size w W' := by
 have h1 : 1 ≤ n := by omega
 refine callsIn_of_wp Tryz.func59 rfl h8 ?_ hro
 simp only [Tryz.ntmps59, List.size_toArray, List.length_cons, List.length_nil, Nat.reduceAdd, Nat.reduceSub, Array.replicate_succ, Array.replicate_zero, List.push_toArray, List.append_toArray, List.nil_append, List.cons_append]
 gi_wp2_with (gi_at_call 72; refine (valsAppend_in F (n - 1) h3 h7 hro (by omega) Bs sv zs hlen hbytes _ hBs hcs hI).mono ?_; rintro e w' ⟨v, rfl, hrow, hb⟩)
 go_ret
 exact ⟨v, rfl, hrow, hb⟩
set_option maxRecDepth 100000 in
set_option maxHeartbeats 1000000 in
theorem valsSorted.calls (Bs : Nat) (sv : Value) (zs : List Int) (hlen : zs.length ≤ maxLen) (hbytes : zs.length * 8 ≤ 140737488351232) (w : World) (hBs : Bs < w.heap.size)
  (hcs : w.cell? ⟨Bs, 0, none⟩ = some sv) (hI : ValsAt w.heap.size w sv zs) :
  Calls Tryz.prog 40 #[.func (.func 61) #[] #[.pointer (some ⟨Bs, 0, none⟩)]] w fun e w' => ∃ v, e = .returned v ∧ Kd.R (Kd.int .i64) 3 w' w.heap.size (fun _ => True) v (zs.mergeSort fun x y => decide (x ≤ y)) ∧ Below w.heap.size w w' := by
 have hs : qYA.f zs = some (zs.mergeSort fun x y => decide (x ≤ y)) := if_pos (by omega)
 have cC := valsCollect_in Fence.wide 5 trivial trivial trivial rfl (by omega) Bs sv zs hlen hbytes w hBs hcs hI
 have cS : ∀ (v : Value) (W : World), Below w.heap.size w W → Kd.R (Kd.int .i64) 3 W w.heap.size (fun _ => True) v zs → CallsIn Fence.wide 5 Tryz.prog 60 #[v] W fun e w' => e = .returned (.tuple #[]) ∧ Kd.R (Kd.int .i64) 3 w' w.heap.size (fun _ => True) v (zs.mergeSort fun x y => decide (x ≤ y)) ∧ Below w.heap.size w w' := fun v W hb hR =>
  callsIn_wide.2 ((qYA.calls (fun _ => True) v zs _ w W hb hR hs).mono fun e w' h => ⟨h.1, Kd.qf h.2.1 (fun _ _ => trivial), h.2.2.1⟩)
 have f1 : Fence.wide.fn 59 := trivial
 have f2 : Fence.wide.fn 60 := trivial
 clear hs hcs hI hlen hbytes
 refine (callsIn_wide (n := 6)).1 ?_
 refine callsIn_of_wp Tryz.func40 rfl trivial ?_ rfl
 simp only [Tryz.ntmps40, List.size_toArray, List.length_cons, List.length_nil, Nat.reduceAdd, Nat.reduceSub, Array.replicate_succ, Array.replicate_zero, List.push_toArray, List.append_toArray, List.nil_append, List.cons_append]
 gi_wp2_with (first
  | (gi_at_call 59; refine cC.mono ?_; rintro e w' ⟨v, rfl, hrow, hb⟩; have hR := Aside0.mk (vals_own hrow); have hB := Aside0.mk hb; clear hrow hb)
  | (gi_at_call 60; refine (cS v _ hB.out hR.out).mono ?_; rintro e w'' ⟨rfl, hR2, hB2⟩))
 go_ret
 exact ⟨v, rfl, hR2, hB2⟩
end Go.Proofs.YtdncpkppkafkpaaGreatDoor
namespace Go.Proofs
open Go.Shelf
def Tryz.compI_ren : Go.Shelf.Ren := ⟨fun | 20 => 39 | n => n, fun | 22 => 28 | 3 => 3 | 4 => 4 | 0 => 0 | n => n, fun | n => n⟩
theorem Tryz.compI : Go.Proofs.Lays2.n20 Tryz.prog Tryz.compI_ren := {
 mixed := by kernel_rfl
 f20 := Tryz.func39.trans (congrArg some (by kernel_rfl))
 t0 := Tryz.underlying0
 a0 := Tryz.isAgg0
 z0 := Tryz.sizeOf0
 v0 := Tryz.zeroValue0
 t3 := Tryz.underlying3
 a3 := Tryz.isAgg3
 z3 := Tryz.sizeOf3
 v3 := Tryz.zeroValue3
 t4 := Tryz.underlying4
 a4 := Tryz.isAgg4
 z4 := Tryz.sizeOf4
 v4 := Tryz.zeroValue4
 t22 := Tryz.underlying28
 a22 := Tryz.isAgg28
 z22 := Tryz.sizeOf28
 v22 := Tryz.zeroValue28
 i3 := by kernel_rfl }
end Go.Proofs
namespace Go.Proofs.YtdncpkppkafkpaaGreatDoor
open Go.RowKit Go.Sort Go.Proofs.YtdncpkppkafkpaaGreatDoorW.PrintWords Go.Proofs.YtdncpkppkafkpaaGreatDoorW.PrintLast
open Go.Lib (keeps compactUpTo)
set_option linter.unusedVariables false
set_option linter.unusedSimpArgs false
theorem compactI_len (l : List Int) : (Lib.compact l).length ≤ l.length := by
 unfold Lib.compact compactUpTo
 rw [List.length_map]
 exact Nat.le_trans (List.length_filter_le _ _) (by simp)
theorem compactI_put {cur : Array Value} {ys : List Int} {F : Array Int} (hF : F.toList.take ys.length = ys) (hN : F.size ≤ cur.size) (hy : ys.length ≤ F.size) :
  (putCells (Value.int .i64) 0 F cur).toList.take ys.length = ys.map (Value.int .i64) := by
 refine List.ext_getElem? fun i => ?_
 rw [List.getElem?_map, List.getElem?_take]
 by_cases hi : i < ys.length
 ·have hf : F[i]? = some ys[i] := by
   have : (F.toList.take ys.length)[i]? = some ys[i] := by rw [hF]; exact List.getElem?_eq_getElem hi
   rw [List.getElem?_take, if_pos hi] at this
   simpa using this
  rw [if_pos hi, List.getElem?_eq_getElem hi, Option.map_some, Array.getElem?_toList]
  simp only [putCells, Array.getElem?_mapIdx]
  rw [Array.getElem?_eq_getElem (show i < cur.size by omega), Option.map_some, if_pos ⟨Nat.zero_le _, by omega⟩, Nat.sub_zero]
  have hb : F[i]! = ys[i] := by simp [getElem!_def, hf]
  rw [hb]
 ·rw [if_neg hi, List.getElem?_eq_none (by omega)]; rfl
theorem compactIox.calls (ok : Nat → Prop) (v : Value) (l : List Int) (w0 w : World) (hB : Below w0.heap.size w0 w) (ho : Kd.R (Kd.int .i64) 3 w w0.heap.size ok v l) :
  Calls Tryz.prog 39 #[v] w fun e w' => ∃ v', e = .returned v' ∧ Kd.R (Kd.int .i64) 3 w' w0.heap.size ok v' (Lib.compact l) ∧ Below w0.heap.size w0 w' ∧ v'.ownBlock = v.ownBlock := by
 obtain ⟨hok, inner, hown, hr⟩ := ho
 have hi := qGC hr
 have hsz : (Kd.int .i64).sz = 1 := rfl
 rcases hown.2 with ⟨hv, hn⟩ | ⟨g, cap, cur, hv, hbase, hheap, hncap, hmax, hsize, htake⟩
 ·subst hv
  have hl : l = [] := List.eq_nil_of_length_eq_zero hn
  subst hl
  refine (Any.slices_Compact_int_empty Tryz.compI none 0 w).mono fun e w' hq => ?_
  obtain ⟨he, rfl⟩ := hq
  exact ⟨_, he, Kd.R_nil (Kd.int .i64) 3 w' w0.heap.size _, hB, rfl⟩
 ·subst hv
  rw [hsz, Nat.mul_one] at htake hsize
  have ht : cur.toList.take l.length = l.map (Value.int .i64) := by rw [htake, hi]
  have hg : g < w.heap.size := by
   rcases Nat.lt_or_ge g w.heap.size with h1 | h1
   ·exact h1
   ·rw [Array.getElem?_eq_none h1] at hheap; cases hheap
  have hmx : l.length ≤ 9223372036854775807 := Nat.le_trans hncap (Nat.le_trans hmax (by decide))
  refine (Any.slices_Compact_int Tryz.compI g 0 cap l w (sortI_holds hheap ht) hmx hncap).mono fun e w' hq => ?_
  obtain ⟨he, q, rfl⟩ := hq
  have hle := compactI_len l
  generalize hF : (Lib.compact l ++ List.replicate (l.length - (Lib.compact l).length) 0).toArray = F
  have hFs : F.size = l.length := by rw [← hF]; simp; omega
  have hFt : F.toList.take (Lib.compact l).length = Lib.compact l := by rw [← hF]; simp
  have hoth : ∀ k, k < w.heap.size → k ≠ g → (putRow (Value.int .i64) (Sort.ahead w q) g 0 F).heap[k]? = w.heap[k]? := by
   intro k hk hne
   simp only [putRow, mapBlock, Array.getElem?_modify, if_neg (Ne.symm hne), heap_ahead]
  have hown' : (putRow (Value.int .i64) (Sort.ahead w q) g 0 F).heap[g]? = some (.cells (putCells (Value.int .i64) 0 F cur) 3 (0, 0)) := by
   simp only [putRow, mapBlock, Array.getElem?_modify, heap_ahead, hheap, if_true, Option.map_some, onCells]
  refine ⟨_, he, ⟨hok, (Lib.compact l).map (Value.int .i64), ⟨by simp [hsz], .inr ⟨g, cap, _, rfl, hbase, hown', Nat.le_trans hle hncap, hmax, by rw [hsz, Nat.mul_one]; simpa [putCells] using hsize, ?_⟩⟩, qHC⟩, ⟨hB.os, hB.tape, hB.output, Nat.le_trans hB.size (by simp), ?_⟩, rfl⟩
  ·rw [hsz, Nat.mul_one]
   exact compactI_put hFt (by omega) (by omega)
  ·intro k hk
   rw [hoth k (Nat.lt_of_lt_of_le hk hB.size) (by omega)]
   exact hB.block k hk
end Go.Proofs.YtdncpkppkafkpaaGreatDoor
namespace Go.Proofs.YtdncpkppkafkpaaGreatDoor.P
open Go.RowKit Go.Proofs.YtdncpkppkafkpaaGreatDoorW.PrintWords Go.Proofs.YtdncpkppkafkpaaGreatDoorW.PrintLast Go.Proofs.YtdncpkppkafkpaaGreatDoorW.PrintMore
attribute [local go_sem] qw qu qHA qGA qj qi qv qt
set_option linter.unusedVariables false
set_option linter.unusedSimpArgs false
def qKB.f  : Option (Int × Int × Int × Int × Int × Int) := some (0, 1, 2, 3, 4, 5)
set_option maxHeartbeats 8000000 in
set_option maxRecDepth 100000 in
theorem qKB.calls  (r1 : Int) (r2 : Int) (r3 : Int) (r4 : Int) (r5 : Int) (r6 : Int) (w : World) (h : qKB.f  = some (r1, r2, r3, r4, r5, r6)) :
  Calls Tryz.prog 54 #[] w fun e w' => e = .returned (.agg #[.int .i64 r1, .int .i64 r2, .int .i64 r3, .int .i64 r4, .int .i64 r5, .int .i64 r6]) ∧ Below w.heap.size w w' := by
 have hu53 := Tryz.underlying53
 have HB := Aside0.mk (Below.refl w.heap.size w)
 have H : (some (0, 1, 2, 3, 4, 5)) = some (r1, r2, r3, r4, r5, r6) := h
 clear h
 simp only [Option.some.injEq, Prod.mk.injEq] at H
 obtain ⟨rfl, rfl, rfl, rfl, rfl, rfl⟩ := H
 go_enter Tryz.func54, Tryz.ntmps54
 go_wp2_with (first | ((with_reducible refine qX (N := 0) rfl ?_); refine qV ?hg (N := 0) ?hd (cs := #[.int .i64 0, .int .i64 0, .int .i64 0, .int .i64 0, .int .i64 0, .int .i64 0]) (t := 53) ?hr ?_; (case hd => rfl); (case hg => rfl); (case hr => first | (go_simp; done) | (go_simp; rfl)); intro gb258 hg w1 hbox hb; have n0_ := Aside0.mk (qK bl hb); have n1_ := Aside0.mk (hbox); have n2_ := Aside0.mk ((gg hg)); have n3_ := Aside0.mk ((gg hg)); clear HB; have HB := n0_; have BK258 := n1_; have GW258 := n2_; have GE258 := n3_; clear n0_ n1_ n2_ n3_; clear hb hbox hg; have hcz2_0 := bc BK258 0; have hcz2_1 := bc BK258 1; have hcz2_2 := bc BK258 2; have hcz2_3 := bc BK258 3; have hcz2_4 := bc BK258 4; have hcz2_5 := bc BK258 5; have hfz2_0 := qA BK258.out 0; have hfz2_1 := qA BK258.out 1; have hfz2_2 := qA BK258.out 2; have hfz2_3 := qA BK258.out 3; have hfz2_4 := qA BK258.out 4; have hfz2_5 := qA BK258.out 5))
 refine bodyPost_ret (results_cell_row rfl _ _ gb258 53 #[.int .i64 0, .int .i64 1, .int .i64 2, .int .i64 3, .int .i64 4, .int .i64 5] (0, 0) _ rfl (by (with_reducible repeat (first | refine qC ?_ _ | refine qD ?_ | refine qB ?_ _)); refine qR (cs := #[.int .i64 0, .int .i64 1, .int .i64 2, .int .i64 3, .int .i64 4, .int .i64 0]) ?_ 5 _ rfl; (with_reducible repeat (first | refine qC ?_ _ | refine qD ?_ | refine qB ?_ _)); refine qR (cs := #[.int .i64 0, .int .i64 1, .int .i64 2, .int .i64 3, .int .i64 0, .int .i64 0]) ?_ 4 _ rfl; (with_reducible repeat (first | refine qC ?_ _ | refine qD ?_ | refine qB ?_ _)); refine qR (cs := #[.int .i64 0, .int .i64 1, .int .i64 2, .int .i64 0, .int .i64 0, .int .i64 0]) ?_ 3 _ rfl; (with_reducible repeat (first | refine qC ?_ _ | refine qD ?_ | refine qB ?_ _)); refine qR (cs := #[.int .i64 0, .int .i64 1, .int .i64 0, .int .i64 0, .int .i64 0, .int .i64 0]) ?_ 2 _ rfl; (with_reducible repeat (first | refine qC ?_ _ | refine qD ?_ | refine qB ?_ _)); refine qR (cs := #[.int .i64 0, .int .i64 0, .int .i64 0, .int .i64 0, .int .i64 0, .int .i64 0]) ?_ 1 _ rfl; (with_reducible repeat (first | refine qC ?_ _ | refine qD ?_ | refine qB ?_ _)); refine qR (cs := #[.int .i64 0, .int .i64 0, .int .i64 0, .int .i64 0, .int .i64 0, .int .i64 0]) ?_ 0 _ rfl; (with_reducible repeat (first | refine qC ?_ _ | refine qD ?_ | refine qB ?_ _)); exact BK258.out) Tryz.underlying53 rfl (by kernel_rfl)) rfl ?_
 exact ⟨by first | rfl | (simp [qN, qM] <;> rfl) | (simp [*, qN, qM] <;> rfl), bl⟩
theorem eqA75 (d : Nat) (w : World) (x0 y0 : Int) (x1 y1 : Int) :
  (Op.equalIn (d + 2) 75 (.agg #[.int .i64 x0, .int .i64 x1]) (.agg #[.int .i64 y0, .int .i64 y1])).run Tryz.prog w = .ok (x0 == y0 && (x1 == y1)) w := by
 have e : ∀ a b : Int, (Op.equalIn (d + 1) 3 (.int .i64 a) (.int .i64 b)).run Tryz.prog w = .ok (a == b) w := fun a b => run_equalIn_int (P := Tryz.prog) w d 3 .i64 .i64 a b Tryz.underlying3
 have p0 : ∀ a0 a1 : Int, (part 3 #[.int .i64 a0, .int .i64 a1] 0).run Tryz.prog w = .ok (.int .i64 a0) w := fun a0 a1 => by go_simp; try rfl
 have p1 : ∀ a0 a1 : Int, (part 3 #[.int .i64 a0, .int .i64 a1] 1).run Tryz.prog w = .ok (.int .i64 a1) w := fun a0 a1 => by go_simp; try rfl
 have hs : (Go.sizeOf 3).run Tryz.prog w = .ok 1 w := by go_simp; try rfl
 have hr : List.range' 0 2 = [0, 1] := by decide
 rw [Op.equalIn]
 simp only [Sem.run_bind, run_underlying Tryz.underlying75, Result.andThen_ok, hs]
 simp only [Std.Legacy.Range.forIn_eq_forIn_range', Std.Legacy.Range.size]
 simp [hr, List.forIn_cons, p0, p1, e, Sem.run_bind, Sem.run_ite]
 by_cases h0 : x0 = y0 <;> by_cases h1 : x1 = y1 <;> simp [h0, h1]
end Go.Proofs.YtdncpkppkafkpaaGreatDoor.P
namespace Go.Proofs.YtdncpkppkafkpaaGreatDoor.P
open Go.RowKit Go.Proofs.YtdncpkppkafkpaaGreatDoorW.PrintWords Go.Proofs.YtdncpkppkafkpaaGreatDoorW.PrintLast Go.Proofs.YtdncpkppkafkpaaGreatDoorW.PrintMore
attribute [local go_sem] qw qu qHA qGA qj qi qv qt
set_option linter.unusedVariables false
set_option linter.unusedSimpArgs false
attribute [local go_sem high] eqA75
def qP.l0 : Nat → List (S75) → Int → Int → Int → Int → Option (Int)
 | 0, _, _, _, _, _ => none
 | k + 1, x0, x7, x8, x260000, x260001 => if x8 < x7 then (if 0 ≤ x8 then (if x8 < (x0.length : Int) then (if (x260000 == ((qBA x0 x8).f0) && (x260001 == ((qBA x0 x8).f1))) = true then (some x8) else (qP.l0 k x0 x7 (wrap64 (x8 + 1)) x260000 x260001)) else (none)) else (none)) else (some (-1))
def qP.f (k : Nat) (l0 : List (S75)) (a1_0 : Int) (a1_1 : Int) : Option (Int) := qP.l0 k l0 (l0.length : Int) 0 a1_0 a1_1
set_option maxHeartbeats 8000000 in
set_option maxRecDepth 100000 in
theorem qP.calls (k : Nat) (A0 : Option Addr) (c0 : Nat) (l0 : List (S75)) (a1_0 : Int) (a1_1 : Int) (r : Int) (w : World) (hr0 : Kd.C k75 w A0 l0.length l0) (hc0 : l0.length ≤ c0) (h : qP.f k l0 a1_0 a1_1 = some r) :
  Calls Tryz.prog 71 #[.slice A0 l0.length c0, .agg #[.int .i64 a1_0, .int .i64 a1_1]] w fun e w' => e = .returned (.int .i64 r) ∧ Below w.heap.size w w' := by
 have hu75 := Tryz.underlying75
 have HR0 := Aside0.mk hr0
 have HC0 := Aside0.mk hc0
 clear hr0 hc0
 have HB := Aside0.mk (Below.refl w.heap.size w)
 have H : (qP.l0 k l0 (l0.length : Int) 0 a1_0 a1_1) = some r := h
 clear h
 have H' := Aside0.mk H
 clear H
 go_enter Tryz.func71, Tryz.ntmps71
 go_wp2_with (first | ((with_reducible refine qX (N := 3) rfl ?_); refine qV ?hg (N := 3) ?hd (cs := #[.int .i64 a1_0, .int .i64 a1_1]) (t := 75) ?hr ?_; (case hd => rfl); (case hg => rfl); (case hr => first | (go_simp; done) | (go_simp; rfl)); intro gb259 hg w3 hbox hb; have n0_ := Aside0.mk (qK bl hb); have n1_ := Aside0.mk (hbox); have n2_ := Aside0.mk ((gg hg)); have n3_ := Aside0.mk ((gg hg)); clear HB; have HB := n0_; have BK259 := n1_; have GW259 := n2_; have GE259 := n3_; clear n0_ n1_ n2_ n3_; clear hb hbox hg))
 repeat (go_quiet (first | ((with_reducible refine qX (N := 3) rfl ?_); refine qV ?hg (N := 3) ?hd (cs := #[.int .i64 a1_0, .int .i64 a1_1]) (t := 75) ?hr ?_; (case hd => rfl); (case hg => rfl); (case hr => first | (go_simp; done) | (go_simp; rfl)); intro gb259 hg w3 hbox hb; have n0_ := Aside0.mk (qK bl hb); have n1_ := Aside0.mk (hbox); have n2_ := Aside0.mk ((gg hg)); have n3_ := Aside0.mk ((gg hg)); clear HB; have HB := n0_; have BK259 := n1_; have GW259 := n2_; have GE259 := n3_; clear n0_ n1_ n2_ n3_; clear hb hbox hg)); try go_wp2_with (first | ((with_reducible refine qX (N := 3) rfl ?_); refine qV ?hg (N := 3) ?hd (cs := #[.int .i64 a1_0, .int .i64 a1_1]) (t := 75) ?hr ?_; (case hd => rfl); (case hg => rfl); (case hr => first | (go_simp; done) | (go_simp; rfl)); intro gb259 hg w3 hbox hb; have n0_ := Aside0.mk (qK bl hb); have n1_ := Aside0.mk (hbox); have n2_ := Aside0.mk ((gg hg)); have n3_ := Aside0.mk ((gg hg)); clear HB; have HB := n0_; have BK259 := n1_; have GW259 := n2_; have GE259 := n3_; clear n0_ n1_ n2_ n3_; clear hb hbox hg)))
 go_loopg [8] k (fun kq v8 w' => ∃ (x8_1 : Int), v8 = .int .i64 x8_1 ∧ Aside0 (qP.l0 kq l0 (l0.length : Int) x8_1 a1_0 a1_1 = some r) ∧ Aside0 (kq ≤ k) ∧ Aside0 (w'.heap[gb259]? = some (.cells #[.int .i64 a1_0, .int .i64 a1_1] 75 (0, 0))) ∧ Aside0 (Below w.heap.size w w'))
 case atStart => exact ⟨(0), (by first | rfl | (simp; done) | (simp [*]; done)), H', ⟨Nat.le_refl _⟩, ⟨by (with_reducible repeat (first | refine qC ?_ _ | refine qD ?_ | refine qB ?_ _)); exact BK259.out⟩, ⟨bl⟩⟩
 case round =>
  clear H'
  try clear p2
  obtain ⟨x8_1, rfl, HA, HK1, BK259, HB⟩ := hrel
  cases gk with
  | zero => exact absurd HA.out (by simp [qP.l0])
  | succ k1 =>
   have H := HA.out
   clear HA
   simp only [qP.l0] at H
   by_cases c4 : x8_1 < (l0.length : Int)
   ·rw [if_pos c4] at H
    have c4b0 : decide (x8_1 < (l0.length : Int)) = true := decide_eq_true c4
    clear c4
    by_cases c5 : 0 ≤ x8_1
    ·rw [if_pos c5] at H
     have c5b0 : decide (0 ≤ x8_1) = true := decide_eq_true c5
     clear c5
     by_cases c6 : x8_1 < (l0.length : Int)
     ·rw [if_pos c6] at H
      have c6b0 : decide (x8_1 < (l0.length : Int)) = true := decide_eq_true c6
      clear c6
      by_cases c7 : (a1_0 == ((qBA l0 x8_1).f0) && (a1_1 == ((qBA l0 x8_1).f1))) = true
      ·rw [if_pos c7] at H
       have c7b0 : (a1_0 == ((qBA l0 x8_1).f0) && (a1_1 == ((qBA l0 x8_1).f1))) = true := c7
       (try (have c7b1 : decide (a1_0 = ((qBA l0 x8_1).f0) && (a1_1 == ((qBA l0 x8_1).f1))) = true := by simpa using c7))
       (try (have c7b2 : (a1_0 == ((qBA l0 x8_1).f0) && (a1_1 == ((qBA l0 x8_1).f1))) = true := by simpa using c7))
       clear c7
       obtain rfl := Option.some.inj H
       have hcz8_0 := bc BK259 0
       have hcz8_1 := bc BK259 1
       have hfz8_0 := qA BK259.out 0
       have hfz8_1 := qA BK259.out 1
       have p260 : 0 ≤ (x8_1 : Int) := of_decide_eq_true (by first | (with_reducible assumption) | assumption)
       have q260 : x8_1 < (l0.length : Int) := of_decide_eq_true (by first | (with_reducible assumption) | assumption)
       obtain ⟨ad260, e260, hx260_0, hx260_1⟩ := qOC HR0.out x8_1 p260 q260
       cases e260
       replace hx260_0 := (HB.out.cell (World.block_lt_of_cell? w _ hx260_0)).trans hx260_0
       replace hx260_1 := (HB.out.cell (World.block_lt_of_cell? w _ hx260_1)).trans hx260_1
       replace p260 := eq_true p260
       replace q260 := eq_true q260
       go_wp2
       repeat (go_quiet (fail); try go_wp2)
       go_ret
       exact ⟨by first | rfl | (simp [qN, qM] <;> rfl) | (simp [*, qN, qM] <;> rfl), bl⟩
      ·rw [if_neg c7] at H
       have c7b0 : (a1_0 == ((qBA l0 x8_1).f0) && (a1_1 == ((qBA l0 x8_1).f1))) = false := by simpa using c7
       (try (have c7b1 : decide (a1_0 = ((qBA l0 x8_1).f0) && (a1_1 == ((qBA l0 x8_1).f1))) = false := by simpa using c7))
       (try (have c7b2 : (a1_0 == ((qBA l0 x8_1).f0) && (a1_1 == ((qBA l0 x8_1).f1))) = false := by simpa using c7))
       (try (have c7b3 : ¬ (a1_0 = ((qBA l0 x8_1).f0) && (a1_1 == ((qBA l0 x8_1).f1))) := by simpa using c7))
       clear c7
       have H' := Aside0.mk H
       clear H
       have hcz9_0 := bc BK259 0
       have hcz9_1 := bc BK259 1
       have hfz9_0 := qA BK259.out 0
       have hfz9_1 := qA BK259.out 1
       have p260 : 0 ≤ (x8_1 : Int) := of_decide_eq_true (by first | (with_reducible assumption) | assumption)
       have q260 : x8_1 < (l0.length : Int) := of_decide_eq_true (by first | (with_reducible assumption) | assumption)
       obtain ⟨ad260, e260, hx260_0, hx260_1⟩ := qOC HR0.out x8_1 p260 q260
       cases e260
       replace hx260_0 := (HB.out.cell (World.block_lt_of_cell? w _ hx260_0)).trans hx260_0
       replace hx260_1 := (HB.out.cell (World.block_lt_of_cell? w _ hx260_1)).trans hx260_1
       replace p260 := eq_true p260
       replace q260 := eq_true q260
       go_wp2
       repeat (go_quiet (fail); try go_wp2)
       go_roundg k1
       case measure => have := HK1.out; omega
       case rel => exact ⟨(wrap64 (x8_1 + 1)), (by first | rfl | (simp; done) | (simp [*]; done)), H', ⟨by have := HK1.out; omega⟩, ⟨by (with_reducible repeat (first | refine qC ?_ _ | refine qD ?_ | refine qB ?_ _)); exact BK259.out⟩, ⟨bl⟩⟩
     ·rw [if_neg c6] at H
      exact absurd H (by simp)
    ·rw [if_neg c5] at H
     exact absurd H (by simp)
   ·rw [if_neg c4] at H
    have c4b0 : decide (x8_1 < (l0.length : Int)) = false := decide_eq_false c4
    clear c4
    obtain rfl := Option.some.inj H
    go_wp2
    repeat (go_quiet (fail); try go_wp2)
    go_ret
    exact ⟨by first | rfl | (simp [qN, qM] <;> rfl) | (simp [*, qN, qM] <;> rfl), bl⟩
end Go.Proofs.YtdncpkppkafkpaaGreatDoor.P
namespace Go.Proofs.YtdncpkppkafkpaaGreatDoor.P
open Go.RowKit Go.Proofs.YtdncpkppkafkpaaGreatDoorW.PrintWords Go.Proofs.YtdncpkppkafkpaaGreatDoorW.PrintLast Go.Proofs.YtdncpkppkafkpaaGreatDoorW.PrintMore
attribute [local go_sem] qw qu qHA qGA qj qi qv qt
set_option linter.unusedVariables false
set_option linter.unusedSimpArgs false
def qLA.f (k : Nat) (l0 : List (S75)) (a1 : Int) (a2 : Int) : Option (Int) := (qP.f k l0 a1 a2).bind fun t261 => (some t261)
set_option maxHeartbeats 8000000 in
set_option maxRecDepth 100000 in
theorem qLA.calls (k : Nat) (A0 : Option Addr) (c0 : Nat) (l0 : List (S75)) (a1 : Int) (a2 : Int) (r : Int) (w : World) (hr0 : Kd.C k75 w A0 l0.length l0) (hc0 : l0.length ≤ c0) (h : qLA.f k l0 a1 a2 = some r) :
  Calls Tryz.prog 55 #[.slice A0 l0.length c0, .int .i64 a1, .int .i64 a2] w fun e w' => e = .returned (.int .i64 r) ∧ Below w.heap.size w w' := by
 have hu75 := Tryz.underlying75
 have HR0 := Aside0.mk hr0
 have HC0 := Aside0.mk hc0
 clear hr0 hc0
 have HB := Aside0.mk (Below.refl w.heap.size w)
 have H : ((qP.f k l0 a1 a2).bind fun t261 => (some t261)) = some r := h
 clear h
 replace H := Option.bind_eq_some_iff.mp H
 obtain ⟨t261, A40, H⟩ := H
 replace H : (some t261) = some r := H
 have A4 := Aside0.mk A40
 clear A40
 obtain rfl := Option.some.inj H
 go_enter Tryz.func55, Tryz.ntmps55
 go_wp2_with (first | ((with_reducible refine qb (f := 71) rfl ?_); refine qRA (some 11) rfl rfl Tryz.func71 (by kernel_rfl) rfl #[.slice A0 l0.length c0, .agg #[.int .i64 a1, .int .i64 a2]] rfl (by (try simp only [List.map_toArray, List.map_cons, List.map_nil]); first | done | rfl | (simp only [List.length_drop, List.length_take]; rfl)) ?_; (with_reducible refine (qP.calls k _ _ l0 a1 a2 t261 _ ?side1 ?side2 A4.out).mono ?_); (case side1 => repeat (first | exact HR0.out | (with_reducible refine Kd.qcA ?_ _) | (with_reducible refine Kd.qbA ?_ _) | (with_reducible refine Kd.qtA ?_))); (case side2 => exact HC0.out); rintro e w5 ⟨rfl, hb⟩; refine ⟨_, rfl, ?_⟩; have n0_ := Aside0.mk (qK bl hb); clear HB; have HB := n0_; clear n0_; (try clear hb); (try clear hb2); (try clear hk); (try clear hi)))
 go_ret
 exact ⟨by first | rfl | (simp [qN, qM] <;> rfl) | (simp [*, qN, qM] <;> rfl), bl⟩
def qCB.f (a0 : Int) (a1 : Int) (a2 : Int) : Option (Int × Int) := if a2 = 110 then (some (a0, wrap64 (a1 - 1))) else (if a2 = 101 then (some (wrap64 (a0 + 1), a1)) else (if a2 = 115 then (some (a0, wrap64 (a1 + 1))) else (some (wrap64 (a0 - 1), a1))))
set_option maxHeartbeats 8000000 in
set_option maxRecDepth 100000 in
theorem qCB.calls (a0 : Int) (a1 : Int) (a2 : Int) (r1 : Int) (r2 : Int) (w : World) (h : qCB.f a0 a1 a2 = some (r1, r2)) :
  Calls Tryz.prog 56 #[.int .i64 a0, .int .i64 a1, .int .u8 a2] w fun e w' => e = .returned (.tuple #[.int .i64 r1, .int .i64 r2]) ∧ Drawn0 w w' := by
 have H : (if a2 = 110 then (some (a0, wrap64 (a1 - 1))) else (if a2 = 101 then (some (wrap64 (a0 + 1), a1)) else (if a2 = 115 then (some (a0, wrap64 (a1 + 1))) else (some (wrap64 (a0 - 1), a1))))) = some (r1, r2) := h
 clear h
 by_cases c4 : a2 = 110
 ·rw [if_pos c4] at H
  have c4b0 : (a2 == 110) = true := beq_iff_eq.mpr c4
  have c4b1 : (a2 != 110) = false := bne_eq_false_iff_eq.mpr c4
  clear c4
  simp only [Option.some.injEq, Prod.mk.injEq] at H
  obtain ⟨rfl, rfl⟩ := H
  go_enter Tryz.func56, Tryz.ntmps56
  go_wp2
  go_ret2
  exact ⟨by first | rfl | (simp; done) | (simp [*]; done), by repeat (first | exact Drawn0.refl _ | apply Drawn0.step)⟩
 ·rw [if_neg c4] at H
  have c4b0 : (a2 == 110) = false := beq_eq_false_iff_ne.mpr c4
  have c4b1 : (a2 != 110) = true := bne_iff_ne.mpr c4
  by_cases c5 : a2 = 101
  ·rw [if_pos c5] at H
   have c5b0 : (a2 == 101) = true := beq_iff_eq.mpr c5
   have c5b1 : (a2 != 101) = false := bne_eq_false_iff_eq.mpr c5
   clear c5
   simp only [Option.some.injEq, Prod.mk.injEq] at H
   obtain ⟨rfl, rfl⟩ := H
   go_enter Tryz.func56, Tryz.ntmps56
   go_wp2
   go_ret2
   exact ⟨by first | rfl | (simp; done) | (simp [*]; done), by repeat (first | exact Drawn0.refl _ | apply Drawn0.step)⟩
  ·rw [if_neg c5] at H
   have c5b0 : (a2 == 101) = false := beq_eq_false_iff_ne.mpr c5
   have c5b1 : (a2 != 101) = true := bne_iff_ne.mpr c5
   by_cases c6 : a2 = 115
   ·rw [if_pos c6] at H
    have c6b0 : (a2 == 115) = true := beq_iff_eq.mpr c6
    have c6b1 : (a2 != 115) = false := bne_eq_false_iff_eq.mpr c6
    clear c6
    simp only [Option.some.injEq, Prod.mk.injEq] at H
    obtain ⟨rfl, rfl⟩ := H
    go_enter Tryz.func56, Tryz.ntmps56
    go_wp2
    go_ret2
    exact ⟨by first | rfl | (simp; done) | (simp [*]; done), by repeat (first | exact Drawn0.refl _ | apply Drawn0.step)⟩
   ·rw [if_neg c6] at H
    have c6b0 : (a2 == 115) = false := beq_eq_false_iff_ne.mpr c6
    have c6b1 : (a2 != 115) = true := bne_iff_ne.mpr c6
    simp only [Option.some.injEq, Prod.mk.injEq] at H
    obtain ⟨rfl, rfl⟩ := H
    go_enter Tryz.func56, Tryz.ntmps56
    go_wp2
    go_ret2
    exact ⟨by first | rfl | (simp; done) | (simp [*]; done), by repeat (first | exact Drawn0.refl _ | apply Drawn0.step)⟩
def qPA.f (a0_0 : Int) (a0_1 : Int) (a0_2 : Int) (a0_3 : Int) (a0_4 : Int) (a0_5 : Int) (a1 : Int) : Option (Int × Int × Int × Int × Int × Int) := if a1 = 110 then (some (a0_3, a0_0, a0_2, a0_5, a0_4, a0_1)) else (if a1 = 101 then (some (a0_4, a0_1, a0_0, a0_3, a0_5, a0_2)) else (if a1 = 115 then (some (a0_1, a0_5, a0_2, a0_0, a0_4, a0_3)) else (some (a0_2, a0_1, a0_5, a0_3, a0_0, a0_4))))
set_option maxHeartbeats 8000000 in
set_option maxRecDepth 100000 in
theorem qPA.calls (a0_0 : Int) (a0_1 : Int) (a0_2 : Int) (a0_3 : Int) (a0_4 : Int) (a0_5 : Int) (a1 : Int) (r1 : Int) (r2 : Int) (r3 : Int) (r4 : Int) (r5 : Int) (r6 : Int) (w : World) (h : qPA.f a0_0 a0_1 a0_2 a0_3 a0_4 a0_5 a1 = some (r1, r2, r3, r4, r5, r6)) :
  Calls Tryz.prog 57 #[.agg #[.int .i64 a0_0, .int .i64 a0_1, .int .i64 a0_2, .int .i64 a0_3, .int .i64 a0_4, .int .i64 a0_5], .int .u8 a1] w fun e w' => e = .returned (.agg #[.int .i64 r1, .int .i64 r2, .int .i64 r3, .int .i64 r4, .int .i64 r5, .int .i64 r6]) ∧ Below w.heap.size w w' := by
 have hu53 := Tryz.underlying53
 have HB := Aside0.mk (Below.refl w.heap.size w)
 have H : (if a1 = 110 then (some (a0_3, a0_0, a0_2, a0_5, a0_4, a0_1)) else (if a1 = 101 then (some (a0_4, a0_1, a0_0, a0_3, a0_5, a0_2)) else (if a1 = 115 then (some (a0_1, a0_5, a0_2, a0_0, a0_4, a0_3)) else (some (a0_2, a0_1, a0_5, a0_3, a0_0, a0_4))))) = some (r1, r2, r3, r4, r5, r6) := h
 clear h
 by_cases c3 : a1 = 110
 ·rw [if_pos c3] at H
  have c3b0 : (a1 == 110) = true := beq_iff_eq.mpr c3
  have c3b1 : (a1 != 110) = false := bne_eq_false_iff_eq.mpr c3
  clear c3
  simp only [Option.some.injEq, Prod.mk.injEq] at H
  obtain ⟨rfl, rfl, rfl, rfl, rfl, rfl⟩ := H
  go_enter Tryz.func57, Tryz.ntmps57
  go_wp2_with (first | ((with_reducible refine qX (N := 2) rfl ?_); refine qV ?hg (N := 2) ?hd (cs := #[.int .i64 a0_0, .int .i64 a0_1, .int .i64 a0_2, .int .i64 a0_3, .int .i64 a0_4, .int .i64 a0_5]) (t := 53) ?hr ?_; (case hd => rfl); (case hg => rfl); (case hr => first | (go_simp; done) | (go_simp; rfl)); intro gb262 hg w4 hbox hb; have n0_ := Aside0.mk (qK bl hb); have n1_ := Aside0.mk (hbox); have n2_ := Aside0.mk ((gg hg)); have n3_ := Aside0.mk ((gg hg)); clear HB; have HB := n0_; have BK262 := n1_; have GW262 := n2_; have GE262 := n3_; clear n0_ n1_ n2_ n3_; clear hb hbox hg) | ((with_reducible refine qX (N := 4) rfl ?_); refine qV ?hg (N := 4) ?hd (cs := #[.int .i64 0, .int .i64 0, .int .i64 0, .int .i64 0, .int .i64 0, .int .i64 0]) (t := 53) ?hr ?_; (case hd => rfl); (case hg => rfl); (case hr => first | (go_simp; done) | (go_simp; rfl)); intro gb263 hg w5 hbox hb; have n0_ := Aside0.mk (bb BK262 hb); have n1_ := Aside0.mk (qK bl hb); have n2_ := Aside0.mk (hbox); have n3_ := Aside0.mk ((gg hg)); have n4_ := Aside0.mk ((gg hg)); have n5_ := Aside0.mk ((nl BK262 hg)); have n6_ := Aside0.mk ((nr BK262 hg)); clear BK262; clear HB; have BK262 := n0_; have HB := n1_; have BK263 := n2_; have GW263 := n3_; have GE263 := n4_; have NB262_263 := n5_; have NB263_262 := n6_; clear n0_ n1_ n2_ n3_ n4_ n5_ n6_; clear hb hbox hg; have hnb6 := NB262_263.out; have hnc6 := NB263_262.out; have hcz7_0 := bc BK262 0; have hcz7_1 := bc BK262 1; have hcz7_2 := bc BK262 2; have hcz7_3 := bc BK262 3; have hcz7_4 := bc BK262 4; have hcz7_5 := bc BK262 5; have hfz7_0 := qA BK262.out 0; have hfz7_1 := qA BK262.out 1; have hfz7_2 := qA BK262.out 2; have hfz7_3 := qA BK262.out 3; have hfz7_4 := qA BK262.out 4; have hfz7_5 := qA BK262.out 5; have hcz8_0 := bc BK263 0; have hcz8_1 := bc BK263 1; have hcz8_2 := bc BK263 2; have hcz8_3 := bc BK263 3; have hcz8_4 := bc BK263 4; have hcz8_5 := bc BK263 5; have hfz8_0 := qA BK263.out 0; have hfz8_1 := qA BK263.out 1; have hfz8_2 := qA BK263.out 2; have hfz8_3 := qA BK263.out 3; have hfz8_4 := qA BK263.out 4; have hfz8_5 := qA BK263.out 5))
  refine bodyPost_ret (results_cell_row rfl _ _ gb263 53 #[.int .i64 a0_3, .int .i64 a0_0, .int .i64 a0_2, .int .i64 a0_5, .int .i64 a0_4, .int .i64 a0_1] (0, 0) _ rfl (by (with_reducible repeat (first | refine qC ?_ _ | refine qD ?_ | refine qB ?_ _)); refine qR (cs := #[.int .i64 a0_3, .int .i64 a0_0, .int .i64 a0_2, .int .i64 a0_5, .int .i64 a0_4, .int .i64 0]) ?_ 5 _ rfl; (with_reducible repeat (first | refine qC ?_ _ | refine qD ?_ | refine qB ?_ _)); refine qR (cs := #[.int .i64 a0_3, .int .i64 a0_0, .int .i64 a0_2, .int .i64 a0_5, .int .i64 0, .int .i64 0]) ?_ 4 _ rfl; (with_reducible repeat (first | refine qC ?_ _ | refine qD ?_ | refine qB ?_ _)); refine qR (cs := #[.int .i64 a0_3, .int .i64 a0_0, .int .i64 a0_2, .int .i64 0, .int .i64 0, .int .i64 0]) ?_ 3 _ rfl; (with_reducible repeat (first | refine qC ?_ _ | refine qD ?_ | refine qB ?_ _)); refine qR (cs := #[.int .i64 a0_3, .int .i64 a0_0, .int .i64 0, .int .i64 0, .int .i64 0, .int .i64 0]) ?_ 2 _ rfl; (with_reducible repeat (first | refine qC ?_ _ | refine qD ?_ | refine qB ?_ _)); refine qR (cs := #[.int .i64 a0_3, .int .i64 0, .int .i64 0, .int .i64 0, .int .i64 0, .int .i64 0]) ?_ 1 _ rfl; (with_reducible repeat (first | refine qC ?_ _ | refine qD ?_ | refine qB ?_ _)); refine qR (cs := #[.int .i64 0, .int .i64 0, .int .i64 0, .int .i64 0, .int .i64 0, .int .i64 0]) ?_ 0 _ rfl; (with_reducible repeat (first | refine qC ?_ _ | refine qD ?_ | refine qB ?_ _)); exact BK263.out) Tryz.underlying53 rfl (by kernel_rfl)) rfl ?_
  exact ⟨by first | rfl | (simp [qN, qM] <;> rfl) | (simp [*, qN, qM] <;> rfl), bl⟩
 ·rw [if_neg c3] at H
  have c3b0 : (a1 == 110) = false := beq_eq_false_iff_ne.mpr c3
  have c3b1 : (a1 != 110) = true := bne_iff_ne.mpr c3
  by_cases c9 : a1 = 101
  ·rw [if_pos c9] at H
   have c9b0 : (a1 == 101) = true := beq_iff_eq.mpr c9
   have c9b1 : (a1 != 101) = false := bne_eq_false_iff_eq.mpr c9
   clear c9
   simp only [Option.some.injEq, Prod.mk.injEq] at H
   obtain ⟨rfl, rfl, rfl, rfl, rfl, rfl⟩ := H
   go_enter Tryz.func57, Tryz.ntmps57
   go_wp2_with (first | ((with_reducible refine qX (N := 2) rfl ?_); refine qV ?hg (N := 2) ?hd (cs := #[.int .i64 a0_0, .int .i64 a0_1, .int .i64 a0_2, .int .i64 a0_3, .int .i64 a0_4, .int .i64 a0_5]) (t := 53) ?hr ?_; (case hd => rfl); (case hg => rfl); (case hr => first | (go_simp; done) | (go_simp; rfl)); intro gb262 hg w10 hbox hb; have n0_ := Aside0.mk (qK bl hb); have n1_ := Aside0.mk (hbox); have n2_ := Aside0.mk ((gg hg)); have n3_ := Aside0.mk ((gg hg)); clear HB; have HB := n0_; have BK262 := n1_; have GW262 := n2_; have GE262 := n3_; clear n0_ n1_ n2_ n3_; clear hb hbox hg) | ((with_reducible refine qX (N := 4) rfl ?_); refine qV ?hg (N := 4) ?hd (cs := #[.int .i64 0, .int .i64 0, .int .i64 0, .int .i64 0, .int .i64 0, .int .i64 0]) (t := 53) ?hr ?_; (case hd => rfl); (case hg => rfl); (case hr => first | (go_simp; done) | (go_simp; rfl)); intro gb263 hg w11 hbox hb; have n0_ := Aside0.mk (bb BK262 hb); have n1_ := Aside0.mk (qK bl hb); have n2_ := Aside0.mk (hbox); have n3_ := Aside0.mk ((gg hg)); have n4_ := Aside0.mk ((gg hg)); have n5_ := Aside0.mk ((nl BK262 hg)); have n6_ := Aside0.mk ((nr BK262 hg)); clear BK262; clear HB; have BK262 := n0_; have HB := n1_; have BK263 := n2_; have GW263 := n3_; have GE263 := n4_; have NB262_263 := n5_; have NB263_262 := n6_; clear n0_ n1_ n2_ n3_ n4_ n5_ n6_; clear hb hbox hg; have hnb12 := NB262_263.out; have hnc12 := NB263_262.out; have hcz13_0 := bc BK262 0; have hcz13_1 := bc BK262 1; have hcz13_2 := bc BK262 2; have hcz13_3 := bc BK262 3; have hcz13_4 := bc BK262 4; have hcz13_5 := bc BK262 5; have hfz13_0 := qA BK262.out 0; have hfz13_1 := qA BK262.out 1; have hfz13_2 := qA BK262.out 2; have hfz13_3 := qA BK262.out 3; have hfz13_4 := qA BK262.out 4; have hfz13_5 := qA BK262.out 5; have hcz14_0 := bc BK263 0; have hcz14_1 := bc BK263 1; have hcz14_2 := bc BK263 2; have hcz14_3 := bc BK263 3; have hcz14_4 := bc BK263 4; have hcz14_5 := bc BK263 5; have hfz14_0 := qA BK263.out 0; have hfz14_1 := qA BK263.out 1; have hfz14_2 := qA BK263.out 2; have hfz14_3 := qA BK263.out 3; have hfz14_4 := qA BK263.out 4; have hfz14_5 := qA BK263.out 5))
   refine bodyPost_ret (results_cell_row rfl _ _ gb263 53 #[.int .i64 a0_4, .int .i64 a0_1, .int .i64 a0_0, .int .i64 a0_3, .int .i64 a0_5, .int .i64 a0_2] (0, 0) _ rfl (by (with_reducible repeat (first | refine qC ?_ _ | refine qD ?_ | refine qB ?_ _)); refine qR (cs := #[.int .i64 a0_4, .int .i64 a0_1, .int .i64 a0_0, .int .i64 a0_3, .int .i64 a0_5, .int .i64 0]) ?_ 5 _ rfl; (with_reducible repeat (first | refine qC ?_ _ | refine qD ?_ | refine qB ?_ _)); refine qR (cs := #[.int .i64 a0_4, .int .i64 a0_1, .int .i64 a0_0, .int .i64 a0_3, .int .i64 0, .int .i64 0]) ?_ 4 _ rfl; (with_reducible repeat (first | refine qC ?_ _ | refine qD ?_ | refine qB ?_ _)); refine qR (cs := #[.int .i64 a0_4, .int .i64 a0_1, .int .i64 a0_0, .int .i64 0, .int .i64 0, .int .i64 0]) ?_ 3 _ rfl; (with_reducible repeat (first | refine qC ?_ _ | refine qD ?_ | refine qB ?_ _)); refine qR (cs := #[.int .i64 a0_4, .int .i64 a0_1, .int .i64 0, .int .i64 0, .int .i64 0, .int .i64 0]) ?_ 2 _ rfl; (with_reducible repeat (first | refine qC ?_ _ | refine qD ?_ | refine qB ?_ _)); refine qR (cs := #[.int .i64 a0_4, .int .i64 0, .int .i64 0, .int .i64 0, .int .i64 0, .int .i64 0]) ?_ 1 _ rfl; (with_reducible repeat (first | refine qC ?_ _ | refine qD ?_ | refine qB ?_ _)); refine qR (cs := #[.int .i64 0, .int .i64 0, .int .i64 0, .int .i64 0, .int .i64 0, .int .i64 0]) ?_ 0 _ rfl; (with_reducible repeat (first | refine qC ?_ _ | refine qD ?_ | refine qB ?_ _)); exact BK263.out) Tryz.underlying53 rfl (by kernel_rfl)) rfl ?_
   exact ⟨by first | rfl | (simp [qN, qM] <;> rfl) | (simp [*, qN, qM] <;> rfl), bl⟩
  ·rw [if_neg c9] at H
   have c9b0 : (a1 == 101) = false := beq_eq_false_iff_ne.mpr c9
   have c9b1 : (a1 != 101) = true := bne_iff_ne.mpr c9
   by_cases c15 : a1 = 115
   ·rw [if_pos c15] at H
    have c15b0 : (a1 == 115) = true := beq_iff_eq.mpr c15
    have c15b1 : (a1 != 115) = false := bne_eq_false_iff_eq.mpr c15
    clear c15
    simp only [Option.some.injEq, Prod.mk.injEq] at H
    obtain ⟨rfl, rfl, rfl, rfl, rfl, rfl⟩ := H
    go_enter Tryz.func57, Tryz.ntmps57
    go_wp2_with (first | ((with_reducible refine qX (N := 2) rfl ?_); refine qV ?hg (N := 2) ?hd (cs := #[.int .i64 a0_0, .int .i64 a0_1, .int .i64 a0_2, .int .i64 a0_3, .int .i64 a0_4, .int .i64 a0_5]) (t := 53) ?hr ?_; (case hd => rfl); (case hg => rfl); (case hr => first | (go_simp; done) | (go_simp; rfl)); intro gb262 hg w16 hbox hb; have n0_ := Aside0.mk (qK bl hb); have n1_ := Aside0.mk (hbox); have n2_ := Aside0.mk ((gg hg)); have n3_ := Aside0.mk ((gg hg)); clear HB; have HB := n0_; have BK262 := n1_; have GW262 := n2_; have GE262 := n3_; clear n0_ n1_ n2_ n3_; clear hb hbox hg) | ((with_reducible refine qX (N := 4) rfl ?_); refine qV ?hg (N := 4) ?hd (cs := #[.int .i64 0, .int .i64 0, .int .i64 0, .int .i64 0, .int .i64 0, .int .i64 0]) (t := 53) ?hr ?_; (case hd => rfl); (case hg => rfl); (case hr => first | (go_simp; done) | (go_simp; rfl)); intro gb263 hg w17 hbox hb; have n0_ := Aside0.mk (bb BK262 hb); have n1_ := Aside0.mk (qK bl hb); have n2_ := Aside0.mk (hbox); have n3_ := Aside0.mk ((gg hg)); have n4_ := Aside0.mk ((gg hg)); have n5_ := Aside0.mk ((nl BK262 hg)); have n6_ := Aside0.mk ((nr BK262 hg)); clear BK262; clear HB; have BK262 := n0_; have HB := n1_; have BK263 := n2_; have GW263 := n3_; have GE263 := n4_; have NB262_263 := n5_; have NB263_262 := n6_; clear n0_ n1_ n2_ n3_ n4_ n5_ n6_; clear hb hbox hg; have hnb18 := NB262_263.out; have hnc18 := NB263_262.out; have hcz19_0 := bc BK262 0; have hcz19_1 := bc BK262 1; have hcz19_2 := bc BK262 2; have hcz19_3 := bc BK262 3; have hcz19_4 := bc BK262 4; have hcz19_5 := bc BK262 5; have hfz19_0 := qA BK262.out 0; have hfz19_1 := qA BK262.out 1; have hfz19_2 := qA BK262.out 2; have hfz19_3 := qA BK262.out 3; have hfz19_4 := qA BK262.out 4; have hfz19_5 := qA BK262.out 5; have hcz20_0 := bc BK263 0; have hcz20_1 := bc BK263 1; have hcz20_2 := bc BK263 2; have hcz20_3 := bc BK263 3; have hcz20_4 := bc BK263 4; have hcz20_5 := bc BK263 5; have hfz20_0 := qA BK263.out 0; have hfz20_1 := qA BK263.out 1; have hfz20_2 := qA BK263.out 2; have hfz20_3 := qA BK263.out 3; have hfz20_4 := qA BK263.out 4; have hfz20_5 := qA BK263.out 5))
    refine bodyPost_ret (results_cell_row rfl _ _ gb263 53 #[.int .i64 a0_1, .int .i64 a0_5, .int .i64 a0_2, .int .i64 a0_0, .int .i64 a0_4, .int .i64 a0_3] (0, 0) _ rfl (by (with_reducible repeat (first | refine qC ?_ _ | refine qD ?_ | refine qB ?_ _)); refine qR (cs := #[.int .i64 a0_1, .int .i64 a0_5, .int .i64 a0_2, .int .i64 a0_0, .int .i64 a0_4, .int .i64 0]) ?_ 5 _ rfl; (with_reducible repeat (first | refine qC ?_ _ | refine qD ?_ | refine qB ?_ _)); refine qR (cs := #[.int .i64 a0_1, .int .i64 a0_5, .int .i64 a0_2, .int .i64 a0_0, .int .i64 0, .int .i64 0]) ?_ 4 _ rfl; (with_reducible repeat (first | refine qC ?_ _ | refine qD ?_ | refine qB ?_ _)); refine qR (cs := #[.int .i64 a0_1, .int .i64 a0_5, .int .i64 a0_2, .int .i64 0, .int .i64 0, .int .i64 0]) ?_ 3 _ rfl; (with_reducible repeat (first | refine qC ?_ _ | refine qD ?_ | refine qB ?_ _)); refine qR (cs := #[.int .i64 a0_1, .int .i64 a0_5, .int .i64 0, .int .i64 0, .int .i64 0, .int .i64 0]) ?_ 2 _ rfl; (with_reducible repeat (first | refine qC ?_ _ | refine qD ?_ | refine qB ?_ _)); refine qR (cs := #[.int .i64 a0_1, .int .i64 0, .int .i64 0, .int .i64 0, .int .i64 0, .int .i64 0]) ?_ 1 _ rfl; (with_reducible repeat (first | refine qC ?_ _ | refine qD ?_ | refine qB ?_ _)); refine qR (cs := #[.int .i64 0, .int .i64 0, .int .i64 0, .int .i64 0, .int .i64 0, .int .i64 0]) ?_ 0 _ rfl; (with_reducible repeat (first | refine qC ?_ _ | refine qD ?_ | refine qB ?_ _)); exact BK263.out) Tryz.underlying53 rfl (by kernel_rfl)) rfl ?_
    exact ⟨by first | rfl | (simp [qN, qM] <;> rfl) | (simp [*, qN, qM] <;> rfl), bl⟩
   ·rw [if_neg c15] at H
    have c15b0 : (a1 == 115) = false := beq_eq_false_iff_ne.mpr c15
    have c15b1 : (a1 != 115) = true := bne_iff_ne.mpr c15
    simp only [Option.some.injEq, Prod.mk.injEq] at H
    obtain ⟨rfl, rfl, rfl, rfl, rfl, rfl⟩ := H
    go_enter Tryz.func57, Tryz.ntmps57
    go_wp2_with (first | ((with_reducible refine qX (N := 2) rfl ?_); refine qV ?hg (N := 2) ?hd (cs := #[.int .i64 a0_0, .int .i64 a0_1, .int .i64 a0_2, .int .i64 a0_3, .int .i64 a0_4, .int .i64 a0_5]) (t := 53) ?hr ?_; (case hd => rfl); (case hg => rfl); (case hr => first | (go_simp; done) | (go_simp; rfl)); intro gb262 hg w21 hbox hb; have n0_ := Aside0.mk (qK bl hb); have n1_ := Aside0.mk (hbox); have n2_ := Aside0.mk ((gg hg)); have n3_ := Aside0.mk ((gg hg)); clear HB; have HB := n0_; have BK262 := n1_; have GW262 := n2_; have GE262 := n3_; clear n0_ n1_ n2_ n3_; clear hb hbox hg) | ((with_reducible refine qX (N := 4) rfl ?_); refine qV ?hg (N := 4) ?hd (cs := #[.int .i64 0, .int .i64 0, .int .i64 0, .int .i64 0, .int .i64 0, .int .i64 0]) (t := 53) ?hr ?_; (case hd => rfl); (case hg => rfl); (case hr => first | (go_simp; done) | (go_simp; rfl)); intro gb263 hg w22 hbox hb; have n0_ := Aside0.mk (bb BK262 hb); have n1_ := Aside0.mk (qK bl hb); have n2_ := Aside0.mk (hbox); have n3_ := Aside0.mk ((gg hg)); have n4_ := Aside0.mk ((gg hg)); have n5_ := Aside0.mk ((nl BK262 hg)); have n6_ := Aside0.mk ((nr BK262 hg)); clear BK262; clear HB; have BK262 := n0_; have HB := n1_; have BK263 := n2_; have GW263 := n3_; have GE263 := n4_; have NB262_263 := n5_; have NB263_262 := n6_; clear n0_ n1_ n2_ n3_ n4_ n5_ n6_; clear hb hbox hg; have hnb23 := NB262_263.out; have hnc23 := NB263_262.out; have hcz24_0 := bc BK262 0; have hcz24_1 := bc BK262 1; have hcz24_2 := bc BK262 2; have hcz24_3 := bc BK262 3; have hcz24_4 := bc BK262 4; have hcz24_5 := bc BK262 5; have hfz24_0 := qA BK262.out 0; have hfz24_1 := qA BK262.out 1; have hfz24_2 := qA BK262.out 2; have hfz24_3 := qA BK262.out 3; have hfz24_4 := qA BK262.out 4; have hfz24_5 := qA BK262.out 5; have hcz25_0 := bc BK263 0; have hcz25_1 := bc BK263 1; have hcz25_2 := bc BK263 2; have hcz25_3 := bc BK263 3; have hcz25_4 := bc BK263 4; have hcz25_5 := bc BK263 5; have hfz25_0 := qA BK263.out 0; have hfz25_1 := qA BK263.out 1; have hfz25_2 := qA BK263.out 2; have hfz25_3 := qA BK263.out 3; have hfz25_4 := qA BK263.out 4; have hfz25_5 := qA BK263.out 5))
    refine bodyPost_ret (results_cell_row rfl _ _ gb263 53 #[.int .i64 a0_2, .int .i64 a0_1, .int .i64 a0_5, .int .i64 a0_3, .int .i64 a0_0, .int .i64 a0_4] (0, 0) _ rfl (by (with_reducible repeat (first | refine qC ?_ _ | refine qD ?_ | refine qB ?_ _)); refine qR (cs := #[.int .i64 a0_2, .int .i64 a0_1, .int .i64 a0_5, .int .i64 a0_3, .int .i64 a0_0, .int .i64 0]) ?_ 5 _ rfl; (with_reducible repeat (first | refine qC ?_ _ | refine qD ?_ | refine qB ?_ _)); refine qR (cs := #[.int .i64 a0_2, .int .i64 a0_1, .int .i64 a0_5, .int .i64 a0_3, .int .i64 0, .int .i64 0]) ?_ 4 _ rfl; (with_reducible repeat (first | refine qC ?_ _ | refine qD ?_ | refine qB ?_ _)); refine qR (cs := #[.int .i64 a0_2, .int .i64 a0_1, .int .i64 a0_5, .int .i64 0, .int .i64 0, .int .i64 0]) ?_ 3 _ rfl; (with_reducible repeat (first | refine qC ?_ _ | refine qD ?_ | refine qB ?_ _)); refine qR (cs := #[.int .i64 a0_2, .int .i64 a0_1, .int .i64 0, .int .i64 0, .int .i64 0, .int .i64 0]) ?_ 2 _ rfl; (with_reducible repeat (first | refine qC ?_ _ | refine qD ?_ | refine qB ?_ _)); refine qR (cs := #[.int .i64 a0_2, .int .i64 0, .int .i64 0, .int .i64 0, .int .i64 0, .int .i64 0]) ?_ 1 _ rfl; (with_reducible repeat (first | refine qC ?_ _ | refine qD ?_ | refine qB ?_ _)); refine qR (cs := #[.int .i64 0, .int .i64 0, .int .i64 0, .int .i64 0, .int .i64 0, .int .i64 0]) ?_ 0 _ rfl; (with_reducible repeat (first | refine qC ?_ _ | refine qD ?_ | refine qB ?_ _)); exact BK263.out) Tryz.underlying53 rfl (by kernel_rfl)) rfl ?_
    exact ⟨by first | rfl | (simp [qN, qM] <;> rfl) | (simp [*, qN, qM] <;> rfl), bl⟩
end Go.Proofs.YtdncpkppkafkpaaGreatDoor.P
