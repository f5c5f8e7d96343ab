/- The program's CountLoops returns what the reference's returns, for all lists of dice (the law lets longer lists by). No further condition. -/
import Derived.Test.YtbnpplakmihhbaaKFnExactCountLoops0
import Derived.Test.YtbnpplakmihhbaaProg
import Derived.Below
import Derived.Deep.Draws
import Derived.Laws.OwnMore
import Derived.Laws.Rows
import Derived.WalkKit
import Derived.KernelRfl
import Derived.Lib.ConvBytes
import Derived.Laws.BytesArg
import Derived.Laws.MakeOwn
import Derived.Deep.LoopGhost
import Derived.Deep.QuietTactic
import Derived.BigQuiet
import Derived.Deep.RegionHeld3
import Derived.Lib.Hide
import Derived.Shelf.Abstract
import Derived.Outline
import Derived.Deep.MidRow
import Derived.ChangeArms
import Derived.ChangeSame
import Derived.Deep.Slices
import Derived.ProofKit
import Derived.OpenShut
import Derived.SizedLaws

namespace Go.Proofs.Ytbnpplakmihhbaa.P
open Go.RowKit Go.Proofs.YtbnpplakmihhbaaW.PrintWords Go.Proofs.YtbnpplakmihhbaaW.PrintLast Go.Proofs.YtbnpplakmihhbaaW.PrintMore
attribute [local go_sem] qf qe qn qm qb qa qi qh
set_option linter.unusedVariables false
set_option linter.unusedSimpArgs false
mutual
def qD.l0 : Nat → List (S29) → Int → List (List Int) → Int → Option ((List (List Int)))
 | 0, _, _, _, _ => none
 | k + 1, x0, x3, x4, x5 => (qd.f k 3 x3).bind fun t230 => (if x5 < t230 then (if 0 ≤ x3 then (if (x3 : Int).toNat ≤ 35184372088832 then (qD.l1 k x0 x3 x4 x5 x5 (wrap64 (x3 - 1)) (List.replicate (x3 : Int).toNat 0)) else (none)) else (none)) else (some x4))
def qD.l1 : Nat → List (S29) → Int → List (List Int) → Int → Int → Int → List Int → Option ((List (List Int)))
 | 0, _, _, _, _, _, _, _ => none
 | k + 1, x0, x3, x4, x5, x7, x8, x26 => if x8 ≥ 0 then (if 0 ≤ x8 then (if x8 < (x26.length : Int) then (qD.l1 k x0 x3 x4 x5 (wrap64 (Int.tdiv x7 3)) (wrap64 (x8 - 1)) (x26.set (x8 : Int).toNat (Int.tmod x7 3))) else (none)) else (none)) else (if 0 ≤ (wrap64 (x3 + 1)) then (if (wrap64 (x3 + 1) : Int).toNat ≤ 35184372088832 then (qD.l2 k x0 x3 x4 x5 true x26 (List.replicate (wrap64 (x3 + 1) : Int).toNat 0) x0 (x0.length : Int) 0) else (none)) else (none))
def qD.l2 : Nat → List (S29) → Int → List (List Int) → Int → Bool → List Int → List Int → List (S29) → Int → Int → Option ((List (List Int)))
 | 0, _, _, _, _, _, _, _, _, _, _ => none
 | k + 1, x0, x3, x4, x5, x10, x26, x43, x44, x45, x46 => if x46 < x45 then (if 0 ≤ x46 then (if x46 < (x44.length : Int) then ((qj.f ((qB x44 x46).f0) ((qB x44 x46).f1) ((qB x44 x46).f2) ((qB x44 x46).f3) ((qB x44 x46).f4) ((qB x44 x46).f5)).bind fun t240 => (if x46 < (x26.length : Int) then (if 0 ≤ (rd x26 x46) then (if (rd x26 x46) < (t240.length : Int) then (qD.l3 k x0 x3 x4 x5 x10 x26 x43 x44 x45 x46 (rd_L1 t240 (rd x26 x46)) ((rd_L1 t240 (rd x26 x46)).length : Int) 0) else (none)) else (none)) else (none))) else (none)) else (none)) else (if 1 ≤ (x43.length : Int) then ((some (x43.drop 1 : List Int)).bind fun y249 => (qD.l4 k x0 x3 x4 x5 x10 x26 y249 (y249.length : Int) 0)) else (none))
def qD.l3 : Nat → List (S29) → Int → List (List Int) → Int → Bool → List Int → List Int → List (S29) → Int → Int → List Int → Int → Int → Option ((List (List Int)))
 | 0, _, _, _, _, _, _, _, _, _, _, _, _, _ => none
 | k + 1, x0, x3, x4, x5, x10, x26, x43, x44, x45, x46, x58, x59, x60 => if x60 < x59 then (if 0 ≤ x60 then (if x60 < (x58.length : Int) then ((qv.f (rd x58 x60) 1 x3).bind fun t246 => (if t246 = true then (if 0 ≤ (rd x58 x60) then (if (rd x58 x60) < (x43.length : Int) then (qD.l3 k x0 x3 x4 x5 x10 x26 (x43.set ((rd x58 x60) : Int).toNat (wrap64 ((rd x43 (rd x58 x60)) + 1))) x44 x45 x46 x58 x59 (wrap64 (x60 + 1))) else (none)) else (none)) else (qD.l3 k x0 x3 x4 x5 false x26 x43 x44 x45 x46 x58 x59 (wrap64 (x60 + 1))))) else (none)) else (none)) else (qD.l2 k x0 x3 x4 x5 x10 x26 x43 x44 x45 (wrap64 (x46 + 1)))
def qD.l4 : Nat → List (S29) → Int → List (List Int) → Int → Bool → List Int → List Int → Int → Int → Option ((List (List Int)))
 | 0, _, _, _, _, _, _, _, _, _ => none
 | k + 1, x0, x3, x4, x5, x10, x26, x77, x78, x79 => if x79 < x78 then (if 0 ≤ x79 then (if x79 < (x77.length : Int) then (if x10 = true then (qD.l4 k x0 x3 x4 x5 ((rd x77 x79) == 2) x26 x77 x78 (wrap64 (x79 + 1))) else (qD.l4 k x0 x3 x4 x5 false x26 x77 x78 (wrap64 (x79 + 1)))) else (none)) else (none)) else (if x10 = true then (if x4.length < 5864062014805 then (qD.l0 k x0 x3 (x4 ++ [x26]) (wrap64 (x5 + 1))) else (none)) else (qD.l0 k x0 x3 x4 (wrap64 (x5 + 1))))
end
def qD.f (k : Nat) (l0 : List (S29)) : Option ((List (List Int))) := qD.l0 k l0 (l0.length : Int) ([] : List (List Int)) 0
def qD.T18 : Bool × List (List Nat × List Nat) := (true, [([], []), ([0], [0]), ([], []), ([], []), ([2, 3], [2, 3]), ([4], [4]), ([1, 5], [1, 5]), ([6], [6]), ([7], [7]), ([], [])])
def qD.B18 : List Nat := [0, 1, 0, 0, 12, 28, 63, 127, 255, 0]
theorem qD.tab18 : rtab .any (opsOf Try.f29 18) = qD.T18 := by kernel_rfl
theorem qD.bits18 : waitsOk qD.T18.2 qD.B18 = true := by kernel_rfl
set_option maxHeartbeats 8000000 in
set_option maxRecDepth 100000 in
theorem qD.calls (k : Nat) (A0 : Option Addr) (c0 : Nat) (l0 : List (S29)) (r : List (List Int)) (w : World) (hr0 : Kd.C k29 w A0 l0.length l0) (hc0 : l0.length ≤ c0) (h : qD.f k l0 = some r) :
  Calls Try.prog 29 #[.slice A0 l0.length c0] w fun e w' => ∃ v0_ : Value, e = .returned (v0_) ∧ Kd.N (Kd.slice 3 (Kd.int .i64)) 42 w' w.heap.size (fun k_ => (w.heap.size ≤ k_)) v0_ r ∧ Below w.heap.size w w' := by
 have hu29 := Try.underlying29
 have HR0 := Aside0.mk hr0
 have HC0 := Aside0.mk hc0
 clear hr0 hc0
 have HB := Aside0.mk (Below.refl w.heap.size w)
 have H : (qD.l0 k l0 (l0.length : Int) ([] : List (List Int)) 0) = some r := h
 clear h
 have H' := Aside0.mk H
 clear H
 go_enter Try.func29, Try.ntmps29
 go_wp2
 go_loopg [4, 5] k (fun kq v4 v5 w' => ∃ (x4_1 : List (List Int)) (x5_1 : Int), v5 = .int .i64 x5_1 ∧ Aside0 (qD.l0 kq l0 (l0.length : Int) x4_1 x5_1 = some r) ∧ Aside0 (kq ≤ k) ∧ Aside0 (Kd.N (Kd.slice 3 (Kd.int .i64)) 42 w' w.heap.size (fun k_ => (w.heap.size ≤ k_)) v4 x4_1) ∧ Aside0 (Below w.heap.size w w'))
 case atStart => exact ⟨(([] : List (List Int))), (0), (by first | rfl | (simp; done) | (simp [*]; done)), H', ⟨Nat.le_refl _⟩, ⟨by first | exact Kd.S_nil _ _ _ _ _ | exact Kd.N_nil _ _ _ _ _ | exact Kd.V_nil _ _ _ _ _ | exact Kd.Q_nil _ _ _ _ _ | exact Kd.R_nil _ _ _ _ _⟩, ⟨bl⟩⟩
 case round =>
  clear H'
  obtain ⟨x4_1, x5_1, rfl, HA, HK1, HO_4, HB⟩ := hrel
  cases gk with
  | zero => exact absurd HA.out (by simp [qD.l0])
  | succ k1 =>
   have H := HA.out
   clear HA
   simp only [qD.l0] at H
   replace H := Option.bind_eq_some_iff.mp H
   obtain ⟨t230, A20, H⟩ := H
   replace H : (if x5_1 < t230 then (if 0 ≤ (l0.length : Int) then (if ((l0.length : Int) : Int).toNat ≤ 35184372088832 then (qD.l1 k1 l0 (l0.length : Int) x4_1 x5_1 x5_1 (wrap64 ((l0.length : Int) - 1)) (List.replicate ((l0.length : Int) : Int).toNat 0)) else (none)) else (none)) else (some x4_1)) = some r := H
   have A2 := Aside0.mk A20
   clear A20
   by_cases c3 : x5_1 < t230
   ·rw [if_pos c3] at H
    have c3b0 : decide (x5_1 < t230) = true := decide_eq_true c3
    clear c3
    by_cases c4 : 0 ≤ (l0.length : Int)
    ·rw [if_pos c4] at H
     have c4b0 := eq_true c4
     have c4b1 : decide (0 ≤ (l0.length : Int)) = true := decide_eq_true c4
     clear c4
     by_cases c5 : ((l0.length : Int) : Int).toNat ≤ 35184372088832
     ·rw [if_pos c5] at H
      have c5b0 := eq_true c5
      have c5b1 : decide (((l0.length : Int) : Int).toNat ≤ 35184372088832) = true := decide_eq_true c5
      clear c5
      obtain ⟨y231, hy231⟩ : ∃ y_ : List Int, y_ = (List.replicate ((l0.length : Int) : Int).toNat 0) := ⟨_, rfl⟩
      replace H : (qD.l1 k1 l0 (l0.length : Int) x4_1 x5_1 x5_1 (wrap64 ((l0.length : Int) - 1)) y231) = some r := by first | (rw [hy231]; with_reducible exact H) | (have H2_ := (Option.bind_some _ _).symm.trans H; rw [hy231]; with_reducible exact H2_) | (have H2_ := (Option.bind_some _ _).symm.trans H; with_reducible exact H2_) | with_reducible exact H | (rw [hy231]; exact H) | exact H
      have Ny231 := Aside0.mk hy231
      clear hy231
      have H' := Aside0.mk H
      clear H
      go_wp2_with (first | ((with_reducible refine qM (f := 42) rfl ?_); refine qo (some 21) rfl rfl Try.func42 (by kernel_rfl) rfl #[.int .i64 3, .int .i64 (l0.length : Int)] rfl (by (try simp only [List.map_toArray, List.map_cons, List.map_nil]); first | done | rfl | (simp only [List.length_drop, List.length_take]; rfl)) ?_; (with_reducible refine (qd.calls k1 3 (l0.length : Int) t230 _ A2.out).mono ?_); rintro e w' ⟨rfl, ⟨nd, rfl⟩⟩; refine ⟨_, rfl, ?_⟩) | ((with_reducible refine qV (N := 26) rfl ?_); refine Kd.qqB (Kd.int .i64) _ 3 rfl (N := 26) rfl 42 _ _ rfl (l0.length : Int) rfl rfl Try.underlying42 (.int .i64 0) 8 info3 rfl (by decide) (by omega) 0 (ok := fun _ => True) (okp := fun _ => True) rfl (fun _ hk => hk) trivial (of_decide_eq_true (by first | (with_reducible assumption) | assumption)) (Nat.le_trans (Nat.mul_le_mul_right _ (of_decide_eq_true (by first | (with_reducible assumption) | assumption) : (l0.length : Int).toNat ≤ 35184372088832)) (by omega)) (Below.refl _ _) (Nat.le_refl _) ?_; intro v232 w6 ho7 hb hg_ hnew_; clear hg_ hnew_; (first | rw [← Ny231.out] at ho7 | (simp only [Int.reduceToNat] at ho7; rw [← Ny231.out] at ho7)); have n0_ := Aside0.mk (Kd.qYB (by (with_reducible repeat (first | apply Kd.qt | apply Kd.qs | apply Kd.qHA)); exact HO_4.out) (Kd.qWA ho7) hb); have n1_ := Aside0.mk (Kd.qr (Kd.qbB (M := fun k_ => (w.heap.size ≤ k_)) ho7 (qL bl) (fun k_ h_ => h_)) (qL bl)); have n2_ := Aside0.mk (qF bl hb); clear HO_4; clear HB; have HO_4 := n0_; have HO233 := n1_; have HB := n2_; clear n0_ n1_ n2_; clear hb ho7))
      go_loopg [7, 8] k1 (fun kq v7 v8 w' => ∃ (x7_2 : Int) (x8_2 : Int) (x26_2 : List Int), v7 = .int .i64 x7_2 ∧ v8 = .int .i64 x8_2 ∧ Aside0 (qD.l1 kq l0 (l0.length : Int) x4_1 x5_1 x7_2 x8_2 x26_2 = some r) ∧ Aside0 (kq ≤ k1) ∧ Aside0 (Kd.N (Kd.slice 3 (Kd.int .i64)) 42 w' w.heap.size (fun k_ => (w.heap.size ≤ k_) ∧ some k_ ≠ (v232 : Value).ownBlock) u4 x4_1) ∧ Aside0 (Kd.R (Kd.int .i64) 3 w' w.heap.size (fun k_ => (w.heap.size ≤ k_)) v232 x26_2) ∧ Aside0 (Below w.heap.size w w'))
      case atStart => exact ⟨(x5_1), (wrap64 ((l0.length : Int) - 1)), (y231), (by first | rfl | (simp; done) | (simp [*]; done)), (by first | rfl | (simp; done) | (simp [*]; done)), H', ⟨Nat.le_refl _⟩, ⟨by (with_reducible repeat (first | apply Kd.qt | apply Kd.qs | apply Kd.qHA)); exact HO_4.out⟩, ⟨by (with_reducible repeat (first | apply Kd.qT | apply Kd.qS | apply Kd.qY)); exact Kd.qAA HO233.out (fun _ hk => hk.1)⟩, ⟨bl⟩⟩
      case round =>
       clear H'
       try clear c2
       try clear p2
       try clear c3
       try clear c3b0
       try clear c4
       try clear c4b0
       try clear c4b1
       try clear c5
       try clear c5b0
       try clear c5b1
       try clear p6
       obtain ⟨x7_2, x8_2, x26_2, rfl, rfl, HA, HK2, HO_4, HO_26, HB⟩ := hrel
       cases gk with
       | zero => exact absurd HA.out (by simp [qD.l1])
       | succ k2 =>
        have H := HA.out
        clear HA
        simp only [qD.l1] at H
        by_cases c8 : x8_2 ≥ 0
        ·rw [if_pos c8] at H
         have c8b0 : decide (0 ≤ x8_2) = true := decide_eq_true c8
         clear c8
         by_cases c9 : 0 ≤ x8_2
         ·rw [if_pos c9] at H
          have c9b0 : decide (0 ≤ x8_2) = true := decide_eq_true c9
          clear c9
          by_cases c10 : x8_2 < (x26_2.length : Int)
          ·rw [if_pos c10] at H
           have c10b0 : decide (x8_2 < (x26_2.length : Int)) = true := decide_eq_true c10
           clear c10
           obtain ⟨y234, hy234⟩ : ∃ y_ : List Int, y_ = (x26_2.set (x8_2 : Int).toNat (Int.tmod x7_2 3)) := ⟨_, rfl⟩
           replace H : (qD.l1 k2 l0 (l0.length : Int) x4_1 x5_1 (wrap64 (Int.tdiv x7_2 3)) (wrap64 (x8_2 - 1)) y234) = some r := by first | (rw [hy234]; with_reducible exact H) | (have H2_ := (Option.bind_some _ _).symm.trans H; rw [hy234]; with_reducible exact H2_) | (have H2_ := (Option.bind_some _ _).symm.trans H; with_reducible exact H2_) | with_reducible exact H | (rw [hy234]; exact H) | exact H
           have Ny234 := Aside0.mk hy234
           clear hy234
           have H' := Aside0.mk H
           clear H
           have p11 : 0 ≤ (x8_2 : Int) := of_decide_eq_true (by first | (with_reducible assumption) | assumption)
           have q11 : (x8_2 : Int) < ((x26_2.length : Int) : Int) := of_decide_eq_true (by first | (with_reducible assumption) | assumption)
           obtain ⟨go11, co11, eo11, gb11, gl11, cl11, HG11⟩ := Kd.qMB HO_26.out (by omega)
           (first | cases eo11 | (injection eo11 with ea_ en_ ec_; (first | subst ea_ | (injection ea_ with ea_; subst ea_)); subst ec_; clear en_))
           have GB11 := Aside0.mk gb11
           have GG11 := Aside0.mk HG11
           clear gb11 gl11 HG11
           obtain ⟨hx11_0, hf11_0⟩ := Kd.qAB 0 HO_26.out (x8_2 : Int) p11 q11
           replace p11 := eq_true p11
           replace q11 := eq_true q11
           have HP12 := Kd.R_putg HO_26.out (x8_2 : Int) (Int.tmod x7_2 3)
           go_wp2_with (first | ((with_reducible refine qiA (t := 3) (p := 38) rfl ?_); refine qpA (t := 3) (p := 38) (v := ?vo_w13) (w1 := (wr.setCell ⟨go11, (x8_2 : Int).toNat, none⟩ (.int .i64 (Int.tmod x7_2 3)))) ?hg ?ho ?hn ?hr ?_; (case ho => rfl); (case hg => rfl); (case hn => rfl); (case hr => first | (go_simp; done) | (go_simp; rfl)); intro w13 hw; have hg : wr.grownBy w13 (some go11) := (by rw [hw]; exact HP12.2); have hp_ : Kd.R (Kd.int .i64) 3 w13 w.heap.size (fun k_ => (w.heap.size ≤ k_)) (.slice (some ⟨go11, 0, none⟩) x26_2.length co11) y234 := (by rw [hw, Ny234.out]; exact HP12.1); clear HP12; have n0_ := Aside0.mk (Kd.N_afterv (v := (.slice (some ⟨go11, 0, none⟩) x26_2.length co11)) (v1 := (.slice (some ⟨go11, 0, none⟩) x26_2.length co11)) (ok := (fun k_ => (w.heap.size ≤ k_))) (by (with_reducible repeat (first | apply Kd.qt | apply Kd.qs | apply Kd.qHA)); exact HO_4.out) hg (.inl rfl)); have n1_ := Aside0.mk (hp_); have n2_ := Aside0.mk ((by rw [hw]; exact qx (HB.out) GB11.out : Below w.heap.size w w13)); clear HO_4; clear HO_26; clear HB; have HO_4 := n0_; have HO_26 := n1_; have HB := n2_; clear n0_ n1_ n2_; clear hg hw hp_))
           go_roundg k2
           case measure => have := HK1.out; have := HK2.out; omega
           case rel => exact ⟨(wrap64 (Int.tdiv x7_2 3)), (wrap64 (x8_2 - 1)), (y234), (by first | rfl | (simp; done) | (simp [*]; done)), (by first | rfl | (simp; done) | (simp [*]; done)), H', ⟨by have := HK1.out; have := HK2.out; omega⟩, ⟨by (with_reducible repeat (first | apply Kd.qt | apply Kd.qs | apply Kd.qHA)); exact HO_4.out⟩, ⟨by (with_reducible repeat (first | apply Kd.qT | apply Kd.qS | apply Kd.qY)); exact HO_26.out⟩, ⟨bl⟩⟩
          ·rw [if_neg c10] at H
           exact absurd H (by simp)
         ·rw [if_neg c9] at H
          exact absurd H (by simp)
        ·rw [if_neg c8] at H
         have c8b0 : decide (0 ≤ x8_2) = false := decide_eq_false c8
         clear c8
         obtain ⟨ji14, hji14⟩ : ∃ j_ : Int, (wrap64 ((l0.length : Int) + 1)) = j_ := ⟨_, rfl⟩
         replace H : (if 0 ≤ (ji14) then (if (ji14 : Int).toNat ≤ 35184372088832 then (qD.l2 k2 l0 (l0.length : Int) x4_1 x5_1 true x26_2 (List.replicate (ji14 : Int).toNat 0) l0 (l0.length : Int) 0) else (none)) else (none)) = some r := by first | (rw [hji14] at H; exact H) | (simp only [hji14] at H ⊢; exact H)
         have hji14w : (IntKind.i64.wrap ((l0.length : Int) + 1)) = ji14 := (i64_w _).trans hji14
         by_cases c15 : 0 ≤ (ji14)
         ·rw [if_pos c15] at H
          have c15b0 := eq_true c15
          have c15b1 : decide (0 ≤ (ji14)) = true := decide_eq_true c15
          clear c15
          by_cases c16 : (ji14 : Int).toNat ≤ 35184372088832
          ·rw [if_pos c16] at H
           have c16b0 := eq_true c16
           have c16b1 : decide ((ji14 : Int).toNat ≤ 35184372088832) = true := decide_eq_true c16
           clear c16
           obtain ⟨y235, hy235⟩ : ∃ y_ : List Int, y_ = (List.replicate (ji14 : Int).toNat 0) := ⟨_, rfl⟩
           replace H : (qD.l2 k2 l0 (l0.length : Int) x4_1 x5_1 true x26_2 y235 l0 (l0.length : Int) 0) = some r := by first | (rw [hy235]; with_reducible exact H) | (have H2_ := (Option.bind_some _ _).symm.trans H; rw [hy235]; with_reducible exact H2_) | (have H2_ := (Option.bind_some _ _).symm.trans H; with_reducible exact H2_) | with_reducible exact H | (rw [hy235]; exact H) | exact H
           have Ny235 := Aside0.mk hy235
           clear hy235
           have H' := Aside0.mk H
           clear H
           go_wp2_with (first | ((with_reducible refine qV (N := 43) rfl ?_); refine Kd.qqB (Kd.int .i64) _ 3 rfl (N := 43) rfl 42 _ _ rfl ji14 rfl rfl Try.underlying42 (.int .i64 0) 8 info3 rfl (by decide) (by omega) 0 (ok := fun _ => True) (okp := fun _ => True) rfl (fun _ hk => hk) trivial (of_decide_eq_true (by first | (with_reducible assumption) | assumption)) (Nat.le_trans (Nat.mul_le_mul_right _ (of_decide_eq_true (by first | (with_reducible assumption) | assumption) : ji14.toNat ≤ 35184372088832)) (by omega)) (Below.refl _ _) (Nat.le_refl _) ?_; intro v236 w17 ho18 hb hg_ hnew_; clear hg_ hnew_; (first | rw [← Ny235.out] at ho18 | (simp only [Int.reduceToNat] at ho18; rw [← Ny235.out] at ho18)); have n0_ := Aside0.mk (Kd.qYB (by (with_reducible repeat (first | apply Kd.qt | apply Kd.qs | apply Kd.qHA)); exact HO_4.out) (Kd.qWA ho18) hb); have n1_ := Aside0.mk (Kd.qVA (by (with_reducible repeat (first | apply Kd.qT | apply Kd.qS | apply Kd.qY)); exact HO_26.out) (Kd.qWA ho18) hb); have n2_ := Aside0.mk (Kd.qr (Kd.qJB (Kd.qbB (M := fun k_ => (w.heap.size ≤ k_)) ho18 (qL bl) (fun k_ h_ => h_)) (Kd.R_lt (by (with_reducible repeat (first | apply Kd.qT | apply Kd.qS | apply Kd.qY)); exact HO_26.out))) (qL bl)); have n3_ := Aside0.mk (qF bl hb); clear HO_4; clear HO_26; clear HB; have HO_4 := n0_; have HO_26 := n1_; have HO237 := n2_; have HB := n3_; clear n0_ n1_ n2_ n3_; clear hb ho18))
           go_loopg [10, 46] k2 (fun kq v10 v46 w' => ∃ (x10_3 : Bool) (x43_3 : List Int) (x46_3 : Int), v10 = .bool x10_3 ∧ v46 = .int .i64 x46_3 ∧ Aside0 (qD.l2 kq l0 (l0.length : Int) x4_1 x5_1 x10_3 x26_2 x43_3 l0 (l0.length : Int) x46_3 = some r) ∧ Aside0 (kq ≤ k2) ∧ Aside0 (Kd.N (Kd.slice 3 (Kd.int .i64)) 42 w' w.heap.size (fun k_ => (w.heap.size ≤ k_) ∧ some k_ ≠ (v232 : Value).ownBlock ∧ some k_ ≠ (v236 : Value).ownBlock) u4 x4_1) ∧ Aside0 (Kd.R (Kd.int .i64) 3 w' w.heap.size (fun k_ => (w.heap.size ≤ k_) ∧ some k_ ≠ (v236 : Value).ownBlock) v232 x26_2) ∧ Aside0 (Kd.R (Kd.int .i64) 3 w' w.heap.size (fun k_ => (w.heap.size ≤ k_) ∧ some k_ ≠ (v232 : Value).ownBlock) v236 x43_3) ∧ Aside0 (Below w.heap.size w w'))
           case atStart => exact ⟨(true), (y235), (0), (by first | rfl | (simp; done) | (simp [*]; done)), (by first | rfl | (simp; done) | (simp [*]; done)), H', ⟨Nat.le_refl _⟩, ⟨by (with_reducible repeat (first | apply Kd.qt | apply Kd.qs | apply Kd.qHA)); exact Kd.qTA HO_4.out (fun _ hk => ⟨hk.1.1, ⟨hk.1.2, hk.2⟩⟩)⟩, ⟨by (with_reducible repeat (first | apply Kd.qT | apply Kd.qS | apply Kd.qY)); exact HO_26.out⟩, ⟨by (with_reducible repeat (first | apply Kd.qT | apply Kd.qS | apply Kd.qY)); exact Kd.qAA HO237.out (fun _ hk => ⟨hk.1.1, hk.2⟩)⟩, ⟨bl⟩⟩
           case round =>
            clear H'
            try clear c1
            try clear p1
            try clear q1
            try clear hx1
            try clear hf1
            try clear c2
            try clear p2
            try clear c3
            try clear c3b0
            try clear c4
            try clear c4b0
            try clear c4b1
            try clear c5
            try clear c5b0
            try clear c5b1
            try clear p6
            try clear c8
            try clear c8b0
            try clear c9
            try clear c9b0
            try clear c10
            try clear c10b0
            try clear p11
            try clear q11
            try clear hx11
            try clear hf11
            try clear c15
            try clear c15b0
            try clear c15b1
            try clear c16
            try clear c16b0
            try clear c16b1
            try clear hx11_0
            try clear p11
            try clear p2
            try clear p6
            try clear q11
            obtain ⟨x10_3, x43_3, x46_3, rfl, rfl, HA, HK3, HO_4, HO_26, HO_43, HB⟩ := hrel
            cases gk with
            | zero => exact absurd HA.out (by simp [qD.l2])
            | succ k3 =>
             have H := HA.out
             clear HA
             simp only [qD.l2] at H
             by_cases c19 : x46_3 < (l0.length : Int)
             ·rw [if_pos c19] at H
              have c19b0 : decide (x46_3 < (l0.length : Int)) = true := decide_eq_true c19
              clear c19
              by_cases c20 : 0 ≤ x46_3
              ·rw [if_pos c20] at H
               have c20b0 : decide (0 ≤ x46_3) = true := decide_eq_true c20
               clear c20
               by_cases c21 : x46_3 < (l0.length : Int)
               ·rw [if_pos c21] at H
                have c21b0 : decide (x46_3 < (l0.length : Int)) = true := decide_eq_true c21
                clear c21
                replace H := Option.bind_eq_some_iff.mp H
                obtain ⟨t240, A220, H⟩ := H
                replace H : (if x46_3 < (x26_2.length : Int) then (if 0 ≤ (rd x26_2 x46_3) then (if (rd x26_2 x46_3) < (t240.length : Int) then (qD.l3 k3 l0 (l0.length : Int) x4_1 x5_1 x10_3 x26_2 x43_3 l0 (l0.length : Int) x46_3 (rd_L1 t240 (rd x26_2 x46_3)) ((rd_L1 t240 (rd x26_2 x46_3)).length : Int) 0) else (none)) else (none)) else (none)) = some r := H
                have A22 := Aside0.mk A220
                clear A220
                by_cases c23 : x46_3 < (x26_2.length : Int)
                ·rw [if_pos c23] at H
                 have c23b0 : decide (x46_3 < (x26_2.length : Int)) = true := decide_eq_true c23
                 clear c23
                 by_cases c24 : 0 ≤ (rd x26_2 x46_3)
                 ·rw [if_pos c24] at H
                  have c24b0 : decide (0 ≤ (rd x26_2 x46_3)) = true := decide_eq_true c24
                  clear c24
                  by_cases c25 : (rd x26_2 x46_3) < (t240.length : Int)
                  ·rw [if_pos c25] at H
                   have c25b0 : decide ((rd x26_2 x46_3) < (t240.length : Int)) = true := decide_eq_true c25
                   clear c25
                   have H' := Aside0.mk H
                   clear H
                   have p238 : 0 ≤ (x46_3 : Int) := of_decide_eq_true (by first | (with_reducible assumption) | assumption)
                   have q238 : x46_3 < (l0.length : Int) := of_decide_eq_true (by first | (with_reducible assumption) | assumption)
                   obtain ⟨ad238, e238, hx238_0, hx238_1, hx238_2, hx238_3, hx238_4, hx238_5⟩ := qnA HR0.out x46_3 p238 q238
                   cases e238
                   replace hx238_0 := (HB.out.cell (World.block_lt_of_cell? w _ hx238_0)).trans hx238_0
                   replace hx238_1 := (HB.out.cell (World.block_lt_of_cell? w _ hx238_1)).trans hx238_1
                   replace hx238_2 := (HB.out.cell (World.block_lt_of_cell? w _ hx238_2)).trans hx238_2
                   replace hx238_3 := (HB.out.cell (World.block_lt_of_cell? w _ hx238_3)).trans hx238_3
                   replace hx238_4 := (HB.out.cell (World.block_lt_of_cell? w _ hx238_4)).trans hx238_4
                   replace hx238_5 := (HB.out.cell (World.block_lt_of_cell? w _ hx238_5)).trans hx238_5
                   replace p238 := eq_true p238
                   replace q238 := eq_true q238
                   try go_wp2_with (first | ((with_reducible refine qV (N := 12) rfl ?_); refine qW ?hg (N := 12) ?hd (cs := #[.int .i64 0, .int .i64 0, .int .i64 0, .int .i64 0, .int .i64 0, .int .i64 0]) (t := 29) ?hr ?_; (case hd => rfl); (case hg => rfl); (case hr => first | (go_simp; done) | (go_simp; rfl)); intro gb239 hg w26 hbox hb; have n0_ := Aside0.mk (Kd.qKB (Kd.N_elderB (by (with_reducible repeat (first | apply Kd.qt | apply Kd.qs | apply Kd.qHA)); exact HO_4.out) gb239 (Nat.le_of_eq hg.symm)) hb); have n1_ := Aside0.mk (Kd.qBA (by (with_reducible repeat (first | apply Kd.qT | apply Kd.qS | apply Kd.qY)); exact HO_26.out) hb); have n2_ := Aside0.mk (Kd.qBA (by (with_reducible repeat (first | apply Kd.qT | apply Kd.qS | apply Kd.qY)); exact HO_43.out) hb); have n3_ := Aside0.mk (qF bl hb); have n4_ := Aside0.mk (hbox); have n5_ := Aside0.mk ((gg hg)); have n6_ := Aside0.mk ((gg hg)); clear HO_4; clear HO_26; clear HO_43; clear HB; have HO_4 := n0_; have HO_26 := n1_; have HO_43 := n2_; have HB := n3_; have BK239 := n4_; have GW239 := n5_; have GE239 := n6_; clear n0_ n1_ n2_ n3_ n4_ n5_ n6_; clear hb hbox hg; have hcz27_0 := bc BK239 0; have hcz27_1 := bc BK239 1; have hcz27_2 := bc BK239 2; have hcz27_3 := bc BK239 3; have hcz27_4 := bc BK239 4; have hcz27_5 := bc BK239 5; have hfz27_0 := qA BK239.out 0; have hfz27_1 := qA BK239.out 1; have hfz27_2 := qA BK239.out 2; have hfz27_3 := qA BK239.out 3; have hfz27_4 := qA BK239.out 4; have hfz27_5 := qA BK239.out 5))
                   have n0_ : Aside0 (Kd.N (Kd.slice 3 (Kd.int .i64)) 42 ((((((w26.setCell ⟨gb239, 0, none⟩ (.int .i64 ((qB l0 x46_3).f0))).setCell ⟨gb239, 1, none⟩ (.int .i64 ((qB l0 x46_3).f1))).setCell ⟨gb239, 2, none⟩ (.int .i64 ((qB l0 x46_3).f2))).setCell ⟨gb239, 3, none⟩ (.int .i64 ((qB l0 x46_3).f3))).setCell ⟨gb239, 4, none⟩ (.int .i64 ((qB l0 x46_3).f4))).setCell ⟨gb239, 5, none⟩ (.int .i64 ((qB l0 x46_3).f5))) w.heap.size (fun k_ => (w.heap.size ≤ k_) ∧ some k_ ≠ (v232 : Value).ownBlock ∧ some k_ ≠ (v236 : Value).ownBlock ∧ k_ ≠ gb239) u4 x4_1) := ⟨by (with_reducible repeat (first | apply Kd.qt | apply Kd.qs | apply Kd.qHA)); exact Kd.qTA (Kd.N_far (p := ⟨gb239, 5, none⟩) (Kd.N_far (p := ⟨gb239, 4, none⟩) (Kd.N_far (p := ⟨gb239, 3, none⟩) (Kd.N_far (p := ⟨gb239, 2, none⟩) (Kd.N_far (p := ⟨gb239, 1, none⟩) (Kd.N_far (p := ⟨gb239, 0, none⟩) (Kd.qTA HO_4.out (fun k_ hk => (⟨hk, hk.2⟩ : _ ∧ k_ ≠ gb239))) (fun _ hk => hk.2) (.int .i64 ((qB l0 x46_3).f0))) (fun _ hk => hk.2) (.int .i64 ((qB l0 x46_3).f1))) (fun _ hk => hk.2) (.int .i64 ((qB l0 x46_3).f2))) (fun _ hk => hk.2) (.int .i64 ((qB l0 x46_3).f3))) (fun _ hk => hk.2) (.int .i64 ((qB l0 x46_3).f4))) (fun _ hk => hk.2) (.int .i64 ((qB l0 x46_3).f5))) (fun _ hk => ⟨hk.1.1.1, ⟨hk.1.1.2.1, ⟨hk.1.1.2.2, hk.1.2⟩⟩⟩)⟩
                   have n1_ : Aside0 (Kd.R (Kd.int .i64) 3 ((((((w26.setCell ⟨gb239, 0, none⟩ (.int .i64 ((qB l0 x46_3).f0))).setCell ⟨gb239, 1, none⟩ (.int .i64 ((qB l0 x46_3).f1))).setCell ⟨gb239, 2, none⟩ (.int .i64 ((qB l0 x46_3).f2))).setCell ⟨gb239, 3, none⟩ (.int .i64 ((qB l0 x46_3).f3))).setCell ⟨gb239, 4, none⟩ (.int .i64 ((qB l0 x46_3).f4))).setCell ⟨gb239, 5, none⟩ (.int .i64 ((qB l0 x46_3).f5))) w.heap.size (fun k_ => (w.heap.size ≤ k_) ∧ some k_ ≠ (v236 : Value).ownBlock) v232 x26_2) := ⟨by (with_reducible repeat (first | apply Kd.qT | apply Kd.qS | apply Kd.qY)); exact Kd.qAA (Kd.R_far (p := ⟨gb239, 5, none⟩) (Kd.R_far (p := ⟨gb239, 4, none⟩) (Kd.R_far (p := ⟨gb239, 3, none⟩) (Kd.R_far (p := ⟨gb239, 2, none⟩) (Kd.R_far (p := ⟨gb239, 1, none⟩) (Kd.R_far (p := ⟨gb239, 0, none⟩) (Kd.qXA HO_26.out BK239.out (by decide)) (fun _ hk => hk.2) (.int .i64 ((qB l0 x46_3).f0))) (fun _ hk => hk.2) (.int .i64 ((qB l0 x46_3).f1))) (fun _ hk => hk.2) (.int .i64 ((qB l0 x46_3).f2))) (fun _ hk => hk.2) (.int .i64 ((qB l0 x46_3).f3))) (fun _ hk => hk.2) (.int .i64 ((qB l0 x46_3).f4))) (fun _ hk => hk.2) (.int .i64 ((qB l0 x46_3).f5))) (fun _ hk => ⟨hk.1.1, hk.1.2⟩)⟩
                   have n2_ : Aside0 (Kd.R (Kd.int .i64) 3 ((((((w26.setCell ⟨gb239, 0, none⟩ (.int .i64 ((qB l0 x46_3).f0))).setCell ⟨gb239, 1, none⟩ (.int .i64 ((qB l0 x46_3).f1))).setCell ⟨gb239, 2, none⟩ (.int .i64 ((qB l0 x46_3).f2))).setCell ⟨gb239, 3, none⟩ (.int .i64 ((qB l0 x46_3).f3))).setCell ⟨gb239, 4, none⟩ (.int .i64 ((qB l0 x46_3).f4))).setCell ⟨gb239, 5, none⟩ (.int .i64 ((qB l0 x46_3).f5))) w.heap.size (fun k_ => (w.heap.size ≤ k_) ∧ some k_ ≠ (v232 : Value).ownBlock) v236 x43_3) := ⟨by (with_reducible repeat (first | apply Kd.qT | apply Kd.qS | apply Kd.qY)); exact Kd.qAA (Kd.R_far (p := ⟨gb239, 5, none⟩) (Kd.R_far (p := ⟨gb239, 4, none⟩) (Kd.R_far (p := ⟨gb239, 3, none⟩) (Kd.R_far (p := ⟨gb239, 2, none⟩) (Kd.R_far (p := ⟨gb239, 1, none⟩) (Kd.R_far (p := ⟨gb239, 0, none⟩) (Kd.qXA HO_43.out BK239.out (by decide)) (fun _ hk => hk.2) (.int .i64 ((qB l0 x46_3).f0))) (fun _ hk => hk.2) (.int .i64 ((qB l0 x46_3).f1))) (fun _ hk => hk.2) (.int .i64 ((qB l0 x46_3).f2))) (fun _ hk => hk.2) (.int .i64 ((qB l0 x46_3).f3))) (fun _ hk => hk.2) (.int .i64 ((qB l0 x46_3).f4))) (fun _ hk => hk.2) (.int .i64 ((qB l0 x46_3).f5))) (fun _ hk => ⟨hk.1.1, hk.1.2⟩)⟩
                   have n3_ : Aside0 (((((((w26.setCell ⟨gb239, 0, none⟩ (.int .i64 ((qB l0 x46_3).f0))).setCell ⟨gb239, 1, none⟩ (.int .i64 ((qB l0 x46_3).f1))).setCell ⟨gb239, 2, none⟩ (.int .i64 ((qB l0 x46_3).f2))).setCell ⟨gb239, 3, none⟩ (.int .i64 ((qB l0 x46_3).f3))).setCell ⟨gb239, 4, none⟩ (.int .i64 ((qB l0 x46_3).f4))).setCell ⟨gb239, 5, none⟩ (.int .i64 ((qB l0 x46_3).f5))).heap[gb239]? = some (.cells #[.int .i64 ((qB l0 x46_3).f0), .int .i64 ((qB l0 x46_3).f1), .int .i64 ((qB l0 x46_3).f2), .int .i64 ((qB l0 x46_3).f3), .int .i64 ((qB l0 x46_3).f4), .int .i64 ((qB l0 x46_3).f5)] 29 (0, 0))) := ⟨by (with_reducible repeat (first | refine qO ?_ _ | refine qU ?_ | refine qP ?_ _)); refine qq (cs := #[.int .i64 ((qB l0 x46_3).f0), .int .i64 ((qB l0 x46_3).f1), .int .i64 ((qB l0 x46_3).f2), .int .i64 ((qB l0 x46_3).f3), .int .i64 ((qB l0 x46_3).f4), .int .i64 0]) ?_ 5 _ rfl; (with_reducible repeat (first | refine qO ?_ _ | refine qU ?_ | refine qP ?_ _)); refine qq (cs := #[.int .i64 ((qB l0 x46_3).f0), .int .i64 ((qB l0 x46_3).f1), .int .i64 ((qB l0 x46_3).f2), .int .i64 ((qB l0 x46_3).f3), .int .i64 0, .int .i64 0]) ?_ 4 _ rfl; (with_reducible repeat (first | refine qO ?_ _ | refine qU ?_ | refine qP ?_ _)); refine qq (cs := #[.int .i64 ((qB l0 x46_3).f0), .int .i64 ((qB l0 x46_3).f1), .int .i64 ((qB l0 x46_3).f2), .int .i64 0, .int .i64 0, .int .i64 0]) ?_ 3 _ rfl; (with_reducible repeat (first | refine qO ?_ _ | refine qU ?_ | refine qP ?_ _)); refine qq (cs := #[.int .i64 ((qB l0 x46_3).f0), .int .i64 ((qB l0 x46_3).f1), .int .i64 0, .int .i64 0, .int .i64 0, .int .i64 0]) ?_ 2 _ rfl; (with_reducible repeat (first | refine qO ?_ _ | refine qU ?_ | refine qP ?_ _)); refine qq (cs := #[.int .i64 ((qB l0 x46_3).f0), .int .i64 0, .int .i64 0, .int .i64 0, .int .i64 0, .int .i64 0]) ?_ 1 _ rfl; (with_reducible repeat (first | refine qO ?_ _ | refine qU ?_ | refine qP ?_ _)); refine qq (cs := #[.int .i64 0, .int .i64 0, .int .i64 0, .int .i64 0, .int .i64 0, .int .i64 0]) ?_ 0 _ rfl; (with_reducible repeat (first | refine qO ?_ _ | refine qU ?_ | refine qP ?_ _)); exact BK239.out⟩
                   have n4_ : Aside0 (Below w.heap.size w ((((((w26.setCell ⟨gb239, 0, none⟩ (.int .i64 ((qB l0 x46_3).f0))).setCell ⟨gb239, 1, none⟩ (.int .i64 ((qB l0 x46_3).f1))).setCell ⟨gb239, 2, none⟩ (.int .i64 ((qB l0 x46_3).f2))).setCell ⟨gb239, 3, none⟩ (.int .i64 ((qB l0 x46_3).f3))).setCell ⟨gb239, 4, none⟩ (.int .i64 ((qB l0 x46_3).f4))).setCell ⟨gb239, 5, none⟩ (.int .i64 ((qB l0 x46_3).f5)))) := ⟨bl⟩
                   (try clear HO_4)
                   (try clear HO_26)
                   (try clear HO_43)
                   (try clear BK239)
                   (try clear HB)
                   generalize ((((((w26.setCell ⟨gb239, 0, none⟩ (.int .i64 ((qB l0 x46_3).f0))).setCell ⟨gb239, 1, none⟩ (.int .i64 ((qB l0 x46_3).f1))).setCell ⟨gb239, 2, none⟩ (.int .i64 ((qB l0 x46_3).f2))).setCell ⟨gb239, 3, none⟩ (.int .i64 ((qB l0 x46_3).f3))).setCell ⟨gb239, 4, none⟩ (.int .i64 ((qB l0 x46_3).f4))).setCell ⟨gb239, 5, none⟩ (.int .i64 ((qB l0 x46_3).f5))) = w28 at n0_ n1_ n2_ n3_ n4_ ⊢
                   have HO_4 := n0_
                   have HO_26 := n1_
                   have HO_43 := n2_
                   have BK239 := n3_
                   have HB := n4_
                   clear n0_ n1_ n2_ n3_ n4_
                   have n0_ := Aside0.mk (Kd.qHA HO_4.out)
                   have n1_ := Aside0.mk (Kd.qY HO_26.out)
                   have n2_ := Aside0.mk (Kd.qY HO_43.out)
                   have n3_ := Aside0.mk (qU BK239.out)
                   have n4_ := Aside0.mk (qNA HB.out)
                   clear HO_4
                   clear HO_26
                   clear HO_43
                   clear BK239
                   clear HB
                   have HO_4 := n0_
                   have HO_26 := n1_
                   have HO_43 := n2_
                   have BK239 := n3_
                   have HB := n4_
                   clear n0_ n1_ n2_ n3_ n4_
                   obtain ⟨Ao30, co30, eo30⟩ := Kd.qGA HO_26.out
                   (first | subst eo30 | (injection eo30 with f1_ f2_ f3_; have f4_ := f1_.symm; have f5_ := f3_.symm; clear f1_ f2_ f3_; subst f4_; subst f5_))
                   have p243 : 0 ≤ (x46_3 : Int) := of_decide_eq_true (by first | (with_reducible assumption) | assumption)
                   have q243 : x46_3 < (x26_2.length : Int) := of_decide_eq_true (by first | (with_reducible assumption) | assumption)
                   obtain ⟨ad243, e243, hx243_0⟩ := Kd.qmA (Kd.qZ HO_26.out).2.2 x46_3 p243 q243
                   cases e243
                   replace p243 := eq_true p243
                   replace q243 := eq_true q243
                   refine qaB (n := 10) (S := fun w' => w'.cell? ⟨gb239, 0, none⟩ = some (.int .i64 ((qB l0 x46_3).f0)) ∧ w'.cell? ⟨gb239, 1, none⟩ = some (.int .i64 ((qB l0 x46_3).f1)) ∧ w'.cell? ⟨gb239, 2, none⟩ = some (.int .i64 ((qB l0 x46_3).f2)) ∧ w'.cell? ⟨gb239, 3, none⟩ = some (.int .i64 ((qB l0 x46_3).f3)) ∧ w'.cell? ⟨gb239, 4, none⟩ = some (.int .i64 ((qB l0 x46_3).f4)) ∧ w'.cell? ⟨gb239, 5, none⟩ = some (.int .i64 ((qB l0 x46_3).f5)) ∧ w'.cell? (ad243.add (x46_3).toNat) = some (.int .i64 (rd x26_2 x46_3))) (ds := []) #[false, false, false, false, false, false, false, false, false, false] (by kernel_rfl) rfl rfl ⟨(qN BK239.out 0).trans rfl, (qN BK239.out 1).trans rfl, (qN BK239.out 2).trans rfl, (qN BK239.out 3).trans rfl, (qN BK239.out 4).trans rfl, (qN BK239.out 5).trans rfl, hx243_0⟩ (fun hHeld => ?_); refine qeA qD.tab18 qD.bits18 (fun HT_ HW_ => ?_)
                   generalize w28.drew = w29 at HO_4 HO_26 HO_43 BK239 HB hx243_0 hHeld ⊢
                   refine pS (i := 2) (N := some 53) #[false, false, true, false, false, false, false, false, false, false] HT_ ?_
                   refine pS (i := 3) (N := some 54) #[false, false, true, true, false, false, false, false, false, false] HT_ ?_
                   refine pS (i := 4) (N := some 55) #[false, false, true, true, true, false, false, false, false, false] HT_ ?_
                   refine pS (i := 9) (N := some 60) #[false, false, true, true, true, false, false, false, false, true] HT_ ?_
                   refine tS (i := 0) (N := some 51) #[true, false, true, true, true, false, false, false, false, true] HT_ HW_ hHeld ?_
                   refine tS (i := 5) (N := some 56) #[true, false, true, true, true, true, false, false, false, true] HT_ HW_ hHeld ?_
                   refine one_ (i := 1) (N := some 52) #[true, true, true, true, true, true, false, false, false, true] rfl rfl (qlA HT_.out (by kernel_rfl)) (by decide) (fun K hK => ?_)
                   refine goes_ Try.func22 (by kernel_rfl) rfl #[.agg #[.int .i64 ((qB l0 x46_3).f0), .int .i64 ((qB l0 x46_3).f1), .int .i64 ((qB l0 x46_3).f2), .int .i64 ((qB l0 x46_3).f3), .int .i64 ((qB l0 x46_3).f4), .int .i64 ((qB l0 x46_3).f5)]] (by rfl) rfl rfl (by (try simp only [List.map_toArray, List.map_cons, List.map_nil]); first | done | rfl | (simp only [List.length_drop, List.length_take]; rfl)) ?_
                   with_reducible refine (qj.calls ((qB l0 x46_3).f0) ((qB l0 x46_3).f1) ((qB l0 x46_3).f2) ((qB l0 x46_3).f3) ((qB l0 x46_3).f4) ((qB l0 x46_3).f5) t240 _ A22.out).mono ?_
                   rintro e w31 ⟨v241, rfl, ho0, hb⟩
                   have HS6_ := (hb.cell (World.block_lt_of_cell? _ _ (hHeld.2.2.2.2.2.2))).trans (hHeld.2.2.2.2.2.2)
                   refine ⟨_, rfl, ?_⟩
                   have n0_ := Aside0.mk (Kd.qYB (by (with_reducible repeat (first | apply Kd.qt | apply Kd.qs | apply Kd.qHA)); exact HO_4.out) (Kd.N_base ho0) hb)
                   have n1_ := Aside0.mk (Kd.qBA (by (with_reducible repeat (first | apply Kd.qT | apply Kd.qS | apply Kd.qY)); exact HO_26.out) hb)
                   have n2_ := Aside0.mk (Kd.qBA (by (with_reducible repeat (first | apply Kd.qT | apply Kd.qS | apply Kd.qY)); exact HO_43.out) hb)
                   have n3_ := Aside0.mk (Kd.qlB (Kd.qTA (ok' := fun k_ => (w.heap.size ≤ k_) ∧ some k_ ≠ (u4 : Value).ownBlock ∧ some k_ ≠ (.slice (some ad243) x26_2.length co30 : Value).ownBlock ∧ some k_ ≠ (v236 : Value).ownBlock ∧ k_ ≠ gb239) ho0 (fun k_ hk_ => ⟨(Nat.le_trans (qL bl) hk_), (Kd.fresh' (Kd.N_lt (by (with_reducible repeat (first | apply Kd.qt | apply Kd.qs | apply Kd.qHA)); exact HO_4.out)) k_ hk_), (Kd.fresh' (Kd.R_lt (by (with_reducible repeat (first | apply Kd.qT | apply Kd.qS | apply Kd.qY)); exact HO_26.out)) k_ hk_), (Kd.fresh' (Kd.R_lt (by (with_reducible repeat (first | apply Kd.qT | apply Kd.qS | apply Kd.qY)); exact HO_43.out)) k_ hk_), (Kd.freshB (g := gb239) (o := .cells #[.int .i64 ((qB l0 x46_3).f0), .int .i64 ((qB l0 x46_3).f1), .int .i64 ((qB l0 x46_3).f2), .int .i64 ((qB l0 x46_3).f3), .int .i64 ((qB l0 x46_3).f4), .int .i64 ((qB l0 x46_3).f5)] 29 (0, 0)) (by (with_reducible repeat (first | refine qO ?_ _ | refine qU ?_ | refine qP ?_ _)); exact BK239.out) k_ hk_)⟩)) (qL bl))
                   have n4_ := Aside0.mk (bb BK239 hb)
                   have n5_ := Aside0.mk (qF bl hb)
                   clear HO_4
                   clear HO_26
                   clear HO_43
                   clear BK239
                   clear HB
                   have HO_4 := n0_
                   have HO_26 := n1_
                   have HO_43 := n2_
                   have HO242 := n3_
                   have BK239 := n4_
                   have HB := n5_
                   clear n0_ n1_ n2_ n3_ n4_ n5_
                   (try clear hb)
                   (try clear hb2)
                   (try clear hk)
                   (try clear hi)
                   (try clear ho0)
                   obtain ⟨Ao32, co32, eo32⟩ := Kd.N_slice HO242.out
                   (first | subst eo32 | (injection eo32 with f1_ f2_ f3_; have f4_ := f1_.symm; have f5_ := f3_.symm; clear f1_ f2_ f3_; subst f4_; subst f5_))
                   have p244 : 0 ≤ ((rd x26_2 x46_3) : Int) := of_decide_eq_true (by first | (with_reducible assumption) | assumption)
                   have q244 : (rd x26_2 x46_3) < (t240.length : Int) := of_decide_eq_true (by first | (with_reducible assumption) | assumption)
                   obtain ⟨ad244, A244_0, c244_0, e244, hx244_0, hl244_0, hi244_0⟩ := at_L1 (Kd.N_reads' HO242.out).2.2 (rd x26_2 x46_3) p244 q244
                   cases e244
                   obtain ⟨ce244, hce244, hMe244, hcc244⟩ := Kd.N_get HO242.out [] (rd x26_2 x46_3) p244 (by first | exact q244 | exact of_decide_eq_true (by first | (with_reducible assumption) | assumption) | (have e_ := (Kd.N_reads' HO242.out).1; omega))
                   obtain ⟨ua244_0, uc244_0, rfl, ul244_0, ge244_0⟩ := Kd.FK_slice_open hMe244
                   have hv244_0 := hcc244 0 _ rfl
                   rw [Nat.add_zero, show ((Kd.slice 3 (Kd.int .i64))).sz = 1 from rfl, Nat.mul_one] at hv244_0
                   replace hv244_0 := Option.some.inj (hv244_0.symm.trans hx244_0)
                   injection hv244_0 with hva_ hvn_ hvc_
                   rw [hva_] at ge244_0
                   rw [hvc_] at ul244_0
                   have HL244_0 := Aside0.mk (show Kd.V (Kd.int .i64) 3 _ w.heap.size _ _ (rd_L1 t240 (rd x26_2 x46_3)) from Kd.V_mk ul244_0 ge244_0)
                   clear hva_ hvn_ hvc_ ge244_0 ul244_0
                   clear hcc244 hce244
                   have HR244_0 := Aside0.mk hi244_0
                   have HC244_0 := Aside0.mk hl244_0
                   clear hi244_0 hl244_0
                   replace p244 := eq_true p244
                   replace q244 := eq_true q244
                   refine hK.out _ _ ⟨(qN BK239.out 0).trans rfl, (qN BK239.out 1).trans rfl, (qN BK239.out 2).trans rfl, (qN BK239.out 3).trans rfl, (qN BK239.out 4).trans rfl, (qN BK239.out 5).trans rfl, HS6_⟩ (fun hHeld => ?_)
                   clear hK K
                   refine norm_ (a' := ?_) ?_ ?_
                   rotate_left
                   ·show Act.put _ (some 52) _ = _
                    simp only [Act.put, List.setIfInBounds_toArray, List.set_cons_zero, List.set_cons_succ, i64_w, i32_w]
                    rfl
                   refine pS (i := 6) (N := some 57) #[true, true, true, true, true, true, true, false, false, true] HT_ ?_
                   refine one_ (i := 7) (N := some 58) #[true, true, true, true, true, true, true, true, false, true] rfl rfl (qlA HT_.out (by kernel_rfl)) (by decide) (fun K hK => ?_)
                   refine qxA (w1 := w31) (v := .slice A244_0 (rd_L1 t240 (rd x26_2 x46_3)).length c244_0) (by rfl) ?_ ?_
                   ·go_simp
                    try rfl
                   refine hK.out _ _ hHeld (fun hHeld => ?_)
                   clear hK K
                   refine norm_ (a' := ?_) ?_ ?_
                   rotate_left
                   ·show Act.put _ (some 58) _ = _
                    simp only [Act.put, List.setIfInBounds_toArray, List.set_cons_zero, List.set_cons_succ, i64_w, i32_w]
                    rfl
                   refine pS (i := 8) (N := some 59) #[true, true, true, true, true, true, true, true, true, true] HT_ ?_
                   refine done_ (qSB HT_.out (by kernel_rfl)) ?_
                   try go_wp2
                   go_loopg [10, 60] k3 (fun kq v10 v60 w' => ∃ (x10_4 : Bool) (x43_4 : List Int) (x60_4 : Int), v10 = .bool x10_4 ∧ v60 = .int .i64 x60_4 ∧ Aside0 (qD.l3 kq l0 (l0.length : Int) x4_1 x5_1 x10_4 x26_2 x43_4 l0 (l0.length : Int) x46_3 (rd_L1 t240 (rd x26_2 x46_3)) ((rd_L1 t240 (rd x26_2 x46_3)).length : Int) x60_4 = some r) ∧ Aside0 (kq ≤ k3) ∧ Aside0 (Kd.N (Kd.slice 3 (Kd.int .i64)) 42 w' w.heap.size (fun k_ => (w.heap.size ≤ k_) ∧ some k_ ≠ ((.slice (some ad243) x26_2.length co30) : Value).ownBlock ∧ some k_ ≠ (v236 : Value).ownBlock ∧ k_ ≠ gb239) u4 x4_1) ∧ Aside0 (Kd.R (Kd.int .i64) 3 w' w.heap.size (fun k_ => (w.heap.size ≤ k_) ∧ some k_ ≠ (v236 : Value).ownBlock) (.slice (some ad243) x26_2.length co30) x26_2) ∧ Aside0 (Kd.R (Kd.int .i64) 3 w' w.heap.size (fun k_ => (w.heap.size ≤ k_) ∧ some k_ ≠ ((.slice (some ad243) x26_2.length co30) : Value).ownBlock) v236 x43_4) ∧ Aside0 (w'.heap[gb239]? = some (.cells #[.int .i64 ((qB l0 x46_3).f0), .int .i64 ((qB l0 x46_3).f1), .int .i64 ((qB l0 x46_3).f2), .int .i64 ((qB l0 x46_3).f3), .int .i64 ((qB l0 x46_3).f4), .int .i64 ((qB l0 x46_3).f5)] 29 (0, 0))) ∧ Aside0 (Below w.heap.size w w') ∧ Aside0 (Kd.V (Kd.int .i64) 3 w' w.heap.size (fun k_ => some k_ ≠ (v236 : Value).ownBlock) (.slice A244_0 (rd_L1 t240 (rd x26_2 x46_3)).length c244_0) (rd_L1 t240 (rd x26_2 x46_3))))
                   case atStart => exact ⟨(x10_3), (x43_3), (0), (by first | rfl | (simp; done) | (simp [*]; done)), (by first | rfl | (simp; done) | (simp [*]; done)), H', ⟨Nat.le_refl _⟩, ⟨by (with_reducible repeat (first | apply Kd.qt | apply Kd.qs | apply Kd.qHA)); exact Kd.qTA HO_4.out (fun _ hk => ⟨hk.1.1, ⟨hk.1.2.1, ⟨hk.1.2.2.1, hk.1.2.2.2⟩⟩⟩)⟩, ⟨by (with_reducible repeat (first | apply Kd.qT | apply Kd.qS | apply Kd.qY)); exact HO_26.out⟩, ⟨by (with_reducible repeat (first | apply Kd.qT | apply Kd.qS | apply Kd.qY)); exact HO_43.out⟩, ⟨by (with_reducible repeat (first | refine qO ?_ _ | refine qU ?_ | refine qP ?_ _)); exact BK239.out⟩, ⟨bl⟩, ⟨Kd.quB HL244_0.out (fun _ hk => by first | exact hk.1.2.2.2.1 | exact hk.2.2.2.1 | exact hk.2.2.2.2.1 | exact hk.1.2.2.2)⟩⟩
                   case round =>
                    clear H'
                    try clear c1
                    try clear p1
                    try clear q1
                    try clear hx1
                    try clear hf1
                    try clear c2
                    try clear p2
                    try clear q2
                    try clear hx2
                    try clear c3
                    try clear c3b0
                    try clear c4
                    try clear c4b0
                    try clear c4b1
                    try clear c5
                    try clear c5b0
                    try clear c5b1
                    try clear p6
                    try clear c8
                    try clear c8b0
                    try clear c9
                    try clear c9b0
                    try clear c10
                    try clear c10b0
                    try clear p11
                    try clear q11
                    try clear hx11
                    try clear hf11
                    try clear c15
                    try clear c15b0
                    try clear c15b1
                    try clear c16
                    try clear c16b0
                    try clear c16b1
                    try clear c19
                    try clear c19b0
                    try clear c20
                    try clear c20b0
                    try clear c21
                    try clear c21b0
                    try clear c22
                    try clear c23
                    try clear c23b0
                    try clear p23
                    try clear q23
                    try clear hx23
                    try clear c24
                    try clear c24b0
                    try clear p24
                    try clear q24
                    try clear hx24
                    try clear c25
                    try clear c25b0
                    try clear c29
                    try clear hcz27_0
                    try clear hcz27_1
                    try clear hcz27_2
                    try clear hcz27_3
                    try clear hcz27_4
                    try clear hcz27_5
                    try clear hfz27_0
                    try clear hfz27_1
                    try clear hfz27_2
                    try clear hfz27_3
                    try clear hfz27_4
                    try clear hfz27_5
                    try clear hx11_0
                    try clear hx238_0
                    try clear hx238_1
                    try clear hx238_2
                    try clear hx238_3
                    try clear hx238_4
                    try clear hx238_5
                    try clear hx243_0
                    try clear hx244_0
                    try clear p1
                    try clear p11
                    try clear p2
                    try clear p238
                    try clear p243
                    try clear p244
                    try clear p6
                    try clear q1
                    try clear q11
                    try clear q238
                    try clear q243
                    try clear q244
                    obtain ⟨x10_4, x43_4, x60_4, rfl, rfl, HA, HK4, HO_4, HO_26, HO_43, BK239, HB, HV⟩ := hrel
                    cases gk with
                    | zero => exact absurd HA.out (by simp [qD.l3])
                    | succ k4 =>
                     have H := HA.out
                     clear HA
                     simp only [qD.l3] at H
                     by_cases c33 : x60_4 < ((rd_L1 t240 (rd x26_2 x46_3)).length : Int)
                     ·rw [if_pos c33] at H
                      have c33b0 : decide (x60_4 < ((rd_L1 t240 (rd x26_2 x46_3)).length : Int)) = true := decide_eq_true c33
                      clear c33
                      by_cases c34 : 0 ≤ x60_4
                      ·rw [if_pos c34] at H
                       have c34b0 : decide (0 ≤ x60_4) = true := decide_eq_true c34
                       clear c34
                       by_cases c35 : x60_4 < ((rd_L1 t240 (rd x26_2 x46_3)).length : Int)
                       ·rw [if_pos c35] at H
                        have c35b0 : decide (x60_4 < ((rd_L1 t240 (rd x26_2 x46_3)).length : Int)) = true := decide_eq_true c35
                        clear c35
                        replace H := Option.bind_eq_some_iff.mp H
                        obtain ⟨t246, A360, H⟩ := H
                        replace H : (if t246 = true then (if 0 ≤ (rd (rd_L1 t240 (rd x26_2 x46_3)) x60_4) then (if (rd (rd_L1 t240 (rd x26_2 x46_3)) x60_4) < (x43_4.length : Int) then (qD.l3 k4 l0 (l0.length : Int) x4_1 x5_1 x10_4 x26_2 (x43_4.set ((rd (rd_L1 t240 (rd x26_2 x46_3)) x60_4) : Int).toNat (wrap64 ((rd x43_4 (rd (rd_L1 t240 (rd x26_2 x46_3)) x60_4)) + 1))) l0 (l0.length : Int) x46_3 (rd_L1 t240 (rd x26_2 x46_3)) ((rd_L1 t240 (rd x26_2 x46_3)).length : Int) (wrap64 (x60_4 + 1))) else (none)) else (none)) else (qD.l3 k4 l0 (l0.length : Int) x4_1 x5_1 false x26_2 x43_4 l0 (l0.length : Int) x46_3 (rd_L1 t240 (rd x26_2 x46_3)) ((rd_L1 t240 (rd x26_2 x46_3)).length : Int) (wrap64 (x60_4 + 1)))) = some r := H
                        have A36 := Aside0.mk A360
                        clear A360
                        by_cases c37 : t246 = true
                        ·subst c37
                         have H1 : (if 0 ≤ (rd (rd_L1 t240 (rd x26_2 x46_3)) x60_4) then (if (rd (rd_L1 t240 (rd x26_2 x46_3)) x60_4) < (x43_4.length : Int) then (qD.l3 k4 l0 (l0.length : Int) x4_1 x5_1 x10_4 x26_2 (x43_4.set ((rd (rd_L1 t240 (rd x26_2 x46_3)) x60_4) : Int).toNat (wrap64 ((rd x43_4 (rd (rd_L1 t240 (rd x26_2 x46_3)) x60_4)) + 1))) l0 (l0.length : Int) x46_3 (rd_L1 t240 (rd x26_2 x46_3)) ((rd_L1 t240 (rd x26_2 x46_3)).length : Int) (wrap64 (x60_4 + 1))) else (none)) else (none)) = some r := by rw [if_pos rfl] at H; exact H
                         clear H
                         have H := H1
                         clear H1
                         by_cases c38 : 0 ≤ (rd (rd_L1 t240 (rd x26_2 x46_3)) x60_4)
                         ·rw [if_pos c38] at H
                          have c38b0 : decide (0 ≤ (rd (rd_L1 t240 (rd x26_2 x46_3)) x60_4)) = true := decide_eq_true c38
                          clear c38
                          by_cases c39 : (rd (rd_L1 t240 (rd x26_2 x46_3)) x60_4) < (x43_4.length : Int)
                          ·rw [if_pos c39] at H
                           have c39b0 : decide ((rd (rd_L1 t240 (rd x26_2 x46_3)) x60_4) < (x43_4.length : Int)) = true := decide_eq_true c39
                           clear c39
                           obtain ⟨y248, hy248⟩ : ∃ y_ : List Int, y_ = (x43_4.set ((rd (rd_L1 t240 (rd x26_2 x46_3)) x60_4) : Int).toNat (wrap64 ((rd x43_4 (rd (rd_L1 t240 (rd x26_2 x46_3)) x60_4)) + 1))) := ⟨_, rfl⟩
                           replace H : (qD.l3 k4 l0 (l0.length : Int) x4_1 x5_1 x10_4 x26_2 y248 l0 (l0.length : Int) x46_3 (rd_L1 t240 (rd x26_2 x46_3)) ((rd_L1 t240 (rd x26_2 x46_3)).length : Int) (wrap64 (x60_4 + 1))) = some r := by first | (rw [hy248]; with_reducible exact H) | (have H2_ := (Option.bind_some _ _).symm.trans H; rw [hy248]; with_reducible exact H2_) | (have H2_ := (Option.bind_some _ _).symm.trans H; with_reducible exact H2_) | with_reducible exact H | (rw [hy248]; exact H) | exact H
                           have Ny248 := Aside0.mk hy248
                           clear hy248
                           have H' := Aside0.mk H
                           clear H
                           have p245 : 0 ≤ (x60_4 : Int) := of_decide_eq_true (by first | (with_reducible assumption) | assumption)
                           have q245 : x60_4 < ((rd_L1 t240 (rd x26_2 x46_3)).length : Int) := of_decide_eq_true (by first | (with_reducible assumption) | assumption)
                           obtain ⟨ad245, e245, hx245_0⟩ := Kd.qmA (Kd.qCB HV.out).2.2 x60_4 p245 q245
                           cases e245
                           replace p245 := eq_true p245
                           replace q245 := eq_true q245
                           go_wp2_with (first | ((with_reducible refine qM (f := 41) rfl ?_); refine qo (some 66) rfl rfl Try.func41 (by kernel_rfl) rfl #[.int .i64 (rd (rd_L1 t240 (rd x26_2 x46_3)) x60_4), .int .i64 1, .int .i64 (l0.length : Int)] rfl (by (try simp only [List.map_toArray, List.map_cons, List.map_nil]); first | done | rfl | (simp only [List.length_drop, List.length_take]; rfl)) ?_; (with_reducible refine (qv.calls (rd (rd_L1 t240 (rd x26_2 x46_3)) x60_4) 1 (l0.length : Int) true _ A36.out).mono ?_); rintro e w' ⟨rfl, ⟨nd, rfl⟩⟩; refine ⟨_, rfl, ?_⟩; (try (rw [drewN_self wr]; generalize hq_ : World.drewN wr _ = wr; have n0_ : Aside0 (Kd.R (Kd.int .i64) 3 wr w.heap.size (fun k_ => (w.heap.size ≤ k_) ∧ some k_ ≠ (v236 : Value).ownBlock) (.slice (some ad243) x26_2.length co30) x26_2) := ⟨by rw [← hq_]; exact (by (with_reducible repeat (first | apply Kd.qT | apply Kd.qS | apply Kd.qY)); exact HO_26.out)⟩; have n1_ : Aside0 (Kd.N (Kd.slice 3 (Kd.int .i64)) 42 wr w.heap.size (fun k_ => (w.heap.size ≤ k_) ∧ some k_ ≠ (.slice (some ad243) x26_2.length co30 : Value).ownBlock ∧ some k_ ≠ (v236 : Value).ownBlock ∧ k_ ≠ gb239) u4 x4_1) := ⟨by rw [← hq_]; exact (by (with_reducible repeat (first | apply Kd.qt | apply Kd.qs | apply Kd.qHA)); exact HO_4.out)⟩; have n2_ : Aside0 (Kd.R (Kd.int .i64) 3 wr w.heap.size (fun k_ => (w.heap.size ≤ k_) ∧ some k_ ≠ (.slice (some ad243) x26_2.length co30 : Value).ownBlock) v236 x43_4) := ⟨by rw [← hq_]; exact (by (with_reducible repeat (first | apply Kd.qT | apply Kd.qS | apply Kd.qY)); exact HO_43.out)⟩; have n3_ : Aside0 (wr.heap[gb239]? = some (.cells #[.int .i64 ((qB l0 x46_3).f0), .int .i64 ((qB l0 x46_3).f1), .int .i64 ((qB l0 x46_3).f2), .int .i64 ((qB l0 x46_3).f3), .int .i64 ((qB l0 x46_3).f4), .int .i64 ((qB l0 x46_3).f5)] 29 (0, 0))) := ⟨by rw [← hq_]; exact (by (with_reducible repeat (first | refine qO ?_ _ | refine qU ?_ | refine qP ?_ _)); exact BK239.out)⟩; have n4_ : Aside0 (Below w.heap.size w wr) := ⟨by rw [← hq_]; exact bl⟩; have n9_ : Aside0 (Kd.V (Kd.int .i64) 3 wr w.heap.size (fun k_ => some k_ ≠ (v236 : Value).ownBlock) (.slice (some ad245) (rd_L1 t240 (rd x26_2 x46_3)).length c244_0) (rd_L1 t240 (rd x26_2 x46_3))) := ⟨by rw [← hq_]; exact Kd.qrA HV.out _⟩; clear HO_26 HO_4 HO_43 BK239 HB HV hq_; have HV := n9_; clear n9_; have HO_26 := n0_; have HO_4 := n1_; have HO_43 := n2_; have BK239 := n3_; have HB := n4_; clear n0_ n1_ n2_ n3_ n4_)); obtain ⟨Ao41, co41, eo41⟩ := Kd.qGA HO_43.out; subst eo41; have p247 : 0 ≤ ((rd (rd_L1 t240 (rd x26_2 x46_3)) x60_4) : Int) := of_decide_eq_true (by first | (with_reducible assumption) | assumption); have q247 : (rd (rd_L1 t240 (rd x26_2 x46_3)) x60_4) < (x43_4.length : Int) := of_decide_eq_true (by first | (with_reducible assumption) | assumption); obtain ⟨ad247, e247, hx247_0⟩ := Kd.qmA (Kd.qZ HO_43.out).2.2 (rd (rd_L1 t240 (rd x26_2 x46_3)) x60_4) p247 q247; cases e247; replace p247 := eq_true p247; replace q247 := eq_true q247; have p40 : 0 ≤ ((rd (rd_L1 t240 (rd x26_2 x46_3)) x60_4) : Int) := of_decide_eq_true (by first | (with_reducible assumption) | assumption); have q40 : ((rd (rd_L1 t240 (rd x26_2 x46_3)) x60_4) : Int) < ((x43_4.length : Int) : Int) := of_decide_eq_true (by first | (with_reducible assumption) | assumption); obtain ⟨go40, co40, eo40, gb40, gl40, cl40, HG40⟩ := Kd.qMB HO_43.out (by omega); (first | cases eo40 | (injection eo40 with ea_ en_ ec_; (first | subst ea_ | (injection ea_ with ea_; subst ea_)); subst ec_; clear en_)); have GB40 := Aside0.mk gb40; have GG40 := Aside0.mk HG40; clear gb40 gl40 HG40; (first | simp only [qIB] at hx247_0 | skip); obtain ⟨hx40_0, hf40_0⟩ := Kd.qAB 0 HO_43.out ((rd (rd_L1 t240 (rd x26_2 x46_3)) x60_4) : Int) p40 q40; replace p40 := eq_true p40; replace q40 := eq_true q40; obtain ⟨hy42_, hz42_⟩ := Kd.qAB 0 HO_43.out ((rd (rd_L1 t240 (rd x26_2 x46_3)) x60_4) : Int) (of_decide_eq_true (by first | (with_reducible assumption) | assumption)) (of_decide_eq_true (by first | (with_reducible assumption) | assumption)); have HP42 := Kd.R_putg HO_43.out ((rd (rd_L1 t240 (rd x26_2 x46_3)) x60_4) : Int) (wrap64 ((rd x43_4 (rd (rd_L1 t240 (rd x26_2 x46_3)) x60_4)) + 1))) | ((with_reducible refine qiA (t := 3) (p := 73) rfl ?_); refine qpA (t := 3) (p := 73) (v := ?vo_w43) (w1 := (wr.setCell ⟨go40, ((rd (rd_L1 t240 (rd x26_2 x46_3)) x60_4) : Int).toNat, none⟩ (.int .i64 (wrap64 ((rd x43_4 (rd (rd_L1 t240 (rd x26_2 x46_3)) x60_4)) + 1))))) ?hg ?ho ?hn ?hr ?_; (case ho => rfl); (case hg => rfl); (case hn => rfl); (case hr => first | (go_simp; done) | (go_simp; rfl)); intro w43 hw; have hg : wr.grownBy w43 (some go40) := (by rw [hw]; exact HP42.2); have hp_ : Kd.R (Kd.int .i64) 3 w43 w.heap.size (fun k_ => (w.heap.size ≤ k_) ∧ some k_ ≠ (.slice (some ad243) x26_2.length co30 : Value).ownBlock) (.slice (some ⟨go40, 0, none⟩) x43_4.length co41) y248 := (by rw [hw, Ny248.out]; exact HP42.1); clear HP42; have n0_ := Aside0.mk (Kd.N_afterv (v := (.slice (some ⟨go40, 0, none⟩) x43_4.length co41)) (v1 := (.slice (some ⟨go40, 0, none⟩) x43_4.length co41)) (ok := (fun k_ => (w.heap.size ≤ k_) ∧ some k_ ≠ (.slice (some ad243) x26_2.length co30 : Value).ownBlock ∧ k_ ≠ gb239)) (by (with_reducible repeat (first | apply Kd.qt | apply Kd.qs | apply Kd.qHA)); exact Kd.qTA HO_4.out (fun _ hk => ⟨⟨hk.1, ⟨hk.2.1, hk.2.2.2⟩⟩, hk.2.2.1⟩)) hg (.inl rfl)); have n1_ := Aside0.mk (Kd.R_after (v := (.slice (some ⟨go40, 0, none⟩) x43_4.length co41)) (v1 := (.slice (some ⟨go40, 0, none⟩) x43_4.length co41)) (ok := (fun k_ => (w.heap.size ≤ k_))) (by (with_reducible repeat (first | apply Kd.qT | apply Kd.qS | apply Kd.qY)); exact HO_26.out) hg (.inl rfl)); have n2_ := Aside0.mk (hp_); have n3_ := Aside0.mk (blk_grown (g := gb239) (o := .cells #[.int .i64 ((qB l0 x46_3).f0), .int .i64 ((qB l0 x46_3).f1), .int .i64 ((qB l0 x46_3).f2), .int .i64 ((qB l0 x46_3).f3), .int .i64 ((qB l0 x46_3).f4), .int .i64 ((qB l0 x46_3).f5)] 29 (0, 0)) (by (with_reducible repeat (first | refine qO ?_ _ | refine qU ?_ | refine qP ?_ _)); exact BK239.out) hg (Kd.R_ne HO_43.out BK239.out (by decide))); have n4_ := Aside0.mk ((by rw [hw]; exact qx (HB.out) GB40.out : Below w.heap.size w w43)); clear HO_4; clear HO_26; clear HO_43; clear BK239; clear HB; have HO_4 := n0_; have HO_26 := n1_; have HO_43 := n2_; have BK239 := n3_; have HB := n4_; clear n0_ n1_ n2_ n3_ n4_; have n9_ := Aside0.mk (Kd.V_grown HV.out hg (fun k_ hk => hk)); clear HV; have HV := n9_; clear n9_; clear hg hw hp_))
                           go_roundg k4
                           case measure => have := HK1.out; have := HK2.out; have := HK3.out; have := HK4.out; omega
                           case rel => exact ⟨(x10_4), (y248), (wrap64 (x60_4 + 1)), (by first | rfl | (simp; done) | (simp [*]; done)), (by first | rfl | (simp; done) | (simp [*]; done)), H', ⟨by have := HK1.out; have := HK2.out; have := HK3.out; have := HK4.out; omega⟩, ⟨by (with_reducible repeat (first | apply Kd.qt | apply Kd.qs | apply Kd.qHA)); exact Kd.qTA HO_4.out (fun _ hk => ⟨hk.1.1, ⟨hk.1.2.1, ⟨hk.2, hk.1.2.2⟩⟩⟩)⟩, ⟨by (with_reducible repeat (first | apply Kd.qT | apply Kd.qS | apply Kd.qY)); exact HO_26.out⟩, ⟨by (with_reducible repeat (first | apply Kd.qT | apply Kd.qS | apply Kd.qY)); exact HO_43.out⟩, ⟨by (with_reducible repeat (first | refine qO ?_ _ | refine qU ?_ | refine qP ?_ _)); exact BK239.out⟩, ⟨bl⟩, ⟨by (with_reducible repeat (first | apply Kd.qzA | apply Kd.qrA | apply Kd.qLB)); exact HV.out⟩⟩
                          ·rw [if_neg c39] at H
                           exact absurd H (by simp)
                         ·rw [if_neg c38] at H
                          exact absurd H (by simp)
                        ·replace c37 := Bool.eq_false_iff.mpr c37
                         subst c37
                         have H1 : (qD.l3 k4 l0 (l0.length : Int) x4_1 x5_1 false x26_2 x43_4 l0 (l0.length : Int) x46_3 (rd_L1 t240 (rd x26_2 x46_3)) ((rd_L1 t240 (rd x26_2 x46_3)).length : Int) (wrap64 (x60_4 + 1))) = some r := by rw [if_neg (show ¬ (false = true) by decide)] at H; exact H
                         clear H
                         have H := H1
                         clear H1
                         have H' := Aside0.mk H
                         clear H
                         have p245 : 0 ≤ (x60_4 : Int) := of_decide_eq_true (by first | (with_reducible assumption) | assumption)
                         have q245 : x60_4 < ((rd_L1 t240 (rd x26_2 x46_3)).length : Int) := of_decide_eq_true (by first | (with_reducible assumption) | assumption)
                         obtain ⟨ad245, e245, hx245_0⟩ := Kd.qmA (Kd.qCB HV.out).2.2 x60_4 p245 q245
                         cases e245
                         replace p245 := eq_true p245
                         replace q245 := eq_true q245
                         go_wp2_with (first | ((with_reducible refine qM (f := 41) rfl ?_); refine qo (some 66) rfl rfl Try.func41 (by kernel_rfl) rfl #[.int .i64 (rd (rd_L1 t240 (rd x26_2 x46_3)) x60_4), .int .i64 1, .int .i64 (l0.length : Int)] rfl (by (try simp only [List.map_toArray, List.map_cons, List.map_nil]); first | done | rfl | (simp only [List.length_drop, List.length_take]; rfl)) ?_; (with_reducible refine (qv.calls (rd (rd_L1 t240 (rd x26_2 x46_3)) x60_4) 1 (l0.length : Int) false _ A36.out).mono ?_); rintro e w' ⟨rfl, ⟨nd, rfl⟩⟩; refine ⟨_, rfl, ?_⟩))
                         go_roundg k4
                         case measure => have := HK1.out; have := HK2.out; have := HK3.out; have := HK4.out; omega
                         case rel => exact ⟨(false), (x43_4), (wrap64 (x60_4 + 1)), (by first | rfl | (simp; done) | (simp [*]; done)), (by first | rfl | (simp; done) | (simp [*]; done)), H', ⟨by have := HK1.out; have := HK2.out; have := HK3.out; have := HK4.out; omega⟩, ⟨by (with_reducible repeat (first | apply Kd.qt | apply Kd.qs | apply Kd.qHA)); exact HO_4.out⟩, ⟨by (with_reducible repeat (first | apply Kd.qT | apply Kd.qS | apply Kd.qY)); exact HO_26.out⟩, ⟨by (with_reducible repeat (first | apply Kd.qT | apply Kd.qS | apply Kd.qY)); exact HO_43.out⟩, ⟨by (with_reducible repeat (first | refine qO ?_ _ | refine qU ?_ | refine qP ?_ _)); exact BK239.out⟩, ⟨bl⟩, ⟨by (with_reducible repeat (first | apply Kd.qzA | apply Kd.qrA | apply Kd.qLB)); exact HV.out⟩⟩
                       ·rw [if_neg c35] at H
                        exact absurd H (by simp)
                      ·rw [if_neg c34] at H
                       exact absurd H (by simp)
                     ·rw [if_neg c33] at H
                      have c33b0 : decide (x60_4 < ((rd_L1 t240 (rd x26_2 x46_3)).length : Int)) = false := decide_eq_false c33
                      clear c33
                      have H' := Aside0.mk H
                      clear H
                      go_wp2
                      go_roundg k4
                      case measure => have := HK1.out; have := HK2.out; have := HK3.out; have := HK4.out; omega
                      case rel => exact ⟨(x10_4), (x43_4), (wrap64 (x46_3 + 1)), (by first | rfl | (simp; done) | (simp [*]; done)), (by first | rfl | (simp; done) | (simp [*]; done)), H', ⟨by have := HK1.out; have := HK2.out; have := HK3.out; have := HK4.out; omega⟩, ⟨by (with_reducible repeat (first | apply Kd.qt | apply Kd.qs | apply Kd.qHA)); exact Kd.qTA HO_4.out (fun _ hk => ⟨hk.1, ⟨hk.2.1, hk.2.2.1⟩⟩)⟩, ⟨by (with_reducible repeat (first | apply Kd.qT | apply Kd.qS | apply Kd.qY)); exact HO_26.out⟩, ⟨by (with_reducible repeat (first | apply Kd.qT | apply Kd.qS | apply Kd.qY)); exact HO_43.out⟩, ⟨bl⟩⟩
                  ·rw [if_neg c25] at H
                   exact absurd H (by simp)
                 ·rw [if_neg c24] at H
                  exact absurd H (by simp)
                ·rw [if_neg c23] at H
                 exact absurd H (by simp)
               ·rw [if_neg c21] at H
                exact absurd H (by simp)
              ·rw [if_neg c20] at H
               exact absurd H (by simp)
             ·rw [if_neg c19] at H
              have c19b0 : decide (x46_3 < (l0.length : Int)) = false := decide_eq_false c19
              clear c19
              by_cases c44 : 1 ≤ (x43_3.length : Int)
              ·rw [if_pos c44] at H
               have c44b0 := eq_true c44
               have c44b1 : decide (1 ≤ (x43_3.length : Int)) = true := decide_eq_true c44
               clear c44
               obtain ⟨y249, hy249⟩ : ∃ y_ : List Int, y_ = (x43_3.drop 1) := ⟨_, rfl⟩
               replace H : (qD.l4 k3 l0 (l0.length : Int) x4_1 x5_1 x10_3 x26_2 y249 (y249.length : Int) 0) = some r := by first | (rw [hy249]; with_reducible exact H) | (have H2_ := (Option.bind_some _ _).symm.trans H; rw [hy249]; with_reducible exact H2_) | (have H2_ := (Option.bind_some _ _).symm.trans H; with_reducible exact H2_) | with_reducible exact H | (rw [hy249]; exact H) | exact H
               have Ny249 := Aside0.mk hy249
               clear hy249
               have H' := Aside0.mk H
               clear H
               obtain ⟨Ao46, co46, eo46⟩ := Kd.qGA HO_43.out
               subst eo46
               have q45 : (1 : Int) ≤ ((x43_3.length : Int) : Int) := of_decide_eq_true (by first | (with_reducible assumption) | assumption)
               obtain ⟨i045, hi045, _, hsz45, _⟩ := info_parts info3
               have hroom45 : x43_3.length ≤ co46 := (Kd.qZ HO_43.out).2.1
               have hC45 : Kd.F (Kd.int .i64) _ _ Ao46 x43_3.length x43_3 := (Kd.V_at (base := w.heap.size) (Kd.R_V (Kd.qkA (HO_43.out) (Kd.qkB HO_4.out) (by decide)))).2.2
               have hcut45 := cut_from (P := Try.prog) 42 3 .i64 Try.underlying42 hi045 1 hsz45 Ao46 x43_3.length co46 1 (by omega) q45
               have hr45 := Kd.F_cut (m := (1 : Int).toNat) (c := co46) hC45 (by omega) hroom45
               obtain ⟨A45, hA45⟩ : ∃ A1, A1 = (if co46 = (1 : Int).toNat then Ao46 else (Ao46 : Option Addr).map (·.add ((1 : Int).toNat * 1))) := ⟨_, rfl⟩
               obtain ⟨c45, hc45⟩ : ∃ c1, c1 = co46 - (1 : Int).toNat := ⟨_, rfl⟩
               have hy45 : y249.length = x43_3.length - (1 : Int).toNat := (by rw [Ny249.out, List.length_drop] <;> omega)
               rw [show (x43_3).drop (1 : Int).toNat = y249 from Ny249.out.symm] at hr45
               replace hr45 : Kd.F (Kd.int .i64) _ _ A45 y249.length y249 := (by rw [hA45]; exact hr45)
               rw [← hy45, ← hA45, ← hc45] at hcut45
               have HO253 := Aside0.mk (show Kd.V (Kd.int .i64) 3 _ w.heap.size _ (.slice A45 y249.length c45) y249 from Kd.V_mk (by rw [hy45, hc45]; exact Nat.sub_le_sub_right hroom45 _) hr45)
               have HC253 := Aside0.mk (show y249.length ≤ c45 from by rw [hy45, hc45]; exact Nat.sub_le_sub_right hroom45 _)
               clear hr45 hC45 hroom45 hi045 hsz45 hc45
               have KY45 := Aside0.mk hy45
               have KA45 := Aside0.mk hA45
               clear hy45 hA45
               replace q45 := eq_true q45
               go_wp2
               go_loopg [10, 79] k3 (fun kq v10 v79 w' => ∃ (x10_4 : Bool) (x79_4 : Int), v10 = .bool x10_4 ∧ v79 = .int .i64 x79_4 ∧ Aside0 (qD.l4 kq l0 (l0.length : Int) x4_1 x5_1 x10_4 x26_2 y249 (y249.length : Int) x79_4 = some r) ∧ Aside0 (kq ≤ k3) ∧ Aside0 (Kd.N (Kd.slice 3 (Kd.int .i64)) 42 w' w.heap.size (fun k_ => (w.heap.size ≤ k_) ∧ some k_ ≠ (v232 : Value).ownBlock) u4 x4_1) ∧ Aside0 (Kd.R (Kd.int .i64) 3 w' w.heap.size (fun k_ => (w.heap.size ≤ k_)) v232 x26_2) ∧ Aside0 (Kd.V (Kd.int .i64) 3 w' w.heap.size (fun k_ => (w.heap.size ≤ k_) ∧ some k_ ≠ (u4 : Value).ownBlock ∧ some k_ ≠ (v232 : Value).ownBlock) (.slice A45 y249.length c45) y249) ∧ Aside0 (Below w.heap.size w w'))
               case atStart => exact ⟨(x10_3), (0), (by first | rfl | (simp; done) | (simp [*]; done)), (by first | rfl | (simp; done) | (simp [*]; done)), H', ⟨Nat.le_refl _⟩, ⟨by (with_reducible repeat (first | apply Kd.qt | apply Kd.qs | apply Kd.qHA)); exact Kd.qTA HO_4.out (fun _ hk => ⟨hk.1, hk.2.1⟩)⟩, ⟨by (with_reducible repeat (first | apply Kd.qT | apply Kd.qS | apply Kd.qY)); exact Kd.qAA HO_26.out (fun _ hk => hk.1)⟩, ⟨by (with_reducible repeat (first | apply Kd.qzA | apply Kd.qrA | apply Kd.qLB)); exact Kd.quB HO253.out (fun _ hk => ⟨hk.1.1, ⟨hk.2, hk.1.2⟩⟩)⟩, ⟨bl⟩⟩
               case round =>
                clear H'
                try clear c1
                try clear p1
                try clear q1
                try clear hx1
                try clear hf1
                try clear c2
                try clear p2
                try clear q2
                try clear hx2
                try clear c3
                try clear c3b0
                try clear c4
                try clear c4b0
                try clear c4b1
                try clear p4
                try clear q4
                try clear hx4
                try clear hf4
                try clear c5
                try clear c5b0
                try clear c5b1
                try clear p6
                try clear c8
                try clear c8b0
                try clear c9
                try clear c9b0
                try clear c10
                try clear c10b0
                try clear p11
                try clear q11
                try clear hx11
                try clear hf11
                try clear c15
                try clear c15b0
                try clear c15b1
                try clear c16
                try clear c16b0
                try clear c16b1
                try clear c19
                try clear c19b0
                try clear c20
                try clear c20b0
                try clear c21
                try clear c21b0
                try clear c22
                try clear c23
                try clear c23b0
                try clear p23
                try clear q23
                try clear hx23
                try clear c24
                try clear c24b0
                try clear p24
                try clear q24
                try clear hx24
                try clear c25
                try clear c25b0
                try clear c29
                try clear c33
                try clear c33b0
                try clear c34
                try clear c34b0
                try clear c35
                try clear c35b0
                try clear c37
                try clear c38
                try clear c38b0
                try clear c39
                try clear c39b0
                try clear p40
                try clear q40
                try clear hx40
                try clear hf40
                try clear c41
                try clear c42
                try clear c44
                try clear c44b0
                try clear c44b1
                try clear c45
                try clear q45
                try clear hcz27_0
                try clear hcz27_1
                try clear hcz27_2
                try clear hcz27_3
                try clear hcz27_4
                try clear hcz27_5
                try clear hfz27_0
                try clear hfz27_1
                try clear hfz27_2
                try clear hfz27_3
                try clear hfz27_4
                try clear hfz27_5
                try clear hx11_0
                try clear hx238_0
                try clear hx238_1
                try clear hx238_2
                try clear hx238_3
                try clear hx238_4
                try clear hx238_5
                try clear hx243_0
                try clear hx244_0
                try clear hx245_0
                try clear hx247_0
                try clear hx40_0
                try clear p1
                try clear p11
                try clear p2
                try clear p23
                try clear p238
                try clear p24
                try clear p243
                try clear p244
                try clear p245
                try clear p247
                try clear p40
                try clear p6
                try clear q1
                try clear q11
                try clear q2
                try clear q23
                try clear q238
                try clear q24
                try clear q243
                try clear q244
                try clear q245
                try clear q247
                try clear q40
                try clear q45
                obtain ⟨x10_4, x79_4, rfl, rfl, HA, HK4, HO_4, HO_26, HO_77, HB⟩ := hrel
                cases gk with
                | zero => exact absurd HA.out (by simp [qD.l4])
                | succ k4 =>
                 have H := HA.out
                 clear HA
                 simp only [qD.l4] at H
                 by_cases c47 : x79_4 < (y249.length : Int)
                 ·rw [if_pos c47] at H
                  have c47b0 : decide (x79_4 < (y249.length : Int)) = true := decide_eq_true c47
                  clear c47
                  by_cases c48 : 0 ≤ x79_4
                  ·rw [if_pos c48] at H
                   have c48b0 : decide (0 ≤ x79_4) = true := decide_eq_true c48
                   clear c48
                   by_cases c49 : x79_4 < (y249.length : Int)
                   ·rw [if_pos c49] at H
                    have c49b0 : decide (x79_4 < (y249.length : Int)) = true := decide_eq_true c49
                    clear c49
                    by_cases c50 : x10_4 = true
                    ·subst c50
                     have H1 : (qD.l4 k4 l0 (l0.length : Int) x4_1 x5_1 ((rd y249 x79_4) == 2) x26_2 y249 (y249.length : Int) (wrap64 (x79_4 + 1))) = some r := by rw [if_pos rfl] at H; exact H
                     clear H
                     have H := H1
                     clear H1
                     have H' := Aside0.mk H
                     clear H
                     have p254 : 0 ≤ (x79_4 : Int) := of_decide_eq_true (by first | (with_reducible assumption) | assumption)
                     have q254 : x79_4 < (y249.length : Int) := of_decide_eq_true (by first | (with_reducible assumption) | assumption)
                     obtain ⟨ad254, e254, hx254_0⟩ := Kd.qmA (Kd.qCB HO_77.out).2.2 x79_4 p254 q254
                     cases e254
                     replace p254 := eq_true p254
                     replace q254 := eq_true q254
                     go_wp2
                     go_roundg k4
                     case measure => have := HK1.out; have := HK2.out; have := HK3.out; have := HK4.out; omega
                     case rel => exact ⟨(((rd y249 x79_4) == 2)), (wrap64 (x79_4 + 1)), (by first | rfl | (simp; done) | (simp [*]; done)), (by first | rfl | (simp; done) | (simp [*]; done)), H', ⟨by have := HK1.out; have := HK2.out; have := HK3.out; have := HK4.out; omega⟩, ⟨by (with_reducible repeat (first | apply Kd.qt | apply Kd.qs | apply Kd.qHA)); exact HO_4.out⟩, ⟨by (with_reducible repeat (first | apply Kd.qT | apply Kd.qS | apply Kd.qY)); exact HO_26.out⟩, ⟨by (with_reducible repeat (first | apply Kd.qzA | apply Kd.qrA | apply Kd.qLB)); exact HO_77.out⟩, ⟨bl⟩⟩
                    ·replace c50 := Bool.eq_false_iff.mpr c50
                     subst c50
                     have H1 : (qD.l4 k4 l0 (l0.length : Int) x4_1 x5_1 false x26_2 y249 (y249.length : Int) (wrap64 (x79_4 + 1))) = some r := by rw [if_neg (show ¬ (false = true) by decide)] at H; exact H
                     clear H
                     have H := H1
                     clear H1
                     have H' := Aside0.mk H
                     clear H
                     have p254 : 0 ≤ (x79_4 : Int) := of_decide_eq_true (by first | (with_reducible assumption) | assumption)
                     have q254 : x79_4 < (y249.length : Int) := of_decide_eq_true (by first | (with_reducible assumption) | assumption)
                     obtain ⟨ad254, e254, hx254_0⟩ := Kd.qmA (Kd.qCB HO_77.out).2.2 x79_4 p254 q254
                     cases e254
                     replace p254 := eq_true p254
                     replace q254 := eq_true q254
                     go_wp2
                     go_roundg k4
                     case measure => have := HK1.out; have := HK2.out; have := HK3.out; have := HK4.out; omega
                     case rel => exact ⟨(false), (wrap64 (x79_4 + 1)), (by first | rfl | (simp; done) | (simp [*]; done)), (by first | rfl | (simp; done) | (simp [*]; done)), H', ⟨by have := HK1.out; have := HK2.out; have := HK3.out; have := HK4.out; omega⟩, ⟨by (with_reducible repeat (first | apply Kd.qt | apply Kd.qs | apply Kd.qHA)); exact HO_4.out⟩, ⟨by (with_reducible repeat (first | apply Kd.qT | apply Kd.qS | apply Kd.qY)); exact HO_26.out⟩, ⟨by (with_reducible repeat (first | apply Kd.qzA | apply Kd.qrA | apply Kd.qLB)); exact HO_77.out⟩, ⟨bl⟩⟩
                   ·rw [if_neg c49] at H
                    exact absurd H (by simp)
                  ·rw [if_neg c48] at H
                   exact absurd H (by simp)
                 ·rw [if_neg c47] at H
                  have c47b0 : decide (x79_4 < (y249.length : Int)) = false := decide_eq_false c47
                  clear c47
                  by_cases c51 : x10_4 = true
                  ·subst c51
                   have H1 : (if x4_1.length < 5864062014805 then (qD.l0 k4 l0 (l0.length : Int) (x4_1 ++ [x26_2]) (wrap64 (x5_1 + 1))) else (none)) = some r := by rw [if_pos rfl] at H; exact H
                   clear H
                   have H := H1
                   clear H1
                   by_cases c52 : x4_1.length < 5864062014805
                   ·rw [if_pos c52] at H
                    have LMc52 := Aside0.mk c52
                    clear c52
                    obtain ⟨y255, hy255⟩ : ∃ y_ : List (List Int), y_ = (x4_1 ++ [x26_2]) := ⟨_, rfl⟩
                    replace H : (qD.l0 k4 l0 (l0.length : Int) y255 (wrap64 (x5_1 + 1))) = some r := by first | (rw [hy255]; with_reducible exact H) | (have H2_ := (Option.bind_some _ _).symm.trans H; rw [hy255]; with_reducible exact H2_) | (have H2_ := (Option.bind_some _ _).symm.trans H; with_reducible exact H2_) | with_reducible exact H | (rw [hy255]; exact H) | exact H
                    have Ny255 := Aside0.mk hy255
                    clear hy255
                    have H' := Aside0.mk H
                    clear H
                    obtain ⟨Ao54, co54, eo54⟩ := Kd.qGA HO_26.out
                    subst eo54
                    go_wp2_with (first | ((with_reducible refine qSA (b := .append) (xs := #[.tmp 90, .tmp 92]) rfl ?_); at_builtin; refine Kd.N_append (Kd.slice 3 (Kd.int .i64)) (w0 := w) w.heap.size rfl (.tmp 90) (.tmp 92) 26 42 (.slice none 0 0) 24 rfl Try.underlying26 info42 rfl (by decide) (by omega) u4 x4_1 x26_2 [.slice Ao54 x26_2.length co54] (fun k_ => (w.heap.size ≤ k_)) (fun k_ => ((fun k_ => (w.heap.size ≤ k_))) k_ ∧ some k_ ≠ (u4 : Value).ownBlock) rfl rfl ?aP (fun _ hk => hk) ?aF ?aO ?aB ?aS ?aL ?_; (case aP => exact (Kd.qdA (Kd.qZ (Kd.qAA (ok' := (fun k_ => ((fun k_ => (w.heap.size ≤ k_))) k_ ∧ some k_ ≠ (u4 : Value).ownBlock)) (Kd.qkA (HO_26.out) (Kd.qkB HO_4.out) (by decide)) (fun k_ hk => ⟨hk.1, hk.2⟩))).2.1 (Kd.R_F (Kd.qAA (ok' := (fun k_ => ((fun k_ => (w.heap.size ≤ k_))) k_ ∧ some k_ ≠ (u4 : Value).ownBlock)) (Kd.qkA (HO_26.out) (Kd.qkB HO_4.out) (by decide)) (fun k_ hk => ⟨hk.1, hk.2⟩))))); (case aB => exact bl); (case aF => exact (fun k_ hk => (Nat.le_trans (qL bl) hk))); (case aO => exact (by (with_reducible repeat (first | apply Kd.qt | apply Kd.qs | apply Kd.qHA)); exact Kd.qTA HO_4.out (fun _ hk => hk.1))); (case aS => exact (qL bl)); (case aL => have := LMc52.out; omega); intro v256 w53 ho hb hg hat; rw [← Ny255.out] at ho; have n0_ := Aside0.mk (Kd.V_afterv (ok := (fun k_ => (w.heap.size ≤ k_) ∧ some k_ ≠ (.slice Ao54 x26_2.length co54 : Value).ownBlock)) (by (with_reducible repeat (first | apply Kd.qzA | apply Kd.qrA | apply Kd.qLB)); exact Kd.quB HO_77.out (fun _ hk => ⟨⟨hk.1, hk.2.2⟩, hk.2.1⟩)) hg hat); have n1_ := Aside0.mk (hb); have n2_ := Aside0.mk (ho); clear HO_77; clear HB; clear HO_4; clear HO_26; have HO_77 := n0_; have HB := n1_; have HO257 := n2_; clear n0_ n1_ n2_; clear ho hb hg hat))
                    go_roundg k4
                    case measure => have := HK1.out; have := HK2.out; have := HK3.out; have := HK4.out; omega
                    case rel => exact ⟨(y255), (wrap64 (x5_1 + 1)), (by first | rfl | (simp; done) | (simp [*]; done)), H', ⟨by have := HK1.out; have := HK2.out; have := HK3.out; have := HK4.out; omega⟩, ⟨by (with_reducible repeat (first | apply Kd.qt | apply Kd.qs | apply Kd.qHA)); exact HO257.out⟩, ⟨bl⟩⟩
                   ·rw [if_neg c52] at H
                    exact absurd H (by simp)
                  ·replace c51 := Bool.eq_false_iff.mpr c51
                   subst c51
                   have H1 : (qD.l0 k4 l0 (l0.length : Int) x4_1 (wrap64 (x5_1 + 1))) = some r := by rw [if_neg (show ¬ (false = true) by decide)] at H; exact H
                   clear H
                   have H := H1
                   clear H1
                   have H' := Aside0.mk H
                   clear H
                   go_wp2
                   go_roundg k4
                   case measure => have := HK1.out; have := HK2.out; have := HK3.out; have := HK4.out; omega
                   case rel => exact ⟨(x4_1), (wrap64 (x5_1 + 1)), (by first | rfl | (simp; done) | (simp [*]; done)), H', ⟨by have := HK1.out; have := HK2.out; have := HK3.out; have := HK4.out; omega⟩, ⟨by (with_reducible repeat (first | apply Kd.qt | apply Kd.qs | apply Kd.qHA)); exact Kd.qTA HO_4.out (fun _ hk => hk.1)⟩, ⟨bl⟩⟩
              ·rw [if_neg c44] at H
               exact absurd H (by simp)
          ·rw [if_neg c16] at H
           exact absurd H (by simp)
         ·rw [if_neg c15] at H
          exact absurd H (by simp)
     ·rw [if_neg c5] at H
      exact absurd H (by simp)
    ·rw [if_neg c4] at H
     exact absurd H (by simp)
   ·rw [if_neg c3] at H
    have c3b0 : decide (x5_1 < t230) = false := decide_eq_false c3
    clear c3
    obtain rfl := Option.some.inj H
    go_wp2_with (first | ((with_reducible refine qM (f := 42) rfl ?_); refine qo (some 21) rfl rfl Try.func42 (by kernel_rfl) rfl #[.int .i64 3, .int .i64 (l0.length : Int)] rfl (by (try simp only [List.map_toArray, List.map_cons, List.map_nil]); first | done | rfl | (simp only [List.length_drop, List.length_take]; rfl)) ?_; (with_reducible refine (qd.calls k1 3 (l0.length : Int) t230 _ A2.out).mono ?_); rintro e w' ⟨rfl, ⟨nd, rfl⟩⟩; refine ⟨_, rfl, ?_⟩))
    go_ret
    exact ⟨_, by first | rfl | (simp [qJ, qI] <;> rfl) | (simp [*, qJ, qI] <;> rfl), by (with_reducible repeat (first | apply Kd.qt | apply Kd.qs | apply Kd.qHA)); exact HO_4.out, bl⟩
def ql.f (k : Nat) (l0 : List (S29)) : Option (Int × Bool) := (qX.f k l0).bind fun t258 => (if t258 = true then ((qD.f k l0).bind fun t259 => (some ((t259.length : Int), true))) else (some (0, false)))
set_option maxHeartbeats 8000000 in
set_option maxRecDepth 100000 in
theorem ql.calls (k : Nat) (A0 : Option Addr) (c0 : Nat) (l0 : List (S29)) (r1 : Int) (r2 : Bool) (w : World) (hr0 : Kd.C k29 w A0 l0.length l0) (hc0 : l0.length ≤ c0) (h : ql.f k l0 = some (r1, r2)) :
  Calls Try.prog 15 #[.slice A0 l0.length c0] w fun e w' => e = .returned (.tuple #[.int .i64 r1, .bool r2]) ∧ Below w.heap.size w w' := by
 have HR0 := Aside0.mk hr0
 have HC0 := Aside0.mk hc0
 clear hr0 hc0
 have HB := Aside0.mk (Below.refl w.heap.size w)
 have H : ((qX.f k l0).bind fun t258 => (if t258 = true then ((qD.f k l0).bind fun t259 => (some ((t259.length : Int), true))) else (some (0, false)))) = some (r1, r2) := h
 clear h
 replace H := Option.bind_eq_some_iff.mp H
 obtain ⟨t258, A20, H⟩ := H
 replace H : (if t258 = true then ((qD.f k l0).bind fun t259 => (some ((t259.length : Int), true))) else (some (0, false))) = some (r1, r2) := H
 have A2 := Aside0.mk A20
 clear A20
 by_cases c3 : t258 = true
 ·subst c3
  have H1 : ((qD.f k l0).bind fun t259 => (some ((t259.length : Int), true))) = some (r1, r2) := by rw [if_pos rfl] at H; exact H
  clear H
  have H := H1
  clear H1
  replace H := Option.bind_eq_some_iff.mp H
  obtain ⟨t259, A40, H⟩ := H
  replace H : (some ((t259.length : Int), true)) = some (r1, r2) := H
  have A4 := Aside0.mk A40
  clear A40
  simp only [Option.some.injEq, Prod.mk.injEq] at H
  obtain ⟨rfl, rfl⟩ := H
  go_enter Try.func15, Try.ntmps15
  go_wp2_with (first | ((with_reducible refine qM (f := 28) rfl ?_); refine qo (some 5) rfl rfl Try.func28 (by kernel_rfl) rfl #[.slice A0 l0.length c0] rfl (by (try simp only [List.map_toArray, List.map_cons, List.map_nil]); first | done | rfl | (simp only [List.length_drop, List.length_take]; rfl)) ?_; (with_reducible refine (qX.calls k _ _ l0 true _ ?side1 ?side2 A2.out).mono ?_); (case side1 => repeat (first | exact HR0.out | (with_reducible refine Kd.qDA ?_ _) | (with_reducible refine Kd.qCA ?_ _) | (with_reducible refine Kd.qOA ?_))); (case side2 => exact HC0.out); rintro e w5 ⟨rfl, hb⟩; refine ⟨_, rfl, ?_⟩; have n0_ := Aside0.mk (qF bl hb); clear HB; have HB := n0_; clear n0_; (try clear hb); (try clear hb2); (try clear hk); (try clear hi)) | ((with_reducible refine qM (f := 29) rfl ?_); refine qo (some 8) rfl rfl Try.func29 (by kernel_rfl) rfl #[.slice A0 l0.length c0] rfl (by (try simp only [List.map_toArray, List.map_cons, List.map_nil]); first | done | rfl | (simp only [List.length_drop, List.length_take]; rfl)) ?_; (with_reducible refine (qD.calls k _ _ l0 t259 _ ?side1 ?side2 A4.out).mono ?_); (case side1 => repeat (first | exact (Kd.qZA HR0.out HB.out) | (with_reducible refine Kd.qDA ?_ _) | (with_reducible refine Kd.qCA ?_ _) | (with_reducible refine Kd.qOA ?_))); (case side2 => exact HC0.out); rintro e w6 ⟨v260, rfl, ho0, hb⟩; refine ⟨_, rfl, ?_⟩; have n0_ := Aside0.mk (Kd.qlB (Kd.qTA (ok' := fun k_ => True) ho0 (fun k_ hk_ => trivial)) (qL bl)); have n1_ := Aside0.mk (qF bl hb); clear HB; have HO261 := n0_; have HB := n1_; clear n0_ n1_; (try clear hb); (try clear hb2); (try clear hk); (try clear hi); (try clear ho0); obtain ⟨Ao7, co7, eo7⟩ := Kd.N_slice HO261.out; subst eo7))
  go_ret2
  exact ⟨by first | rfl | (simp [qJ, qI] <;> rfl) | (simp [*, qJ, qI] <;> rfl), bl⟩
 ·replace c3 := Bool.eq_false_iff.mpr c3
  subst c3
  have H1 : (some (0, false)) = some (r1, r2) := by rw [if_neg (show ¬ (false = true) by decide)] at H; exact H
  clear H
  have H := H1
  clear H1
  simp only [Option.some.injEq, Prod.mk.injEq] at H
  obtain ⟨rfl, rfl⟩ := H
  go_enter Try.func15, Try.ntmps15
  go_wp2_with (first | ((with_reducible refine qM (f := 28) rfl ?_); refine qo (some 5) rfl rfl Try.func28 (by kernel_rfl) rfl #[.slice A0 l0.length c0] rfl (by (try simp only [List.map_toArray, List.map_cons, List.map_nil]); first | done | rfl | (simp only [List.length_drop, List.length_take]; rfl)) ?_; (with_reducible refine (qX.calls k _ _ l0 false _ ?side1 ?side2 A2.out).mono ?_); (case side1 => repeat (first | exact HR0.out | (with_reducible refine Kd.qDA ?_ _) | (with_reducible refine Kd.qCA ?_ _) | (with_reducible refine Kd.qOA ?_))); (case side2 => exact HC0.out); rintro e w8 ⟨rfl, hb⟩; refine ⟨_, rfl, ?_⟩; have n0_ := Aside0.mk (qF bl hb); clear HB; have HB := n0_; clear n0_; (try clear hb); (try clear hb2); (try clear hk); (try clear hi)))
  go_ret2
  exact ⟨by first | rfl | (simp [qJ, qI] <;> rfl) | (simp [*, qJ, qI] <;> rfl), bl⟩
def qaA.f (a0_0 : Int) (a0_1 : Int) (a0_2 : Int) (a0_3 : Int) (a0_4 : Int) (a0_5 : Int) : Option (Int × Int × Int × Int × Int × Int) := some (a0_0, a0_1, a0_2, a0_3, a0_4, a0_5)
set_option maxHeartbeats 8000000 in
set_option maxRecDepth 100000 in
theorem qaA.calls (a0_0 : Int) (a0_1 : Int) (a0_2 : Int) (a0_3 : Int) (a0_4 : Int) (a0_5 : Int) (r1 : Int) (r2 : Int) (r3 : Int) (r4 : Int) (r5 : Int) (r6 : Int) (w : World) (h : qaA.f a0_0 a0_1 a0_2 a0_3 a0_4 a0_5 = some (r1, r2, r3, r4, r5, r6)) :
  Calls Try.prog 9 #[.agg #[.int .i64 a0_0, .int .i64 a0_1, .int .i64 a0_2, .int .i64 a0_3, .int .i64 a0_4, .int .i64 a0_5]] w fun e w' => e = .returned (.agg #[.int .i64 r1, .int .i64 r2, .int .i64 r3, .int .i64 r4, .int .i64 r5, .int .i64 r6]) ∧ Below w.heap.size w w' := by
 have hu25 := Try.underlying25
 have hu29 := Try.underlying29
 have HB := Aside0.mk (Below.refl w.heap.size w)
 have H : (some (a0_0, a0_1, a0_2, a0_3, a0_4, a0_5)) = some (r1, r2, r3, r4, r5, r6) := h
 clear h
 simp only [Option.some.injEq, Prod.mk.injEq] at H
 obtain ⟨rfl, rfl, rfl, rfl, rfl, rfl⟩ := H
 go_enter Try.func9, Try.ntmps9
 go_wp2_with (first | ((with_reducible refine qV (N := 1) rfl ?_); refine qW ?hg (N := 1) ?hd (cs := #[.int .i64 a0_0, .int .i64 a0_1, .int .i64 a0_2, .int .i64 a0_3, .int .i64 a0_4, .int .i64 a0_5]) (t := 25) ?hr ?_; (case hd => rfl); (case hg => rfl); (case hr => first | (go_simp; done) | (go_simp; rfl)); intro gb177 hg w2 hbox hb; have n0_ := Aside0.mk (qF bl hb); have n1_ := Aside0.mk (hbox); have n2_ := Aside0.mk ((gg hg)); have n3_ := Aside0.mk ((gg hg)); clear HB; have HB := n0_; have BK177 := n1_; have GW177 := n2_; have GE177 := n3_; clear n0_ n1_ n2_ n3_; clear hb hbox hg) | ((with_reducible refine qV (N := 2) rfl ?_); refine qW ?hg (N := 2) ?hd (cs := #[.int .i64 0, .int .i64 0, .int .i64 0, .int .i64 0, .int .i64 0, .int .i64 0]) (t := 29) ?hr ?_; (case hd => rfl); (case hg => rfl); (case hr => first | (go_simp; done) | (go_simp; rfl)); intro gb178 hg w3 hbox hb; have n0_ := Aside0.mk (bb BK177 hb); have n1_ := Aside0.mk (qF bl hb); have n2_ := Aside0.mk (hbox); have n3_ := Aside0.mk ((gg hg)); have n4_ := Aside0.mk ((gg hg)); have n5_ := Aside0.mk ((nl BK177 hg)); have n6_ := Aside0.mk ((nr BK177 hg)); clear BK177; clear HB; have BK177 := n0_; have HB := n1_; have BK178 := n2_; have GW178 := n3_; have GE178 := n4_; have NB177_178 := n5_; have NB178_177 := n6_; clear n0_ n1_ n2_ n3_ n4_ n5_ n6_; clear hb hbox hg) | ((with_reducible refine qV (N := 3) rfl ?_); refine qW ?hg (N := 3) ?hd (cs := #[.int .i64 0, .int .i64 0, .int .i64 0, .int .i64 0, .int .i64 0, .int .i64 0]) (t := 29) ?hr ?_; (case hd => rfl); (case hg => rfl); (case hr => first | (go_simp; done) | (go_simp; rfl)); intro gb179 hg w4 hbox hb; have n0_ := Aside0.mk (bb BK177 hb); have n1_ := Aside0.mk (bb BK178 hb); have n2_ := Aside0.mk (qF bl hb); have n3_ := Aside0.mk (hbox); have n4_ := Aside0.mk ((gg hg)); have n5_ := Aside0.mk ((gg hg)); have n6_ := Aside0.mk ((nl BK177 hg)); have n7_ := Aside0.mk ((nr BK177 hg)); have n8_ := Aside0.mk ((nl BK178 hg)); have n9_ := Aside0.mk ((nr BK178 hg)); clear BK177; clear BK178; clear HB; have BK177 := n0_; have BK178 := n1_; have HB := n2_; have BK179 := n3_; have GW179 := n4_; have GE179 := n5_; have NB177_179 := n6_; have NB179_177 := n7_; have NB178_179 := n8_; have NB179_178 := n9_; clear n0_ n1_ n2_ n3_ n4_ n5_ n6_ n7_ n8_ n9_; clear hb hbox hg; have hnb5 := NB177_178.out; have hnc5 := NB178_177.out; have hnb6 := NB177_179.out; have hnc6 := NB179_177.out; have hcz7_0 := bc BK177 0; have hcz7_1 := bc BK177 1; have hcz7_2 := bc BK177 2; have hcz7_3 := bc BK177 3; have hcz7_4 := bc BK177 4; have hcz7_5 := bc BK177 5; have hfz7_0 := qA BK177.out 0; have hfz7_1 := qA BK177.out 1; have hfz7_2 := qA BK177.out 2; have hfz7_3 := qA BK177.out 3; have hfz7_4 := qA BK177.out 4; have hfz7_5 := qA BK177.out 5; have hnb8 := NB179_178.out; have hnc8 := NB178_179.out; have hcz9_0 := bc BK179 0; have hcz9_1 := bc BK179 1; have hcz9_2 := bc BK179 2; have hcz9_3 := bc BK179 3; have hcz9_4 := bc BK179 4; have hcz9_5 := bc BK179 5; have hfz9_0 := qA BK179.out 0; have hfz9_1 := qA BK179.out 1; have hfz9_2 := qA BK179.out 2; have hfz9_3 := qA BK179.out 3; have hfz9_4 := qA BK179.out 4; have hfz9_5 := qA BK179.out 5; have hcz10_0 := bc BK178 0; have hcz10_1 := bc BK178 1; have hcz10_2 := bc BK178 2; have hcz10_3 := bc BK178 3; have hcz10_4 := bc BK178 4; have hcz10_5 := bc BK178 5; have hfz10_0 := qA BK178.out 0; have hfz10_1 := qA BK178.out 1; have hfz10_2 := qA BK178.out 2; have hfz10_3 := qA BK178.out 3; have hfz10_4 := qA BK178.out 4; have hfz10_5 := qA BK178.out 5))
 refine bodyPost_ret (results_cell_row rfl _ _ gb178 29 #[.int .i64 a0_0, .int .i64 a0_1, .int .i64 a0_2, .int .i64 a0_3, .int .i64 a0_4, .int .i64 a0_5] (0, 0) _ rfl (by (with_reducible repeat (first | refine qO ?_ _ | refine qU ?_ | refine qP ?_ _)); refine qq (cs := #[.int .i64 a0_0, .int .i64 a0_1, .int .i64 a0_2, .int .i64 a0_3, .int .i64 a0_4, .int .i64 0]) ?_ 5 _ rfl; (with_reducible repeat (first | refine qO ?_ _ | refine qU ?_ | refine qP ?_ _)); refine qq (cs := #[.int .i64 a0_0, .int .i64 a0_1, .int .i64 a0_2, .int .i64 a0_3, .int .i64 0, .int .i64 0]) ?_ 4 _ rfl; (with_reducible repeat (first | refine qO ?_ _ | refine qU ?_ | refine qP ?_ _)); refine qq (cs := #[.int .i64 a0_0, .int .i64 a0_1, .int .i64 a0_2, .int .i64 0, .int .i64 0, .int .i64 0]) ?_ 3 _ rfl; (with_reducible repeat (first | refine qO ?_ _ | refine qU ?_ | refine qP ?_ _)); refine qq (cs := #[.int .i64 a0_0, .int .i64 a0_1, .int .i64 0, .int .i64 0, .int .i64 0, .int .i64 0]) ?_ 2 _ rfl; (with_reducible repeat (first | refine qO ?_ _ | refine qU ?_ | refine qP ?_ _)); refine qq (cs := #[.int .i64 a0_0, .int .i64 0, .int .i64 0, .int .i64 0, .int .i64 0, .int .i64 0]) ?_ 1 _ rfl; (with_reducible repeat (first | refine qO ?_ _ | refine qU ?_ | refine qP ?_ _)); refine qq (cs := #[.int .i64 0, .int .i64 0, .int .i64 0, .int .i64 0, .int .i64 0, .int .i64 0]) ?_ 0 _ rfl; (with_reducible repeat (first | refine qO ?_ _ | refine qU ?_ | refine qP ?_ _)); refine qqA ?_ NB178_179.out _; (with_reducible repeat (first | refine qO ?_ _ | refine qU ?_ | refine qP ?_ _)); refine qqA ?_ NB178_179.out _; (with_reducible repeat (first | refine qO ?_ _ | refine qU ?_ | refine qP ?_ _)); refine qqA ?_ NB178_179.out _; (with_reducible repeat (first | refine qO ?_ _ | refine qU ?_ | refine qP ?_ _)); refine qqA ?_ NB178_179.out _; (with_reducible repeat (first | refine qO ?_ _ | refine qU ?_ | refine qP ?_ _)); refine qqA ?_ NB178_179.out _; (with_reducible repeat (first | refine qO ?_ _ | refine qU ?_ | refine qP ?_ _)); refine qqA ?_ NB178_179.out _; (with_reducible repeat (first | refine qO ?_ _ | refine qU ?_ | refine qP ?_ _)); exact BK178.out) Try.underlying29 rfl (by kernel_rfl)) rfl ?_
 exact ⟨by first | rfl | (simp [qJ, qI] <;> rfl) | (simp [*, qJ, qI] <;> rfl), bl⟩
def qR.l0 : Nat → List (S25) → Int → List (S29) → Option ((List (S29)))
 | 0, _, _, _ => none
 | k + 1, x0, x4, x7 => if x4 < (x0.length : Int) then (if 0 ≤ x4 then ((qaA.f ((qEA x0 x4).f0) ((qEA x0 x4).f1) ((qEA x0 x4).f2) ((qEA x0 x4).f3) ((qEA x0 x4).f4) ((qEA x0 x4).f5)).bind fun bt266 => (if x4 < (x7.length : Int) then (qR.l0 k x0 (wrap64 (x4 + 1)) (x7.set (x4 : Int).toNat (⟨bt266.1, bt266.2.1, bt266.2.2.1, bt266.2.2.2.1, bt266.2.2.2.2.1, bt266.2.2.2.2.2⟩ : S29))) else (none))) else (none)) else (some x7)
def qR.f (k : Nat) (l0 : List (S25)) : Option ((List (S29))) := if 0 ≤ (l0.length : Int) then (if ((l0.length : Int) : Int).toNat ≤ 5864062014805 then (qR.l0 k l0 0 (List.replicate ((l0.length : Int) : Int).toNat z29)) else (none)) else (none)
set_option maxHeartbeats 8000000 in
set_option maxRecDepth 100000 in
theorem qR.calls (k : Nat) (A0 : Option Addr) (c0 : Nat) (l0 : List (S25)) (r : List (S29)) (w : World) (hr0 : Kd.C k25 w A0 l0.length l0) (hc0 : l0.length ≤ c0) (h : qR.f k l0 = some r) :
  Calls Try.prog 16 #[.slice A0 l0.length c0] w fun e w' => ∃ v0_ : Value, e = .returned (v0_) ∧ Kd.R k29 29 w' w.heap.size (fun _ => True) v0_ r ∧ Below w.heap.size w w' := by
 have hu25 := Try.underlying25
 have hu29 := Try.underlying29
 have HR0 := Aside0.mk hr0
 have HC0 := Aside0.mk hc0
 clear hr0 hc0
 have HB := Aside0.mk (Below.refl w.heap.size w)
 have H : (if 0 ≤ (l0.length : Int) then (if ((l0.length : Int) : Int).toNat ≤ 5864062014805 then (qR.l0 k l0 0 (List.replicate ((l0.length : Int) : Int).toNat z29)) else (none)) else (none)) = some r := h
 clear h
 by_cases c2 : 0 ≤ (l0.length : Int)
 ·rw [if_pos c2] at H
  have c2b0 := eq_true c2
  have c2b1 : decide (0 ≤ (l0.length : Int)) = true := decide_eq_true c2
  clear c2
  by_cases c3 : ((l0.length : Int) : Int).toNat ≤ 5864062014805
  ·rw [if_pos c3] at H
   have c3b0 := eq_true c3
   have c3b1 : decide (((l0.length : Int) : Int).toNat ≤ 5864062014805) = true := decide_eq_true c3
   clear c3
   obtain ⟨y262, hy262⟩ : ∃ y_ : List (S29), y_ = (List.replicate ((l0.length : Int) : Int).toNat z29) := ⟨_, rfl⟩
   replace H : (qR.l0 k l0 0 y262) = some r := by first | (rw [hy262]; with_reducible exact H) | (have H2_ := (Option.bind_some _ _).symm.trans H; rw [hy262]; with_reducible exact H2_) | (have H2_ := (Option.bind_some _ _).symm.trans H; with_reducible exact H2_) | with_reducible exact H | (rw [hy262]; exact H) | exact H
   have Ny262 := Aside0.mk hy262
   clear hy262
   have H' := Aside0.mk H
   clear H
   go_enter Try.func16, Try.ntmps16
   go_wp2_with (first | ((with_reducible refine qV (N := 7) rfl ?_); refine Kd.qqB k29 _ 29 rfl (N := 7) rfl 38 _ _ rfl (l0.length : Int) rfl rfl Try.underlying38 (.agg #[(.int .i64 0), (.int .i64 0), (.int .i64 0), (.int .i64 0), (.int .i64 0), (.int .i64 0)]) 48 info29 rfl (by decide) (by omega) z29 (ok := fun _ => True) (okp := fun _ => True) (k29_mkM _ _ _ z29 ) (fun _ hk => hk) trivial (of_decide_eq_true (by first | (with_reducible assumption) | assumption)) (Nat.le_trans (Nat.mul_le_mul_right _ (of_decide_eq_true (by first | (with_reducible assumption) | assumption) : (l0.length : Int).toNat ≤ 5864062014805)) (by omega)) (Below.refl _ _) (Nat.le_refl _) ?_; intro v263 w4 ho5 hb hg_ hnew_; clear hg_ hnew_; (first | rw [← Ny262.out] at ho5 | (simp only [Int.reduceToNat] at ho5; rw [← Ny262.out] at ho5)); have n0_ := Aside0.mk (Kd.qr ho5 (qL bl)); have n1_ := Aside0.mk (qF bl hb); clear HB; have HO264 := n0_; have HB := n1_; clear n0_ n1_; clear hb ho5))
   go_loopg [4] k (fun kq v4 w' => ∃ (x4_1 : Int) (x7_1 : List (S29)), v4 = .int .i64 x4_1 ∧ Aside0 (qR.l0 kq l0 x4_1 x7_1 = some r) ∧ Aside0 (kq ≤ k) ∧ Aside0 (Kd.R k29 29 w' w.heap.size (fun _ => True) v263 x7_1) ∧ Aside0 (Below w.heap.size w w'))
   case atStart => exact ⟨(0), (y262), (by first | rfl | (simp; done) | (simp [*]; done)), H', ⟨Nat.le_refl _⟩, ⟨by (with_reducible repeat (first | apply Kd.qT | apply Kd.qS | apply Kd.qY)); exact HO264.out⟩, ⟨bl⟩⟩
   case round =>
    clear H'
    try clear c1
    try clear c2
    try clear c2b0
    try clear c2b1
    try clear p2
    try clear c3
    try clear c3b0
    try clear c3b1
    obtain ⟨x4_1, x7_1, rfl, HA, HK1, HO_7, HB⟩ := hrel
    cases gk with
    | zero => exact absurd HA.out (by simp [qR.l0])
    | succ k1 =>
     have H := HA.out
     clear HA
     simp only [qR.l0] at H
     by_cases c6 : x4_1 < (l0.length : Int)
     ·rw [if_pos c6] at H
      have c6b0 : decide (x4_1 < (l0.length : Int)) = true := decide_eq_true c6
      clear c6
      by_cases c7 : 0 ≤ x4_1
      ·rw [if_pos c7] at H
       have c7b0 : decide (0 ≤ x4_1) = true := decide_eq_true c7
       clear c7
       replace H := Option.bind_eq_some_iff.mp H
       obtain ⟨⟨t266, t267, t268, t269, t270, t271⟩, A80, H⟩ := H
       replace H : (if x4_1 < (x7_1.length : Int) then (qR.l0 k1 l0 (wrap64 (x4_1 + 1)) (x7_1.set (x4_1 : Int).toNat (⟨t266, t267, t268, t269, t270, t271⟩ : S29))) else (none)) = some r := H
       have A8 := Aside0.mk A80
       clear A80
       by_cases c9 : x4_1 < (x7_1.length : Int)
       ·rw [if_pos c9] at H
        have c9b0 : decide (x4_1 < (x7_1.length : Int)) = true := decide_eq_true c9
        clear c9
        obtain ⟨y272, hy272⟩ : ∃ y_ : List (S29), y_ = (x7_1.set (x4_1 : Int).toNat (⟨t266, t267, t268, t269, t270, t271⟩ : S29)) := ⟨_, rfl⟩
        replace H : (qR.l0 k1 l0 (wrap64 (x4_1 + 1)) y272) = some r := by first | (rw [hy272]; with_reducible exact H) | (have H2_ := (Option.bind_some _ _).symm.trans H; rw [hy272]; with_reducible exact H2_) | (have H2_ := (Option.bind_some _ _).symm.trans H; with_reducible exact H2_) | with_reducible exact H | (rw [hy272]; exact H) | exact H
        have Ny272 := Aside0.mk hy272
        clear hy272
        have H' := Aside0.mk H
        clear H
        have p265 : 0 ≤ (x4_1 : Int) := of_decide_eq_true (by first | (with_reducible assumption) | assumption)
        have q265 : x4_1 < (l0.length : Int) := of_decide_eq_true (by first | (with_reducible assumption) | assumption)
        obtain ⟨ad265, e265, hx265_0, hx265_1, hx265_2, hx265_3, hx265_4, hx265_5⟩ := at_T25 HR0.out x4_1 p265 q265
        cases e265
        replace hx265_0 := (HB.out.cell (World.block_lt_of_cell? w _ hx265_0)).trans hx265_0
        replace hx265_1 := (HB.out.cell (World.block_lt_of_cell? w _ hx265_1)).trans hx265_1
        replace hx265_2 := (HB.out.cell (World.block_lt_of_cell? w _ hx265_2)).trans hx265_2
        replace hx265_3 := (HB.out.cell (World.block_lt_of_cell? w _ hx265_3)).trans hx265_3
        replace hx265_4 := (HB.out.cell (World.block_lt_of_cell? w _ hx265_4)).trans hx265_4
        replace hx265_5 := (HB.out.cell (World.block_lt_of_cell? w _ hx265_5)).trans hx265_5
        replace p265 := eq_true p265
        replace q265 := eq_true q265
        go_wp2_with (first | ((with_reducible refine qM (f := 9) rfl ?_); refine qo (some 20) rfl rfl Try.func9 (by kernel_rfl) rfl #[.agg #[.int .i64 ((qEA l0 x4_1).f0), .int .i64 ((qEA l0 x4_1).f1), .int .i64 ((qEA l0 x4_1).f2), .int .i64 ((qEA l0 x4_1).f3), .int .i64 ((qEA l0 x4_1).f4), .int .i64 ((qEA l0 x4_1).f5)]] rfl (by (try simp only [List.map_toArray, List.map_cons, List.map_nil]); first | done | rfl | (simp only [List.length_drop, List.length_take]; rfl)) ?_; (with_reducible refine (qaA.calls ((qEA l0 x4_1).f0) ((qEA l0 x4_1).f1) ((qEA l0 x4_1).f2) ((qEA l0 x4_1).f3) ((qEA l0 x4_1).f4) ((qEA l0 x4_1).f5) t266 t267 t268 t269 t270 t271 _ A8.out).mono ?_); rintro e w11 ⟨rfl, hb⟩; refine ⟨_, rfl, ?_⟩; have n0_ := Aside0.mk (Kd.qBA (by (with_reducible repeat (first | apply Kd.qT | apply Kd.qS | apply Kd.qY)); exact HO_7.out) hb); have n1_ := Aside0.mk (qF bl hb); clear HO_7; clear HB; have HO_7 := n0_; have HB := n1_; clear n0_ n1_; (try clear hb); (try clear hb2); (try clear hk); (try clear hi); have p10 : 0 ≤ (x4_1 : Int) := of_decide_eq_true (by first | (with_reducible assumption) | assumption); have q10 : (x4_1 : Int) < ((x7_1.length : Int) : Int) := of_decide_eq_true (by first | (with_reducible assumption) | assumption); obtain ⟨go10, co10, eo10, gb10, gl10, cl10, HG10⟩ := Kd.qMB HO_7.out (by omega); (first | cases eo10 | (injection eo10 with ea_ en_ ec_; (first | subst ea_ | (injection ea_ with ea_; subst ea_)); subst ec_; clear en_)); have GB10 := Aside0.mk gb10; have GG10 := Aside0.mk HG10; clear gb10 gl10 HG10; obtain ⟨ce10, hcl10, hM10, hcc10, hfr10⟩ := Kd.qrB HO_7.out z29 (x4_1 : Int) p10 q10; obtain rfl := k29_openM hM10; have hx10_0 : w11.cell? ⟨go10, (x4_1 : Int).toNat * 6, none⟩ = some (.int .i64 ((qB x7_1 x4_1).f0)) := hcc10 0 _ rfl; have hx10_1 : w11.cell? ⟨go10, (x4_1 : Int).toNat * 6 + 1, none⟩ = some (.int .i64 ((qB x7_1 x4_1).f1)) := hcc10 1 _ rfl; have hx10_2 : w11.cell? ⟨go10, (x4_1 : Int).toNat * 6 + 2, none⟩ = some (.int .i64 ((qB x7_1 x4_1).f2)) := hcc10 2 _ rfl; have hx10_3 : w11.cell? ⟨go10, (x4_1 : Int).toNat * 6 + 3, none⟩ = some (.int .i64 ((qB x7_1 x4_1).f3)) := hcc10 3 _ rfl; have hx10_4 : w11.cell? ⟨go10, (x4_1 : Int).toNat * 6 + 4, none⟩ = some (.int .i64 ((qB x7_1 x4_1).f4)) := hcc10 4 _ rfl; have hx10_5 : w11.cell? ⟨go10, (x4_1 : Int).toNat * 6 + 5, none⟩ = some (.int .i64 ((qB x7_1 x4_1).f5)) := hcc10 5 _ rfl; have hf10_0 : w11.frozen? ⟨go10, (x4_1 : Int).toNat * 6, none⟩ = false := hfr10 0; have hf10_1 : w11.frozen? ⟨go10, (x4_1 : Int).toNat * 6 + 1, none⟩ = false := hfr10 1; have hf10_2 : w11.frozen? ⟨go10, (x4_1 : Int).toNat * 6 + 2, none⟩ = false := hfr10 2; have hf10_3 : w11.frozen? ⟨go10, (x4_1 : Int).toNat * 6 + 3, none⟩ = false := hfr10 3; have hf10_4 : w11.frozen? ⟨go10, (x4_1 : Int).toNat * 6 + 4, none⟩ = false := hfr10 4; have hf10_5 : w11.frozen? ⟨go10, (x4_1 : Int).toNat * 6 + 5, none⟩ = false := hfr10 5; clear hcl10 hcc10 hfr10 hM10; replace p10 := eq_true p10; replace q10 := eq_true q10; have HX12 := Aside0.mk (show Kd.R k29 29 w11 w.heap.size (fun _ => True) (.slice (some ⟨go10, 0, none⟩) x7_1.length co10) x7_1 from (by (with_reducible repeat (first | apply Kd.qT | apply Kd.qS | apply Kd.qY)); exact HO_7.out)); obtain ⟨ce12, hcl12, hM12, hcc12, hfr12⟩ := Kd.qrB HX12.out z29 (x4_1 : Int) (of_decide_eq_true (by first | (with_reducible assumption) | assumption)) (by have h_ : (x4_1 : Int) < ((x7_1.length : Int) : Int) := of_decide_eq_true (by first | (with_reducible assumption) | assumption); first | exact h_ | (have e_ := (Kd.qZ HO_7.out).1; omega) | simpa using h_); obtain rfl := k29_openM hM12; have HP12 := Kd.R_seg HX12.out (x4_1 : Int) (of_decide_eq_true (by first | (with_reducible assumption) | assumption)) (by have h_ : (x4_1 : Int) < ((x7_1.length : Int) : Int) := of_decide_eq_true (by first | (with_reducible assumption) | assumption); first | exact h_ | (have e_ := (Kd.qZ HO_7.out).1; omega) | simpa using h_) (seg := [.int .i64 t266, .int .i64 t267, .int .i64 t268, .int .i64 t269, .int .i64 t270, .int .i64 t271]) (j := 0) hcl12 hcc12 (show 6 ≤ 6 from by decide) (x' := (⟨t266, t267, t268, t269, t270, t271⟩ : S29)) (k29_mkM _ _ _ (⟨t266, t267, t268, t269, t270, t271⟩ : S29) ) (fun _ hk => hk); have hx12_0 := hcc12 0 _ rfl; (try simp only [show (k29).sz = 6 from rfl, Nat.mul_one, Nat.add_zero] at hx12_0); have hf12_0 := hfr12 0; (try simp only [show (k29).sz = 6 from rfl, Nat.mul_one, Nat.add_zero] at hf12_0); have hx12_1 := hcc12 1 _ rfl; (try simp only [show (k29).sz = 6 from rfl, Nat.mul_one, Nat.add_zero] at hx12_1); have hf12_1 := hfr12 1; (try simp only [show (k29).sz = 6 from rfl, Nat.mul_one, Nat.add_zero] at hf12_1); have hx12_2 := hcc12 2 _ rfl; (try simp only [show (k29).sz = 6 from rfl, Nat.mul_one, Nat.add_zero] at hx12_2); have hf12_2 := hfr12 2; (try simp only [show (k29).sz = 6 from rfl, Nat.mul_one, Nat.add_zero] at hf12_2); have hx12_3 := hcc12 3 _ rfl; (try simp only [show (k29).sz = 6 from rfl, Nat.mul_one, Nat.add_zero] at hx12_3); have hf12_3 := hfr12 3; (try simp only [show (k29).sz = 6 from rfl, Nat.mul_one, Nat.add_zero] at hf12_3); have hx12_4 := hcc12 4 _ rfl; (try simp only [show (k29).sz = 6 from rfl, Nat.mul_one, Nat.add_zero] at hx12_4); have hf12_4 := hfr12 4; (try simp only [show (k29).sz = 6 from rfl, Nat.mul_one, Nat.add_zero] at hf12_4); have hx12_5 := hcc12 5 _ rfl; (try simp only [show (k29).sz = 6 from rfl, Nat.mul_one, Nat.add_zero] at hx12_5); have hf12_5 := hfr12 5; (try simp only [show (k29).sz = 6 from rfl, Nat.mul_one, Nat.add_zero] at hf12_5); clear hcl12 hcc12 hfr12 hM12) | ((with_reducible refine qiA (t := 29) (p := 21) rfl ?_); refine qpA (t := 29) (p := 21) (v := ?vo_w13) (w1 := ((((((w11.setCell ⟨go10, (x4_1 : Int).toNat * 6, none⟩ (.int .i64 t266)).setCell ⟨go10, (x4_1 : Int).toNat * 6 + 1, none⟩ (.int .i64 t267)).setCell ⟨go10, (x4_1 : Int).toNat * 6 + 2, none⟩ (.int .i64 t268)).setCell ⟨go10, (x4_1 : Int).toNat * 6 + 3, none⟩ (.int .i64 t269)).setCell ⟨go10, (x4_1 : Int).toNat * 6 + 4, none⟩ (.int .i64 t270)).setCell ⟨go10, (x4_1 : Int).toNat * 6 + 5, none⟩ (.int .i64 t271))) ?hg ?ho ?hn ?hr ?_; (case ho => rfl); (case hg => rfl); (case hn => rfl); (case hr => first | (go_simp; done) | (go_simp; rfl)); intro w13 hw; have hg : w11.grownBy w13 (some go10) := (by rw [hw]; exact HP12.2); have hp_ : Kd.R k29 29 w13 w.heap.size (fun _ => True) (.slice (some ⟨go10, 0, none⟩) x7_1.length co10) y272 := (by rw [hw, Ny272.out]; exact HP12.1); clear HP12; have n0_ := Aside0.mk (hp_); have n1_ := Aside0.mk ((by rw [hw]; exact qx (qx (qx (qx (qx (qx (HB.out) GB10.out) GB10.out) GB10.out) GB10.out) GB10.out) GB10.out : Below w.heap.size w w13)); clear HO_7; clear HB; have HO_7 := n0_; have HB := n1_; clear n0_ n1_; clear hg hw hp_))
        go_roundg k1
        case measure => have := HK1.out; omega
        case rel => exact ⟨(wrap64 (x4_1 + 1)), (y272), (by first | rfl | (simp; done) | (simp [*]; done)), H', ⟨by have := HK1.out; omega⟩, ⟨by (with_reducible repeat (first | apply Kd.qT | apply Kd.qS | apply Kd.qY)); exact HO_7.out⟩, ⟨bl⟩⟩
       ·rw [if_neg c9] at H
        exact absurd H (by simp)
      ·rw [if_neg c7] at H
       exact absurd H (by simp)
     ·rw [if_neg c6] at H
      have c6b0 : decide (x4_1 < (l0.length : Int)) = false := decide_eq_false c6
      clear c6
      obtain rfl := Option.some.inj H
      go_wp2
      go_ret
      exact ⟨_, by first | rfl | (simp [qJ, qI] <;> rfl) | (simp [*, qJ, qI] <;> rfl), by (with_reducible repeat (first | apply Kd.qT | apply Kd.qS | apply Kd.qY)); exact HO_7.out, bl⟩
  ·rw [if_neg c3] at H
   exact absurd H (by simp)
 ·rw [if_neg c2] at H
  exact absurd H (by simp)
def qPA.f (a0_0 : Int) (a0_1 : Int) (a0_2 : Int) (a0_3 : Int) (a0_4 : Int) (a0_5 : Int) (a1_0 : Int) (a1_1 : Int) (a1_2 : Int) (a1_3 : Int) (a1_4 : Int) (a1_5 : Int) : Option (Bool) := if a0_0 = a1_0 then (if a0_1 = a1_1 then (if a0_2 = a1_2 then (if a0_3 = a1_3 then (if a0_4 = a1_4 then (if a0_5 = a1_5 then (some true) else (some false)) else (some false)) else (some false)) else (some false)) else (some false)) else (some false)
set_option maxHeartbeats 8000000 in
set_option maxRecDepth 100000 in
theorem qPA.calls (a0_0 : Int) (a0_1 : Int) (a0_2 : Int) (a0_3 : Int) (a0_4 : Int) (a0_5 : Int) (a1_0 : Int) (a1_1 : Int) (a1_2 : Int) (a1_3 : Int) (a1_4 : Int) (a1_5 : Int) (r : Bool) (w : World) (h : qPA.f a0_0 a0_1 a0_2 a0_3 a0_4 a0_5 a1_0 a1_1 a1_2 a1_3 a1_4 a1_5 = some r) :
  Calls Try.prog 32 #[.agg #[.int .i64 a0_0, .int .i64 a0_1, .int .i64 a0_2, .int .i64 a0_3, .int .i64 a0_4, .int .i64 a0_5], .agg #[.int .i64 a1_0, .int .i64 a1_1, .int .i64 a1_2, .int .i64 a1_3, .int .i64 a1_4, .int .i64 a1_5]] w fun e w' => e = .returned (.bool r) ∧ Below w.heap.size w w' := by
 have hu29 := Try.underlying29
 have HB := Aside0.mk (Below.refl w.heap.size w)
 have H : (if a0_0 = a1_0 then (if a0_1 = a1_1 then (if a0_2 = a1_2 then (if a0_3 = a1_3 then (if a0_4 = a1_4 then (if a0_5 = a1_5 then (some true) else (some false)) else (some false)) else (some false)) else (some false)) else (some false)) else (some false)) = some r := h
 clear h
 by_cases c3 : a0_0 = a1_0
 ·rw [if_pos c3] at H
  have c3b0 : (a0_0 == a1_0) = true := beq_iff_eq.mpr c3
  have c3b1 : (a0_0 != a1_0) = false := bne_eq_false_iff_eq.mpr c3
  clear c3
  by_cases c4 : a0_1 = a1_1
  ·rw [if_pos c4] at H
   have c4b0 : (a0_1 == a1_1) = true := beq_iff_eq.mpr c4
   have c4b1 : (a0_1 != a1_1) = false := bne_eq_false_iff_eq.mpr c4
   clear c4
   by_cases c5 : a0_2 = a1_2
   ·rw [if_pos c5] at H
    have c5b0 : (a0_2 == a1_2) = true := beq_iff_eq.mpr c5
    have c5b1 : (a0_2 != a1_2) = false := bne_eq_false_iff_eq.mpr c5
    clear c5
    by_cases c6 : a0_3 = a1_3
    ·rw [if_pos c6] at H
     have c6b0 : (a0_3 == a1_3) = true := beq_iff_eq.mpr c6
     have c6b1 : (a0_3 != a1_3) = false := bne_eq_false_iff_eq.mpr c6
     clear c6
     by_cases c7 : a0_4 = a1_4
     ·rw [if_pos c7] at H
      have c7b0 : (a0_4 == a1_4) = true := beq_iff_eq.mpr c7
      have c7b1 : (a0_4 != a1_4) = false := bne_eq_false_iff_eq.mpr c7
      clear c7
      by_cases c8 : a0_5 = a1_5
      ·rw [if_pos c8] at H
       have c8b0 : (a0_5 == a1_5) = true := beq_iff_eq.mpr c8
       have c8b1 : (a0_5 != a1_5) = false := bne_eq_false_iff_eq.mpr c8
       clear c8
       obtain rfl := Option.some.inj H
       go_enter Try.func32, Try.ntmps32
       go_wp2_with (first | ((with_reducible refine qV (N := 2) rfl ?_); refine qW ?hg (N := 2) ?hd (cs := #[.int .i64 a0_0, .int .i64 a0_1, .int .i64 a0_2, .int .i64 a0_3, .int .i64 a0_4, .int .i64 a0_5]) (t := 29) ?hr ?_; (case hd => rfl); (case hg => rfl); (case hr => first | (go_simp; done) | (go_simp; rfl)); intro gb287 hg w9 hbox hb; have n0_ := Aside0.mk (qF bl hb); have n1_ := Aside0.mk (hbox); have n2_ := Aside0.mk ((gg hg)); have n3_ := Aside0.mk ((gg hg)); clear HB; have HB := n0_; have BK287 := n1_; have GW287 := n2_; have GE287 := n3_; clear n0_ n1_ n2_ n3_; clear hb hbox hg) | ((with_reducible refine qV (N := 3) rfl ?_); refine qW ?hg (N := 3) ?hd (cs := #[.int .i64 a1_0, .int .i64 a1_1, .int .i64 a1_2, .int .i64 a1_3, .int .i64 a1_4, .int .i64 a1_5]) (t := 29) ?hr ?_; (case hd => rfl); (case hg => rfl); (case hr => first | (go_simp; done) | (go_simp; rfl)); intro gb288 hg w10 hbox hb; have n0_ := Aside0.mk (bb BK287 hb); have n1_ := Aside0.mk (qF bl hb); have n2_ := Aside0.mk (hbox); have n3_ := Aside0.mk ((gg hg)); have n4_ := Aside0.mk ((gg hg)); have n5_ := Aside0.mk ((nl BK287 hg)); have n6_ := Aside0.mk ((nr BK287 hg)); clear BK287; clear HB; have BK287 := n0_; have HB := n1_; have BK288 := n2_; have GW288 := n3_; have GE288 := n4_; have NB287_288 := n5_; have NB288_287 := n6_; clear n0_ n1_ n2_ n3_ n4_ n5_ n6_; clear hb hbox hg; have hnb11 := NB287_288.out; have hnc11 := NB288_287.out; have hcz12_0 := bc BK287 0; have hcz12_1 := bc BK287 1; have hcz12_2 := bc BK287 2; have hcz12_3 := bc BK287 3; have hcz12_4 := bc BK287 4; have hcz12_5 := bc BK287 5; have hfz12_0 := qA BK287.out 0; have hfz12_1 := qA BK287.out 1; have hfz12_2 := qA BK287.out 2; have hfz12_3 := qA BK287.out 3; have hfz12_4 := qA BK287.out 4; have hfz12_5 := qA BK287.out 5; have hcz13_0 := bc BK288 0; have hcz13_1 := bc BK288 1; have hcz13_2 := bc BK288 2; have hcz13_3 := bc BK288 3; have hcz13_4 := bc BK288 4; have hcz13_5 := bc BK288 5; have hfz13_0 := qA BK288.out 0; have hfz13_1 := qA BK288.out 1; have hfz13_2 := qA BK288.out 2; have hfz13_3 := qA BK288.out 3; have hfz13_4 := qA BK288.out 4; have hfz13_5 := qA BK288.out 5))
       go_ret
       exact ⟨by first | rfl | (simp [qJ, qI] <;> rfl) | (simp [*, qJ, qI] <;> rfl), bl⟩
      ·rw [if_neg c8] at H
       have c8b0 : (a0_5 == a1_5) = false := beq_eq_false_iff_ne.mpr c8
       have c8b1 : (a0_5 != a1_5) = true := bne_iff_ne.mpr c8
       obtain rfl := Option.some.inj H
       go_enter Try.func32, Try.ntmps32
       go_wp2_with (first | ((with_reducible refine qV (N := 2) rfl ?_); refine qW ?hg (N := 2) ?hd (cs := #[.int .i64 a0_0, .int .i64 a0_1, .int .i64 a0_2, .int .i64 a0_3, .int .i64 a0_4, .int .i64 a0_5]) (t := 29) ?hr ?_; (case hd => rfl); (case hg => rfl); (case hr => first | (go_simp; done) | (go_simp; rfl)); intro gb287 hg w14 hbox hb; have n0_ := Aside0.mk (qF bl hb); have n1_ := Aside0.mk (hbox); have n2_ := Aside0.mk ((gg hg)); have n3_ := Aside0.mk ((gg hg)); clear HB; have HB := n0_; have BK287 := n1_; have GW287 := n2_; have GE287 := n3_; clear n0_ n1_ n2_ n3_; clear hb hbox hg) | ((with_reducible refine qV (N := 3) rfl ?_); refine qW ?hg (N := 3) ?hd (cs := #[.int .i64 a1_0, .int .i64 a1_1, .int .i64 a1_2, .int .i64 a1_3, .int .i64 a1_4, .int .i64 a1_5]) (t := 29) ?hr ?_; (case hd => rfl); (case hg => rfl); (case hr => first | (go_simp; done) | (go_simp; rfl)); intro gb288 hg w15 hbox hb; have n0_ := Aside0.mk (bb BK287 hb); have n1_ := Aside0.mk (qF bl hb); have n2_ := Aside0.mk (hbox); have n3_ := Aside0.mk ((gg hg)); have n4_ := Aside0.mk ((gg hg)); have n5_ := Aside0.mk ((nl BK287 hg)); have n6_ := Aside0.mk ((nr BK287 hg)); clear BK287; clear HB; have BK287 := n0_; have HB := n1_; have BK288 := n2_; have GW288 := n3_; have GE288 := n4_; have NB287_288 := n5_; have NB288_287 := n6_; clear n0_ n1_ n2_ n3_ n4_ n5_ n6_; clear hb hbox hg; have hnb16 := NB287_288.out; have hnc16 := NB288_287.out; have hcz17_0 := bc BK287 0; have hcz17_1 := bc BK287 1; have hcz17_2 := bc BK287 2; have hcz17_3 := bc BK287 3; have hcz17_4 := bc BK287 4; have hcz17_5 := bc BK287 5; have hfz17_0 := qA BK287.out 0; have hfz17_1 := qA BK287.out 1; have hfz17_2 := qA BK287.out 2; have hfz17_3 := qA BK287.out 3; have hfz17_4 := qA BK287.out 4; have hfz17_5 := qA BK287.out 5; have hcz18_0 := bc BK288 0; have hcz18_1 := bc BK288 1; have hcz18_2 := bc BK288 2; have hcz18_3 := bc BK288 3; have hcz18_4 := bc BK288 4; have hcz18_5 := bc BK288 5; have hfz18_0 := qA BK288.out 0; have hfz18_1 := qA BK288.out 1; have hfz18_2 := qA BK288.out 2; have hfz18_3 := qA BK288.out 3; have hfz18_4 := qA BK288.out 4; have hfz18_5 := qA BK288.out 5))
       go_ret
       exact ⟨by first | rfl | (simp [qJ, qI] <;> rfl) | (simp [*, qJ, qI] <;> rfl), bl⟩
     ·rw [if_neg c7] at H
      have c7b0 : (a0_4 == a1_4) = false := beq_eq_false_iff_ne.mpr c7
      have c7b1 : (a0_4 != a1_4) = true := bne_iff_ne.mpr c7
      obtain rfl := Option.some.inj H
      go_enter Try.func32, Try.ntmps32
      go_wp2_with (first | ((with_reducible refine qV (N := 2) rfl ?_); refine qW ?hg (N := 2) ?hd (cs := #[.int .i64 a0_0, .int .i64 a0_1, .int .i64 a0_2, .int .i64 a0_3, .int .i64 a0_4, .int .i64 a0_5]) (t := 29) ?hr ?_; (case hd => rfl); (case hg => rfl); (case hr => first | (go_simp; done) | (go_simp; rfl)); intro gb287 hg w19 hbox hb; have n0_ := Aside0.mk (qF bl hb); have n1_ := Aside0.mk (hbox); have n2_ := Aside0.mk ((gg hg)); have n3_ := Aside0.mk ((gg hg)); clear HB; have HB := n0_; have BK287 := n1_; have GW287 := n2_; have GE287 := n3_; clear n0_ n1_ n2_ n3_; clear hb hbox hg) | ((with_reducible refine qV (N := 3) rfl ?_); refine qW ?hg (N := 3) ?hd (cs := #[.int .i64 a1_0, .int .i64 a1_1, .int .i64 a1_2, .int .i64 a1_3, .int .i64 a1_4, .int .i64 a1_5]) (t := 29) ?hr ?_; (case hd => rfl); (case hg => rfl); (case hr => first | (go_simp; done) | (go_simp; rfl)); intro gb288 hg w20 hbox hb; have n0_ := Aside0.mk (bb BK287 hb); have n1_ := Aside0.mk (qF bl hb); have n2_ := Aside0.mk (hbox); have n3_ := Aside0.mk ((gg hg)); have n4_ := Aside0.mk ((gg hg)); have n5_ := Aside0.mk ((nl BK287 hg)); have n6_ := Aside0.mk ((nr BK287 hg)); clear BK287; clear HB; have BK287 := n0_; have HB := n1_; have BK288 := n2_; have GW288 := n3_; have GE288 := n4_; have NB287_288 := n5_; have NB288_287 := n6_; clear n0_ n1_ n2_ n3_ n4_ n5_ n6_; clear hb hbox hg; have hnb21 := NB287_288.out; have hnc21 := NB288_287.out; have hcz22_0 := bc BK287 0; have hcz22_1 := bc BK287 1; have hcz22_2 := bc BK287 2; have hcz22_3 := bc BK287 3; have hcz22_4 := bc BK287 4; have hcz22_5 := bc BK287 5; have hfz22_0 := qA BK287.out 0; have hfz22_1 := qA BK287.out 1; have hfz22_2 := qA BK287.out 2; have hfz22_3 := qA BK287.out 3; have hfz22_4 := qA BK287.out 4; have hfz22_5 := qA BK287.out 5; have hcz23_0 := bc BK288 0; have hcz23_1 := bc BK288 1; have hcz23_2 := bc BK288 2; have hcz23_3 := bc BK288 3; have hcz23_4 := bc BK288 4; have hcz23_5 := bc BK288 5; have hfz23_0 := qA BK288.out 0; have hfz23_1 := qA BK288.out 1; have hfz23_2 := qA BK288.out 2; have hfz23_3 := qA BK288.out 3; have hfz23_4 := qA BK288.out 4; have hfz23_5 := qA BK288.out 5))
      go_ret
      exact ⟨by first | rfl | (simp [qJ, qI] <;> rfl) | (simp [*, qJ, qI] <;> rfl), bl⟩
    ·rw [if_neg c6] at H
     have c6b0 : (a0_3 == a1_3) = false := beq_eq_false_iff_ne.mpr c6
     have c6b1 : (a0_3 != a1_3) = true := bne_iff_ne.mpr c6
     obtain rfl := Option.some.inj H
     go_enter Try.func32, Try.ntmps32
     go_wp2_with (first | ((with_reducible refine qV (N := 2) rfl ?_); refine qW ?hg (N := 2) ?hd (cs := #[.int .i64 a0_0, .int .i64 a0_1, .int .i64 a0_2, .int .i64 a0_3, .int .i64 a0_4, .int .i64 a0_5]) (t := 29) ?hr ?_; (case hd => rfl); (case hg => rfl); (case hr => first | (go_simp; done) | (go_simp; rfl)); intro gb287 hg w24 hbox hb; have n0_ := Aside0.mk (qF bl hb); have n1_ := Aside0.mk (hbox); have n2_ := Aside0.mk ((gg hg)); have n3_ := Aside0.mk ((gg hg)); clear HB; have HB := n0_; have BK287 := n1_; have GW287 := n2_; have GE287 := n3_; clear n0_ n1_ n2_ n3_; clear hb hbox hg) | ((with_reducible refine qV (N := 3) rfl ?_); refine qW ?hg (N := 3) ?hd (cs := #[.int .i64 a1_0, .int .i64 a1_1, .int .i64 a1_2, .int .i64 a1_3, .int .i64 a1_4, .int .i64 a1_5]) (t := 29) ?hr ?_; (case hd => rfl); (case hg => rfl); (case hr => first | (go_simp; done) | (go_simp; rfl)); intro gb288 hg w25 hbox hb; have n0_ := Aside0.mk (bb BK287 hb); have n1_ := Aside0.mk (qF bl hb); have n2_ := Aside0.mk (hbox); have n3_ := Aside0.mk ((gg hg)); have n4_ := Aside0.mk ((gg hg)); have n5_ := Aside0.mk ((nl BK287 hg)); have n6_ := Aside0.mk ((nr BK287 hg)); clear BK287; clear HB; have BK287 := n0_; have HB := n1_; have BK288 := n2_; have GW288 := n3_; have GE288 := n4_; have NB287_288 := n5_; have NB288_287 := n6_; clear n0_ n1_ n2_ n3_ n4_ n5_ n6_; clear hb hbox hg; have hnb26 := NB287_288.out; have hnc26 := NB288_287.out; have hcz27_0 := bc BK287 0; have hcz27_1 := bc BK287 1; have hcz27_2 := bc BK287 2; have hcz27_3 := bc BK287 3; have hcz27_4 := bc BK287 4; have hcz27_5 := bc BK287 5; have hfz27_0 := qA BK287.out 0; have hfz27_1 := qA BK287.out 1; have hfz27_2 := qA BK287.out 2; have hfz27_3 := qA BK287.out 3; have hfz27_4 := qA BK287.out 4; have hfz27_5 := qA BK287.out 5; have hcz28_0 := bc BK288 0; have hcz28_1 := bc BK288 1; have hcz28_2 := bc BK288 2; have hcz28_3 := bc BK288 3; have hcz28_4 := bc BK288 4; have hcz28_5 := bc BK288 5; have hfz28_0 := qA BK288.out 0; have hfz28_1 := qA BK288.out 1; have hfz28_2 := qA BK288.out 2; have hfz28_3 := qA BK288.out 3; have hfz28_4 := qA BK288.out 4; have hfz28_5 := qA BK288.out 5))
     go_ret
     exact ⟨by first | rfl | (simp [qJ, qI] <;> rfl) | (simp [*, qJ, qI] <;> rfl), bl⟩
   ·rw [if_neg c5] at H
    have c5b0 : (a0_2 == a1_2) = false := beq_eq_false_iff_ne.mpr c5
    have c5b1 : (a0_2 != a1_2) = true := bne_iff_ne.mpr c5
    obtain rfl := Option.some.inj H
    go_enter Try.func32, Try.ntmps32
    go_wp2_with (first | ((with_reducible refine qV (N := 2) rfl ?_); refine qW ?hg (N := 2) ?hd (cs := #[.int .i64 a0_0, .int .i64 a0_1, .int .i64 a0_2, .int .i64 a0_3, .int .i64 a0_4, .int .i64 a0_5]) (t := 29) ?hr ?_; (case hd => rfl); (case hg => rfl); (case hr => first | (go_simp; done) | (go_simp; rfl)); intro gb287 hg w29 hbox hb; have n0_ := Aside0.mk (qF bl hb); have n1_ := Aside0.mk (hbox); have n2_ := Aside0.mk ((gg hg)); have n3_ := Aside0.mk ((gg hg)); clear HB; have HB := n0_; have BK287 := n1_; have GW287 := n2_; have GE287 := n3_; clear n0_ n1_ n2_ n3_; clear hb hbox hg) | ((with_reducible refine qV (N := 3) rfl ?_); refine qW ?hg (N := 3) ?hd (cs := #[.int .i64 a1_0, .int .i64 a1_1, .int .i64 a1_2, .int .i64 a1_3, .int .i64 a1_4, .int .i64 a1_5]) (t := 29) ?hr ?_; (case hd => rfl); (case hg => rfl); (case hr => first | (go_simp; done) | (go_simp; rfl)); intro gb288 hg w30 hbox hb; have n0_ := Aside0.mk (bb BK287 hb); have n1_ := Aside0.mk (qF bl hb); have n2_ := Aside0.mk (hbox); have n3_ := Aside0.mk ((gg hg)); have n4_ := Aside0.mk ((gg hg)); have n5_ := Aside0.mk ((nl BK287 hg)); have n6_ := Aside0.mk ((nr BK287 hg)); clear BK287; clear HB; have BK287 := n0_; have HB := n1_; have BK288 := n2_; have GW288 := n3_; have GE288 := n4_; have NB287_288 := n5_; have NB288_287 := n6_; clear n0_ n1_ n2_ n3_ n4_ n5_ n6_; clear hb hbox hg; have hnb31 := NB287_288.out; have hnc31 := NB288_287.out; have hcz32_0 := bc BK287 0; have hcz32_1 := bc BK287 1; have hcz32_2 := bc BK287 2; have hcz32_3 := bc BK287 3; have hcz32_4 := bc BK287 4; have hcz32_5 := bc BK287 5; have hfz32_0 := qA BK287.out 0; have hfz32_1 := qA BK287.out 1; have hfz32_2 := qA BK287.out 2; have hfz32_3 := qA BK287.out 3; have hfz32_4 := qA BK287.out 4; have hfz32_5 := qA BK287.out 5; have hcz33_0 := bc BK288 0; have hcz33_1 := bc BK288 1; have hcz33_2 := bc BK288 2; have hcz33_3 := bc BK288 3; have hcz33_4 := bc BK288 4; have hcz33_5 := bc BK288 5; have hfz33_0 := qA BK288.out 0; have hfz33_1 := qA BK288.out 1; have hfz33_2 := qA BK288.out 2; have hfz33_3 := qA BK288.out 3; have hfz33_4 := qA BK288.out 4; have hfz33_5 := qA BK288.out 5))
    go_ret
    exact ⟨by first | rfl | (simp [qJ, qI] <;> rfl) | (simp [*, qJ, qI] <;> rfl), bl⟩
  ·rw [if_neg c4] at H
   have c4b0 : (a0_1 == a1_1) = false := beq_eq_false_iff_ne.mpr c4
   have c4b1 : (a0_1 != a1_1) = true := bne_iff_ne.mpr c4
   obtain rfl := Option.some.inj H
   go_enter Try.func32, Try.ntmps32
   go_wp2_with (first | ((with_reducible refine qV (N := 2) rfl ?_); refine qW ?hg (N := 2) ?hd (cs := #[.int .i64 a0_0, .int .i64 a0_1, .int .i64 a0_2, .int .i64 a0_3, .int .i64 a0_4, .int .i64 a0_5]) (t := 29) ?hr ?_; (case hd => rfl); (case hg => rfl); (case hr => first | (go_simp; done) | (go_simp; rfl)); intro gb287 hg w34 hbox hb; have n0_ := Aside0.mk (qF bl hb); have n1_ := Aside0.mk (hbox); have n2_ := Aside0.mk ((gg hg)); have n3_ := Aside0.mk ((gg hg)); clear HB; have HB := n0_; have BK287 := n1_; have GW287 := n2_; have GE287 := n3_; clear n0_ n1_ n2_ n3_; clear hb hbox hg) | ((with_reducible refine qV (N := 3) rfl ?_); refine qW ?hg (N := 3) ?hd (cs := #[.int .i64 a1_0, .int .i64 a1_1, .int .i64 a1_2, .int .i64 a1_3, .int .i64 a1_4, .int .i64 a1_5]) (t := 29) ?hr ?_; (case hd => rfl); (case hg => rfl); (case hr => first | (go_simp; done) | (go_simp; rfl)); intro gb288 hg w35 hbox hb; have n0_ := Aside0.mk (bb BK287 hb); have n1_ := Aside0.mk (qF bl hb); have n2_ := Aside0.mk (hbox); have n3_ := Aside0.mk ((gg hg)); have n4_ := Aside0.mk ((gg hg)); have n5_ := Aside0.mk ((nl BK287 hg)); have n6_ := Aside0.mk ((nr BK287 hg)); clear BK287; clear HB; have BK287 := n0_; have HB := n1_; have BK288 := n2_; have GW288 := n3_; have GE288 := n4_; have NB287_288 := n5_; have NB288_287 := n6_; clear n0_ n1_ n2_ n3_ n4_ n5_ n6_; clear hb hbox hg; have hnb36 := NB287_288.out; have hnc36 := NB288_287.out; have hcz37_0 := bc BK287 0; have hcz37_1 := bc BK287 1; have hcz37_2 := bc BK287 2; have hcz37_3 := bc BK287 3; have hcz37_4 := bc BK287 4; have hcz37_5 := bc BK287 5; have hfz37_0 := qA BK287.out 0; have hfz37_1 := qA BK287.out 1; have hfz37_2 := qA BK287.out 2; have hfz37_3 := qA BK287.out 3; have hfz37_4 := qA BK287.out 4; have hfz37_5 := qA BK287.out 5; have hcz38_0 := bc BK288 0; have hcz38_1 := bc BK288 1; have hcz38_2 := bc BK288 2; have hcz38_3 := bc BK288 3; have hcz38_4 := bc BK288 4; have hcz38_5 := bc BK288 5; have hfz38_0 := qA BK288.out 0; have hfz38_1 := qA BK288.out 1; have hfz38_2 := qA BK288.out 2; have hfz38_3 := qA BK288.out 3; have hfz38_4 := qA BK288.out 4; have hfz38_5 := qA BK288.out 5))
   go_ret
   exact ⟨by first | rfl | (simp [qJ, qI] <;> rfl) | (simp [*, qJ, qI] <;> rfl), bl⟩
 ·rw [if_neg c3] at H
  have c3b0 : (a0_0 == a1_0) = false := beq_eq_false_iff_ne.mpr c3
  have c3b1 : (a0_0 != a1_0) = true := bne_iff_ne.mpr c3
  obtain rfl := Option.some.inj H
  go_enter Try.func32, Try.ntmps32
  go_wp2_with (first | ((with_reducible refine qV (N := 2) rfl ?_); refine qW ?hg (N := 2) ?hd (cs := #[.int .i64 a0_0, .int .i64 a0_1, .int .i64 a0_2, .int .i64 a0_3, .int .i64 a0_4, .int .i64 a0_5]) (t := 29) ?hr ?_; (case hd => rfl); (case hg => rfl); (case hr => first | (go_simp; done) | (go_simp; rfl)); intro gb287 hg w39 hbox hb; have n0_ := Aside0.mk (qF bl hb); have n1_ := Aside0.mk (hbox); have n2_ := Aside0.mk ((gg hg)); have n3_ := Aside0.mk ((gg hg)); clear HB; have HB := n0_; have BK287 := n1_; have GW287 := n2_; have GE287 := n3_; clear n0_ n1_ n2_ n3_; clear hb hbox hg) | ((with_reducible refine qV (N := 3) rfl ?_); refine qW ?hg (N := 3) ?hd (cs := #[.int .i64 a1_0, .int .i64 a1_1, .int .i64 a1_2, .int .i64 a1_3, .int .i64 a1_4, .int .i64 a1_5]) (t := 29) ?hr ?_; (case hd => rfl); (case hg => rfl); (case hr => first | (go_simp; done) | (go_simp; rfl)); intro gb288 hg w40 hbox hb; have n0_ := Aside0.mk (bb BK287 hb); have n1_ := Aside0.mk (qF bl hb); have n2_ := Aside0.mk (hbox); have n3_ := Aside0.mk ((gg hg)); have n4_ := Aside0.mk ((gg hg)); have n5_ := Aside0.mk ((nl BK287 hg)); have n6_ := Aside0.mk ((nr BK287 hg)); clear BK287; clear HB; have BK287 := n0_; have HB := n1_; have BK288 := n2_; have GW288 := n3_; have GE288 := n4_; have NB287_288 := n5_; have NB288_287 := n6_; clear n0_ n1_ n2_ n3_ n4_ n5_ n6_; clear hb hbox hg; have hnb41 := NB287_288.out; have hnc41 := NB288_287.out; have hcz42_0 := bc BK287 0; have hcz42_1 := bc BK287 1; have hcz42_2 := bc BK287 2; have hcz42_3 := bc BK287 3; have hcz42_4 := bc BK287 4; have hcz42_5 := bc BK287 5; have hfz42_0 := qA BK287.out 0; have hfz42_1 := qA BK287.out 1; have hfz42_2 := qA BK287.out 2; have hfz42_3 := qA BK287.out 3; have hfz42_4 := qA BK287.out 4; have hfz42_5 := qA BK287.out 5; have hcz43_0 := bc BK288 0; have hcz43_1 := bc BK288 1; have hcz43_2 := bc BK288 2; have hcz43_3 := bc BK288 3; have hcz43_4 := bc BK288 4; have hcz43_5 := bc BK288 5; have hfz43_0 := qA BK288.out 0; have hfz43_1 := qA BK288.out 1; have hfz43_2 := qA BK288.out 2; have hfz43_3 := qA BK288.out 3; have hfz43_4 := qA BK288.out 4; have hfz43_5 := qA BK288.out 5))
  go_ret
  exact ⟨by first | rfl | (simp [qJ, qI] <;> rfl) | (simp [*, qJ, qI] <;> rfl), bl⟩
def qQ.l0 : Nat → List (S29) → List (S29) → Int → Option (Bool)
 | 0, _, _, _ => none
 | k + 1, x0, x1, x5 => if x5 < (x0.length : Int) then (if 0 ≤ x5 then (if x5 < (x1.length : Int) then ((qPA.f ((qB x0 x5).f0) ((qB x0 x5).f1) ((qB x0 x5).f2) ((qB x0 x5).f3) ((qB x0 x5).f4) ((qB x0 x5).f5) ((qB x1 x5).f0) ((qB x1 x5).f1) ((qB x1 x5).f2) ((qB x1 x5).f3) ((qB x1 x5).f4) ((qB x1 x5).f5)).bind fun t291 => (if t291 = true then (qQ.l0 k x0 x1 (wrap64 (x5 + 1))) else (some false))) else (none)) else (none)) else (some true)
def qQ.f (k : Nat) (l0 : List (S29)) (l1 : List (S29)) : Option (Bool) := if (l0.length : Int) = (l1.length : Int) then (qQ.l0 k l0 l1 0) else (some false)
def qQ.T6 : Bool × List (List Nat × List Nat) := (true, [([], []), ([], []), ([0, 1], [0, 1]), ([2], [2]), ([], []), ([], []), ([4, 5], [4, 5]), ([6], [6]), ([3, 7], [3, 7]), ([8], [8])])
def qQ.B6 : List Nat := [0, 0, 3, 7, 0, 0, 48, 112, 255, 511]
theorem qQ.tab6 : rtab .any (opsOf Try.f18 6) = qQ.T6 := by kernel_rfl
theorem qQ.bits6 : waitsOk qQ.T6.2 qQ.B6 = true := by kernel_rfl
set_option maxHeartbeats 8000000 in
set_option maxRecDepth 100000 in
theorem qQ.calls (k : Nat) (A0 : Option Addr) (c0 : Nat) (l0 : List (S29)) (A1 : Option Addr) (c1 : Nat) (l1 : List (S29)) (r : Bool) (w : World) (hr0 : Kd.C k29 w A0 l0.length l0) (hc0 : l0.length ≤ c0) (hr1 : Kd.C k29 w A1 l1.length l1) (hc1 : l1.length ≤ c1) (h : qQ.f k l0 l1 = some r) :
  Calls Try.prog 18 #[.slice A0 l0.length c0, .slice A1 l1.length c1] w fun e w' => e = .returned (.bool r) ∧ Below w.heap.size w w' := by
 have hu29 := Try.underlying29
 have HR0 := Aside0.mk hr0
 have HC0 := Aside0.mk hc0
 clear hr0 hc0
 have HR1 := Aside0.mk hr1
 have HC1 := Aside0.mk hc1
 clear hr1 hc1
 have HB := Aside0.mk (Below.refl w.heap.size w)
 have H : (if (l0.length : Int) = (l1.length : Int) then (qQ.l0 k l0 l1 0) else (some false)) = some r := h
 clear h
 by_cases c3 : (l0.length : Int) = (l1.length : Int)
 ·rw [if_pos c3] at H
  have c3b0 : ((l0.length : Int) == (l1.length : Int)) = true := beq_iff_eq.mpr c3
  have c3b1 : ((l0.length : Int) != (l1.length : Int)) = false := bne_eq_false_iff_eq.mpr c3
  have c3b2 : (l0.length == l1.length) = true := by first | simpa using c3 | (simp at c3 ⊢; omega)
  clear c3
  have H' := Aside0.mk H
  clear H
  go_enter Try.func18, Try.ntmps18
  go_wp2
  go_loopg [5] k (fun kq v5 w' => ∃ (x5_1 : Int), v5 = .int .i64 x5_1 ∧ Aside0 (qQ.l0 kq l0 l1 x5_1 = some r) ∧ Aside0 (kq ≤ k) ∧ Aside0 (Below w.heap.size w w'))
  case atStart => exact ⟨(0), (by first | rfl | (simp; done) | (simp [*]; done)), H', ⟨Nat.le_refl _⟩, ⟨bl⟩⟩
  case round =>
   clear H'
   try clear c1
   try clear p2
   try clear c3
   try clear c3b0
   try clear c3b1
   try clear c3b2
   obtain ⟨x5_1, rfl, HA, HK1, HB⟩ := hrel
   cases gk with
   | zero => exact absurd HA.out (by simp [qQ.l0])
   | succ k1 =>
    have H := HA.out
    clear HA
    simp only [qQ.l0] at H
    by_cases c4 : x5_1 < (l0.length : Int)
    ·rw [if_pos c4] at H
     have c4b0 : decide (x5_1 < (l0.length : Int)) = true := decide_eq_true c4
     clear c4
     by_cases c5 : 0 ≤ x5_1
     ·rw [if_pos c5] at H
      have c5b0 : decide (0 ≤ x5_1) = true := decide_eq_true c5
      clear c5
      by_cases c6 : x5_1 < (l1.length : Int)
      ·rw [if_pos c6] at H
       have c6b0 : decide (x5_1 < (l1.length : Int)) = true := decide_eq_true c6
       clear c6
       replace H := Option.bind_eq_some_iff.mp H
       obtain ⟨t291, A70, H⟩ := H
       replace H : (if t291 = true then (qQ.l0 k1 l0 l1 (wrap64 (x5_1 + 1))) else (some false)) = some r := H
       have A7 := Aside0.mk A70
       clear A70
       by_cases c8 : t291 = true
       ·subst c8
        have H1 : (qQ.l0 k1 l0 l1 (wrap64 (x5_1 + 1))) = some r := by rw [if_pos rfl] at H; exact H
        clear H
        have H := H1
        clear H1
        have H' := Aside0.mk H
        clear H
        try go_wp2
        have n0_ := Aside0.mk (qNA HB.out)
        clear HB
        have HB := n0_
        clear n0_
        have p289 : 0 ≤ (x5_1 : Int) := of_decide_eq_true (by first | (with_reducible assumption) | assumption)
        have q289 : x5_1 < (l0.length : Int) := of_decide_eq_true (by first | (with_reducible assumption) | assumption)
        obtain ⟨ad289, e289, hx289_0, hx289_1, hx289_2, hx289_3, hx289_4, hx289_5⟩ := qnA HR0.out x5_1 p289 q289
        have hw289_5 := hx289_5
        have hw289_4 := hx289_4
        have hw289_3 := hx289_3
        have hw289_2 := hx289_2
        have hw289_1 := hx289_1
        have hw289_0 := hx289_0
        cases e289
        replace hx289_0 := (HB.out.cell (World.block_lt_of_cell? w _ hx289_0)).trans hx289_0
        replace hx289_1 := (HB.out.cell (World.block_lt_of_cell? w _ hx289_1)).trans hx289_1
        replace hx289_2 := (HB.out.cell (World.block_lt_of_cell? w _ hx289_2)).trans hx289_2
        replace hx289_3 := (HB.out.cell (World.block_lt_of_cell? w _ hx289_3)).trans hx289_3
        replace hx289_4 := (HB.out.cell (World.block_lt_of_cell? w _ hx289_4)).trans hx289_4
        replace hx289_5 := (HB.out.cell (World.block_lt_of_cell? w _ hx289_5)).trans hx289_5
        replace p289 := eq_true p289
        replace q289 := eq_true q289
        have p290 : 0 ≤ (x5_1 : Int) := of_decide_eq_true (by first | (with_reducible assumption) | assumption)
        have q290 : x5_1 < (l1.length : Int) := of_decide_eq_true (by first | (with_reducible assumption) | assumption)
        obtain ⟨ad290, e290, hx290_0, hx290_1, hx290_2, hx290_3, hx290_4, hx290_5⟩ := qnA HR1.out x5_1 p290 q290
        have hw290_5 := hx290_5
        have hw290_4 := hx290_4
        have hw290_3 := hx290_3
        have hw290_2 := hx290_2
        have hw290_1 := hx290_1
        have hw290_0 := hx290_0
        cases e290
        replace hx290_0 := (HB.out.cell (World.block_lt_of_cell? w _ hx290_0)).trans hx290_0
        replace hx290_1 := (HB.out.cell (World.block_lt_of_cell? w _ hx290_1)).trans hx290_1
        replace hx290_2 := (HB.out.cell (World.block_lt_of_cell? w _ hx290_2)).trans hx290_2
        replace hx290_3 := (HB.out.cell (World.block_lt_of_cell? w _ hx290_3)).trans hx290_3
        replace hx290_4 := (HB.out.cell (World.block_lt_of_cell? w _ hx290_4)).trans hx290_4
        replace hx290_5 := (HB.out.cell (World.block_lt_of_cell? w _ hx290_5)).trans hx290_5
        replace p290 := eq_true p290
        replace q290 := eq_true q290
        refine qaB (n := 10) (S := fun w' => w'.cell? (ad289.add ((x5_1).toNat * 6)) = some (.int .i64 ((qB l0 x5_1).f0)) ∧ w'.cell? ⟨(ad289.add ((x5_1).toNat * 6)).block, (ad289.add ((x5_1).toNat * 6)).off + 1, none⟩ = some (.int .i64 ((qB l0 x5_1).f1)) ∧ w'.cell? ⟨(ad289.add ((x5_1).toNat * 6)).block, (ad289.add ((x5_1).toNat * 6)).off + 2, none⟩ = some (.int .i64 ((qB l0 x5_1).f2)) ∧ w'.cell? ⟨(ad289.add ((x5_1).toNat * 6)).block, (ad289.add ((x5_1).toNat * 6)).off + 3, none⟩ = some (.int .i64 ((qB l0 x5_1).f3)) ∧ w'.cell? ⟨(ad289.add ((x5_1).toNat * 6)).block, (ad289.add ((x5_1).toNat * 6)).off + 4, none⟩ = some (.int .i64 ((qB l0 x5_1).f4)) ∧ w'.cell? ⟨(ad289.add ((x5_1).toNat * 6)).block, (ad289.add ((x5_1).toNat * 6)).off + 5, none⟩ = some (.int .i64 ((qB l0 x5_1).f5)) ∧ w'.cell? (ad290.add ((x5_1).toNat * 6)) = some (.int .i64 ((qB l1 x5_1).f0)) ∧ w'.cell? ⟨(ad290.add ((x5_1).toNat * 6)).block, (ad290.add ((x5_1).toNat * 6)).off + 1, none⟩ = some (.int .i64 ((qB l1 x5_1).f1)) ∧ w'.cell? ⟨(ad290.add ((x5_1).toNat * 6)).block, (ad290.add ((x5_1).toNat * 6)).off + 2, none⟩ = some (.int .i64 ((qB l1 x5_1).f2)) ∧ w'.cell? ⟨(ad290.add ((x5_1).toNat * 6)).block, (ad290.add ((x5_1).toNat * 6)).off + 3, none⟩ = some (.int .i64 ((qB l1 x5_1).f3)) ∧ w'.cell? ⟨(ad290.add ((x5_1).toNat * 6)).block, (ad290.add ((x5_1).toNat * 6)).off + 4, none⟩ = some (.int .i64 ((qB l1 x5_1).f4)) ∧ w'.cell? ⟨(ad290.add ((x5_1).toNat * 6)).block, (ad290.add ((x5_1).toNat * 6)).off + 5, none⟩ = some (.int .i64 ((qB l1 x5_1).f5))) (ds := []) #[false, false, false, false, false, false, false, false, false, false] (by kernel_rfl) rfl rfl ⟨((HB.out.cell (World.block_lt_of_cell? w _ hw289_0)).trans hw289_0), ((HB.out.cell (World.block_lt_of_cell? w _ hw289_1)).trans hw289_1), ((HB.out.cell (World.block_lt_of_cell? w _ hw289_2)).trans hw289_2), ((HB.out.cell (World.block_lt_of_cell? w _ hw289_3)).trans hw289_3), ((HB.out.cell (World.block_lt_of_cell? w _ hw289_4)).trans hw289_4), ((HB.out.cell (World.block_lt_of_cell? w _ hw289_5)).trans hw289_5), ((HB.out.cell (World.block_lt_of_cell? w _ hw290_0)).trans hw290_0), ((HB.out.cell (World.block_lt_of_cell? w _ hw290_1)).trans hw290_1), ((HB.out.cell (World.block_lt_of_cell? w _ hw290_2)).trans hw290_2), ((HB.out.cell (World.block_lt_of_cell? w _ hw290_3)).trans hw290_3), ((HB.out.cell (World.block_lt_of_cell? w _ hw290_4)).trans hw290_4), ((HB.out.cell (World.block_lt_of_cell? w _ hw290_5)).trans hw290_5)⟩ (fun hHeld => ?_); refine qeA qQ.tab6 qQ.bits6 (fun HT_ HW_ => ?_)
        generalize wr.drew = w9 at HB hx289_0 hx289_1 hx289_2 hx289_3 hx289_4 hx289_5 hx290_0 hx290_1 hx290_2 hx290_3 hx290_4 hx290_5 hHeld ⊢
        refine pS (i := 0) (N := some 17) #[true, false, false, false, false, false, false, false, false, false] HT_ ?_
        refine pS (i := 1) (N := some 18) #[true, true, false, false, false, false, false, false, false, false] HT_ ?_
        refine pS (i := 2) (N := some 19) #[true, true, true, false, false, false, false, false, false, false] HT_ ?_
        refine pS (i := 4) (N := some 21) #[true, true, true, false, true, false, false, false, false, false] HT_ ?_
        refine pS (i := 5) (N := some 22) #[true, true, true, false, true, true, false, false, false, false] HT_ ?_
        refine pS (i := 6) (N := some 23) #[true, true, true, false, true, true, true, false, false, false] HT_ ?_
        refine tS (i := 3) (N := some 20) #[true, true, true, true, true, true, true, false, false, false] HT_ HW_ hHeld ?_
        refine tS (i := 7) (N := some 24) #[true, true, true, true, true, true, true, true, false, false] HT_ HW_ hHeld ?_
        refine one_ (i := 8) (N := some 25) #[true, true, true, true, true, true, true, true, true, false] rfl rfl (qlA HT_.out (by kernel_rfl)) (by decide) (fun K hK => ?_)
        refine goes_ Try.func32 (by kernel_rfl) rfl #[.agg #[.int .i64 ((qB l0 x5_1).f0), .int .i64 ((qB l0 x5_1).f1), .int .i64 ((qB l0 x5_1).f2), .int .i64 ((qB l0 x5_1).f3), .int .i64 ((qB l0 x5_1).f4), .int .i64 ((qB l0 x5_1).f5)], .agg #[.int .i64 ((qB l1 x5_1).f0), .int .i64 ((qB l1 x5_1).f1), .int .i64 ((qB l1 x5_1).f2), .int .i64 ((qB l1 x5_1).f3), .int .i64 ((qB l1 x5_1).f4), .int .i64 ((qB l1 x5_1).f5)]] (by rfl) rfl rfl (by (try simp only [List.map_toArray, List.map_cons, List.map_nil]); first | done | rfl | (simp only [List.length_drop, List.length_take]; rfl)) ?_
        with_reducible refine (qPA.calls ((qB l0 x5_1).f0) ((qB l0 x5_1).f1) ((qB l0 x5_1).f2) ((qB l0 x5_1).f3) ((qB l0 x5_1).f4) ((qB l0 x5_1).f5) ((qB l1 x5_1).f0) ((qB l1 x5_1).f1) ((qB l1 x5_1).f2) ((qB l1 x5_1).f3) ((qB l1 x5_1).f4) ((qB l1 x5_1).f5) true _ A7.out).mono ?_
        rintro e w10 ⟨rfl, hb⟩
        refine ⟨_, rfl, ?_⟩
        have n0_ := Aside0.mk (qF bl hb)
        clear HB
        have HB := n0_
        clear n0_
        (try clear hb)
        (try clear hb2)
        (try clear hk)
        (try clear hi)
        refine hK.out _ _ ⟨((HB.out.cell (World.block_lt_of_cell? w _ hw289_0)).trans hw289_0), ((HB.out.cell (World.block_lt_of_cell? w _ hw289_1)).trans hw289_1), ((HB.out.cell (World.block_lt_of_cell? w _ hw289_2)).trans hw289_2), ((HB.out.cell (World.block_lt_of_cell? w _ hw289_3)).trans hw289_3), ((HB.out.cell (World.block_lt_of_cell? w _ hw289_4)).trans hw289_4), ((HB.out.cell (World.block_lt_of_cell? w _ hw289_5)).trans hw289_5), ((HB.out.cell (World.block_lt_of_cell? w _ hw290_0)).trans hw290_0), ((HB.out.cell (World.block_lt_of_cell? w _ hw290_1)).trans hw290_1), ((HB.out.cell (World.block_lt_of_cell? w _ hw290_2)).trans hw290_2), ((HB.out.cell (World.block_lt_of_cell? w _ hw290_3)).trans hw290_3), ((HB.out.cell (World.block_lt_of_cell? w _ hw290_4)).trans hw290_4), ((HB.out.cell (World.block_lt_of_cell? w _ hw290_5)).trans hw290_5)⟩ (fun hHeld => ?_)
        clear hK K
        refine norm_ (a' := ?_) ?_ ?_
        rotate_left
        ·show Act.put _ (some 25) _ = _
         simp only [Act.put, List.setIfInBounds_toArray, List.set_cons_zero, List.set_cons_succ, i64_w, i32_w]
         rfl
        refine pS (i := 9) (N := some 26) #[true, true, true, true, true, true, true, true, true, true] HT_ ?_
        refine done_ (qSB HT_.out (by kernel_rfl)) ?_
        try go_wp2
        go_roundg k1
        case measure => have := HK1.out; omega
        case rel => exact ⟨(wrap64 (x5_1 + 1)), (by first | rfl | (simp; done) | (simp [*]; done)), H', ⟨by have := HK1.out; omega⟩, ⟨bl⟩⟩
       ·replace c8 := Bool.eq_false_iff.mpr c8
        subst c8
        have H1 : (some false) = some r := by rw [if_neg (show ¬ (false = true) by decide)] at H; exact H
        clear H
        have H := H1
        clear H1
        obtain rfl := Option.some.inj H
        try go_wp2
        have n0_ := Aside0.mk (qNA HB.out)
        clear HB
        have HB := n0_
        clear n0_
        have p289 : 0 ≤ (x5_1 : Int) := of_decide_eq_true (by first | (with_reducible assumption) | assumption)
        have q289 : x5_1 < (l0.length : Int) := of_decide_eq_true (by first | (with_reducible assumption) | assumption)
        obtain ⟨ad289, e289, hx289_0, hx289_1, hx289_2, hx289_3, hx289_4, hx289_5⟩ := qnA HR0.out x5_1 p289 q289
        have hw289_5 := hx289_5
        have hw289_4 := hx289_4
        have hw289_3 := hx289_3
        have hw289_2 := hx289_2
        have hw289_1 := hx289_1
        have hw289_0 := hx289_0
        cases e289
        replace hx289_0 := (HB.out.cell (World.block_lt_of_cell? w _ hx289_0)).trans hx289_0
        replace hx289_1 := (HB.out.cell (World.block_lt_of_cell? w _ hx289_1)).trans hx289_1
        replace hx289_2 := (HB.out.cell (World.block_lt_of_cell? w _ hx289_2)).trans hx289_2
        replace hx289_3 := (HB.out.cell (World.block_lt_of_cell? w _ hx289_3)).trans hx289_3
        replace hx289_4 := (HB.out.cell (World.block_lt_of_cell? w _ hx289_4)).trans hx289_4
        replace hx289_5 := (HB.out.cell (World.block_lt_of_cell? w _ hx289_5)).trans hx289_5
        replace p289 := eq_true p289
        replace q289 := eq_true q289
        have p290 : 0 ≤ (x5_1 : Int) := of_decide_eq_true (by first | (with_reducible assumption) | assumption)
        have q290 : x5_1 < (l1.length : Int) := of_decide_eq_true (by first | (with_reducible assumption) | assumption)
        obtain ⟨ad290, e290, hx290_0, hx290_1, hx290_2, hx290_3, hx290_4, hx290_5⟩ := qnA HR1.out x5_1 p290 q290
        have hw290_5 := hx290_5
        have hw290_4 := hx290_4
        have hw290_3 := hx290_3
        have hw290_2 := hx290_2
        have hw290_1 := hx290_1
        have hw290_0 := hx290_0
        cases e290
        replace hx290_0 := (HB.out.cell (World.block_lt_of_cell? w _ hx290_0)).trans hx290_0
        replace hx290_1 := (HB.out.cell (World.block_lt_of_cell? w _ hx290_1)).trans hx290_1
        replace hx290_2 := (HB.out.cell (World.block_lt_of_cell? w _ hx290_2)).trans hx290_2
        replace hx290_3 := (HB.out.cell (World.block_lt_of_cell? w _ hx290_3)).trans hx290_3
        replace hx290_4 := (HB.out.cell (World.block_lt_of_cell? w _ hx290_4)).trans hx290_4
        replace hx290_5 := (HB.out.cell (World.block_lt_of_cell? w _ hx290_5)).trans hx290_5
        replace p290 := eq_true p290
        replace q290 := eq_true q290
        refine qaB (n := 10) (S := fun w' => w'.cell? (ad289.add ((x5_1).toNat * 6)) = some (.int .i64 ((qB l0 x5_1).f0)) ∧ w'.cell? ⟨(ad289.add ((x5_1).toNat * 6)).block, (ad289.add ((x5_1).toNat * 6)).off + 1, none⟩ = some (.int .i64 ((qB l0 x5_1).f1)) ∧ w'.cell? ⟨(ad289.add ((x5_1).toNat * 6)).block, (ad289.add ((x5_1).toNat * 6)).off + 2, none⟩ = some (.int .i64 ((qB l0 x5_1).f2)) ∧ w'.cell? ⟨(ad289.add ((x5_1).toNat * 6)).block, (ad289.add ((x5_1).toNat * 6)).off + 3, none⟩ = some (.int .i64 ((qB l0 x5_1).f3)) ∧ w'.cell? ⟨(ad289.add ((x5_1).toNat * 6)).block, (ad289.add ((x5_1).toNat * 6)).off + 4, none⟩ = some (.int .i64 ((qB l0 x5_1).f4)) ∧ w'.cell? ⟨(ad289.add ((x5_1).toNat * 6)).block, (ad289.add ((x5_1).toNat * 6)).off + 5, none⟩ = some (.int .i64 ((qB l0 x5_1).f5)) ∧ w'.cell? (ad290.add ((x5_1).toNat * 6)) = some (.int .i64 ((qB l1 x5_1).f0)) ∧ w'.cell? ⟨(ad290.add ((x5_1).toNat * 6)).block, (ad290.add ((x5_1).toNat * 6)).off + 1, none⟩ = some (.int .i64 ((qB l1 x5_1).f1)) ∧ w'.cell? ⟨(ad290.add ((x5_1).toNat * 6)).block, (ad290.add ((x5_1).toNat * 6)).off + 2, none⟩ = some (.int .i64 ((qB l1 x5_1).f2)) ∧ w'.cell? ⟨(ad290.add ((x5_1).toNat * 6)).block, (ad290.add ((x5_1).toNat * 6)).off + 3, none⟩ = some (.int .i64 ((qB l1 x5_1).f3)) ∧ w'.cell? ⟨(ad290.add ((x5_1).toNat * 6)).block, (ad290.add ((x5_1).toNat * 6)).off + 4, none⟩ = some (.int .i64 ((qB l1 x5_1).f4)) ∧ w'.cell? ⟨(ad290.add ((x5_1).toNat * 6)).block, (ad290.add ((x5_1).toNat * 6)).off + 5, none⟩ = some (.int .i64 ((qB l1 x5_1).f5))) (ds := []) #[false, false, false, false, false, false, false, false, false, false] (by kernel_rfl) rfl rfl ⟨((HB.out.cell (World.block_lt_of_cell? w _ hw289_0)).trans hw289_0), ((HB.out.cell (World.block_lt_of_cell? w _ hw289_1)).trans hw289_1), ((HB.out.cell (World.block_lt_of_cell? w _ hw289_2)).trans hw289_2), ((HB.out.cell (World.block_lt_of_cell? w _ hw289_3)).trans hw289_3), ((HB.out.cell (World.block_lt_of_cell? w _ hw289_4)).trans hw289_4), ((HB.out.cell (World.block_lt_of_cell? w _ hw289_5)).trans hw289_5), ((HB.out.cell (World.block_lt_of_cell? w _ hw290_0)).trans hw290_0), ((HB.out.cell (World.block_lt_of_cell? w _ hw290_1)).trans hw290_1), ((HB.out.cell (World.block_lt_of_cell? w _ hw290_2)).trans hw290_2), ((HB.out.cell (World.block_lt_of_cell? w _ hw290_3)).trans hw290_3), ((HB.out.cell (World.block_lt_of_cell? w _ hw290_4)).trans hw290_4), ((HB.out.cell (World.block_lt_of_cell? w _ hw290_5)).trans hw290_5)⟩ (fun hHeld => ?_); refine qeA qQ.tab6 qQ.bits6 (fun HT_ HW_ => ?_)
        generalize wr.drew = w11 at HB hx289_0 hx289_1 hx289_2 hx289_3 hx289_4 hx289_5 hx290_0 hx290_1 hx290_2 hx290_3 hx290_4 hx290_5 hHeld ⊢
        refine pS (i := 0) (N := some 17) #[true, false, false, false, false, false, false, false, false, false] HT_ ?_
        refine pS (i := 1) (N := some 18) #[true, true, false, false, false, false, false, false, false, false] HT_ ?_
        refine pS (i := 2) (N := some 19) #[true, true, true, false, false, false, false, false, false, false] HT_ ?_
        refine pS (i := 4) (N := some 21) #[true, true, true, false, true, false, false, false, false, false] HT_ ?_
        refine pS (i := 5) (N := some 22) #[true, true, true, false, true, true, false, false, false, false] HT_ ?_
        refine pS (i := 6) (N := some 23) #[true, true, true, false, true, true, true, false, false, false] HT_ ?_
        refine tS (i := 3) (N := some 20) #[true, true, true, true, true, true, true, false, false, false] HT_ HW_ hHeld ?_
        refine tS (i := 7) (N := some 24) #[true, true, true, true, true, true, true, true, false, false] HT_ HW_ hHeld ?_
        refine one_ (i := 8) (N := some 25) #[true, true, true, true, true, true, true, true, true, false] rfl rfl (qlA HT_.out (by kernel_rfl)) (by decide) (fun K hK => ?_)
        refine goes_ Try.func32 (by kernel_rfl) rfl #[.agg #[.int .i64 ((qB l0 x5_1).f0), .int .i64 ((qB l0 x5_1).f1), .int .i64 ((qB l0 x5_1).f2), .int .i64 ((qB l0 x5_1).f3), .int .i64 ((qB l0 x5_1).f4), .int .i64 ((qB l0 x5_1).f5)], .agg #[.int .i64 ((qB l1 x5_1).f0), .int .i64 ((qB l1 x5_1).f1), .int .i64 ((qB l1 x5_1).f2), .int .i64 ((qB l1 x5_1).f3), .int .i64 ((qB l1 x5_1).f4), .int .i64 ((qB l1 x5_1).f5)]] (by rfl) rfl rfl (by (try simp only [List.map_toArray, List.map_cons, List.map_nil]); first | done | rfl | (simp only [List.length_drop, List.length_take]; rfl)) ?_
        with_reducible refine (qPA.calls ((qB l0 x5_1).f0) ((qB l0 x5_1).f1) ((qB l0 x5_1).f2) ((qB l0 x5_1).f3) ((qB l0 x5_1).f4) ((qB l0 x5_1).f5) ((qB l1 x5_1).f0) ((qB l1 x5_1).f1) ((qB l1 x5_1).f2) ((qB l1 x5_1).f3) ((qB l1 x5_1).f4) ((qB l1 x5_1).f5) false _ A7.out).mono ?_
        rintro e w12 ⟨rfl, hb⟩
        refine ⟨_, rfl, ?_⟩
        have n0_ := Aside0.mk (qF bl hb)
        clear HB
        have HB := n0_
        clear n0_
        (try clear hb)
        (try clear hb2)
        (try clear hk)
        (try clear hi)
        refine hK.out _ _ ⟨((HB.out.cell (World.block_lt_of_cell? w _ hw289_0)).trans hw289_0), ((HB.out.cell (World.block_lt_of_cell? w _ hw289_1)).trans hw289_1), ((HB.out.cell (World.block_lt_of_cell? w _ hw289_2)).trans hw289_2), ((HB.out.cell (World.block_lt_of_cell? w _ hw289_3)).trans hw289_3), ((HB.out.cell (World.block_lt_of_cell? w _ hw289_4)).trans hw289_4), ((HB.out.cell (World.block_lt_of_cell? w _ hw289_5)).trans hw289_5), ((HB.out.cell (World.block_lt_of_cell? w _ hw290_0)).trans hw290_0), ((HB.out.cell (World.block_lt_of_cell? w _ hw290_1)).trans hw290_1), ((HB.out.cell (World.block_lt_of_cell? w _ hw290_2)).trans hw290_2), ((HB.out.cell (World.block_lt_of_cell? w _ hw290_3)).trans hw290_3), ((HB.out.cell (World.block_lt_of_cell? w _ hw290_4)).trans hw290_4), ((HB.out.cell (World.block_lt_of_cell? w _ hw290_5)).trans hw290_5)⟩ (fun hHeld => ?_)
        clear hK K
        refine norm_ (a' := ?_) ?_ ?_
        rotate_left
        ·show Act.put _ (some 25) _ = _
         simp only [Act.put, List.setIfInBounds_toArray, List.set_cons_zero, List.set_cons_succ, i64_w, i32_w]
         rfl
        refine pS (i := 9) (N := some 26) #[true, true, true, true, true, true, true, true, true, true] HT_ ?_
        refine done_ (qSB HT_.out (by kernel_rfl)) ?_
        try go_wp2
        go_ret
        exact ⟨by first | rfl | (simp [qJ, qI] <;> rfl) | (simp [*, qJ, qI] <;> rfl), bl⟩
      ·rw [if_neg c6] at H
       exact absurd H (by simp)
     ·rw [if_neg c5] at H
      exact absurd H (by simp)
    ·rw [if_neg c4] at H
     have c4b0 : decide (x5_1 < (l0.length : Int)) = false := decide_eq_false c4
     clear c4
     obtain rfl := Option.some.inj H
     go_wp2
     go_ret
     exact ⟨by first | rfl | (simp [qJ, qI] <;> rfl) | (simp [*, qJ, qI] <;> rfl), bl⟩
 ·rw [if_neg c3] at H
  have c3b0 : ((l0.length : Int) == (l1.length : Int)) = false := beq_eq_false_iff_ne.mpr c3
  have c3b1 : ((l0.length : Int) != (l1.length : Int)) = true := bne_iff_ne.mpr c3
  have c3b2 : (l0.length == l1.length) = false := by first | simpa using c3 | (simp at c3 ⊢; omega)
  obtain rfl := Option.some.inj H
  go_enter Try.func18, Try.ntmps18
  go_wp2
  go_ret
  exact ⟨by first | rfl | (simp [qJ, qI] <;> rfl) | (simp [*, qJ, qI] <;> rfl), bl⟩
end Go.Proofs.Ytbnpplakmihhbaa.P
namespace Go.Proofs.Ytbnpplakmihhbaa
open Go.RowKit Go.Proofs.YtbnpplakmihhbaaW.PrintWords Go.Proofs.YtbnpplakmihhbaaW.PrintLast
set_option linter.unusedVariables false
set_option linter.unusedSimpArgs false
def Blk (w : World) (g : Nat) (t : TypeId) (cs : Array Value) (fz : Nat × Nat) : Prop := w.heap[g]? = some (.cells cs t fz)
section
variable {w w' : World} {g : Nat} {t : TypeId} {cs : Array Value} {fz : Nat × Nat}
theorem Blk.lt (h : Blk w g t cs fz) : g < w.heap.size := by
 rcases Nat.lt_or_ge g w.heap.size with hlt | hge
 ·exact hlt
 ·unfold Blk at h; rw [Array.getElem?_eq_none hge] at h; cases h
theorem Blk.cell (h : Blk w g t cs fz) (i : Nat) : w.cell? ⟨g, i, none⟩ = cs[i]? := cell_of_row w g i cs t fz h
theorem Blk.drewN (h : Blk w g t cs fz) (n : Nat) : Blk (w.drewN n) g t cs fz := h
theorem Blk.alloc (h : Blk w g t cs fz) (o : Obj) : Blk (w.alloc o) g t cs fz := (Below.heap_alloc w o g h.lt).trans h
theorem Blk.below {B : Nat} (h : Blk w g t cs fz) (hb : Below B w w') (hg : g < B) : Blk w' g t cs fz := (hb.block g hg).trans h
end
theorem Blk.bytes (W : World) (e : TypeId) (s : ByteArray) : Blk (Lib.bytesWorld W e s) W.heap.size e (Lib.bytesCells W e s) ((Lib.bytesCells W e s).size, (Lib.bytesCells W e s).size + 1) := Lib.bytesWorld_at_new W e s
theorem Ev.at_ {α : Type} {g : Nat → Option α} {r : α} (n : Nat) (h : ∀ k, g (k + n) = some r) : Ev g r := ⟨n, fun k hk => by
 obtain ⟨m, rfl⟩ : ∃ m, k = m + n := ⟨k - n, by omega⟩
 exact h m⟩
theorem Ev.pos {α : Type} {c : Prop} [Decidable c] {g f : Nat → Option α} {r : α} (hc : c) (h : Ev g r) : Ev (fun k => if c then g k else f k) r := h.congr fun k => if_pos hc
theorem Ev.neg {α : Type} {c : Prop} [Decidable c] {g f : Nat → Option α} {r : α} (hc : ¬ c) (h : Ev f r) : Ev (fun k => if c then g k else f k) r := h.congr fun k => if_neg hc
theorem Ev.some_ {α : Type} {a r : α} (h : a = r) : Ev (fun _ => some a) r := ⟨0, fun _ _ => by rw [h]⟩
theorem Ev.bindc {α β : Type} {o : Option α} {f : Nat → α → Option β} {a : α} {r : β} (h : o = some a) (k : Ev (fun n => f n a) r) : Ev (fun n => o.bind (f n)) r := k.congr fun n => by rw [h]; rfl
end Go.Proofs.Ytbnpplakmihhbaa
namespace Go.Proofs.Ytbnpplakmihhbaa
open Go.RowKit Go.Proofs.Ytbnpplakmihhbaa.P Go.Proofs.YtbnpplakmihhbaaW Go.Proofs.YtbnpplakmihhbaaW.PrintWords Go.Proofs.YtbnpplakmihhbaaW.PrintLast
set_option linter.unusedVariables false
set_option linter.unusedSimpArgs false
abbrev DP := S29
def pr2 (a b : Int) : List Int := [min a b, max a b]
def pairsL (x : DP) : List (List Int) := [pr2 x.f1 x.f3, pr2 x.f2 x.f4, pr2 x.f0 x.f5]
abbrev kRow := Kd.slice 3 (Kd.int .i64)
theorem infoRow : (Try.prog.info? 42).map (fun i => (i.zero, i.size, i.bytes)) = some (some (.slice none 0 0), 1, 24) := by kernel_rfl
theorem S_lay {w W : World} {u : Value} {xs : List (List Int)} (h : Kd.S kRow 42 W w.heap.size (fun _ => True) u xs) {g : Nat} {cs : Array Value} (hb : W.heap[g]? = some (.cells cs 64 (0, 0))) (a b : Value) :
  Kd.S kRow 42 ((W.setCell ⟨g, 0, none⟩ a).setCell ⟨g, 1, none⟩ b) w.heap.size (fun _ => True) u xs := by
 refine Kd.S_set (Kd.S_set h hb (by decide) 0 a) (qq hb 0 a rfl) (by decide) 1 b
theorem qGB {w W : World} {g : Nat} (h : Below w.heap.size w W) (hg : w.heap.size ≤ g) (a b : Value) : Below w.heap.size w ((W.setCell ⟨g, 0, none⟩ a).setCell ⟨g, 1, none⟩ b) := qx (qx h hg) hg
theorem pidx0 (a b c d e f : Value) (w : World) : Sem.run Try.prog (Instr.index 65 (.agg #[a, b, c, d, e, f]) (.int .i64 0)) w = .ok (.agg #[a, b]) w := by kernel_rfl
theorem pidx1 (a b c d e f : Value) (w : World) : Sem.run Try.prog (Instr.index 65 (.agg #[a, b, c, d, e, f]) (.int .i64 1)) w = .ok (.agg #[c, d]) w := by kernel_rfl
theorem pidx2 (a b c d e f : Value) (w : World) : Sem.run Try.prog (Instr.index 65 (.agg #[a, b, c, d, e, f]) (.int .i64 2)) w = .ok (.agg #[e, f]) w := by kernel_rfl
theorem pmin (ats : Array TypeId) (ty : TypeId) (x y : Int) : Builtin.min_ ats ty #[.int .i64 x, .int .i64 y] = pure (.int .i64 (min x y)) := by
 rw [PrintMore.qm, PrintMore.qe]
 have h : (if y < x then y else x) = min x y := by split <;> omega
 first | (rw [h]; rfl) | (simp only [h]; rfl)
theorem pmax (ats : Array TypeId) (ty : TypeId) (x y : Int) : Builtin.max_ ats ty #[.int .i64 x, .int .i64 y] = pure (.int .i64 (max x y)) := by
 rw [PrintMore.qn, PrintMore.qf]
 have h : (if x < y then y else x) = max x y := by split <;> omega
 first | (rw [h]; rfl) | (simp only [h]; rfl)
attribute [local go_sem] pidx0 pidx1 pidx2 pmin pmax
set_option maxHeartbeats 4000000 in
set_option maxRecDepth 100000 in
theorem pairs_calls (x : DP) (w : World) : Calls Try.prog 24 #[.agg #[.int .i64 x.f0, .int .i64 x.f1, .int .i64 x.f2, .int .i64 x.f3, .int .i64 x.f4, .int .i64 x.f5]] w fun e w' => ∃ v : Value, e = .returned v ∧ Kd.S kRow 42 w' w.heap.size (fun _ => True) v (pairsL x) ∧ Below w.heap.size w w' := by
 have HB := Aside0.mk (Below.refl w.heap.size w)
 have hu64 := Try.underlying64
 have hu65 := Try.underlying65
 have hu29 := Try.underlying29
 obtain ⟨x0, x1, x2, x3, x4, x5⟩ := x
 simp only [pairsL, pr2]
 go_enter Try.func24, Try.ntmps24
 go_wp2_with (first
  | ((with_reducible refine qV (N := 1) rfl ?_); go_loud (refine qW ?hg (N := 1) ?hd (cs := #[.int .i64 x0, .int .i64 x1, .int .i64 x2, .int .i64 x3, .int .i64 x4, .int .i64 x5]) (t := 29) ?hr ?_; (case hd => rfl); (case hg => rfl); (case hr => first | (go_simp; done) | (go_simp; rfl)); intro gb hg w5 hbox hb; have n0_ := Aside0.mk (qF HB.out hb); have n1_ := Aside0.mk hbox; have n2_ := Aside0.mk (show w.heap.size ≤ gb by rw [hg]; exact Nat.le_refl _); clear HB; have HB := n0_; have BK := n1_; have GW := n2_; clear n0_ n1_ n2_; clear hb hbox hg))
  | ((with_reducible refine qV (N := 6) rfl ?_); go_loud (refine Kd.R_lit (Kd.bare kRow) _ 42 ?hg (N := 6) ?hd (xs := ([] : List (List Int))) (inner := []) (ok := fun _ => True) (okp := fun _ => True) ?hr ?hp (fun _ hk => hk) trivial (Below.refl _ _) (Nat.le_refl _) (by simp) ?_; (case hd => rfl); (case hg => rfl); (case hr => first | (go_simp; done) | (go_simp; rfl)); (case hp => exact (Reps.none _ _)); intro v1 w1 ho1 hb1 hg_ hnew_; have HO := Aside0.mk (Kd.S_bare (Kd.qr ho1 (qL HB.out))); have n0_ := Aside0.mk (qF HB.out hb1); have n1_ := Aside0.mk (qgA BK.out hb1); clear HB BK; have HB := n0_; have BK := n1_; clear n0_ n1_; have hcz0 : w1.cell? ⟨gb, 0, none⟩ = some (.int .i64 x0) := (qN BK.out 0).trans rfl; have hcz1 : w1.cell? ⟨gb, 1, none⟩ = some (.int .i64 x1) := (qN BK.out 1).trans rfl; have hcz2 : w1.cell? ⟨gb, 2, none⟩ = some (.int .i64 x2) := (qN BK.out 2).trans rfl; have hcz3 : w1.cell? ⟨gb, 3, none⟩ = some (.int .i64 x3) := (qN BK.out 3).trans rfl; have hcz4 : w1.cell? ⟨gb, 4, none⟩ = some (.int .i64 x4) := (qN BK.out 4).trans rfl; have hcz5 : w1.cell? ⟨gb, 5, none⟩ = some (.int .i64 x5) := (qN BK.out 5).trans rfl; clear ho1 hb1 hg_ hnew_)))
 clear BK hcz0 hcz1 hcz2 hcz3 hcz4 hcz5 GW hu29
 go_loopg [3, 23] 3 (fun g s3 s23 w' => ∃ n : Nat, n ≤ 3 ∧ 3 - n ≤ g ∧ s23 = .int .i64 (n : Int) ∧ Aside0 (Kd.S kRow 42 w' w.heap.size (fun _ => True) s3 (([[min x1 x3, max x1 x3], [min x2 x4, max x2 x4], [min x0 x5, max x0 x5]] : List (List Int)).take n)) ∧ Aside0 (Below w.heap.size w w'))
 case atStart => exact ⟨0, by omega, by omega, rfl, HO, HB⟩
 case round =>
  clear HO HB
  obtain ⟨n, hn, hg, rfl, HO, HB⟩ := hrel
  obtain ⟨⟨a, b, hab⟩, c1, c2⟩ : (∃ a b : Int, Value.agg #[.int .i64 a, .int .i64 b] = Value.agg #[.int .i64 a, .int .i64 b]) ∧ True ∧ True := ⟨⟨0, 0, rfl⟩, trivial, trivial⟩
  clear hab c1 c2 a b
  have hcase : n = 0 ∨ n = 1 ∨ n = 2 ∨ n = 3 := by omega
  rcases hcase with rfl | rfl | rfl | rfl
  ·have HS := Aside0.mk (show Kd.S kRow 42 wr w.heap.size (fun _ => True) u3 ([] : List (List Int)) from HO.out)
   clear HO
   go_wp2_with (first
    | ((with_reducible refine qV (N := 5) rfl ?_); go_loud (refine qW ?hg (N := 5) ?hd (cs := #[.int .i64 0, .int .i64 0]) (t := 64) ?hr ?_; (case hd => rfl); (case hg => rfl); (case hr => first | (go_simp; done) | (go_simp; rfl)); intro gb hg2 w5 hbox hb; have n0_ := Aside0.mk (qF HB.out hb); have n1_ := Aside0.mk hbox; have n2_ := Aside0.mk (show w.heap.size ≤ gb by rw [hg2]; exact qL HB.out); have n3_ := Aside0.mk (Kd.qhB HS.out hb); clear HB HS; have HB := n0_; have BK := n1_; have GW := n2_; have HS := n3_; clear n0_ n1_ n2_ n3_; have hcb0 : w5.cell? ⟨gb, 0, none⟩ = some (.int .i64 0) := (qN BK.out 0).trans rfl; have hcb1 : w5.cell? ⟨gb, 1, none⟩ = some (.int .i64 0) := (qN BK.out 1).trans rfl; have hfb0 : w5.frozen? ⟨gb, 0, none⟩ = false := qA BK.out 0; have hfb1 : w5.frozen? ⟨gb, 1, none⟩ = false := qA BK.out 1; clear hbox hb hg2))
    | ((with_reducible refine qV (N := 37) rfl ?_); go_loud (refine Kd.R_lit (Kd.int .i64) _ 3 ?hg (N := 37) ?hd (xs := ([min x1 x3, max x1 x3] : List Int)) (inner := [.int .i64 (min x1 x3), .int .i64 (max x1 x3)]) (ok := fun _ => True) (okp := fun _ => True) ?hr ?hp (fun _ hk => hk) trivial (Below.refl _ _) (Nat.le_refl _) (by simp) ?_; (case hd => rfl); (case hg => rfl); (case hr => first | (go_simp; done) | (go_simp; rfl)); (case hp => exact (Reps.one (show Kd.M (Kd.int .i64) _ _ _ (min x1 x3) [.int .i64 (min x1 x3)] from rfl) (Reps.one (show Kd.M (Kd.int .i64) _ _ _ (max x1 x3) [.int .i64 (max x1 x3)] from rfl) (Reps.none _ _)))); intro v7 w7 ho hb hg_ hnew_; have hlay := qGB HB.out GW.out (.int .i64 x1) (.int .i64 x3); have hsz := qL hlay; have n0_ := Aside0.mk (Kd.qTB (v := v7) (S_lay HS.out BK.out _ _) (Kd.qWA ho) hb); have n1_ := Aside0.mk (Kd.qr ho hsz); have n2_ := Aside0.mk (qF hlay hb); clear HB HS; have HB := n2_; have HS := n0_; have HO7 := n1_; clear n0_ n1_ n2_ hsz hlay BK GW; clear hg_ hnew_ ho hb hcb0 hcb1 hfb0 hfb1; obtain ⟨A7, c7, e7⟩ := Kd.qGA HO7.out; have e7' : v7 = .slice A7 2 c7 := e7; clear e7; subst e7'))
    | ((with_reducible refine qSA (b := .append) (xs := #[.tmp 26, .tmp 38]) rfl ?_); at_builtin; go_loud (refine Kd.qUB kRow (w0 := w) w.heap.size rfl (.tmp 26) (.tmp 38) 26 42 (.slice none 0 0) 24 rfl Try.underlying26 infoRow rfl (by decide) (by omega) u3 ([] : List (List Int)) [min x1 x3, max x1 x3] [.slice A7 2 c7] (fun _ => True) (fun k_ => some k_ = (.slice A7 2 c7 : Value).ownBlock) rfl rfl ?aP ?aK (fun _ _ => trivial) ?aO HB.out (qL HB.out) (by simp only [List.length_cons, List.length_nil]; omega) ?_; (case aP => exact Kd.M_row (Kd.qVB rfl HO7.out)); (case aK => exact fun k_ hk_ => (Kd.qkA HO7.out (Kd.qgB HS.out) (by decide)).1 k_ hk_.symm); (case aO => exact HS.out); intro v8 w8 ho hb hg_ hat; have n0_ := Aside0.mk ho; have n1_ := Aside0.mk hb; clear HS HB HO7; have HS := n0_; have HB := n1_; clear n0_ n1_ ho hb hg_ hat)))
   go_roundg (3 - 1)
   case measure => omega
   case rel => exact ⟨1, by omega, Nat.le_refl _, by go_num, ⟨HS.out⟩, HB⟩
  ·have HS := Aside0.mk (show Kd.S kRow 42 wr w.heap.size (fun _ => True) u3 ([[min x1 x3, max x1 x3]] : List (List Int)) from HO.out)
   clear HO
   go_wp2_with (first
    | ((with_reducible refine qV (N := 5) rfl ?_); go_loud (refine qW ?hg (N := 5) ?hd (cs := #[.int .i64 0, .int .i64 0]) (t := 64) ?hr ?_; (case hd => rfl); (case hg => rfl); (case hr => first | (go_simp; done) | (go_simp; rfl)); intro gb hg2 w5 hbox hb; have n0_ := Aside0.mk (qF HB.out hb); have n1_ := Aside0.mk hbox; have n2_ := Aside0.mk (show w.heap.size ≤ gb by rw [hg2]; exact qL HB.out); have n3_ := Aside0.mk (Kd.qhB HS.out hb); clear HB HS; have HB := n0_; have BK := n1_; have GW := n2_; have HS := n3_; clear n0_ n1_ n2_ n3_; have hcb0 : w5.cell? ⟨gb, 0, none⟩ = some (.int .i64 0) := (qN BK.out 0).trans rfl; have hcb1 : w5.cell? ⟨gb, 1, none⟩ = some (.int .i64 0) := (qN BK.out 1).trans rfl; have hfb0 : w5.frozen? ⟨gb, 0, none⟩ = false := qA BK.out 0; have hfb1 : w5.frozen? ⟨gb, 1, none⟩ = false := qA BK.out 1; clear hbox hb hg2))
    | ((with_reducible refine qV (N := 37) rfl ?_); go_loud (refine Kd.R_lit (Kd.int .i64) _ 3 ?hg (N := 37) ?hd (xs := ([min x2 x4, max x2 x4] : List Int)) (inner := [.int .i64 (min x2 x4), .int .i64 (max x2 x4)]) (ok := fun _ => True) (okp := fun _ => True) ?hr ?hp (fun _ hk => hk) trivial (Below.refl _ _) (Nat.le_refl _) (by simp) ?_; (case hd => rfl); (case hg => rfl); (case hr => first | (go_simp; done) | (go_simp; rfl)); (case hp => exact (Reps.one (show Kd.M (Kd.int .i64) _ _ _ (min x2 x4) [.int .i64 (min x2 x4)] from rfl) (Reps.one (show Kd.M (Kd.int .i64) _ _ _ (max x2 x4) [.int .i64 (max x2 x4)] from rfl) (Reps.none _ _)))); intro v7 w7 ho hb hg_ hnew_; have hlay := qGB HB.out GW.out (.int .i64 x2) (.int .i64 x4); have hsz := qL hlay; have n0_ := Aside0.mk (Kd.qTB (v := v7) (S_lay HS.out BK.out _ _) (Kd.qWA ho) hb); have n1_ := Aside0.mk (Kd.qr ho hsz); have n2_ := Aside0.mk (qF hlay hb); clear HB HS; have HB := n2_; have HS := n0_; have HO7 := n1_; clear n0_ n1_ n2_ hsz hlay BK GW; clear hg_ hnew_ ho hb hcb0 hcb1 hfb0 hfb1; obtain ⟨A7, c7, e7⟩ := Kd.qGA HO7.out; have e7' : v7 = .slice A7 2 c7 := e7; clear e7; subst e7'))
    | ((with_reducible refine qSA (b := .append) (xs := #[.tmp 26, .tmp 38]) rfl ?_); at_builtin; go_loud (refine Kd.qUB kRow (w0 := w) w.heap.size rfl (.tmp 26) (.tmp 38) 26 42 (.slice none 0 0) 24 rfl Try.underlying26 infoRow rfl (by decide) (by omega) u3 ([[min x1 x3, max x1 x3]] : List (List Int)) [min x2 x4, max x2 x4] [.slice A7 2 c7] (fun _ => True) (fun k_ => some k_ = (.slice A7 2 c7 : Value).ownBlock) rfl rfl ?aP ?aK (fun _ _ => trivial) ?aO HB.out (qL HB.out) (by simp only [List.length_cons, List.length_nil]; omega) ?_; (case aP => exact Kd.M_row (Kd.qVB rfl HO7.out)); (case aK => exact fun k_ hk_ => (Kd.qkA HO7.out (Kd.qgB HS.out) (by decide)).1 k_ hk_.symm); (case aO => exact HS.out); intro v8 w8 ho hb hg_ hat; have n0_ := Aside0.mk ho; have n1_ := Aside0.mk hb; clear HS HB HO7; have HS := n0_; have HB := n1_; clear n0_ n1_ ho hb hg_ hat)))
   go_roundg (3 - 2)
   case measure => omega
   case rel => exact ⟨2, by omega, Nat.le_refl _, by go_num, ⟨HS.out⟩, HB⟩
  ·have HS := Aside0.mk (show Kd.S kRow 42 wr w.heap.size (fun _ => True) u3 ([[min x1 x3, max x1 x3], [min x2 x4, max x2 x4]] : List (List Int)) from HO.out)
   clear HO
   go_wp2_with (first
    | ((with_reducible refine qV (N := 5) rfl ?_); go_loud (refine qW ?hg (N := 5) ?hd (cs := #[.int .i64 0, .int .i64 0]) (t := 64) ?hr ?_; (case hd => rfl); (case hg => rfl); (case hr => first | (go_simp; done) | (go_simp; rfl)); intro gb hg2 w5 hbox hb; have n0_ := Aside0.mk (qF HB.out hb); have n1_ := Aside0.mk hbox; have n2_ := Aside0.mk (show w.heap.size ≤ gb by rw [hg2]; exact qL HB.out); have n3_ := Aside0.mk (Kd.qhB HS.out hb); clear HB HS; have HB := n0_; have BK := n1_; have GW := n2_; have HS := n3_; clear n0_ n1_ n2_ n3_; have hcb0 : w5.cell? ⟨gb, 0, none⟩ = some (.int .i64 0) := (qN BK.out 0).trans rfl; have hcb1 : w5.cell? ⟨gb, 1, none⟩ = some (.int .i64 0) := (qN BK.out 1).trans rfl; have hfb0 : w5.frozen? ⟨gb, 0, none⟩ = false := qA BK.out 0; have hfb1 : w5.frozen? ⟨gb, 1, none⟩ = false := qA BK.out 1; clear hbox hb hg2))
    | ((with_reducible refine qV (N := 37) rfl ?_); go_loud (refine Kd.R_lit (Kd.int .i64) _ 3 ?hg (N := 37) ?hd (xs := ([min x0 x5, max x0 x5] : List Int)) (inner := [.int .i64 (min x0 x5), .int .i64 (max x0 x5)]) (ok := fun _ => True) (okp := fun _ => True) ?hr ?hp (fun _ hk => hk) trivial (Below.refl _ _) (Nat.le_refl _) (by simp) ?_; (case hd => rfl); (case hg => rfl); (case hr => first | (go_simp; done) | (go_simp; rfl)); (case hp => exact (Reps.one (show Kd.M (Kd.int .i64) _ _ _ (min x0 x5) [.int .i64 (min x0 x5)] from rfl) (Reps.one (show Kd.M (Kd.int .i64) _ _ _ (max x0 x5) [.int .i64 (max x0 x5)] from rfl) (Reps.none _ _)))); intro v7 w7 ho hb hg_ hnew_; have hlay := qGB HB.out GW.out (.int .i64 x0) (.int .i64 x5); have hsz := qL hlay; have n0_ := Aside0.mk (Kd.qTB (v := v7) (S_lay HS.out BK.out _ _) (Kd.qWA ho) hb); have n1_ := Aside0.mk (Kd.qr ho hsz); have n2_ := Aside0.mk (qF hlay hb); clear HB HS; have HB := n2_; have HS := n0_; have HO7 := n1_; clear n0_ n1_ n2_ hsz hlay BK GW; clear hg_ hnew_ ho hb hcb0 hcb1 hfb0 hfb1; obtain ⟨A7, c7, e7⟩ := Kd.qGA HO7.out; have e7' : v7 = .slice A7 2 c7 := e7; clear e7; subst e7'))
    | ((with_reducible refine qSA (b := .append) (xs := #[.tmp 26, .tmp 38]) rfl ?_); at_builtin; go_loud (refine Kd.qUB kRow (w0 := w) w.heap.size rfl (.tmp 26) (.tmp 38) 26 42 (.slice none 0 0) 24 rfl Try.underlying26 infoRow rfl (by decide) (by omega) u3 ([[min x1 x3, max x1 x3], [min x2 x4, max x2 x4]] : List (List Int)) [min x0 x5, max x0 x5] [.slice A7 2 c7] (fun _ => True) (fun k_ => some k_ = (.slice A7 2 c7 : Value).ownBlock) rfl rfl ?aP ?aK (fun _ _ => trivial) ?aO HB.out (qL HB.out) (by simp only [List.length_cons, List.length_nil]; omega) ?_; (case aP => exact Kd.M_row (Kd.qVB rfl HO7.out)); (case aK => exact fun k_ hk_ => (Kd.qkA HO7.out (Kd.qgB HS.out) (by decide)).1 k_ hk_.symm); (case aO => exact HS.out); intro v8 w8 ho hb hg_ hat; have n0_ := Aside0.mk ho; have n1_ := Aside0.mk hb; clear HS HB HO7; have HS := n0_; have HB := n1_; clear n0_ n1_ ho hb hg_ hat)))
   go_roundg (3 - 3)
   case measure => omega
   case rel => exact ⟨3, by omega, Nat.le_refl _, by go_num, ⟨HS.out⟩, HB⟩
  ·have HS := Aside0.mk (show Kd.S kRow 42 wr w.heap.size (fun _ => True) u3 ([[min x1 x3, max x1 x3], [min x2 x4, max x2 x4], [min x0 x5, max x0 x5]] : List (List Int)) from HO.out)
   clear HO
   go_wp2
   go_ret
   exact ⟨_, rfl, HS.out, HB.out⟩
end Go.Proofs.Ytbnpplakmihhbaa
namespace Go.Proofs.Ytbnpplakmihhbaa.P
open Go.RowKit Go.Proofs.YtbnpplakmihhbaaW.PrintWords Go.Proofs.YtbnpplakmihhbaaW.PrintLast Go.Proofs.YtbnpplakmihhbaaW.PrintMore
attribute [local go_sem] qf qe qn qm qb qa qi qh
set_option linter.unusedVariables false
set_option linter.unusedSimpArgs false
def qp.l0 : Nat → Int → Int → Int → Int → Option (Int)
 | 0, _, _, _, _ => none
 | k + 1, x0, x5, x6, x7 => if x7 < x6 then (qp.l0 k x0 (wrap64 (x5 * x0)) x6 (wrap64 (x7 + 1))) else (some x5)
def qp.f (k : Nat) (a0 : Int) (a1 : Int) : Option (Int) := qp.l0 k a0 1 a1 0
set_option maxHeartbeats 8000000 in
set_option maxRecDepth 100000 in
theorem qp.calls (k : Nat) (a0 : Int) (a1 : Int) (r : Int) (w : World) (h : qp.f k a0 a1 = some r) :
  Calls Try.prog 45 #[.int .i64 a0, .int .i64 a1] w fun e w' => e = .returned (.int .i64 r) ∧ Drawn0 w w' := by
 have H : (qp.l0 k a0 1 a1 0) = some r := h
 clear h
 have H' := Aside0.mk H
 clear H
 go_enter Try.func45, Try.ntmps45
 go_wp2
 go_loopg [5, 7] k (fun kq v5 v7 w' => ∃ (x5_1 : Int) (x7_1 : Int), v5 = .int .i64 x5_1 ∧ v7 = .int .i64 x7_1 ∧ Aside0 (qp.l0 kq a0 x5_1 a1 x7_1 = some r) ∧ Aside0 (kq ≤ k) ∧ Drawn0 w w')
 case atStart => exact ⟨(1), (0), (by first | rfl | (simp; done) | (simp [*]; done)), (by first | rfl | (simp; done) | (simp [*]; done)), H', ⟨Nat.le_refl _⟩, by repeat (first | exact Drawn0.refl _ | apply Drawn0.step)⟩
 case round =>
  clear H'
  try clear p2
  obtain ⟨x5_1, x7_1, rfl, rfl, HA, HK1, ⟨m1, rfl⟩⟩ := hrel
  cases gk with
  | zero => exact absurd HA.out (by simp [qp.l0])
  | succ k1 =>
   have H := HA.out
   clear HA
   simp only [qp.l0] at H
   by_cases c3 : x7_1 < a1
   ·rw [if_pos c3] at H
    have c3b0 : decide (x7_1 < a1) = true := decide_eq_true c3
    clear c3
    have H' := Aside0.mk H
    clear H
    go_wp2
    go_roundg k1
    case measure => have := HK1.out; omega
    case rel => exact ⟨(wrap64 (x5_1 * a0)), (wrap64 (x7_1 + 1)), (by first | rfl | (simp; done) | (simp [*]; done)), (by first | rfl | (simp; done) | (simp [*]; done)), H', ⟨by have := HK1.out; omega⟩, by repeat (first | exact Drawn0.refl _ | apply Drawn0.step)⟩
   ·rw [if_neg c3] at H
    have c3b0 : decide (x7_1 < a1) = false := decide_eq_false c3
    clear c3
    obtain rfl := Option.some.inj H
    go_wp2
    go_ret
    exact ⟨by first | rfl | (simp; done) | (simp [*]; done), by repeat (first | exact Drawn0.refl _ | apply Drawn0.step)⟩
end Go.Proofs.Ytbnpplakmihhbaa.P
namespace Go.Proofs.Ytbnpplakmihhbaa
open Go.RowKit Go.Proofs.Ytbnpplakmihhbaa.P Go.Proofs.YtbnpplakmihhbaaW Go.Proofs.YtbnpplakmihhbaaW.PrintWords Go.Proofs.YtbnpplakmihhbaaW.PrintLast
set_option linter.unusedVariables false
set_option linter.unusedSimpArgs false
abbrev lpCells (m : List Int) : Array Value := (m.map (Value.int .i64)).toArray
def lpAdd (m : List Int) (x : Int) : List Int := m.set x.toNat (wrap64 (m.getD x.toNat 0 + 1))
def lpRow (x : DP) (c : Int) : List Int := (pairsL x).getD c.toNat []
def lpI (l : List DP) : Nat → Int → List Int → List Int → List Int × List Int
 | 0, _, cs, m => (cs, m)
 | t + 1, rest, cs, m => lpI l t (rest / 3) (cs.set t (rest % 3)) ((lpRow (qB l (t : Int)) (rest % 3)).foldl lpAdd m)
def lpGood (m : List Int) (n : Nat) : Bool := (List.range n).all fun j => m.getD (j + 1) 0 == 2
def lpOk (l : List DP) (code : Nat) : Bool := lpGood (lpI l l.length (code : Int) (List.replicate l.length 0) (List.replicate 10 0)).2 l.length
def lpNum (l : List DP) (c : Nat) : Nat := ((List.range c).filter (lpOk l)).length
theorem lpNum_succ (l : List DP) (c : Nat) : lpNum l (c + 1) = lpNum l c + if lpOk l c = true then 1 else 0 := by
 unfold lpNum
 rw [List.range_succ, List.filter_append, List.length_append]
 by_cases h : lpOk l c = true
 ·rw [if_pos h, List.filter_cons_of_pos h]; rfl
 ·rw [if_neg h, List.filter_cons_of_neg h]; rfl
theorem lpNum_le (l : List DP) (c : Nat) : lpNum l c ≤ c := by
 unfold lpNum
 exact Nat.le_trans (List.length_filter_le _ _) (by rw [List.length_range]; exact Nat.le_refl _)
theorem lpAll_succ (m : List Int) (j : Nat) (h : 1 ≤ j) : lpGood m j = (lpGood m (j - 1) && (m.getD j 0 == 2)) := by
 obtain ⟨i, rfl⟩ : ∃ i, j = i + 1 := ⟨j - 1, by omega⟩
 unfold lpGood
 rw [Nat.add_sub_cancel, List.range_succ, List.all_append]
 simp
structure LpIs (w W : World) (v3 : Value) (os : List (List Value)) (gch cap : Nat) (n : Nat) (cs : List Int) (gc : Nat) (m : List Int) : Prop where
 out : Kd.R (Kd.raw 1) 42 W w.heap.size (fun _ => True) v3 os
 cho : Kd.R (Kd.int .i64) 3 W w.heap.size (fun _ => True) (.slice (some ⟨gch, 0, none⟩) n cap) cs
 cnt : W.heap[gc]? = some (.cells (lpCells m) 68 (0, 0))
 gcge : w.heap.size ≤ gc
 below : Below w.heap.size w W
theorem qWB {α : Type} {d : Kd α} {e base g t : Nat} {W : World} {ok : Nat → Prop} {v : Value} {xs : List α} {cells : Array Value} (h : d.R e W base ok v xs) (hb : W.heap[g]? = some (.cells cells t (0, 0))) (ht : ∀ q, q ∈ e :: d.E → q ≠ t) (j : Nat) (u : Value) : d.R e (W.setCell ⟨g, j, none⟩ u) base ok v xs :=
 Kd.qAA (Kd.R_far (p := ⟨g, j, none⟩) (Kd.qXA h hb ht) (fun _ hk => hk.2) u) (fun _ hk => hk.1)
theorem lpCells_at (m : List Int) (j : Nat) (hj : j < m.length) : (lpCells m)[j]? = some (.int .i64 (m.getD j 0)) := by
 rw [List.getD_eq_getElem?_getD, List.getElem?_eq_getElem hj]
 simp [lpCells, hj]
theorem lpCells_one (m : List Int) : (lpCells m).all (·.oneCell') = true := all_oneCell_toArray (cs := m.map (Value.int .i64)) fun v hv => by obtain ⟨x, _, rfl⟩ := List.mem_map.1 hv; rfl
section
variable {w W W1 : World} {v3 : Value} {os : List (List Value)} {gch cap n gc : Nat} {cs m : List Int}
theorem LpIs.step (h : LpIs w W v3 os gch cap n cs gc m) (hb : Below W.heap.size W W1) : LpIs w W1 v3 os gch cap n cs gc m :=
 ⟨Kd.qBA h.out hb, Kd.qBA h.cho hb, qgA h.cnt hb, h.gcge, qF h.below hb⟩
theorem LpIs.cell (h : LpIs w W v3 os gch cap n cs gc m) (j : Nat) (hj : j < m.length) : W.cell? ⟨gc, j, none⟩ = some (.int .i64 (m.getD j 0)) ∧ W.frozen? ⟨gc, j, none⟩ = false :=
 ⟨(qN h.cnt j).trans (lpCells_at m j hj), qA h.cnt j⟩
theorem LpIs.there (h : LpIs w W v3 os gch cap n cs gc m) (k : Nat) (hk : k ≤ m.length) : W.there gc 0 k := fun j hj => by
 obtain ⟨h1, h2⟩ := h.cell j (by omega)
 rw [Nat.zero_add]
 exact ⟨by rw [h1]; rfl, h2⟩
theorem LpIs.put (h : LpIs w W v3 os gch cap n cs gc m) (j : Nat) (x : Int) : LpIs w (W.setCell ⟨gc, j, none⟩ (.int .i64 x)) v3 os gch cap n cs gc (m.set j x) :=
 ⟨qWB h.out h.cnt (by decide) _ _, qWB h.cho h.cnt (by decide) _ _, qq h.cnt j _ (by simp [lpCells, List.map_set]), h.gcge, qx h.below h.gcge⟩
theorem LpIs.choose (h : LpIs w W v3 os gch cap n cs gc m) (i : Int) (x : Int) : LpIs w (W.setCell ⟨gch, i.toNat, none⟩ (.int .i64 x)) v3 os gch cap n (cs.set i.toNat x) gc m := by
 obtain ⟨cells, hb⟩ := Kd.qiB h.cho gch (by simp [Value.ownBlock])
 have hne : gc ≠ gch := fun e => by rw [← e, h.cnt] at hb; injection hb with hb; injection hb with _ ht; exact absurd ht (by decide)
 exact ⟨qWB h.out hb (by decide) _ _, Kd.R_putn h.cho i x, qqA h.cnt hne _, h.gcge, qx h.below (Kd.qWA h.cho gch (by simp [Value.ownBlock]))⟩
def lpSets : List Int → Nat → List Int → List Int
 | m, _, [] => m
 | m, j, v :: vs => lpSets (m.set j v) (j + 1) vs
theorem LpIs.puts : ∀ (vs : List Int) (j : Nat) (m : List Int) (W : World), LpIs w W v3 os gch cap n cs gc m → LpIs w (W.setCells gc j (vs.map (Value.int .i64))) v3 os gch cap n cs gc (lpSets m j vs)
 | [], j, m, W, h => h
 | v :: vs, j, m, W, h => LpIs.puts vs (j + 1) _ _ (h.put j v)
end
theorem qFB (x : DP) {q : Int} (h0 : 0 ≤ q) (h3 : q < 3) : (lpRow x q).length = 2 := by
 have : q = 0 ∨ q = 1 ∨ q = 2 := by omega
 rcases this with rfl | rfl | rfl <;> rfl
theorem lp_mem (l : List DP) {t : Nat} (h : t < l.length) : qB l (t : Int) ∈ l := by
 unfold qB
 rw [Int.toNat_natCast, List.getD_eq_getElem?_getD, List.getElem?_eq_getElem h]
 exact List.getElem_mem h
def lpT10 : Bool × List (List Nat × List Nat) := (true, [([], []), ([], []), ([0, 1], [0, 1]), ([2], [2]), ([3], [3]), ([], []), ([], []), ([5, 6], [5, 6]), ([7], [7]), ([4, 8], [4, 8]), ([9], [9]), ([10], [10]), ([], [])])
def lpB10 : List Nat := [0, 0, 3, 7, 15, 0, 0, 96, 224, 511, 1023, 2047, 0]
theorem lp_tab10 : rtab .any (opsOf Try.f31 10) = lpT10 := by kernel_rfl
theorem lp_bits10 : waitsOk lpT10.2 lpB10 = true := by kernel_rfl
set_option maxHeartbeats 8000000 in
set_option maxRecDepth 100000 in
theorem loops_calls (k : Nat) (A0 : Option Addr) (c0 : Nat) (l0 : List DP) (P : Nat) (w : World) (hr0 : Kd.C k29 w A0 l0.length l0) (hc0 : l0.length ≤ c0) (h1 : 1 ≤ l0.length) (h4 : l0.length ≤ 4) (hface : ∀ x ∈ l0, ∀ c, ∀ y ∈ lpRow x c, 0 ≤ y ∧ y ≤ 9) (hP : qp.f k 3 (l0.length : Int) = some (P : Int)) (hP9 : P ≤ 1000) :
  Calls Try.prog 31 #[.slice A0 l0.length c0] w fun e w' => ∃ A c, e = .returned (.slice A (lpNum l0 P) c) ∧ Below w.heap.size w w' := by
 have HB := Aside0.mk (Below.refl w.heap.size w)
 have HR0 := Aside0.mk hr0
 have HP := Aside0.mk hP
 obtain ⟨n, hn⟩ : ∃ n, l0.length = n := ⟨_, rfl⟩
 have hu68 := Try.underlying68
 rw [hn] at hr0 hc0 h1 h4 HR0 HP ⊢
 clear hr0 hP
 go_enter Try.func31, Try.ntmps31
 go_wp2_with (first
  | ((with_reducible refine qV (N := 13) rfl ?_); go_loud (refine Kd.R_lit (Kd.raw 1) _ 42 ?hg (N := 13) ?hd (xs := ([] : List (List Value))) (inner := []) (ok := fun _ => True) (okp := fun _ => True) ?hr ?hp (fun _ hk => hk) trivial (Below.refl _ _) (Nat.le_refl _) (by simp) ?_; (case hd => rfl); (case hg => rfl); (case hr => first | (go_simp; done) | (go_simp; rfl)); (case hp => exact (Reps.none _ _)); intro v1 w1 ho1 hb1 hg_ hnew_; have HO := Aside0.mk (Kd.qr ho1 (qL HB.out)); have n0_ := Aside0.mk (qF HB.out hb1); clear HB; have HB := n0_; clear n0_ ho1 hb1 hg_ hnew_))
  | ((with_reducible refine qM (f := 45) rfl ?_); go_loud (refine qo (some 16) rfl rfl Try.func45 (by kernel_rfl) rfl #[.int .i64 3, .int .i64 (n : Int)] rfl (by (try simp only [List.map_toArray, List.map_cons, List.map_nil]); first | done | rfl | (go_simp; done)) ?_; (with_reducible refine (qp.calls k 3 (n : Int) (P : Int) _ HP.out).mono ?_); rintro e w' ⟨rfl, ⟨nd, rfl⟩⟩; refine ⟨_, rfl, ?_⟩)))
 go_loopg [3, 17] P (fun g s3 s17 w' => ∃ (c : Nat) (os : List (List Value)), c ≤ P ∧ P - c ≤ g ∧ s17 = .int .i64 (c : Int) ∧ Aside0 (os.length = lpNum l0 c) ∧ Aside0 (Kd.R (Kd.raw 1) 42 w' w.heap.size (fun _ => True) s3 os) ∧ Aside0 (Below w.heap.size w w'))
 case atStart => exact ⟨0, [], by omega, by omega, rfl, ⟨rfl⟩, ⟨Kd.qS HO.out _⟩, ⟨qy HB.out _⟩⟩
 case round =>
  clear HO HB
  obtain ⟨c, os, hcP, hg, rfl, HL, HO, HB⟩ := hrel
  by_cases hlt : c < P
  ·have hcI : (c : Int) < (P : Int) := by omega
   have hn0 : (0 : Int) ≤ (n : Int) := by omega
   go_wp2_with (first
    | ((with_reducible refine qV (N := 22) rfl ?_); go_loud (refine Kd.qqB (Kd.int .i64) _ 3 rfl (N := 22) rfl 42 _ _ rfl (n : Int) rfl rfl Try.underlying42 (.int .i64 0) 8 info3 rfl (by decide) (by omega) 0 (ok := fun _ => True) (okp := fun _ => True) rfl (fun _ hk => hk) trivial hn0 (by omega) (Below.refl _ _) (Nat.le_refl _) ?_; intro v7 w7 ho hb hg_ hnew_; rw [Int.toNat_natCast] at ho; have HC := Aside0.mk (Kd.qr ho (qL HB.out)); have n0_ := Aside0.mk (Kd.qBA HO.out hb); have n1_ := Aside0.mk (qF HB.out hb); clear HO HB; have HO := n0_; have HB := n1_; clear n0_ n1_ ho hb hg_ hnew_; obtain ⟨gch, cap, e7, _, _, _⟩ := Kd.qMB HC.out (by rw [List.length_replicate]; omega); rw [List.length_replicate] at e7; subst e7))
    | ((with_reducible refine qV (N := 6) rfl ?_); go_loud (refine qW ?hg (N := 6) ?hd (cs := lpCells (List.replicate 10 0)) (t := 68) ?hr ?_; (case hd => rfl); (case hg => rfl); (case hr => first | (go_simp; done) | (go_simp; rfl)); intro gc hg2 w5 hbox hb; have IS := Aside0.mk (LpIs.mk (Kd.qBA HO.out hb) (Kd.qBA HC.out hb) hbox (by rw [hg2]; exact qL HB.out) (qF HB.out hb)); clear HO HB HC hbox hb hg2))
    | ((with_reducible refine qiA (t := 68) (p := 6) rfl ?_); go_loud (refine wpList_store_mid (by rfl) 68 (.tmp 6) (.tmp 23) (by rfl) gc 0 (lpCells (List.replicate 10 0)) ?hx ?hy ?ht ?hi ?h1 ?_; (case hy => rfl); (case hi => kernel_rfl); (case h1 => exact lpCells_one _); (case hx => rfl); (case ht => exact IS.out.there 10 (by decide)); have n_ := Aside0.mk (LpIs.puts (List.replicate 10 0) 0 _ _ IS.out); rw [show lpSets (List.replicate 10 0) 0 (List.replicate 10 0) = List.replicate 10 0 from by decide +kernel] at n_; generalize hW : World.setCells _ _ _ _ = W; have n2_ : Aside0 (LpIs w W _ _ _ _ _ _ _ _) := ⟨hW ▸ n_.out⟩; clear IS n_ hW; have IS := n2_; clear n2_)))
   obtain ⟨M, hM⟩ : ∃ M, (lpI l0 n (c : Int) (List.replicate n 0) (List.replicate 10 0)).2 = M := ⟨_, rfl⟩
   have HM := Aside0.mk hM
   have HMM := Aside0.mk hM
   clear hM
   go_loopg [7, 8] n (fun g s7 s8 w' => ∃ (t : Nat) (rest : Int) (cs m : List Int), t ≤ n ∧ t ≤ g ∧ s7 = .int .i64 ((t : Int) - 1) ∧ s8 = .int .i64 rest ∧ 0 ≤ rest ∧ rest ≤ 1000 ∧ Aside0 ((lpI l0 t rest cs m).2 = M) ∧ Aside0 (cs.length = n) ∧ Aside0 (m.length = 10) ∧ Aside0 (LpIs w w' u3 os gch cap n cs gc m))
   case atStart => exact ⟨n, (c : Int), _, _, Nat.le_refl _, Nat.le_refl _, rfl, rfl, by omega, by omega, HM, ⟨List.length_replicate⟩, ⟨List.length_replicate⟩, IS⟩
   case round =>
    clear IS HM
    obtain ⟨t, rest, cs, m, ht, hg2, hs7, rfl, hr0, hr9, HM, HCL, HML, IS⟩ := hrel
    cases t with
    | zero =>
     have hs7' := hs7.trans (show (Value.int .i64 (((0 : Nat) : Int) - 1)) = .int .i64 (-1) from rfl)
     clear hs7
     subst hs7'
     have hMm : m = M := HM.out
     subst hMm
     clear HM
     go_wp2
     go_loopg [11, 12] n (fun g s11 s12 w' => ∃ (j : Nat) (b : Bool), 1 ≤ j ∧ j ≤ n + 1 ∧ n + 1 - j ≤ g ∧ s11 = .bool b ∧ s12 = .int .i64 (j : Int) ∧ Aside0 (b = lpGood m (j - 1)) ∧ Aside0 (LpIs w w' u3 os gch cap n cs gc m))
     case atStart => exact ⟨1, true, by omega, by omega, by omega, rfl, rfl, ⟨rfl⟩, IS⟩
     case round =>
      clear IS
      obtain ⟨j, b, hj1, hj2, hg3, rfl, rfl, HBB, IS⟩ := hrel
      by_cases hjn : j ≤ n
      ·have hjI : (j : Int) ≤ (n : Int) := by omega
       have hj10 : (j : Int) < 10 := by omega
       obtain ⟨hcc, hcf⟩ := IS.out.cell j (by rw [HML.out]; omega)
       have HS := Aside0.mk (lpAll_succ m j hj1)
       obtain ⟨z, hz⟩ : ∃ z, m.getD j 0 = z := ⟨_, rfl⟩
       rw [hz] at hcc
       have HZ := Aside0.mk hz
       clear hz
       cases b with
       | false =>
        go_wp2
        go_roundg (n + 1 - (j + 1))
        case measure => omega
        case rel => exact ⟨j + 1, false, by omega, by omega, Nat.le_refl _, rfl, by first | rfl | go_num, ⟨by rw [Nat.add_sub_cancel, HS.out, ← HBB.out]; rfl⟩, IS⟩
       | true =>
        by_cases hz2 : z = 2
        ·subst hz2
         go_wp2
         go_roundg (n + 1 - (j + 1))
         case measure => omega
         case rel => exact ⟨j + 1, true, by omega, by omega, Nat.le_refl _, by first | rfl | (simp; done), by first | rfl | go_num, ⟨by rw [Nat.add_sub_cancel, HS.out, ← HBB.out, HZ.out]; rfl⟩, IS⟩
        ·go_wp2
         go_roundg (n + 1 - (j + 1))
         case measure => omega
         case rel => exact ⟨j + 1, false, by omega, by omega, Nat.le_refl _, by first | rfl | (simp [hz2]; done), by first | rfl | go_num, ⟨by rw [Nat.add_sub_cancel, HS.out, ← HBB.out, HZ.out]; simp [hz2]⟩, IS⟩
      ·have hjE : j = n + 1 := by omega
       have hjI : ¬ (j : Int) ≤ (n : Int) := by omega
       have hOK : lpOk l0 c = b := by unfold lpOk; rw [hn, HMM.out, HBB.out, hjE, Nat.add_sub_cancel]
       have HNS := Aside0.mk (lpNum_succ l0 c)
       have hle := lpNum_le l0 c
       have HOK := Aside0.mk hOK
       have HLE := Aside0.mk hle
       clear hOK hle
       cases b with
       | false =>
        go_wp2
        go_roundg (P - (c + 1))
        case measure => omega
        case rel => exact ⟨c + 1, os, by omega, Nat.le_refl _, by first | rfl | go_num, ⟨by rw [HNS.out, HOK.out, HL.out]; rfl⟩, ⟨IS.out.out⟩, ⟨IS.out.below⟩⟩
       | true =>
        go_wp2_with (first
         | ((with_reducible refine qSA (b := .append) (xs := #[.tmp 75, .tmp 77]) rfl ?_); at_builtin; go_loud (refine Kd.qXB (Kd.raw 1) (w0 := w) w.heap.size rfl (.tmp 75) (.tmp 77) 26 42 (.slice none 0 0) 24 rfl Try.underlying26 infoRow rfl (by decide) (by omega) u3 os [.slice (some ⟨gch, 0, none⟩) n cap] [.slice (some ⟨gch, 0, none⟩) n cap] (fun _ => True) (fun _ => False) rfl rfl ?aP (fun _ hk => hk.elim) (fun _ _ => trivial) ?aO IS.out.below (qL IS.out.below) ?aL ?_; (case aP => exact ⟨rfl, rfl, fun u hu => by rw [List.mem_singleton.1 hu]; rfl⟩); (case aO => exact IS.out.out); (case aL => have := HL.out; have := HLE.out; omega); intro v8 w8 ho hb hg_ hat; have HO := Aside0.mk ho; have HB := Aside0.mk hb; clear ho hb hg_ hat)))
        go_roundg (P - (c + 1))
        case measure => omega
        case rel => exact ⟨c + 1, _, by omega, Nat.le_refl _, by first | rfl | go_num, ⟨by rw [HNS.out, HOK.out, List.length_append, HL.out]; rfl⟩, HO, HB⟩
    | succ t =>
     have hs7' := hs7.trans (show (Value.int .i64 (((t + 1 : Nat) : Int) - 1)) = .int .i64 (t : Int) by congr 1; omega)
     clear hs7
     subst hs7'
     obtain ⟨hx, hf⟩ := Kd.qAB 0 IS.out.cho (t : Int) (by omega) (by omega)
     rw [Int.toNat_natCast] at hx hf
     have htn : (t : Int) < (n : Int) := by omega
     have ht0 : (0 : Int) ≤ (t : Int) := by omega
     go_wp2
     have IS2 := Aside0.mk (IS.out.choose (t : Int) (rest % 3))
     rw [Int.toNat_natCast] at IS2
     have hq0 : 0 ≤ rest % 3 := Int.emod_nonneg _ (by decide)
     have hq3 : rest % 3 < 3 := Int.emod_lt_of_pos _ (by decide)
     obtain ⟨q, hq⟩ : ∃ q, rest % 3 = q := ⟨_, rfl⟩
     have HQ := Aside0.mk hq
     rw [hq] at hq0 hq3 IS2 ⊢
     clear hq hx hf IS
     generalize wr.setCell ⟨gch, t, none⟩ (.int .i64 q) = W1 at IS2 ⊢
     have IS4 := Aside0.mk (IS2.out.step (qNA (Below.refl _ _)))
     clear IS2
     obtain ⟨hxc, _⟩ := Kd.qAB 0 IS4.out.cho (t : Int) (by omega) (by omega)
     rw [Int.toNat_natCast, show rdOf 0 (cs.set t q) (t : Int) = q from by simp [rdOf, List.getD_eq_getElem?_getD, List.getElem?_set_self, HCL.out, show t < n by omega]] at hxc
     obtain ⟨ad0, e0, hd0, hd1, hd2, hd3, hd4, hd5⟩ := qnA (Kd.qZA HR0.out IS4.out.below) (t : Int) (by omega) (by omega)
     subst e0
     rw [Int.toNat_natCast] at hd0 hd1 hd2 hd3 hd4 hd5
     refine qaB (n := 13) (S := fun w' => w'.cell? (ad0.add (t * 6)) = some (.int .i64 (qB l0 (t : Int)).f0) ∧ w'.cell? ⟨(ad0.add (t * 6)).block, (ad0.add (t * 6)).off + 1, none⟩ = some (.int .i64 (qB l0 (t : Int)).f1) ∧ w'.cell? ⟨(ad0.add (t * 6)).block, (ad0.add (t * 6)).off + 2, none⟩ = some (.int .i64 (qB l0 (t : Int)).f2) ∧ w'.cell? ⟨(ad0.add (t * 6)).block, (ad0.add (t * 6)).off + 3, none⟩ = some (.int .i64 (qB l0 (t : Int)).f3) ∧ w'.cell? ⟨(ad0.add (t * 6)).block, (ad0.add (t * 6)).off + 4, none⟩ = some (.int .i64 (qB l0 (t : Int)).f4) ∧ w'.cell? ⟨(ad0.add (t * 6)).block, (ad0.add (t * 6)).off + 5, none⟩ = some (.int .i64 (qB l0 (t : Int)).f5) ∧ w'.cell? ⟨gch, t, none⟩ = some (.int .i64 q)) (ds := []) #[false, false, false, false, false, false, false, false, false, false, false, false, false] (by kernel_rfl) rfl rfl ⟨hd0, hd1, hd2, hd3, hd4, hd5, hxc⟩ (fun hHeld => ?_); refine qeA lp_tab10 lp_bits10 (fun HT_ HW_ => ?_)
     generalize W1.drew = W2 at IS4 hHeld ⊢
     clear hd0 hd1 hd2 hd3 hd4 hd5 hxc
     refine pure_ (i := 0) (N := some 39) (v := ?_) (a' := ?_) #[true, false, false, false, false, false, false, false, false, false, false, false, false] rfl rfl (qoA HT_.out (by kernel_rfl)) (fun _ _ _ h => h) (Or.inl ⟨by rfl, ?_⟩) ?_ ?_
     rotate_left
     ·intro w'
      go_simp
      with_reducible rfl
     rotate_left
     ·simp only [Act.put, List.setIfInBounds_toArray, List.set_cons_zero, List.set_cons_succ, i64_w, i32_w]
      rfl
     refine pure_ (i := 1) (N := some 40) (v := ?_) (a' := ?_) #[true, true, false, false, false, false, false, false, false, false, false, false, false] rfl rfl (qoA HT_.out (by kernel_rfl)) (fun _ _ _ h => h) (Or.inl ⟨by rfl, ?_⟩) ?_ ?_
     rotate_left
     ·intro w'
      go_simp
      with_reducible rfl
     rotate_left
     ·simp only [Act.put, List.setIfInBounds_toArray, List.set_cons_zero, List.set_cons_succ, i64_w, i32_w]
      rfl
     refine pure_ (i := 2) (N := some 41) (v := ?_) (a' := ?_) #[true, true, true, false, false, false, false, false, false, false, false, false, false] rfl rfl (qoA HT_.out (by kernel_rfl)) (fun _ _ _ h => h) (Or.inl ⟨by rfl, ?_⟩) ?_ ?_
     rotate_left
     ·intro w'
      go_simp
      with_reducible rfl
     rotate_left
     ·simp only [Act.put, List.setIfInBounds_toArray, List.set_cons_zero, List.set_cons_succ, i64_w, i32_w]
      rfl
     refine pure_ (i := 5) (N := some 44) (v := ?_) (a' := ?_) #[true, true, true, false, false, true, false, false, false, false, false, false, false] rfl rfl (qoA HT_.out (by kernel_rfl)) (fun _ _ _ h => h) (Or.inl ⟨by rfl, ?_⟩) ?_ ?_
     rotate_left
     ·intro w'
      go_simp
      with_reducible rfl
     rotate_left
     ·simp only [Act.put, List.setIfInBounds_toArray, List.set_cons_zero, List.set_cons_succ, i64_w, i32_w]
      rfl
     refine pure_ (i := 6) (N := some 45) (v := ?_) (a' := ?_) #[true, true, true, false, false, true, true, false, false, false, false, false, false] rfl rfl (qoA HT_.out (by kernel_rfl)) (fun _ _ _ h => h) (Or.inl ⟨by rfl, ?_⟩) ?_ ?_
     rotate_left
     ·intro w'
      go_simp
      with_reducible rfl
     rotate_left
     ·simp only [Act.put, List.setIfInBounds_toArray, List.set_cons_zero, List.set_cons_succ, i64_w, i32_w]
      rfl
     refine pure_ (i := 7) (N := some 46) (v := ?_) (a' := ?_) #[true, true, true, false, false, true, true, true, false, false, false, false, false] rfl rfl (qoA HT_.out (by kernel_rfl)) (fun _ _ _ h => h) (Or.inl ⟨by rfl, ?_⟩) ?_ ?_
     rotate_left
     ·intro w'
      go_simp
      with_reducible rfl
     rotate_left
     ·simp only [Act.put, List.setIfInBounds_toArray, List.set_cons_zero, List.set_cons_succ, i64_w, i32_w]
      rfl
     refine pure_ (i := 12) (N := some 51) (v := ?_) (a' := ?_) #[true, true, true, false, false, true, true, true, false, false, false, false, true] rfl rfl (qoA HT_.out (by kernel_rfl)) (fun _ _ _ h => h) (Or.inl ⟨by rfl, ?_⟩) ?_ ?_
     rotate_left
     ·intro w'
      go_simp
      with_reducible rfl
     rotate_left
     ·simp only [Act.put, List.setIfInBounds_toArray, List.set_cons_zero, List.set_cons_succ, i64_w, i32_w]
      rfl
     refine take_ (i := 3) (N := some 42) (v := ?_) (a' := ?_) #[true, true, true, true, false, true, true, true, false, false, false, false, true] rfl rfl (qOB HT_.out HW_.out (by kernel_rfl)) (fun _ _ _ h => h) (Or.inl ⟨by rfl, ?_⟩) hHeld ?_ ?_
     rotate_left
     ·rintro w' ⟨s0, s1, s2, s3, s4, s5, s6⟩
      go_simp
      with_reducible rfl
     rotate_left
     ·simp only [Act.put, List.setIfInBounds_toArray, List.set_cons_zero, List.set_cons_succ, i64_w, i32_w]
      rfl
     refine take_ (i := 8) (N := some 47) (v := ?_) (a' := ?_) #[true, true, true, true, false, true, true, true, true, false, false, false, true] rfl rfl (qOB HT_.out HW_.out (by kernel_rfl)) (fun _ _ _ h => h) (Or.inl ⟨by rfl, ?_⟩) hHeld ?_ ?_
     rotate_left
     ·rintro w' ⟨s0, s1, s2, s3, s4, s5, s6⟩
      go_simp
      with_reducible rfl
     rotate_left
     ·simp only [Act.put, List.setIfInBounds_toArray, List.set_cons_zero, List.set_cons_succ, i64_w, i32_w]
      rfl
     refine one_ (i := 4) (N := some 43) #[true, true, true, true, true, true, true, true, true, false, false, false, true] rfl rfl (qlA HT_.out (by kernel_rfl)) (by decide) (fun K hK => ?_)
     refine goes_ Try.func24 (by kernel_rfl) rfl #[.agg #[.int .i64 (qB l0 (t : Int)).f0, .int .i64 (qB l0 (t : Int)).f1, .int .i64 (qB l0 (t : Int)).f2, .int .i64 (qB l0 (t : Int)).f3, .int .i64 (qB l0 (t : Int)).f4, .int .i64 (qB l0 (t : Int)).f5]] (by rfl) rfl rfl (by (try simp only [List.map_toArray, List.map_cons, List.map_nil]); first | done | rfl | (go_simp; done)) ?_
     with_reducible refine (pairs_calls (qB l0 (t : Int)) _).mono ?_
     rintro e w9 ⟨v9, rfl, ho, hb⟩
     refine ⟨_, rfl, ?_⟩
     have IS5 := Aside0.mk (IS4.out.step hb)
     have HS := Aside0.mk (Kd.S_lower ho (qL IS4.out.below))
     have hHeld2 : (fun w' => w'.cell? (ad0.add (t * 6)) = some (.int .i64 (qB l0 (t : Int)).f0) ∧ w'.cell? ⟨(ad0.add (t * 6)).block, (ad0.add (t * 6)).off + 1, none⟩ = some (.int .i64 (qB l0 (t : Int)).f1) ∧ w'.cell? ⟨(ad0.add (t * 6)).block, (ad0.add (t * 6)).off + 2, none⟩ = some (.int .i64 (qB l0 (t : Int)).f2) ∧ w'.cell? ⟨(ad0.add (t * 6)).block, (ad0.add (t * 6)).off + 3, none⟩ = some (.int .i64 (qB l0 (t : Int)).f3) ∧ w'.cell? ⟨(ad0.add (t * 6)).block, (ad0.add (t * 6)).off + 4, none⟩ = some (.int .i64 (qB l0 (t : Int)).f4) ∧ w'.cell? ⟨(ad0.add (t * 6)).block, (ad0.add (t * 6)).off + 5, none⟩ = some (.int .i64 (qB l0 (t : Int)).f5) ∧ w'.cell? ⟨gch, t, none⟩ = some (.int .i64 q)) w9 := ⟨(hb.cell (World.block_lt_of_cell? _ _ hHeld.1)).trans hHeld.1, (hb.cell (World.block_lt_of_cell? _ _ hHeld.2.1)).trans hHeld.2.1, (hb.cell (World.block_lt_of_cell? _ _ hHeld.2.2.1)).trans hHeld.2.2.1, (hb.cell (World.block_lt_of_cell? _ _ hHeld.2.2.2.1)).trans hHeld.2.2.2.1, (hb.cell (World.block_lt_of_cell? _ _ hHeld.2.2.2.2.1)).trans hHeld.2.2.2.2.1, (hb.cell (World.block_lt_of_cell? _ _ hHeld.2.2.2.2.2.1)).trans hHeld.2.2.2.2.2.1, (hb.cell (World.block_lt_of_cell? _ _ hHeld.2.2.2.2.2.2)).trans hHeld.2.2.2.2.2.2⟩
     clear ho hb IS4
     obtain ⟨g9, c9, e9, _, _, _⟩ := Kd.S_form HS.out (by simp [pairsL])
     have e9' : v9 = .slice (some ⟨g9, 0, none⟩) 3 c9 := e9
     clear e9
     subst e9'
     obtain ⟨cc, hccl, hMr, hccc, hfr⟩ := Kd.qrB (Kd.S_R HS.out) [] q hq0 hq3
     obtain ⟨u9, rfl, hRu⟩ := hMr
     have hxR : w9.cell? ⟨g9, q.toNat, none⟩ = some u9 := by have := hccc 0 u9 rfl; rw [show q.toNat * kRow.sz + 0 = q.toNat from by simp [Kd.slice]] at this; exact this
     have hRw2 := qFB (qB l0 (t : Int)) hq0 hq3
     have hRw9 := hface (qB l0 (t : Int)) (lp_mem l0 (by omega)) q
     have hRu2 : Kd.R (Kd.int .i64) 3 w9 w.heap.size (fun _ => True) u9 (lpRow (qB l0 (t : Int)) q) := Kd.qAA hRu (fun _ _ => trivial)
     obtain ⟨Rw, hRw⟩ : ∃ Rw, lpRow (qB l0 (t : Int)) q = Rw := ⟨_, rfl⟩
     have HRWE := Aside0.mk hRw
     rw [hRw] at hRw2 hRw9 hRu2
     obtain ⟨gr, cr, e10, _, _, _⟩ := Kd.qMB hRu2 (by omega)
     rw [hRw2] at e10
     subst e10
     have HRW := Aside0.mk hRu2
     clear hccl hccc hfr hRu hRu2 hRw HS
     refine hK.out _ _ hHeld2 (fun hHeld => ?_)
     clear hK K hHeld2
     refine norm_ (a' := ?_) ?_ ?_
     rotate_left
     ·show Act.put _ (some 43) _ = _
      simp only [Act.put, List.setIfInBounds_toArray, List.set_cons_zero, List.set_cons_succ, i64_w, i32_w]
      rfl
     refine pure_ (i := 9) (N := some 48) (v := ?_) (a' := ?_) #[true, true, true, true, true, true, true, true, true, true, false, false, true] rfl rfl (qoA HT_.out (by kernel_rfl)) (fun _ _ _ h => h) (Or.inl ⟨by rfl, ?_⟩) ?_ ?_
     rotate_left
     ·intro w'
      go_simp
      with_reducible rfl
     rotate_left
     ·simp only [Act.put, List.setIfInBounds_toArray, List.set_cons_zero, List.set_cons_succ, i64_w, i32_w]
      rfl
     refine one_ (i := 10) (N := some 49) #[true, true, true, true, true, true, true, true, true, true, true, false, true] rfl rfl (qlA HT_.out (by kernel_rfl)) (by decide) (fun K hK => ?_)
     refine qxA (w1 := w9) (v := .slice (some ⟨gr, 0, none⟩) 2 cr) (by rfl) ?_ ?_
     ·go_simp
      try rfl
     refine hK.out _ _ hHeld (fun hHeld => ?_)
     clear hK K
     refine norm_ (a' := ?_) ?_ ?_
     rotate_left
     ·show Act.put _ (some 49) _ = _
      simp only [Act.put, List.setIfInBounds_toArray, List.set_cons_zero, List.set_cons_succ, i64_w, i32_w]
      rfl
     refine pure_ (i := 11) (N := some 50) (v := ?_) (a' := ?_) #[true, true, true, true, true, true, true, true, true, true, true, true, true] rfl rfl (qoA HT_.out (by kernel_rfl)) (fun _ _ _ h => h) (Or.inl ⟨by rfl, ?_⟩) ?_ ?_
     rotate_left
     ·intro w'
      go_simp
      with_reducible rfl
     rotate_left
     ·simp only [Act.put, List.setIfInBounds_toArray, List.set_cons_zero, List.set_cons_succ, i64_w, i32_w]
      rfl
     refine done_ (by first | rfl | kernel_rfl) ?_
     go_wp2
     clear hHeld HT_ HW_ hxR
     obtain ⟨M2, hM2⟩ : ∃ M2, Rw.foldl lpAdd m = M2 := ⟨_, rfl⟩
     have HM2 := Aside0.mk hM2
     have HMM2 := Aside0.mk hM2
     clear hM2
     go_loopg [51] 2 (fun g s51 w' => ∃ (j : Nat) (m : List Int), j ≤ 2 ∧ 2 - j ≤ g ∧ s51 = .int .i64 (j : Int) ∧ Aside0 ((Rw.drop j).foldl lpAdd m = M2) ∧ Aside0 (m.length = 10) ∧ Aside0 (Kd.R (Kd.int .i64) 3 w' w.heap.size (fun _ => True) (.slice (some ⟨gr, 0, none⟩) 2 cr) Rw) ∧ Aside0 (LpIs w w' u3 os gch cap n (cs.set t q) gc m))
     case atStart => exact ⟨0, m, by omega, by omega, rfl, HM2, HML, HRW, IS5⟩
     case round =>
      clear HM2 HML HRW IS5
      obtain ⟨j, m, hj, hg3, rfl, HM2, HML, HRW, IS5⟩ := hrel
      by_cases hj2 : j < 2
      ·obtain ⟨hxj, _⟩ := Kd.qAB 0 HRW.out (j : Int) (by omega) (by omega)
       obtain ⟨y, hy⟩ : ∃ y, rdOf 0 Rw (j : Int) = y := ⟨_, rfl⟩
       rw [hy, Int.toNat_natCast] at hxj
       have hym : y = Rw[j]'(by omega) := by rw [← hy]; unfold rdOf; rw [Int.toNat_natCast, List.getD_eq_getElem?_getD, List.getElem?_eq_getElem (by omega)]; rfl
       obtain ⟨hy0, hy9⟩ := hRw9 y (by rw [hym]; exact List.getElem_mem _)
       have hy10 : y < 10 := by omega
       have HM3 := Aside0.mk (show (Rw.drop (j + 1)).foldl lpAdd (lpAdd m y) = M2 from by rw [← HM2.out, List.drop_eq_getElem_cons (i := j) (by omega), List.foldl_cons, ← hym])
       obtain ⟨hcc, hcf⟩ := IS5.out.cell y.toNat (by rw [HML.out]; omega)
       have IS6 := Aside0.mk (IS5.out.put y.toNat (wrap64 (m.getD y.toNat 0 + 1)))
       have HRW2 := Aside0.mk (qWB HRW.out IS5.out.cnt (by decide) y.toNat (.int .i64 (wrap64 (m.getD y.toNat 0 + 1))))
       have HML2 := Aside0.mk (show (lpAdd m y).length = 10 from by unfold lpAdd; rw [List.length_set]; exact HML.out)
       clear hy hym HM2
       have hjI : (j : Int) < 2 := by omega
       go_wp2
       go_roundg (2 - (j + 1))
       case measure => omega
       case rel => exact ⟨j + 1, lpAdd m y, by omega, Nat.le_refl _, by go_num, HM3, HML2, HRW2, IS6⟩
      ·have hj3 : j = 2 := by omega
       subst hj3
       have HM3 := Aside0.mk (show m = M2 from by rw [← HM2.out, List.drop_of_length_le (by omega)]; rfl)
       go_wp2
       go_roundg t
       case measure => omega
       case rel => exact ⟨t, rest / 3, cs.set t q, m, by omega, Nat.le_refl _, by first | rfl | go_num, by first | rfl | go_num, by omega, by omega, ⟨by rw [HM3.out, ← HMM2.out, ← HRWE.out, ← HQ.out]; exact HM.out⟩, ⟨by rw [List.length_set]; exact HCL.out⟩, HML, IS5⟩
  ·have hcI : ¬ (c : Int) < (P : Int) := by omega
   have hcE : c = P := by omega
   obtain ⟨A9, c9, rfl⟩ := Kd.qGA HO.out
   go_wp2
   go_ret
   exact ⟨⟨A9, c9, by rw [← hcE, ← HL.out]; rfl⟩, HB.out⟩
end Go.Proofs.Ytbnpplakmihhbaa
namespace Go.Proofs.Ytbnpplakmihhbaa.P
open Go.RowKit Go.Proofs.YtbnpplakmihhbaaW.PrintWords Go.Proofs.YtbnpplakmihhbaaW.PrintLast Go.Proofs.YtbnpplakmihhbaaW.PrintMore
attribute [local go_sem] qf qe qn qm qb qa qi qh
set_option linter.unusedVariables false
set_option linter.unusedSimpArgs false
def qUA.f (a0 : Int) (a1 : Int) (a2 : Int) : Option (Bool) := if a1 ≤ a0 then (some (decide (a0 ≤ a2))) else (some false)
set_option maxHeartbeats 8000000 in
set_option maxRecDepth 100000 in
theorem qUA.calls (a0 : Int) (a1 : Int) (a2 : Int) (r : Bool) (w : World) (h : qUA.f a0 a1 a2 = some r) :
  Calls Try.prog 40 #[.int .i64 a0, .int .i64 a1, .int .i64 a2] w fun e w' => e = .returned (.bool r) ∧ Drawn0 w w' := by
 have H : (if a1 ≤ a0 then (some (decide (a0 ≤ a2))) else (some false)) = some r := h
 clear h
 by_cases c4 : a1 ≤ a0
 ·rw [if_pos c4] at H
  have c4b0 : decide (a1 ≤ a0) = true := decide_eq_true c4
  clear c4
  obtain rfl := Option.some.inj H
  go_enter Try.func40, Try.ntmps40
  go_wp2
  go_ret
  exact ⟨by first | rfl | (simp; done) | (simp [*]; done), by repeat (first | exact Drawn0.refl _ | apply Drawn0.step)⟩
 ·rw [if_neg c4] at H
  have c4b0 : decide (a1 ≤ a0) = false := decide_eq_false c4
  clear c4
  obtain rfl := Option.some.inj H
  go_enter Try.func40, Try.ntmps40
  go_wp2
  go_ret
  exact ⟨by first | rfl | (simp; done) | (simp [*]; done), by repeat (first | exact Drawn0.refl _ | apply Drawn0.step)⟩
def qKA.f (a0_0 : Int) (a0_1 : Int) (a0_2 : Int) (a0_3 : Int) (a0_4 : Int) (a0_5 : Int) : Option (List Int) := some (([a0_0, a0_1, a0_2, a0_3, a0_4, a0_5] : List Int))
set_option maxHeartbeats 8000000 in
set_option maxRecDepth 100000 in
theorem qKA.calls (a0_0 : Int) (a0_1 : Int) (a0_2 : Int) (a0_3 : Int) (a0_4 : Int) (a0_5 : Int) (r : List Int) (w : World) (h : qKA.f a0_0 a0_1 a0_2 a0_3 a0_4 a0_5 = some r) :
  Calls Try.prog 38 #[.agg #[.int .i64 a0_0, .int .i64 a0_1, .int .i64 a0_2, .int .i64 a0_3, .int .i64 a0_4, .int .i64 a0_5]] w fun e w' => ∃ v0_ : Value, e = .returned (v0_) ∧ Kd.R (Kd.int .i64) 3 w' w.heap.size (fun _ => True) v0_ r ∧ Below w.heap.size w w' := by
 have hu29 := Try.underlying29
 have HB := Aside0.mk (Below.refl w.heap.size w)
 have H : (some (([a0_0, a0_1, a0_2, a0_3, a0_4, a0_5] : List Int))) = some r := h
 clear h
 obtain ⟨y181, hy181⟩ : ∃ y_ : List Int, y_ = (([a0_0, a0_1, a0_2, a0_3, a0_4, a0_5] : List Int)) := ⟨_, rfl⟩
 replace H : (some y181) = some r := by first | (rw [hy181]; with_reducible exact H) | (have H2_ := (Option.bind_some _ _).symm.trans H; rw [hy181]; with_reducible exact H2_) | (have H2_ := (Option.bind_some _ _).symm.trans H; with_reducible exact H2_) | with_reducible exact H | (rw [hy181]; exact H) | exact H
 have Ny181 := Aside0.mk hy181
 clear hy181
 obtain rfl := Option.some.inj H
 go_enter Try.func38, Try.ntmps38
 go_wp2_with (first | ((with_reducible refine qV (N := 1) rfl ?_); refine qW ?hg (N := 1) ?hd (cs := #[.int .i64 a0_0, .int .i64 a0_1, .int .i64 a0_2, .int .i64 a0_3, .int .i64 a0_4, .int .i64 a0_5]) (t := 29) ?hr ?_; (case hd => rfl); (case hg => rfl); (case hr => first | (go_simp; done) | (go_simp; rfl)); intro gb180 hg w2 hbox hb; have n0_ := Aside0.mk (qF bl hb); have n1_ := Aside0.mk (hbox); have n2_ := Aside0.mk ((gg hg)); have n3_ := Aside0.mk ((gg hg)); clear HB; have HB := n0_; have BK180 := n1_; have GW180 := n2_; have GE180 := n3_; clear n0_ n1_ n2_ n3_; clear hb hbox hg; have hcz3_0 := bc BK180 0; have hcz3_1 := bc BK180 1; have hcz3_2 := bc BK180 2; have hcz3_3 := bc BK180 3; have hcz3_4 := bc BK180 4; have hcz3_5 := bc BK180 5; have hfz3_0 := qA BK180.out 0; have hfz3_1 := qA BK180.out 1; have hfz3_2 := qA BK180.out 2; have hfz3_3 := qA BK180.out 3; have hfz3_4 := qA BK180.out 4; have hfz3_5 := qA BK180.out 5) | ((with_reducible refine qV (N := 15) rfl ?_); refine Kd.R_lit (Kd.int .i64) _ 3 ?hg (N := 15) ?hd (xs := ([a0_0, a0_1, a0_2, a0_3, a0_4, a0_5] : List Int)) (inner := [.int .i64 a0_0, .int .i64 a0_1, .int .i64 a0_2, .int .i64 a0_3, .int .i64 a0_4, .int .i64 a0_5]) (ok := fun _ => True) (okp := fun _ => True) ?hr ?hp (fun _ hk => hk) trivial (Below.refl _ _) (Nat.le_refl _) (by simp) ?_; (case hd => rfl); (case hg => rfl); (case hr => first | (go_simp; done) | (go_simp; rfl)); (case hp => exact (Reps.one (show Kd.M (Kd.int .i64) _ _ _ a0_0 [.int .i64 a0_0] from rfl) (Reps.one (show Kd.M (Kd.int .i64) _ _ _ a0_1 [.int .i64 a0_1] from rfl) (Reps.one (show Kd.M (Kd.int .i64) _ _ _ a0_2 [.int .i64 a0_2] from rfl) (Reps.one (show Kd.M (Kd.int .i64) _ _ _ a0_3 [.int .i64 a0_3] from rfl) (Reps.one (show Kd.M (Kd.int .i64) _ _ _ a0_4 [.int .i64 a0_4] from rfl) (Reps.one (show Kd.M (Kd.int .i64) _ _ _ a0_5 [.int .i64 a0_5] from rfl) (Reps.none _ _)))))))); intro v182 w4 ho5 hb hg_ hnew_; clear hg_ hnew_; (first | rw [← Ny181.out] at ho5 | (simp only [Int.reduceToNat] at ho5; rw [← Ny181.out] at ho5)); have n0_ := Aside0.mk (Kd.qr ho5 (qL bl)); have n1_ := Aside0.mk (bb BK180 hb); have n2_ := Aside0.mk (qF bl hb); clear BK180; clear HB; have HO183 := n0_; have BK180 := n1_; have HB := n2_; clear n0_ n1_ n2_; clear hb ho5))
 go_ret
 exact ⟨_, by first | rfl | (simp [qJ, qI] <;> rfl) | (simp [*, qJ, qI] <;> rfl), by (with_reducible repeat (first | apply Kd.qT | apply Kd.qS | apply Kd.qY)); exact HO183.out, bl⟩
def qJA.f (a0 : Int) : Option (Bool) := (qUA.f a0 0 9).bind fun t184 => (some (!t184))
set_option maxHeartbeats 8000000 in
set_option maxRecDepth 100000 in
theorem qJA.calls (a0 : Int) (r : Bool) (w : World) (h : qJA.f a0 = some r) :
  Calls Try.prog 39 #[.int .i64 a0] w fun e w' => e = .returned (.bool r) ∧ Drawn0 w w' := by
 have H : ((qUA.f a0 0 9).bind fun t184 => (some (!t184))) = some r := h
 clear h
 replace H := Option.bind_eq_some_iff.mp H
 obtain ⟨t184, A20, H⟩ := H
 replace H : (some (!t184)) = some r := H
 have A2 := Aside0.mk A20
 clear A20
 obtain rfl := Option.some.inj H
 go_enter Try.func39, Try.ntmps39
 go_wp2_with (first | ((with_reducible refine qM (f := 40) rfl ?_); refine qo (some 4) rfl rfl Try.func40 (by kernel_rfl) rfl #[.int .i64 a0, .int .i64 0, .int .i64 9] rfl (by (try simp only [List.map_toArray, List.map_cons, List.map_nil]); first | done | rfl | (simp only [List.length_drop, List.length_take]; rfl)) ?_; (with_reducible refine (qUA.calls a0 0 9 t184 _ A2.out).mono ?_); rintro e w' ⟨rfl, ⟨nd, rfl⟩⟩; refine ⟨_, rfl, ?_⟩))
 go_ret
 exact ⟨by first | rfl | (simp; done) | (simp [*]; done), by repeat (first | exact Drawn0.refl _ | apply Drawn0.step)⟩
def qE.l0 : Nat → List Int → Int → Int → Option (Int)
 | 0, _, _, _ => none
 | k + 1, x0, x7, x8 => if x8 < x7 then (if 0 ≤ x8 then (if x8 < (x0.length : Int) then ((qJA.f (rd x0 x8)).bind fun t186 => (if t186 = true then (some x8) else (qE.l0 k x0 x7 (wrap64 (x8 + 1))))) else (none)) else (none)) else (some (-1))
def qE.f (k : Nat) (l0 : List Int)  : Option (Int) := qE.l0 k l0 (l0.length : Int) 0
set_option maxHeartbeats 8000000 in
set_option maxRecDepth 100000 in
theorem qE.calls (k : Nat) (A0 : Option Addr) (c0 : Nat) (l0 : List Int)  (r : Int) (w : World) (hr0 : Kd.C (Kd.int .i64) w A0 l0.length l0) (hc0 : l0.length ≤ c0) (h : qE.f k l0 = some r) :
  Calls Try.prog 46 #[.slice A0 l0.length c0, .func (.func 39) #[] #[]] w fun e w' => e = .returned (.int .i64 r) ∧ Drawn0 w w' := by
 have HR0 := Aside0.mk hr0
 have HC0 := Aside0.mk hc0
 clear hr0 hc0
 have H : (qE.l0 k l0 (l0.length : Int) 0) = some r := h
 clear h
 have H' := Aside0.mk H
 clear H
 go_enter Try.func46, Try.ntmps46
 go_wp2
 go_loopg [8] k (fun kq v8 w' => ∃ (x8_1 : Int), v8 = .int .i64 x8_1 ∧ Aside0 (qE.l0 kq l0 (l0.length : Int) x8_1 = some r) ∧ Aside0 (kq ≤ k) ∧ Drawn0 w w')
 case atStart => exact ⟨(0), (by first | rfl | (simp; done) | (simp [*]; done)), H', ⟨Nat.le_refl _⟩, by repeat (first | exact Drawn0.refl _ | apply Drawn0.step)⟩
 case round =>
  clear H'
  try clear p2
  obtain ⟨x8_1, rfl, HA, HK1, ⟨m1, rfl⟩⟩ := hrel
  cases gk with
  | zero => exact absurd HA.out (by simp [qE.l0])
  | succ k1 =>
   have H := HA.out
   clear HA
   simp only [qE.l0] at H
   by_cases c3 : x8_1 < (l0.length : Int)
   ·rw [if_pos c3] at H
    have c3b0 : decide (x8_1 < (l0.length : Int)) = true := decide_eq_true c3
    clear c3
    by_cases c4 : 0 ≤ x8_1
    ·rw [if_pos c4] at H
     have c4b0 : decide (0 ≤ x8_1) = true := decide_eq_true c4
     clear c4
     by_cases c5 : x8_1 < (l0.length : Int)
     ·rw [if_pos c5] at H
      have c5b0 : decide (x8_1 < (l0.length : Int)) = true := decide_eq_true c5
      clear c5
      replace H := Option.bind_eq_some_iff.mp H
      obtain ⟨t186, A60, H⟩ := H
      replace H : (if t186 = true then (some x8_1) else (qE.l0 k1 l0 (l0.length : Int) (wrap64 (x8_1 + 1)))) = some r := H
      have A6 := Aside0.mk A60
      clear A60
      by_cases c7 : t186 = true
      ·subst c7
       have H1 : (some x8_1) = some r := by rw [if_pos rfl] at H; exact H
       clear H
       have H := H1
       clear H1
       obtain rfl := Option.some.inj H
       have p185 : 0 ≤ (x8_1 : Int) := of_decide_eq_true (by first | (with_reducible assumption) | assumption)
       have q185 : x8_1 < (l0.length : Int) := of_decide_eq_true (by first | (with_reducible assumption) | assumption)
       obtain ⟨ad185, e185, hx185_0⟩ := Kd.qmA HR0.out x8_1 p185 q185
       cases e185
       replace p185 := eq_true p185
       replace q185 := eq_true q185
       go_wp2_with (first | ((with_reducible refine qhA (s := 11) rfl ?_); refine qRB (some 16) 11 rfl rfl Try.func39 (by kernel_rfl) rfl #[.int .i64 (rd l0 x8_1)] rfl rfl (by (try simp only [List.map_toArray, List.map_cons, List.map_nil]); first | done | rfl | (simp only [List.length_drop, List.length_take]; rfl)) ?_; (with_reducible refine (qJA.calls (rd l0 x8_1) true _ A6.out).mono ?_); rintro e w' ⟨rfl, ⟨nd, rfl⟩⟩; refine ⟨_, rfl, ?_⟩))
       go_ret
       exact ⟨by first | rfl | (simp; done) | (simp [*]; done), by repeat (first | exact Drawn0.refl _ | apply Drawn0.step)⟩
      ·replace c7 := Bool.eq_false_iff.mpr c7
       subst c7
       have H1 : (qE.l0 k1 l0 (l0.length : Int) (wrap64 (x8_1 + 1))) = some r := by rw [if_neg (show ¬ (false = true) by decide)] at H; exact H
       clear H
       have H := H1
       clear H1
       have H' := Aside0.mk H
       clear H
       have p185 : 0 ≤ (x8_1 : Int) := of_decide_eq_true (by first | (with_reducible assumption) | assumption)
       have q185 : x8_1 < (l0.length : Int) := of_decide_eq_true (by first | (with_reducible assumption) | assumption)
       obtain ⟨ad185, e185, hx185_0⟩ := Kd.qmA HR0.out x8_1 p185 q185
       cases e185
       replace p185 := eq_true p185
       replace q185 := eq_true q185
       go_wp2_with (first | ((with_reducible refine qhA (s := 11) rfl ?_); refine qRB (some 16) 11 rfl rfl Try.func39 (by kernel_rfl) rfl #[.int .i64 (rd l0 x8_1)] rfl rfl (by (try simp only [List.map_toArray, List.map_cons, List.map_nil]); first | done | rfl | (simp only [List.length_drop, List.length_take]; rfl)) ?_; (with_reducible refine (qJA.calls (rd l0 x8_1) false _ A6.out).mono ?_); rintro e w' ⟨rfl, ⟨nd, rfl⟩⟩; refine ⟨_, rfl, ?_⟩))
       go_roundg k1
       case measure => have := HK1.out; omega
       case rel => exact ⟨(wrap64 (x8_1 + 1)), (by first | rfl | (simp; done) | (simp [*]; done)), H', ⟨by have := HK1.out; omega⟩, by repeat (first | exact Drawn0.refl _ | apply Drawn0.step)⟩
     ·rw [if_neg c5] at H
      exact absurd H (by simp)
    ·rw [if_neg c4] at H
     exact absurd H (by simp)
   ·rw [if_neg c3] at H
    have c3b0 : decide (x8_1 < (l0.length : Int)) = false := decide_eq_false c3
    clear c3
    obtain rfl := Option.some.inj H
    go_wp2
    go_ret
    exact ⟨by first | rfl | (simp; done) | (simp [*]; done), by repeat (first | exact Drawn0.refl _ | apply Drawn0.step)⟩
def qK.f (k : Nat) (l0 : List Int)  : Option (Bool) := (qE.f k l0).bind fun t187 => (some (decide (t187 ≥ 0)))
set_option maxHeartbeats 8000000 in
set_option maxRecDepth 100000 in
theorem qK.calls (k : Nat) (A0 : Option Addr) (c0 : Nat) (l0 : List Int)  (r : Bool) (w : World) (hr0 : Kd.C (Kd.int .i64) w A0 l0.length l0) (hc0 : l0.length ≤ c0) (h : qK.f k l0 = some r) :
  Calls Try.prog 37 #[.slice A0 l0.length c0, .func (.func 39) #[] #[]] w fun e w' => e = .returned (.bool r) ∧ Drawn0 w w' := by
 have HR0 := Aside0.mk hr0
 have HC0 := Aside0.mk hc0
 clear hr0 hc0
 have H : ((qE.f k l0).bind fun t187 => (some (decide (t187 ≥ 0)))) = some r := h
 clear h
 replace H := Option.bind_eq_some_iff.mp H
 obtain ⟨t187, A30, H⟩ := H
 replace H : (some (decide (t187 ≥ 0))) = some r := H
 have A3 := Aside0.mk A30
 clear A30
 obtain rfl := Option.some.inj H
 go_enter Try.func37, Try.ntmps37
 go_wp2_with (first | ((with_reducible refine qM (f := 46) rfl ?_); refine qo (some 7) rfl rfl Try.func46 (by kernel_rfl) rfl #[.slice A0 l0.length c0, .func (.func 39) #[] #[]] rfl (by (try simp only [List.map_toArray, List.map_cons, List.map_nil]); first | done | rfl | (simp only [List.length_drop, List.length_take]; rfl)) ?_; (with_reducible refine (qE.calls k _ _ l0  t187 _ ?side1 ?side2 A3.out).mono ?_); (case side1 => repeat (first | exact HR0.out | (with_reducible refine Kd.qDA ?_ _) | (with_reducible refine Kd.qCA ?_ _) | (with_reducible refine Kd.qOA ?_))); (case side2 => exact HC0.out); rintro e w' ⟨rfl, ⟨nd, rfl⟩⟩; refine ⟨_, rfl, ?_⟩))
 go_ret
 exact ⟨by first | rfl | (simp; done) | (simp [*]; done), by repeat (first | exact Drawn0.refl _ | apply Drawn0.step)⟩
def qQA.f (k : Nat) (a0_0 : Int) (a0_1 : Int) (a0_2 : Int) (a0_3 : Int) (a0_4 : Int) (a0_5 : Int) : Option (Bool) := (qKA.f a0_0 a0_1 a0_2 a0_3 a0_4 a0_5).bind fun t189 => ((qK.f k t189).bind fun t192 => (some (!t192)))
set_option maxHeartbeats 8000000 in
set_option maxRecDepth 100000 in
theorem qQA.calls (k : Nat) (a0_0 : Int) (a0_1 : Int) (a0_2 : Int) (a0_3 : Int) (a0_4 : Int) (a0_5 : Int) (r : Bool) (w : World) (h : qQA.f k a0_0 a0_1 a0_2 a0_3 a0_4 a0_5 = some r) :
  Calls Try.prog 23 #[.agg #[.int .i64 a0_0, .int .i64 a0_1, .int .i64 a0_2, .int .i64 a0_3, .int .i64 a0_4, .int .i64 a0_5]] w fun e w' => e = .returned (.bool r) ∧ Below w.heap.size w w' := by
 have hu29 := Try.underlying29
 have HB := Aside0.mk (Below.refl w.heap.size w)
 have H : ((qKA.f a0_0 a0_1 a0_2 a0_3 a0_4 a0_5).bind fun t189 => ((qK.f k t189).bind fun t192 => (some (!t192)))) = some r := h
 clear h
 replace H := Option.bind_eq_some_iff.mp H
 obtain ⟨t189, A20, H⟩ := H
 replace H : ((qK.f k t189).bind fun t192 => (some (!t192))) = some r := H
 have A2 := Aside0.mk A20
 clear A20
 replace H := Option.bind_eq_some_iff.mp H
 obtain ⟨t192, A30, H⟩ := H
 replace H : (some (!t192)) = some r := H
 have A3 := Aside0.mk A30
 clear A30
 obtain rfl := Option.some.inj H
 go_enter Try.func23, Try.ntmps23
 go_wp2_with (first | ((with_reducible refine qV (N := 1) rfl ?_); refine qW ?hg (N := 1) ?hd (cs := #[.int .i64 a0_0, .int .i64 a0_1, .int .i64 a0_2, .int .i64 a0_3, .int .i64 a0_4, .int .i64 a0_5]) (t := 29) ?hr ?_; (case hd => rfl); (case hg => rfl); (case hr => first | (go_simp; done) | (go_simp; rfl)); intro gb188 hg w4 hbox hb; have n0_ := Aside0.mk (qF bl hb); have n1_ := Aside0.mk (hbox); have n2_ := Aside0.mk ((gg hg)); have n3_ := Aside0.mk ((gg hg)); clear HB; have HB := n0_; have BK188 := n1_; have GW188 := n2_; have GE188 := n3_; clear n0_ n1_ n2_ n3_; clear hb hbox hg; have hcz5_0 := bc BK188 0; have hcz5_1 := bc BK188 1; have hcz5_2 := bc BK188 2; have hcz5_3 := bc BK188 3; have hcz5_4 := bc BK188 4; have hcz5_5 := bc BK188 5; have hfz5_0 := qA BK188.out 0; have hfz5_1 := qA BK188.out 1; have hfz5_2 := qA BK188.out 2; have hfz5_3 := qA BK188.out 3; have hfz5_4 := qA BK188.out 4; have hfz5_5 := qA BK188.out 5) | ((with_reducible refine qM (f := 38) rfl ?_); refine qo (some 4) rfl rfl Try.func38 (by kernel_rfl) rfl #[.agg #[.int .i64 a0_0, .int .i64 a0_1, .int .i64 a0_2, .int .i64 a0_3, .int .i64 a0_4, .int .i64 a0_5]] rfl (by (try simp only [List.map_toArray, List.map_cons, List.map_nil]); first | done | rfl | (simp only [List.length_drop, List.length_take]; rfl)) ?_; (with_reducible refine (qKA.calls a0_0 a0_1 a0_2 a0_3 a0_4 a0_5 t189 _ A2.out).mono ?_); rintro e w6 ⟨v190, rfl, ho0, hb⟩; refine ⟨_, rfl, ?_⟩; have n0_ := Aside0.mk (Kd.qr ho0 (qL bl)); have n1_ := Aside0.mk (bb BK188 hb); have n2_ := Aside0.mk (qF bl hb); clear BK188; clear HB; have HO191 := n0_; have BK188 := n1_; have HB := n2_; clear n0_ n1_ n2_; (try clear hb); (try clear hb2); (try clear hk); (try clear hi); (try clear ho0); obtain ⟨Ao7, co7, eo7⟩ := Kd.qGA HO191.out; subst eo7) | ((with_reducible refine qM (f := 37) rfl ?_); refine qo (some 5) rfl rfl Try.func37 (by kernel_rfl) rfl #[.slice Ao7 t189.length co7, .func (.func 39) #[] #[]] rfl (by (try simp only [List.map_toArray, List.map_cons, List.map_nil]); first | done | rfl | (simp only [List.length_drop, List.length_take]; rfl)) ?_; (with_reducible refine (qK.calls k _ _ t189  t192 _ ?side1 ?side2 A3.out).mono ?_); (case side1 => repeat (first | exact (Kd.qZ HO191.out).2.2 | (with_reducible refine Kd.qDA ?_ _) | (with_reducible refine Kd.qCA ?_ _) | (with_reducible refine Kd.qOA ?_))); (case side2 => exact (Kd.qZ HO191.out).2.1); rintro e w' ⟨rfl, ⟨nd, rfl⟩⟩; refine ⟨_, rfl, ?_⟩))
 go_ret
 exact ⟨by first | rfl | (simp [qJ, qI] <;> rfl) | (simp [*, qJ, qI] <;> rfl), bl⟩
def qu.f (k : Nat) (a0_0 : Int) (a0_1 : Int) (a0_2 : Int) (a0_3 : Int) (a0_4 : Int) (a0_5 : Int) : Option (Bool) := (qQA.f k a0_0 a0_1 a0_2 a0_3 a0_4 a0_5).bind fun t274 => (some (!t274))
set_option maxHeartbeats 8000000 in
set_option maxRecDepth 100000 in
theorem qu.calls (k : Nat) (a0_0 : Int) (a0_1 : Int) (a0_2 : Int) (a0_3 : Int) (a0_4 : Int) (a0_5 : Int) (r : Bool) (w : World) (h : qu.f k a0_0 a0_1 a0_2 a0_3 a0_4 a0_5 = some r) :
  Calls Try.prog 44 #[.agg #[.int .i64 a0_0, .int .i64 a0_1, .int .i64 a0_2, .int .i64 a0_3, .int .i64 a0_4, .int .i64 a0_5]] w fun e w' => e = .returned (.bool r) ∧ Below w.heap.size w w' := by
 have hu29 := Try.underlying29
 have HB := Aside0.mk (Below.refl w.heap.size w)
 have H : ((qQA.f k a0_0 a0_1 a0_2 a0_3 a0_4 a0_5).bind fun t274 => (some (!t274))) = some r := h
 clear h
 replace H := Option.bind_eq_some_iff.mp H
 obtain ⟨t274, A20, H⟩ := H
 replace H : (some (!t274)) = some r := H
 have A2 := Aside0.mk A20
 clear A20
 obtain rfl := Option.some.inj H
 go_enter Try.func44, Try.ntmps44
 go_wp2_with (first | ((with_reducible refine qV (N := 1) rfl ?_); refine qW ?hg (N := 1) ?hd (cs := #[.int .i64 a0_0, .int .i64 a0_1, .int .i64 a0_2, .int .i64 a0_3, .int .i64 a0_4, .int .i64 a0_5]) (t := 29) ?hr ?_; (case hd => rfl); (case hg => rfl); (case hr => first | (go_simp; done) | (go_simp; rfl)); intro gb273 hg w3 hbox hb; have n0_ := Aside0.mk (qF bl hb); have n1_ := Aside0.mk (hbox); have n2_ := Aside0.mk ((gg hg)); have n3_ := Aside0.mk ((gg hg)); clear HB; have HB := n0_; have BK273 := n1_; have GW273 := n2_; have GE273 := n3_; clear n0_ n1_ n2_ n3_; clear hb hbox hg; have hcz4_0 := bc BK273 0; have hcz4_1 := bc BK273 1; have hcz4_2 := bc BK273 2; have hcz4_3 := bc BK273 3; have hcz4_4 := bc BK273 4; have hcz4_5 := bc BK273 5; have hfz4_0 := qA BK273.out 0; have hfz4_1 := qA BK273.out 1; have hfz4_2 := qA BK273.out 2; have hfz4_3 := qA BK273.out 3; have hfz4_4 := qA BK273.out 4; have hfz4_5 := qA BK273.out 5) | ((with_reducible refine qM (f := 23) rfl ?_); refine qo (some 4) rfl rfl Try.func23 (by kernel_rfl) rfl #[.agg #[.int .i64 a0_0, .int .i64 a0_1, .int .i64 a0_2, .int .i64 a0_3, .int .i64 a0_4, .int .i64 a0_5]] rfl (by (try simp only [List.map_toArray, List.map_cons, List.map_nil]); first | done | rfl | (simp only [List.length_drop, List.length_take]; rfl)) ?_; (with_reducible refine (qQA.calls k a0_0 a0_1 a0_2 a0_3 a0_4 a0_5 t274 _ A2.out).mono ?_); rintro e w5 ⟨rfl, hb⟩; refine ⟨_, rfl, ?_⟩; have n0_ := Aside0.mk (bb BK273 hb); have n1_ := Aside0.mk (qF bl hb); clear BK273; clear HB; have BK273 := n0_; have HB := n1_; clear n0_ n1_; (try clear hb); (try clear hb2); (try clear hk); (try clear hi)))
 go_ret
 exact ⟨by first | rfl | (simp [qJ, qI] <;> rfl) | (simp [*, qJ, qI] <;> rfl), bl⟩
def qC.l0 : Nat → List (S29) → Int → Int → Option (Int)
 | 0, _, _, _ => none
 | k + 1, x0, x7, x8 => if x8 < x7 then (if 0 ≤ x8 then (if x8 < (x0.length : Int) then ((qu.f k ((qB x0 x8).f0) ((qB x0 x8).f1) ((qB x0 x8).f2) ((qB x0 x8).f3) ((qB x0 x8).f4) ((qB x0 x8).f5)).bind fun t276 => (if t276 = true then (some x8) else (qC.l0 k x0 x7 (wrap64 (x8 + 1))))) else (none)) else (none)) else (some (-1))
def qC.f (k : Nat) (l0 : List (S29))  : Option (Int) := qC.l0 k l0 (l0.length : Int) 0
set_option maxHeartbeats 8000000 in
set_option maxRecDepth 100000 in
theorem qC.calls (k : Nat) (A0 : Option Addr) (c0 : Nat) (l0 : List (S29))  (r : Int) (w : World) (hr0 : Kd.C k29 w A0 l0.length l0) (hc0 : l0.length ≤ c0) (h : qC.f k l0 = some r) :
  Calls Try.prog 47 #[.slice A0 l0.length c0, .func (.func 44) #[] #[]] w fun e w' => e = .returned (.int .i64 r) ∧ Below w.heap.size w w' := by
 have hu29 := Try.underlying29
 have HR0 := Aside0.mk hr0
 have HC0 := Aside0.mk hc0
 clear hr0 hc0
 have HB := Aside0.mk (Below.refl w.heap.size w)
 have H : (qC.l0 k l0 (l0.length : Int) 0) = some r := h
 clear h
 have H' := Aside0.mk H
 clear H
 go_enter Try.func47, Try.ntmps47
 go_wp2
 go_loopg [8] k (fun kq v8 w' => ∃ (x8_1 : Int), v8 = .int .i64 x8_1 ∧ Aside0 (qC.l0 kq l0 (l0.length : Int) x8_1 = some r) ∧ Aside0 (kq ≤ k) ∧ Aside0 (Below w.heap.size w w'))
 case atStart => exact ⟨(0), (by first | rfl | (simp; done) | (simp [*]; done)), H', ⟨Nat.le_refl _⟩, ⟨bl⟩⟩
 case round =>
  clear H'
  try clear p2
  obtain ⟨x8_1, rfl, HA, HK1, HB⟩ := hrel
  cases gk with
  | zero => exact absurd HA.out (by simp [qC.l0])
  | succ k1 =>
   have H := HA.out
   clear HA
   simp only [qC.l0] at H
   by_cases c3 : x8_1 < (l0.length : Int)
   ·rw [if_pos c3] at H
    have c3b0 : decide (x8_1 < (l0.length : Int)) = true := decide_eq_true c3
    clear c3
    by_cases c4 : 0 ≤ x8_1
    ·rw [if_pos c4] at H
     have c4b0 : decide (0 ≤ x8_1) = true := decide_eq_true c4
     clear c4
     by_cases c5 : x8_1 < (l0.length : Int)
     ·rw [if_pos c5] at H
      have c5b0 : decide (x8_1 < (l0.length : Int)) = true := decide_eq_true c5
      clear c5
      replace H := Option.bind_eq_some_iff.mp H
      obtain ⟨t276, A60, H⟩ := H
      replace H : (if t276 = true then (some x8_1) else (qC.l0 k1 l0 (l0.length : Int) (wrap64 (x8_1 + 1)))) = some r := H
      have A6 := Aside0.mk A60
      clear A60
      by_cases c7 : t276 = true
      ·subst c7
       have H1 : (some x8_1) = some r := by rw [if_pos rfl] at H; exact H
       clear H
       have H := H1
       clear H1
       obtain rfl := Option.some.inj H
       have p275 : 0 ≤ (x8_1 : Int) := of_decide_eq_true (by first | (with_reducible assumption) | assumption)
       have q275 : x8_1 < (l0.length : Int) := of_decide_eq_true (by first | (with_reducible assumption) | assumption)
       obtain ⟨ad275, e275, hx275_0, hx275_1, hx275_2, hx275_3, hx275_4, hx275_5⟩ := qnA HR0.out x8_1 p275 q275
       cases e275
       replace hx275_0 := (HB.out.cell (World.block_lt_of_cell? w _ hx275_0)).trans hx275_0
       replace hx275_1 := (HB.out.cell (World.block_lt_of_cell? w _ hx275_1)).trans hx275_1
       replace hx275_2 := (HB.out.cell (World.block_lt_of_cell? w _ hx275_2)).trans hx275_2
       replace hx275_3 := (HB.out.cell (World.block_lt_of_cell? w _ hx275_3)).trans hx275_3
       replace hx275_4 := (HB.out.cell (World.block_lt_of_cell? w _ hx275_4)).trans hx275_4
       replace hx275_5 := (HB.out.cell (World.block_lt_of_cell? w _ hx275_5)).trans hx275_5
       replace p275 := eq_true p275
       replace q275 := eq_true q275
       go_wp2_with (first | ((with_reducible refine qhA (s := 11) rfl ?_); refine qRB (some 16) 11 rfl rfl Try.func44 (by kernel_rfl) rfl #[.agg #[.int .i64 ((qB l0 x8_1).f0), .int .i64 ((qB l0 x8_1).f1), .int .i64 ((qB l0 x8_1).f2), .int .i64 ((qB l0 x8_1).f3), .int .i64 ((qB l0 x8_1).f4), .int .i64 ((qB l0 x8_1).f5)]] rfl rfl (by (try simp only [List.map_toArray, List.map_cons, List.map_nil]); first | done | rfl | (simp only [List.length_drop, List.length_take]; rfl)) ?_; (with_reducible refine (qu.calls k1 ((qB l0 x8_1).f0) ((qB l0 x8_1).f1) ((qB l0 x8_1).f2) ((qB l0 x8_1).f3) ((qB l0 x8_1).f4) ((qB l0 x8_1).f5) true _ A6.out).mono ?_); rintro e w8 ⟨rfl, hb⟩; refine ⟨_, rfl, ?_⟩; have n0_ := Aside0.mk (qF bl hb); clear HB; have HB := n0_; clear n0_; (try clear hb); (try clear hb2); (try clear hk); (try clear hi)))
       go_ret
       exact ⟨by first | rfl | (simp [qJ, qI] <;> rfl) | (simp [*, qJ, qI] <;> rfl), bl⟩
      ·replace c7 := Bool.eq_false_iff.mpr c7
       subst c7
       have H1 : (qC.l0 k1 l0 (l0.length : Int) (wrap64 (x8_1 + 1))) = some r := by rw [if_neg (show ¬ (false = true) by decide)] at H; exact H
       clear H
       have H := H1
       clear H1
       have H' := Aside0.mk H
       clear H
       have p275 : 0 ≤ (x8_1 : Int) := of_decide_eq_true (by first | (with_reducible assumption) | assumption)
       have q275 : x8_1 < (l0.length : Int) := of_decide_eq_true (by first | (with_reducible assumption) | assumption)
       obtain ⟨ad275, e275, hx275_0, hx275_1, hx275_2, hx275_3, hx275_4, hx275_5⟩ := qnA HR0.out x8_1 p275 q275
       cases e275
       replace hx275_0 := (HB.out.cell (World.block_lt_of_cell? w _ hx275_0)).trans hx275_0
       replace hx275_1 := (HB.out.cell (World.block_lt_of_cell? w _ hx275_1)).trans hx275_1
       replace hx275_2 := (HB.out.cell (World.block_lt_of_cell? w _ hx275_2)).trans hx275_2
       replace hx275_3 := (HB.out.cell (World.block_lt_of_cell? w _ hx275_3)).trans hx275_3
       replace hx275_4 := (HB.out.cell (World.block_lt_of_cell? w _ hx275_4)).trans hx275_4
       replace hx275_5 := (HB.out.cell (World.block_lt_of_cell? w _ hx275_5)).trans hx275_5
       replace p275 := eq_true p275
       replace q275 := eq_true q275
       go_wp2_with (first | ((with_reducible refine qhA (s := 11) rfl ?_); refine qRB (some 16) 11 rfl rfl Try.func44 (by kernel_rfl) rfl #[.agg #[.int .i64 ((qB l0 x8_1).f0), .int .i64 ((qB l0 x8_1).f1), .int .i64 ((qB l0 x8_1).f2), .int .i64 ((qB l0 x8_1).f3), .int .i64 ((qB l0 x8_1).f4), .int .i64 ((qB l0 x8_1).f5)]] rfl rfl (by (try simp only [List.map_toArray, List.map_cons, List.map_nil]); first | done | rfl | (simp only [List.length_drop, List.length_take]; rfl)) ?_; (with_reducible refine (qu.calls k1 ((qB l0 x8_1).f0) ((qB l0 x8_1).f1) ((qB l0 x8_1).f2) ((qB l0 x8_1).f3) ((qB l0 x8_1).f4) ((qB l0 x8_1).f5) false _ A6.out).mono ?_); rintro e w9 ⟨rfl, hb⟩; refine ⟨_, rfl, ?_⟩; have n0_ := Aside0.mk (qF bl hb); clear HB; have HB := n0_; clear n0_; (try clear hb); (try clear hb2); (try clear hk); (try clear hi)))
       go_roundg k1
       case measure => have := HK1.out; omega
       case rel => exact ⟨(wrap64 (x8_1 + 1)), (by first | rfl | (simp; done) | (simp [*]; done)), H', ⟨by have := HK1.out; omega⟩, ⟨bl⟩⟩
     ·rw [if_neg c5] at H
      exact absurd H (by simp)
    ·rw [if_neg c4] at H
     exact absurd H (by simp)
   ·rw [if_neg c3] at H
    have c3b0 : decide (x8_1 < (l0.length : Int)) = false := decide_eq_false c3
    clear c3
    obtain rfl := Option.some.inj H
    go_wp2
    go_ret
    exact ⟨by first | rfl | (simp [qJ, qI] <;> rfl) | (simp [*, qJ, qI] <;> rfl), bl⟩
def qH.f (k : Nat) (l0 : List (S29))  : Option (Bool) := (qC.f k l0).bind fun t277 => (some (decide (t277 ≥ 0)))
set_option maxHeartbeats 8000000 in
set_option maxRecDepth 100000 in
theorem qH.calls (k : Nat) (A0 : Option Addr) (c0 : Nat) (l0 : List (S29))  (r : Bool) (w : World) (hr0 : Kd.C k29 w A0 l0.length l0) (hc0 : l0.length ≤ c0) (h : qH.f k l0 = some r) :
  Calls Try.prog 43 #[.slice A0 l0.length c0, .func (.func 44) #[] #[]] w fun e w' => e = .returned (.bool r) ∧ Below w.heap.size w w' := by
 have HR0 := Aside0.mk hr0
 have HC0 := Aside0.mk hc0
 clear hr0 hc0
 have HB := Aside0.mk (Below.refl w.heap.size w)
 have H : ((qC.f k l0).bind fun t277 => (some (decide (t277 ≥ 0)))) = some r := h
 clear h
 replace H := Option.bind_eq_some_iff.mp H
 obtain ⟨t277, A30, H⟩ := H
 replace H : (some (decide (t277 ≥ 0))) = some r := H
 have A3 := Aside0.mk A30
 clear A30
 obtain rfl := Option.some.inj H
 go_enter Try.func43, Try.ntmps43
 go_wp2_with (first | ((with_reducible refine qM (f := 47) rfl ?_); refine qo (some 7) rfl rfl Try.func47 (by kernel_rfl) rfl #[.slice A0 l0.length c0, .func (.func 44) #[] #[]] rfl (by (try simp only [List.map_toArray, List.map_cons, List.map_nil]); first | done | rfl | (simp only [List.length_drop, List.length_take]; rfl)) ?_; (with_reducible refine (qC.calls k _ _ l0  t277 _ ?side1 ?side2 A3.out).mono ?_); (case side1 => repeat (first | exact HR0.out | (with_reducible refine Kd.qDA ?_ _) | (with_reducible refine Kd.qCA ?_ _) | (with_reducible refine Kd.qOA ?_))); (case side2 => exact HC0.out); rintro e w4 ⟨rfl, hb⟩; refine ⟨_, rfl, ?_⟩; have n0_ := Aside0.mk (qF bl hb); clear HB; have HB := n0_; clear n0_; (try clear hb); (try clear hb2); (try clear hk); (try clear hi)))
 go_ret
 exact ⟨by first | rfl | (simp [qJ, qI] <;> rfl) | (simp [*, qJ, qI] <;> rfl), bl⟩
def qFA.f (k : Nat) (l0 : List (S29)) : Option (Bool) := (qUA.f (l0.length : Int) 1 4).bind fun t278 => (if t278 = true then ((qH.f k l0).bind fun t279 => (some (!t279))) else (some false))
set_option maxHeartbeats 8000000 in
set_option maxRecDepth 100000 in
theorem qFA.calls (k : Nat) (A0 : Option Addr) (c0 : Nat) (l0 : List (S29)) (r : Bool) (w : World) (hr0 : Kd.C k29 w A0 l0.length l0) (hc0 : l0.length ≤ c0) (h : qFA.f k l0 = some r) :
  Calls Try.prog 30 #[.slice A0 l0.length c0] w fun e w' => e = .returned (.bool r) ∧ Below w.heap.size w w' := by
 have HR0 := Aside0.mk hr0
 have HC0 := Aside0.mk hc0
 clear hr0 hc0
 have HB := Aside0.mk (Below.refl w.heap.size w)
 have H : ((qUA.f (l0.length : Int) 1 4).bind fun t278 => (if t278 = true then ((qH.f k l0).bind fun t279 => (some (!t279))) else (some false))) = some r := h
 clear h
 replace H := Option.bind_eq_some_iff.mp H
 obtain ⟨t278, A20, H⟩ := H
 replace H : (if t278 = true then ((qH.f k l0).bind fun t279 => (some (!t279))) else (some false)) = some r := H
 have A2 := Aside0.mk A20
 clear A20
 by_cases c3 : t278 = true
 ·subst c3
  have H1 : ((qH.f k l0).bind fun t279 => (some (!t279))) = some r := by rw [if_pos rfl] at H; exact H
  clear H
  have H := H1
  clear H1
  replace H := Option.bind_eq_some_iff.mp H
  obtain ⟨t279, A40, H⟩ := H
  replace H : (some (!t279)) = some r := H
  have A4 := Aside0.mk A40
  clear A40
  obtain rfl := Option.some.inj H
  go_enter Try.func30, Try.ntmps30
  go_wp2_with (first | ((with_reducible refine qM (f := 40) rfl ?_); refine qo (some 5) rfl rfl Try.func40 (by kernel_rfl) rfl #[.int .i64 (l0.length : Int), .int .i64 1, .int .i64 4] rfl (by (try simp only [List.map_toArray, List.map_cons, List.map_nil]); first | done | rfl | (simp only [List.length_drop, List.length_take]; rfl)) ?_; (with_reducible refine (qUA.calls (l0.length : Int) 1 4 true _ A2.out).mono ?_); rintro e w' ⟨rfl, ⟨nd, rfl⟩⟩; refine ⟨_, rfl, ?_⟩) | (go_at_call 43; (with_reducible refine (qH.calls k _ _ l0  t279 _ ?side1 ?side2 A4.out).mono ?_); (case side1 => repeat (first | exact HR0.out | (with_reducible refine Kd.qDA ?_ _) | (with_reducible refine Kd.qCA ?_ _) | (with_reducible refine Kd.qOA ?_))); (case side2 => exact HC0.out); rintro e w5 ⟨rfl, hb⟩; have n0_ := Aside0.mk (qF bl hb); clear HB; have HB := n0_; clear n0_; (try clear hb); (try clear hb2); (try clear hk); (try clear hi)))
  go_ret
  exact ⟨by first | rfl | (simp [qJ, qI] <;> rfl) | (simp [*, qJ, qI] <;> rfl), bl⟩
 ·replace c3 := Bool.eq_false_iff.mpr c3
  subst c3
  have H1 : (some false) = some r := by rw [if_neg (show ¬ (false = true) by decide)] at H; exact H
  clear H
  have H := H1
  clear H1
  obtain rfl := Option.some.inj H
  go_enter Try.func30, Try.ntmps30
  go_wp2_with (first | ((with_reducible refine qM (f := 40) rfl ?_); refine qo (some 5) rfl rfl Try.func40 (by kernel_rfl) rfl #[.int .i64 (l0.length : Int), .int .i64 1, .int .i64 4] rfl (by (try simp only [List.map_toArray, List.map_cons, List.map_nil]); first | done | rfl | (simp only [List.length_drop, List.length_take]; rfl)) ?_; (with_reducible refine (qUA.calls (l0.length : Int) 1 4 false _ A2.out).mono ?_); rintro e w' ⟨rfl, ⟨nd, rfl⟩⟩; refine ⟨_, rfl, ?_⟩))
  go_ret
  exact ⟨by first | rfl | (simp [qJ, qI] <;> rfl) | (simp [*, qJ, qI] <;> rfl), bl⟩
end Go.Proofs.Ytbnpplakmihhbaa.P
namespace Go.Proofs.Ytbnpplakmihhbaa
open Go.RowKit Go.Proofs.Ytbnpplakmihhbaa.P Go.Proofs.YtbnpplakmihhbaaW Go.Proofs.YtbnpplakmihhbaaW.PrintWords Go.Proofs.YtbnpplakmihhbaaW.PrintLast
set_option linter.unusedVariables false
set_option linter.unusedSimpArgs false
def lpFace (y : Int) : Bool := decide (0 ≤ y) && decide (y ≤ 9)
def lpGuard (l : List DP) (P : Int) : Bool := decide (1 ≤ l.length) && decide (l.length ≤ 4) && (l.all fun x => [x.f0, x.f1, x.f2, x.f3, x.f4, x.f5].all lpFace) && decide (0 ≤ P) && decide (P ≤ 1000)
theorem lpRow_face {x : DP} (h : [x.f0, x.f1, x.f2, x.f3, x.f4, x.f5].all lpFace = true) (c : Int) : ∀ y ∈ lpRow x c, 0 ≤ y ∧ y ≤ 9 := by
 simp only [lpFace, List.all_cons, List.all_nil, Bool.and_true, Bool.and_eq_true, decide_eq_true_eq] at h
 unfold lpRow pairsL pr2
 intro y hy
 match hc : c.toNat with
 | 0 =>
  rw [hc] at hy
  simp only [List.getD_cons_zero, List.mem_cons, List.not_mem_nil, or_false] at hy
  rcases hy with rfl | rfl <;> omega
 | 1 =>
  rw [hc] at hy
  simp only [List.getD_cons_succ, List.getD_cons_zero, List.mem_cons, List.not_mem_nil, or_false] at hy
  rcases hy with rfl | rfl <;> omega
 | 2 =>
  rw [hc] at hy
  simp only [List.getD_cons_succ, List.getD_cons_zero, List.mem_cons, List.not_mem_nil, or_false] at hy
  rcases hy with rfl | rfl <;> omega
 | n + 3 =>
  rw [hc] at hy
  simp at hy
namespace P
def qc.f (k : Nat) (l0 : List S29) : Option (Int × Bool) := (qFA.f k l0).bind fun t1 => (if t1 = true then ((qp.f k 3 (l0.length : Int)).bind fun t2 => (if lpGuard l0 t2 = true then (some ((lpNum l0 t2.toNat : Int), true)) else (none))) else (some (0, false)))
set_option maxHeartbeats 4000000 in
set_option maxRecDepth 100000 in
theorem qc.calls (k : Nat) (A0 : Option Addr) (c0 : Nat) (l0 : List S29) (r1 : Int) (r2 : Bool) (w : World) (hr0 : Kd.C k29 w A0 l0.length l0) (hc0 : l0.length ≤ c0) (h : qc.f k l0 = some (r1, r2)) :
  Calls Try.prog 17 #[.slice A0 l0.length c0] w fun e w' => e = .returned (.tuple #[.int .i64 r1, .bool r2]) ∧ Below w.heap.size w w' := by
 have HB := Aside0.mk (Below.refl w.heap.size w)
 have HR0 := Aside0.mk hr0
 have HC0 := Aside0.mk hc0
 clear hr0 hc0
 unfold qc.f at h
 obtain ⟨b, hb1, h⟩ := Option.bind_eq_some_iff.mp h
 have A1 := Aside0.mk hb1
 clear hb1
 cases b with
 | false =>
  rw [if_neg (by decide)] at h
  obtain ⟨rfl, rfl⟩ := Prod.mk.inj (Option.some.inj h)
  go_enter Try.func17, Try.ntmps17
  go_wp2_with (first
   | ((with_reducible refine qM (f := 30) rfl ?_); go_loud (refine qo (some 5) rfl rfl Try.func30 (by kernel_rfl) rfl #[.slice A0 l0.length c0] rfl (by (try simp only [List.map_toArray, List.map_cons, List.map_nil]); first | done | rfl) ?_; (with_reducible refine (qFA.calls k A0 c0 l0 false _ HR0.out HC0.out A1.out).mono ?_); rintro e w7 ⟨rfl, hb⟩; refine ⟨_, rfl, ?_⟩; have n1_ := Aside0.mk (qF HB.out hb); clear HB; have HB := n1_; clear n1_ hb)))
  go_ret2
  exact ⟨by first | rfl | (simp; done), HB.out⟩
 | true =>
  rw [if_pos rfl] at h
  obtain ⟨P, hP, h⟩ := Option.bind_eq_some_iff.mp h
  by_cases hG : lpGuard l0 P = true
  ·rw [if_pos hG] at h
   obtain ⟨rfl, rfl⟩ := Prod.mk.inj (Option.some.inj h)
   clear h
   simp only [lpGuard, Bool.and_eq_true, decide_eq_true_eq, List.all_eq_true] at hG
   obtain ⟨⟨⟨⟨g1, g4⟩, gf⟩, gp0⟩, gp9⟩ := hG
   obtain ⟨p, rfl⟩ : ∃ p : Nat, P = (p : Int) := ⟨P.toNat, by omega⟩
   have G := Aside0.mk (And.intro g1 (And.intro g4 (And.intro (fun (x : DP) (hx : x ∈ l0) => lpRow_face (x := x) (by rw [List.all_eq_true]; exact gf x hx)) (And.intro hP (show p ≤ 1000 by omega)))))
   clear g1 g4 gf gp0 gp9 hP
   rw [Int.toNat_natCast]
   go_enter Try.func17, Try.ntmps17
   go_wp2_with (first
    | ((with_reducible refine qM (f := 30) rfl ?_); go_loud (refine qo (some 5) rfl rfl Try.func30 (by kernel_rfl) rfl #[.slice A0 l0.length c0] rfl (by (try simp only [List.map_toArray, List.map_cons, List.map_nil]); first | done | rfl) ?_; (with_reducible refine (qFA.calls k A0 c0 l0 true _ HR0.out HC0.out A1.out).mono ?_); rintro e w7 ⟨rfl, hb⟩; refine ⟨_, rfl, ?_⟩; have n0_ := Aside0.mk (Kd.qZA HR0.out hb); have n1_ := Aside0.mk (qF HB.out hb); clear HB HR0; have HR0 := n0_; have HB := n1_; clear n0_ n1_ hb))
    | ((with_reducible refine qM (f := 31) rfl ?_); go_loud (refine qo (some 8) rfl rfl Try.func31 (by kernel_rfl) rfl #[.slice A0 l0.length c0] rfl (by (try simp only [List.map_toArray, List.map_cons, List.map_nil]); first | done | rfl) ?_; (with_reducible refine (loops_calls k A0 c0 l0 p _ HR0.out HC0.out G.out.1 G.out.2.1 G.out.2.2.1 G.out.2.2.2.1 G.out.2.2.2.2).mono ?_); rintro e w8 ⟨A8, c8, rfl, hb⟩; refine ⟨_, rfl, ?_⟩; have n1_ := Aside0.mk (qF HB.out hb); clear HB; have HB := n1_; clear n1_ hb)))
   go_ret2
   exact ⟨by first | rfl | (simp; done), HB.out⟩
  ·rw [if_neg hG] at h
   cases h
end P
end Go.Proofs.Ytbnpplakmihhbaa
namespace Go.Proofs.Ytbnpplakmihhbaa.P
open Go.RowKit Go.Proofs.YtbnpplakmihhbaaW.PrintWords Go.Proofs.YtbnpplakmihhbaaW.PrintLast Go.Proofs.YtbnpplakmihhbaaW.PrintMore
attribute [local go_sem] qf qe qn qm qb qa qi qh
set_option linter.unusedVariables false
set_option linter.unusedSimpArgs false
def qG.j0 : Nat → List (S25) → List (S29) → Bool → Option (Bool)
 | 0, _, _, _ => none
 | k + 1, x0, x6, x34 => if x34 = true then (some false) else ((qR.f k x0).bind fun t303 => ((qQ.f k x6 t303).bind fun t306 => (if t306 = true then (some true) else (some false))))
def qG.f (k : Nat) (l0 : List (S25)) : Option (Bool) := (qIA.f l0 1048576).bind fun t292 => (if t292 < 0 then (some true) else ((qR.f k l0).bind fun t293 => ((ql.f k t293).bind fun bt296 => ((qR.f k l0).bind fun t298 => ((qc.f k t298).bind fun bt301 => (if bt301.1 = bt296.1 then (qG.j0 k l0 t298 (bt301.2 != bt296.2)) else (qG.j0 k l0 t298 true)))))))
set_option maxHeartbeats 8000000 in
set_option maxRecDepth 100000 in
theorem qG.calls (k : Nat) (A0 : Option Addr) (c0 : Nat) (l0 : List (S25)) (r : Bool) (w : World) (hr0 : Kd.C k25 w A0 l0.length l0) (hc0 : l0.length ≤ c0) (h : qG.f k l0 = some r) :
  Calls Try.prog 5 #[.slice A0 l0.length c0] w fun e w' => e = .returned (.bool r) ∧ Below w.heap.size w w' := by
 have HR0 := Aside0.mk hr0
 have HC0 := Aside0.mk hc0
 clear hr0 hc0
 have HB := Aside0.mk (Below.refl w.heap.size w)
 have H : ((qIA.f l0 1048576).bind fun t292 => (if t292 < 0 then (some true) else ((qR.f k l0).bind fun t293 => ((ql.f k t293).bind fun bt296 => ((qR.f k l0).bind fun t298 => ((qc.f k t298).bind fun bt301 => (if bt301.1 = bt296.1 then (qG.j0 k l0 t298 (bt301.2 != bt296.2)) else (qG.j0 k l0 t298 true)))))))) = some r := h
 clear h
 replace H := Option.bind_eq_some_iff.mp H
 obtain ⟨t292, A20, H⟩ := H
 replace H : (if t292 < 0 then (some true) else ((qR.f k l0).bind fun t293 => ((ql.f k t293).bind fun bt296 => ((qR.f k l0).bind fun t298 => ((qc.f k t298).bind fun bt301 => (if bt301.1 = bt296.1 then (qG.j0 k l0 t298 (bt301.2 != bt296.2)) else (qG.j0 k l0 t298 true))))))) = some r := H
 have A2 := Aside0.mk A20
 clear A20
 by_cases c3 : t292 < 0
 ·rw [if_pos c3] at H
  have c3b0 : decide (t292 < 0) = true := decide_eq_true c3
  clear c3
  obtain rfl := Option.some.inj H
  go_enter Try.func5, Try.ntmps5
  go_wp2_with (first | ((with_reducible refine qM (f := 14) rfl ?_); refine qo (some 11) rfl rfl Try.func14 (by kernel_rfl) rfl #[.slice A0 l0.length c0, .int .i64 1048576] rfl (by (try simp only [List.map_toArray, List.map_cons, List.map_nil]); first | done | rfl | (simp only [List.length_drop, List.length_take]; rfl)) ?_; (with_reducible refine (qIA.calls _ _ l0 1048576 t292 _ ?side1 ?side2 A2.out).mono ?_); (case side1 => repeat (first | exact HR0.out | (with_reducible refine Kd.qDA ?_ _) | (with_reducible refine Kd.qCA ?_ _) | (with_reducible refine Kd.qOA ?_))); (case side2 => exact HC0.out); rintro e w' ⟨rfl, ⟨nd, rfl⟩⟩; refine ⟨_, rfl, ?_⟩))
  go_ret
  exact ⟨by first | rfl | (simp [qJ, qI] <;> rfl) | (simp [*, qJ, qI] <;> rfl), bl⟩
 ·rw [if_neg c3] at H
  have c3b0 : decide (t292 < 0) = false := decide_eq_false c3
  clear c3
  replace H := Option.bind_eq_some_iff.mp H
  obtain ⟨t293, A40, H⟩ := H
  replace H : ((ql.f k t293).bind fun bt296 => ((qR.f k l0).bind fun t298 => ((qc.f k t298).bind fun bt301 => (if bt301.1 = bt296.1 then (qG.j0 k l0 t298 (bt301.2 != bt296.2)) else (qG.j0 k l0 t298 true))))) = some r := H
  have A4 := Aside0.mk A40
  clear A40
  replace H := Option.bind_eq_some_iff.mp H
  obtain ⟨⟨t296, t297⟩, A50, H⟩ := H
  replace H : ((qR.f k l0).bind fun t298 => ((qc.f k t298).bind fun bt301 => (if bt301.1 = t296 then (qG.j0 k l0 t298 (bt301.2 != t297)) else (qG.j0 k l0 t298 true)))) = some r := H
  have A5 := Aside0.mk A50
  clear A50
  replace H := Option.bind_eq_some_iff.mp H
  obtain ⟨t298, A60, H⟩ := H
  replace H : ((qc.f k t298).bind fun bt301 => (if bt301.1 = t296 then (qG.j0 k l0 t298 (bt301.2 != t297)) else (qG.j0 k l0 t298 true))) = some r := H
  have A6 := Aside0.mk A60
  clear A60
  replace H := Option.bind_eq_some_iff.mp H
  obtain ⟨⟨t301, t302⟩, A70, H⟩ := H
  replace H : (if t301 = t296 then (qG.j0 k l0 t298 (t302 != t297)) else (qG.j0 k l0 t298 true)) = some r := H
  have A7 := Aside0.mk A70
  clear A70
  have HC8 := Aside0.mk H
  clear H
  go_enter Try.func5, Try.ntmps5
  go_upto_region 8 with (first | ((with_reducible refine qM (f := 14) rfl ?_); refine qo (some 11) rfl rfl Try.func14 (by kernel_rfl) rfl #[.slice A0 l0.length c0, .int .i64 1048576] rfl (by (try simp only [List.map_toArray, List.map_cons, List.map_nil]); first | done | rfl | (simp only [List.length_drop, List.length_take]; rfl)) ?_; (with_reducible refine (qIA.calls _ _ l0 1048576 t292 _ ?side1 ?side2 A2.out).mono ?_); (case side1 => repeat (first | exact HR0.out | (with_reducible refine Kd.qDA ?_ _) | (with_reducible refine Kd.qCA ?_ _) | (with_reducible refine Kd.qOA ?_))); (case side2 => exact HC0.out); rintro e w' ⟨rfl, ⟨nd, rfl⟩⟩; refine ⟨_, rfl, ?_⟩) | ((with_reducible refine qM (f := 16) rfl ?_); refine qo (some 16) rfl rfl Try.func16 (by kernel_rfl) rfl #[.slice A0 l0.length c0] rfl (by (try simp only [List.map_toArray, List.map_cons, List.map_nil]); first | done | rfl | (simp only [List.length_drop, List.length_take]; rfl)) ?_; (with_reducible refine (qR.calls k _ _ l0 t293 _ ?side1 ?side2 A4.out).mono ?_); (case side1 => repeat (first | exact HR0.out | (with_reducible refine Kd.qDA ?_ _) | (with_reducible refine Kd.qCA ?_ _) | (with_reducible refine Kd.qOA ?_))); (case side2 => exact HC0.out); rintro e w9 ⟨v294, rfl, ho0, hb⟩; refine ⟨_, rfl, ?_⟩; have n0_ := Aside0.mk (Kd.qr ho0 (qL bl)); have n1_ := Aside0.mk (qF bl hb); clear HB; have HO295 := n0_; have HB := n1_; clear n0_ n1_; (try clear hb); (try clear hb2); (try clear hk); (try clear hi); (try clear ho0); obtain ⟨Ao10, co10, eo10⟩ := Kd.qGA HO295.out; subst eo10) | ((with_reducible refine qM (f := 15) rfl ?_); refine qo (some 17) rfl rfl Try.func15 (by kernel_rfl) rfl #[.slice Ao10 t293.length co10] rfl (by (try simp only [List.map_toArray, List.map_cons, List.map_nil]); first | done | rfl | (simp only [List.length_drop, List.length_take]; rfl)) ?_; (with_reducible refine (ql.calls k _ _ t293 t296 t297 _ ?side1 ?side2 A5.out).mono ?_); (case side1 => repeat (first | exact (Kd.qZ HO295.out).2.2 | (with_reducible refine Kd.qDA ?_ _) | (with_reducible refine Kd.qCA ?_ _) | (with_reducible refine Kd.qOA ?_))); (case side2 => exact (Kd.qZ HO295.out).2.1); rintro e w11 ⟨rfl, hb⟩; refine ⟨_, rfl, ?_⟩; have n0_ := Aside0.mk (Kd.qBA (by (with_reducible repeat (first | apply Kd.qT | apply Kd.qS | apply Kd.qY)); exact HO295.out) hb); have n1_ := Aside0.mk (qF bl hb); clear HO295; clear HB; have HO295 := n0_; have HB := n1_; clear n0_ n1_; (try clear hb); (try clear hb2); (try clear hk); (try clear hi)) | ((with_reducible refine qM (f := 16) rfl ?_); refine qo (some 21) rfl rfl Try.func16 (by kernel_rfl) rfl #[.slice A0 l0.length c0] rfl (by (try simp only [List.map_toArray, List.map_cons, List.map_nil]); first | done | rfl | (simp only [List.length_drop, List.length_take]; rfl)) ?_; (with_reducible refine (qR.calls k _ _ l0 t298 _ ?side1 ?side2 A6.out).mono ?_); (case side1 => repeat (first | exact (Kd.qZA HR0.out HB.out) | (with_reducible refine Kd.qDA ?_ _) | (with_reducible refine Kd.qCA ?_ _) | (with_reducible refine Kd.qOA ?_))); (case side2 => exact HC0.out); rintro e w12 ⟨v299, rfl, ho0, hb⟩; refine ⟨_, rfl, ?_⟩; have n0_ := Aside0.mk (Kd.qVA (by (with_reducible repeat (first | apply Kd.qT | apply Kd.qS | apply Kd.qY)); exact HO295.out) (Kd.qWA ho0) hb); have n1_ := Aside0.mk (Kd.qr (Kd.qJB ho0 (Kd.R_lt (by (with_reducible repeat (first | apply Kd.qT | apply Kd.qS | apply Kd.qY)); exact HO295.out))) (qL bl)); have n2_ := Aside0.mk (qF bl hb); clear HO295; clear HB; have HO295 := n0_; have HO300 := n1_; have HB := n2_; clear n0_ n1_ n2_; (try clear hb); (try clear hb2); (try clear hk); (try clear hi); (try clear ho0); obtain ⟨Ao13, co13, eo13⟩ := Kd.qGA HO300.out; subst eo13) | ((with_reducible refine qM (f := 17) rfl ?_); refine qo (some 24) rfl rfl Try.func17 (by kernel_rfl) rfl #[.slice Ao13 t298.length co13] rfl (by (try simp only [List.map_toArray, List.map_cons, List.map_nil]); first | done | rfl | (simp only [List.length_drop, List.length_take]; rfl)) ?_; (with_reducible refine (qc.calls k _ _ t298 t301 t302 _ ?side1 ?side2 A7.out).mono ?_); (case side1 => repeat (first | exact (Kd.qZ HO300.out).2.2 | (with_reducible refine Kd.qDA ?_ _) | (with_reducible refine Kd.qCA ?_ _) | (with_reducible refine Kd.qOA ?_))); (case side2 => exact (Kd.qZ HO300.out).2.1); rintro e w14 ⟨rfl, hb⟩; refine ⟨_, rfl, ?_⟩; have n0_ := Aside0.mk (Kd.qBA (by (with_reducible repeat (first | apply Kd.qT | apply Kd.qS | apply Kd.qY)); exact HO295.out) hb); have n1_ := Aside0.mk (Kd.qBA (by (with_reducible repeat (first | apply Kd.qT | apply Kd.qS | apply Kd.qY)); exact HO300.out) hb); have n2_ := Aside0.mk (qF bl hb); clear HO295; clear HO300; clear HB; have HO295 := n0_; have HO300 := n1_; have HB := n2_; clear n0_ n1_ n2_; (try clear hb); (try clear hb2); (try clear hk); (try clear hi)))
  (try simp only [Act.put, List.setIfInBounds_toArray, List.set_cons_zero, List.set_cons_succ])
  go_cut [34] (fun v34 wc => ∃ (kq : Nat) (x34_7 : Bool), v34 = .bool x34_7 ∧ Aside0 (qG.j0 kq l0 t298 x34_7 = some r) ∧ Aside0 (kq ≤ k) ∧ Aside0 (Kd.R k29 29 wc w.heap.size (fun _ => True) (.slice Ao13 t298.length co13) t298) ∧ Aside0 (Below w.heap.size w wc))
  case first =>
   have H := HC8.out
   clear HC8
   by_cases c15 : t301 = t296
   ·rw [if_pos c15] at H
    have c15b0 : (t301 == t296) = true := beq_iff_eq.mpr c15
    have c15b1 : (t301 != t296) = false := bne_eq_false_iff_eq.mpr c15
    clear c15
    (first | rw [c15b0] | (simp only [i64_w, i32_w]; rw [c15b0]) | skip)
    have H' := Aside0.mk H
    clear H
    go_wp2
    go_meet
    case rel => exact ⟨_, ((t302 != t297)), (by first | rfl | (simp; done) | (simp [*]; done)), H', ⟨by first | omega | exact Nat.le_refl _⟩, ⟨by (with_reducible repeat (first | apply Kd.qT | apply Kd.qS | apply Kd.qY)); exact Kd.qAA HO300.out (fun _ hk => trivial)⟩, ⟨bl⟩⟩
   ·rw [if_neg c15] at H
    have c15b0 : (t301 == t296) = false := beq_eq_false_iff_ne.mpr c15
    have c15b1 : (t301 != t296) = true := bne_iff_ne.mpr c15
    (first | rw [c15b0] | (simp only [i64_w, i32_w]; rw [c15b0]) | skip)
    have H' := Aside0.mk H
    clear H
    go_wp2
    go_meet
    case rel => exact ⟨_, (true), (by first | rfl | (simp; done) | (simp [*]; done)), H', ⟨by first | omega | exact Nat.le_refl _⟩, ⟨by (with_reducible repeat (first | apply Kd.qT | apply Kd.qS | apply Kd.qY)); exact Kd.qAA HO300.out (fun _ hk => trivial)⟩, ⟨bl⟩⟩
  case rest =>
   clear HC8
   try clear c1
   try clear p2
   try clear c3
   try clear c3b0
   try clear c5
   try clear c14
   try clear c15
   try clear c15b0
   try clear c15b1
   obtain ⟨kq, x34_7, rfl, HA, HJ7, HO_6, HB⟩ := hcut
   cases kq with
   | zero => exact absurd HA.out (by simp [qG.j0])
   | succ kj7 =>
    have H := HA.out
    clear HA
    simp only [qG.j0] at H
    by_cases c16 : x34_7 = true
    ·subst c16
     have H1 : (some false) = some r := by rw [if_pos rfl] at H; exact H
     clear H
     have H := H1
     clear H1
     obtain rfl := Option.some.inj H
     go_wp2
     go_ret
     exact ⟨by first | rfl | (simp [qJ, qI] <;> rfl) | (simp [*, qJ, qI] <;> rfl), bl⟩
    ·replace c16 := Bool.eq_false_iff.mpr c16
     subst c16
     have H1 : ((qR.f kj7 l0).bind fun t303 => ((qQ.f kj7 t298 t303).bind fun t306 => (if t306 = true then (some true) else (some false)))) = some r := by rw [if_neg (show ¬ (false = true) by decide)] at H; exact H
     clear H
     have H := H1
     clear H1
     replace H := Option.bind_eq_some_iff.mp H
     obtain ⟨t303, A170, H⟩ := H
     replace H : ((qQ.f kj7 t298 t303).bind fun t306 => (if t306 = true then (some true) else (some false))) = some r := H
     have A17 := Aside0.mk A170
     clear A170
     replace H := Option.bind_eq_some_iff.mp H
     obtain ⟨t306, A180, H⟩ := H
     replace H : (if t306 = true then (some true) else (some false)) = some r := H
     have A18 := Aside0.mk A180
     clear A180
     by_cases c19 : t306 = true
     ·subst c19
      have H1 : (some true) = some r := by rw [if_pos rfl] at H; exact H
      clear H
      have H := H1
      clear H1
      obtain rfl := Option.some.inj H
      go_wp2_with (first | ((with_reducible refine qM (f := 16) rfl ?_); refine qo (some 37) rfl rfl Try.func16 (by kernel_rfl) rfl #[.slice A0 l0.length c0] rfl (by (try simp only [List.map_toArray, List.map_cons, List.map_nil]); first | done | rfl | (simp only [List.length_drop, List.length_take]; rfl)) ?_; (with_reducible refine (qR.calls kj7 _ _ l0 t303 _ ?side1 ?side2 A17.out).mono ?_); (case side1 => repeat (first | exact (Kd.qZA HR0.out HB.out) | (with_reducible refine Kd.qDA ?_ _) | (with_reducible refine Kd.qCA ?_ _) | (with_reducible refine Kd.qOA ?_))); (case side2 => exact HC0.out); rintro e w20 ⟨v304, rfl, ho0, hb⟩; refine ⟨_, rfl, ?_⟩; have n0_ := Aside0.mk (Kd.qVA (by (with_reducible repeat (first | apply Kd.qT | apply Kd.qS | apply Kd.qY)); exact HO_6.out) (Kd.qWA ho0) hb); have n1_ := Aside0.mk (Kd.qr (Kd.qJB ho0 (Kd.R_lt (by (with_reducible repeat (first | apply Kd.qT | apply Kd.qS | apply Kd.qY)); exact HO_6.out))) (qL bl)); have n2_ := Aside0.mk (qF bl hb); clear HO_6; clear HB; have HO_6 := n0_; have HO305 := n1_; have HB := n2_; clear n0_ n1_ n2_; (try clear hb); (try clear hb2); (try clear hk); (try clear hi); (try clear ho0); obtain ⟨Ao21, co21, eo21⟩ := Kd.qGA HO305.out; subst eo21) | ((with_reducible refine qM (f := 18) rfl ?_); refine qo (some 38) rfl rfl Try.func18 (by kernel_rfl) rfl #[.slice Ao13 t298.length co13, .slice Ao21 t303.length co21] rfl (by (try simp only [List.map_toArray, List.map_cons, List.map_nil]); first | done | rfl | (simp only [List.length_drop, List.length_take]; rfl)) ?_; (with_reducible refine (qQ.calls kj7 _ _ t298 _ _ t303 true _ ?side1 ?side2 ?side3 ?side4 A18.out).mono ?_); (case side1 => repeat (first | exact (Kd.qZ HO_6.out).2.2 | (with_reducible refine Kd.qDA ?_ _) | (with_reducible refine Kd.qCA ?_ _) | (with_reducible refine Kd.qOA ?_))); (case side2 => exact (Kd.qZ HO_6.out).2.1); (case side3 => repeat (first | exact (Kd.qZ HO305.out).2.2 | (with_reducible refine Kd.qDA ?_ _) | (with_reducible refine Kd.qCA ?_ _) | (with_reducible refine Kd.qOA ?_))); (case side4 => exact (Kd.qZ HO305.out).2.1); rintro e w22 ⟨rfl, hb⟩; refine ⟨_, rfl, ?_⟩; have n0_ := Aside0.mk (Kd.qBA (by (with_reducible repeat (first | apply Kd.qT | apply Kd.qS | apply Kd.qY)); exact HO_6.out) hb); have n1_ := Aside0.mk (Kd.qBA (by (with_reducible repeat (first | apply Kd.qT | apply Kd.qS | apply Kd.qY)); exact HO305.out) hb); have n2_ := Aside0.mk (qF bl hb); clear HO_6; clear HO305; clear HB; have HO_6 := n0_; have HO305 := n1_; have HB := n2_; clear n0_ n1_ n2_; (try clear hb); (try clear hb2); (try clear hk); (try clear hi)))
      go_ret
      exact ⟨by first | rfl | (simp [qJ, qI] <;> rfl) | (simp [*, qJ, qI] <;> rfl), bl⟩
     ·replace c19 := Bool.eq_false_iff.mpr c19
      subst c19
      have H1 : (some false) = some r := by rw [if_neg (show ¬ (false = true) by decide)] at H; exact H
      clear H
      have H := H1
      clear H1
      obtain rfl := Option.some.inj H
      go_wp2_with (first | ((with_reducible refine qM (f := 16) rfl ?_); refine qo (some 37) rfl rfl Try.func16 (by kernel_rfl) rfl #[.slice A0 l0.length c0] rfl (by (try simp only [List.map_toArray, List.map_cons, List.map_nil]); first | done | rfl | (simp only [List.length_drop, List.length_take]; rfl)) ?_; (with_reducible refine (qR.calls kj7 _ _ l0 t303 _ ?side1 ?side2 A17.out).mono ?_); (case side1 => repeat (first | exact (Kd.qZA HR0.out HB.out) | (with_reducible refine Kd.qDA ?_ _) | (with_reducible refine Kd.qCA ?_ _) | (with_reducible refine Kd.qOA ?_))); (case side2 => exact HC0.out); rintro e w23 ⟨v304, rfl, ho0, hb⟩; refine ⟨_, rfl, ?_⟩; have n0_ := Aside0.mk (Kd.qVA (by (with_reducible repeat (first | apply Kd.qT | apply Kd.qS | apply Kd.qY)); exact HO_6.out) (Kd.qWA ho0) hb); have n1_ := Aside0.mk (Kd.qr (Kd.qJB ho0 (Kd.R_lt (by (with_reducible repeat (first | apply Kd.qT | apply Kd.qS | apply Kd.qY)); exact HO_6.out))) (qL bl)); have n2_ := Aside0.mk (qF bl hb); clear HO_6; clear HB; have HO_6 := n0_; have HO305 := n1_; have HB := n2_; clear n0_ n1_ n2_; (try clear hb); (try clear hb2); (try clear hk); (try clear hi); (try clear ho0); obtain ⟨Ao24, co24, eo24⟩ := Kd.qGA HO305.out; subst eo24) | ((with_reducible refine qM (f := 18) rfl ?_); refine qo (some 38) rfl rfl Try.func18 (by kernel_rfl) rfl #[.slice Ao13 t298.length co13, .slice Ao24 t303.length co24] rfl (by (try simp only [List.map_toArray, List.map_cons, List.map_nil]); first | done | rfl | (simp only [List.length_drop, List.length_take]; rfl)) ?_; (with_reducible refine (qQ.calls kj7 _ _ t298 _ _ t303 false _ ?side1 ?side2 ?side3 ?side4 A18.out).mono ?_); (case side1 => repeat (first | exact (Kd.qZ HO_6.out).2.2 | (with_reducible refine Kd.qDA ?_ _) | (with_reducible refine Kd.qCA ?_ _) | (with_reducible refine Kd.qOA ?_))); (case side2 => exact (Kd.qZ HO_6.out).2.1); (case side3 => repeat (first | exact (Kd.qZ HO305.out).2.2 | (with_reducible refine Kd.qDA ?_ _) | (with_reducible refine Kd.qCA ?_ _) | (with_reducible refine Kd.qOA ?_))); (case side4 => exact (Kd.qZ HO305.out).2.1); rintro e w25 ⟨rfl, hb⟩; refine ⟨_, rfl, ?_⟩; have n0_ := Aside0.mk (Kd.qBA (by (with_reducible repeat (first | apply Kd.qT | apply Kd.qS | apply Kd.qY)); exact HO_6.out) hb); have n1_ := Aside0.mk (Kd.qBA (by (with_reducible repeat (first | apply Kd.qT | apply Kd.qS | apply Kd.qY)); exact HO305.out) hb); have n2_ := Aside0.mk (qF bl hb); clear HO_6; clear HO305; clear HB; have HO_6 := n0_; have HO305 := n1_; have HB := n2_; clear n0_ n1_ n2_; (try clear hb); (try clear hb2); (try clear hk); (try clear hi)))
      go_ret
      exact ⟨by first | rfl | (simp [qJ, qI] <;> rfl) | (simp [*, qJ, qI] <;> rfl), bl⟩
def qG.Pure : Prop := ∀ (l0 : List (S25)), l0.length * 48 ≤ 140737488351232 → ∃ k, qG.f k l0 = some true
end Go.Proofs.Ytbnpplakmihhbaa.P
namespace Go.Proofs.Ytbnpplakmihhbaa
open Go.ChangeShapes Go.WideShapes Go.Deep Go.RowKit Go.Proofs.YtbnpplakmihhbaaW.PrintWords
set_option linter.unusedVariables false
set_option linter.unusedSimpArgs false
theorem list_of_6 : ∀ zs : List Int, zs.length = 6 → ∃ x0 x1 x2 x3 x4 x5 : Int, zs = [x0, x1, x2, x3, x4, x5]
 | [x0, x1, x2, x3, x4, x5], _ => ⟨x0, x1, x2, x3, x4, x5, rfl⟩
def laidB (P : Program) : List Field → Nat → Nat → Bool
 | [], o, n => decide (o = n)
 | f :: fs, o, n => decide (f.offset = o) && laidB P fs (o + P.cellsOf f.type) n
def flatB (P : Program) : Nat → TypeId → Bool
 | 0, _ => false
 | m + 1, t => match P.underlying t with
  | some (.int .i64) => decide (P.cellsOf t = 1)
  | some (.struct fs) => laidB P fs.toList 0 (P.cellsOf t) && fs.toList.all fun f => flatB P m f.type
  | _ => false
section
variable {H : Type} {enc : TypeId × Value → H} {P : Program} {w : World} {base : Nat} {spare : Nat → Bool} {held : Bool}
theorem fields_flat {n : Nat} (cs : List Value) (rd : TypeId → List Value → Option (DataW H × List MemPlace)) :
  ∀ (fs : List Field) (o : Nat) (xs : List (DataW H × List MemPlace)), laidB P fs o n = true → xs.length = fs.length →
   (∀ (i : Nat) (f : Field), fs[i]? = some f → rd f.type ((cs.drop f.offset).take (P.cellsOf f.type)) = xs[i]?) →
   (∀ f ∈ fs, ∀ cs' x, rd f.type cs' = some x → cs'.length = P.cellsOf f.type ∧ ∃ zs : List Int, cs' = zs.map (Value.int .i64) ∧ ∀ z ∈ zs, (Lit.int .i64 z).wf = true) →
   o ≤ n ∧ ∃ zs : List Int, (cs.drop o).take (n - o) = zs.map (Value.int .i64) ∧ ∀ z ∈ zs, (Lit.int .i64 z).wf = true
 | [], o, xs, hl, hx, hr, hi => by
  have : o = n := by simpa [laidB] using hl
  subst this
  exact ⟨Nat.le_refl _, [], by simp, by simp⟩
 | f :: fs, o, xs, hl, hx, hr, hi => by
  simp only [laidB, Bool.and_eq_true, decide_eq_true_eq] at hl
  obtain ⟨ho, hl⟩ := hl
  match xs, hx with
  | x :: xs, hx =>
   have h0 := hr 0 f rfl
   rw [ho] at h0
   obtain ⟨hlen, zs, hz, hw⟩ := hi f (by simp) _ x h0
   obtain ⟨hle, ws, hw2, hw3⟩ := fields_flat cs rd fs (o + P.cellsOf f.type) xs hl (by simpa using hx) (fun i g hg => by have := hr (i + 1) g (by simpa using hg); simpa using this) (fun g hg => hi g (by simp [hg]))
   refine ⟨by omega, zs ++ ws, ?_, fun z hz' => ?_⟩
   ·rw [List.map_append, ← hz, ← hw2, ← List.drop_drop, show n - o = P.cellsOf f.type + (n - (o + P.cellsOf f.type)) by omega, List.take_add]
   ·rcases List.mem_append.1 hz' with h | h
    ·exact hw z h
    ·exact hw3 z h
theorem trod_flat (m : Nat) : ∀ {t : TypeId} {fuel : Nat} {cs : List Value} {x : DataW H × List MemPlace}, flatB P m t = true → DataW.trod enc P w base spare held fuel t cs = some x → (∃ k, P.underlying t = some (.int k)) → cs.length = 1 ∧ ∃ zs : List Int, cs = zs.map (Value.int .i64) ∧ ∀ z ∈ zs, (Lit.int .i64 z).wf = true := by
 intro t fuel cs x hf h ⟨k, hk⟩
 cases m with
 | zero => simp [flatB] at hf
 | succ m =>
  unfold flatB at hf
  rw [hk] at hf
  have : k = .i64 := by
   cases k <;> first | rfl | (simp at hf)
  subst this
  obtain ⟨n, rfl, _, hw⟩ := DataW.trod_int hk h
  exact ⟨rfl, [n], rfl, by simpa using hw⟩
theorem trod_flat_all (m : Nat) : ∀ {t : TypeId} {fuel : Nat} {cs : List Value} {x : DataW H × List MemPlace}, flatB P m t = true → DataW.trod enc P w base spare held fuel t cs = some x →
  cs.length = P.cellsOf t ∧ ∃ zs : List Int, cs = zs.map (Value.int .i64) ∧ ∀ z ∈ zs, (Lit.int .i64 z).wf = true := by
 induction m with
 | zero => intro t fuel cs x hf h; simp [flatB] at hf
 | succ m ih =>
  intro t fuel cs x hf h
  have hf0 := hf
  unfold flatB at hf
  split at hf
  ·rename_i hu
   obtain ⟨hl, hz⟩ := trod_flat (m + 1) hf0 h ⟨_, hu⟩
   exact ⟨by rw [hl, of_decide_eq_true hf], hz⟩
  ·rename_i fs hu
   rw [Bool.and_eq_true, List.all_eq_true] at hf
   obtain ⟨hl, ha⟩ := hf
   obtain ⟨xs, n, _, _, hlen, hxl, hg⟩ := DataW.trod_struct hu h
   obtain ⟨_, zs, hz, hw⟩ := fields_flat (n := P.cellsOf t) cs (fun t cs => DataW.trod enc P w base spare held n t cs) fs.toList 0 xs hl (by simpa using hxl)
    (fun i f hf => hg i f (by simpa using hf)) (fun f hf cs' x hx => ih (ha f hf) hx)
   refine ⟨hlen, zs, ?_, hw⟩
   rw [← hz, List.drop_zero, Nat.sub_zero, ← hlen, List.take_length]
  ·cases hf
theorem open_flats {r : Reach} {b0 m : Nat} {t e : TypeId} {a : Option Addr} {len cap : Nat} {d : DataW H} {p : List MemPlace} (hu : P.underlying t = some (.slice e)) (hf : flatB P m e = true)
  (h : DataW.Trod enc P w base spare held t (.slice a len cap) d p) : len ≤ cap ∧ cap ≤ maxLen ∧ ∃ L : List (List Int), L.length = len ∧ (∀ zs ∈ L, zs.length = P.cellsOf e) ∧
   (0 < len → ∃ ad, a = some ad ∧ ∀ (j : Nat) (zs : List Int), L[j]? = some zs → ∀ (i : Nat) (u : Value), (zs.map (Value.int .i64))[i]? = some u → w.cell? (ad.add (j * P.cellsOf e + i)) = some u) := by
 obtain ⟨fuel, h⟩ := h
 rcases DataW.trod_slice hu h with ⟨hcs, _⟩ | ⟨x, l, c, elems, rest, n, _, hcs, _, _, hl, hm, hlen, hel, _, _⟩
 ·simp [Value.cells] at hcs
  obtain ⟨rfl, rfl, rfl⟩ := hcs
  exact ⟨Nat.le_refl _, by simp [maxLen], [], rfl, by simp, fun h => absurd h (by omega)⟩
 ·simp [Value.cells] at hcs
  obtain ⟨rfl, rfl, rfl⟩ := hcs
  refine ⟨hl, hm, ?_⟩
  have each : ∀ i, i < len → ∃ zs : List Int, zs.length = P.cellsOf e ∧ ∀ (j : Nat) (u : Value), (zs.map (Value.int .i64))[j]? = some u → w.cell? (x.add (i * P.cellsOf e + j)) = some u := by
   intro i hi
   have h1 := hel i hi
   have h2 : elems[i]? = some (elems[i]'(by omega)) := List.getElem?_eq_getElem (by omega)
   rw [h2, Option.bind_eq_some_iff] at h1
   obtain ⟨cs', hcs', ht⟩ := h1
   obtain ⟨_, hcl, hat⟩ := World.cells?_some hcs'
   obtain ⟨hl', zs, hz, _⟩ := trod_flat_all m hf ht
   have hzl : zs.length = P.cellsOf e := by
    have := congrArg List.length hz
    rw [List.length_map] at this
    omega
   refine ⟨zs, hzl, fun j u hu => ?_⟩
   have hj : j < P.cellsOf e := by
    have := (List.getElem?_eq_some_iff.1 hu).1
    rw [List.length_map] at this
    omega
   rw [← Go.Deep.add_add, hat j hj, hz, hu]
  have mk : ∀ n, n ≤ len → ∃ L : List (List Int), L.length = n ∧ (∀ zs ∈ L, zs.length = P.cellsOf e) ∧ ∀ (j : Nat) (zs : List Int), L[j]? = some zs → ∀ (i : Nat) (u : Value), (zs.map (Value.int .i64))[i]? = some u → w.cell? (x.add (j * P.cellsOf e + i)) = some u := by
   intro n
   induction n with
   | zero => exact fun _ => ⟨[], rfl, by simp, fun j zs h => by simp at h⟩
   | succ n ih =>
    intro hn
    obtain ⟨L, h1, h2, h3⟩ := ih (by omega)
    obtain ⟨zs, hz1, hz2⟩ := each n (by omega)
    refine ⟨L ++ [zs], by simp [h1], fun y hy => ?_, fun j y hj => ?_⟩
    ·rcases List.mem_append.1 hy with h | h
     ·exact h2 y h
     ·rw [List.mem_singleton.1 h]; exact hz1
    ·rcases Nat.lt_or_ge j L.length with h | h
     ·rw [List.getElem?_append_left h] at hj
      exact h3 j y hj
     ·have : j = L.length := by
       have := (List.getElem?_eq_some_iff.1 hj).1
       simp at this
       omega
      subst this
      have : zs = y := by simpa using hj
      subst this
      rw [h1]
      exact hz2
  obtain ⟨L, h1, h2, h3⟩ := mk len (Nat.le_refl _)
  exact ⟨L, h1, h2, fun _ => ⟨x, rfl, h3⟩⟩
end
theorem sized_flats {H : Type} {enc : TypeId × Value → H} {P : Program} {W : World} {base : Nat} {spare : Nat → Bool} {held : Bool} {t e : TypeId} {a : Option Addr} {len cap : Nat} {d : DataW H} {ps : List MemPlace} {ts : List TypeId} {ds : List (DataW H)} {j : Nat}
  (hsz : (DataW.weightsEach P ts ds).all (· ≤ reachBytes) = true) (ht : ts[j]? = some t) (hd : ds[j]? = some d) (hu : P.underlying t = some (.slice e)) {B : Nat} (hB : P.bytesOf e = B)
  (h : DataW.Trod enc P W base spare held t (.slice a len cap) d ps) : len * B ≤ 140737488351232 := by
 obtain ⟨fuel, h⟩ := h
 rcases DataW.trod_slice hu h with ⟨hcs, _⟩ | ⟨x, l, c, elems, rest, n, _, hcs, hx, _, hl, hm, hlen, hel, _, _⟩
 ·simp [Value.cells] at hcs
  obtain ⟨rfl, rfl, rfl⟩ := hcs
  simp
 ·simp [Value.cells] at hcs
  obtain ⟨rfl, rfl, rfl⟩ := hcs
  obtain ⟨rfl, _⟩ := Prod.mk.inj hx
  have z := sized_slice hsz ht hd hu
  rw [hB] at z
  refine Nat.le_trans (Nat.mul_le_mul_right _ ?_) z
  rw [List.length_map, hlen]
  exact Nat.le_add_right _ _
end Go.Proofs.Ytbnpplakmihhbaa
namespace Go.Proofs.Ytbnpplakmihhbaa
open Go.RowKit Go.Proofs.Ytbnpplakmihhbaa.P Go.Proofs.YtbnpplakmihhbaaW.PrintWords Go.Proofs.YtbnpplakmihhbaaW.PrintLast
set_option linter.unusedVariables false
set_option linter.unusedSimpArgs false
abbrev rdD9 (l : List DP) (i : Nat) : DP := qB l (i : Int)
def entE (l : List DP) : Nat → Int → List Int
 | 0, _ => []
 | t + 1, rest => lpRow (rdD9 l t) (rest % 3) ++ entE l t (rest / 3)
def dgE : Nat → Int → Nat → Int
 | 0, _, _ => 0
 | t + 1, rest, i => if i = t then rest % 3 else dgE t (rest / 3) i
def ascE (l : List DP) (f : Nat → Int) : Nat → List Int
 | 0 => []
 | t + 1 => ascE l f t ++ lpRow (rdD9 l t) (f t)
theorem lpI_cnt (l : List DP) : ∀ (t : Nat) (rest : Int) (cs m : List Int), (lpI l t rest cs m).2 = (entE l t rest).foldl lpAdd m
 | 0, rest, cs, m => rfl
 | t + 1, rest, cs, m => by rw [lpI, entE, List.foldl_append]; exact lpI_cnt l t _ _ _
theorem ascE_congr (l : List DP) (f g : Nat → Int) : ∀ t, (∀ i, i < t → f i = g i) → ascE l f t = ascE l g t
 | 0, _ => rfl
 | t + 1, h => by rw [ascE, ascE, ascE_congr l f g t (fun i hi => h i (by omega)), h t (by omega)]
theorem qfB (l : List DP) (p : Int → Bool) : ∀ (t : Nat) (rest : Int), (entE l t rest).countP p = (ascE l (dgE t rest) t).countP p
 | 0, _ => rfl
 | t + 1, rest => by
  rw [entE, ascE, List.countP_append, List.countP_append, qfB l p t (rest / 3)]
  rw [ascE_congr l (dgE (t + 1) rest) (dgE t (rest / 3)) t (fun i hi => by rw [dgE, if_neg (by omega)])]
  rw [show dgE (t + 1) rest t = rest % 3 from by rw [dgE, if_pos rfl]]
  omega
theorem qtB : ∀ (t : Nat) (rest : Int) (i : Nat), 0 ≤ dgE t rest i ∧ dgE t rest i < 3
 | 0, _, _ => by rw [dgE]; omega
 | t + 1, rest, i => by
  rw [dgE]
  split
  ·omega
  ·exact qtB t _ i
theorem ascE_len (l : List DP) (f : Nat → Int) (hf : ∀ i, 0 ≤ f i ∧ f i < 3) : ∀ t, (ascE l f t).length = 2 * t
 | 0 => rfl
 | t + 1 => by rw [ascE, List.length_append, ascE_len l f hf t, qFB _ (hf t).1 (hf t).2]; omega
def ctE (E : List Int) (j : Nat) : Nat := E.countP fun x => x == (j : Int)
theorem qwA (m : List Int) (x : Int) : (lpAdd m x).length = m.length := by unfold lpAdd; rw [List.length_set]
theorem fold_cnt : ∀ (E m : List Int) (j : Nat), j < m.length → (∀ x ∈ E, 0 ≤ x ∧ x < (m.length : Int)) → (∀ i, 0 ≤ m.getD i 0 ∧ m.getD i 0 + (E.length : Int) ≤ 1000) → (E.foldl lpAdd m).getD j 0 = m.getD j 0 + (ctE E j : Int)
 | [], m, j, hj, hE, hm => by simp [ctE]
 | x :: E, m, j, hj, hE, hm => by
  have hx := hE x (by simp)
  have hmx := hm x.toNat
  rw [List.length_cons] at hmx
  rw [List.foldl_cons]
  have hw : wrap64 (m.getD x.toNat 0 + 1) = m.getD x.toNat 0 + 1 := by unfold wrap64; omega
  have hg : ∀ i, (lpAdd m x).getD i 0 = m.getD i 0 + if x = (i : Int) then 1 else 0 := by
   intro i
   unfold lpAdd
   rw [hw]
   by_cases hi : x = (i : Int)
   ·subst hi
    rw [if_pos rfl, Int.toNat_natCast, List.getD_eq_getElem?_getD, List.getElem?_set_self (by omega)]
    rfl
   ·rw [if_neg hi, List.getD_eq_getElem?_getD, List.getElem?_set_ne (by omega), Int.add_zero, List.getD_eq_getElem?_getD]
  rw [fold_cnt E (lpAdd m x) j (by rw [qwA]; exact hj) (fun y hy => by rw [qwA]; exact hE y (by simp [hy])) (fun i => by
   have h1 := hm i
   rw [List.length_cons] at h1
   rw [hg i]
   split <;> omega), hg j]
  unfold ctE
  rw [List.countP_cons]
  by_cases hi : x = (j : Int)
  ·rw [if_pos hi, if_pos (by simpa using hi)]; omega
  ·rw [if_neg hi, if_neg (by simpa using hi)]; omega
def inN (n : Nat) (x : Int) : Bool := decide (1 ≤ x) && decide (x ≤ (n : Int))
def sumE (E : List Int) : Nat → Nat
 | 0 => 0
 | n + 1 => sumE E n + ctE E (n + 1)
theorem sum_in (E : List Int) : ∀ n, sumE E n = E.countP (inN n)
 | 0 => by
  rw [sumE, eq_comm, List.countP_eq_zero]
  intro x _
  simp only [inN, Bool.and_eq_true, decide_eq_true_eq]
  omega
 | n + 1 => by
  rw [sumE, sum_in E n]
  unfold ctE
  induction E with
  | nil => rfl
  | cons x E ih =>
   simp only [List.countP_cons]
   have : (if inN (n + 1) x = true then 1 else 0) = (if inN n x = true then 1 else 0) + (if (x == ((n + 1 : Nat) : Int)) = true then 1 else 0) := by
    simp only [inN, Bool.and_eq_true, decide_eq_true_eq, beq_iff_eq]
    split <;> split <;> split <;> omega
   omega
theorem twos_in (E : List Int) (n : Nat) (hl : E.length = 2 * n) (h : ∀ j, 1 ≤ j → j ≤ n → ctE E j = 2) : ∀ x ∈ E, inN n x = true := by
 have hs : ∀ i, i ≤ n → sumE E i = 2 * i := by
  intro i
  induction i with
  | zero => intro _; rfl
  | succ i ih => intro hi; rw [sumE, ih (by omega), h (i + 1) (by omega) hi]; omega
 have := hs n (Nat.le_refl _)
 rw [sum_in, ← hl] at this
 exact List.countP_eq_length.1 this
def inFace (n : Int) : Bool := decide (0 ≤ n) && decide (n ≤ 9)
def dieB (a b c d e f : Int) : Bool := [a, b, c, d, e, f].all inFace
theorem rdn (l : List Int) (i : Nat) (h : i < l.length) : rd l (i : Int) = l[i] := by
 unfold rd
 rw [Int.toNat_natCast, List.getD_eq_getElem?_getD, List.getElem?_eq_getElem h]; rfl
theorem qfA (n a b : Int) : qv.f n a b = some (decide (a ≤ n) && decide (n ≤ b)) := by
 unfold qv.f
 by_cases h : n ≥ a
 ·rw [if_pos h, decide_eq_true (show a ≤ n from h), Bool.true_and]
 ·rw [if_neg h, decide_eq_false (show ¬ a ≤ n from h), Bool.false_and]
theorem impl_in_eq (n a b : Int) : qUA.f n a b = some (decide (a ≤ n) && decide (n ≤ b)) := by
 unfold qUA.f
 by_cases h : a ≤ n
 ·rw [if_pos h, decide_eq_true h, Bool.true_and]
 ·rw [if_neg h, decide_eq_false h, Bool.false_and]
theorem l1All_loop (l : List Int) (a b : Int) (hl : l.length ≤ 140737488355328) (d : Nat) : ∀ i : Nat, i ≤ l.length → l.length - i = d →
  Ev (fun k => qg.l0 k a b l (l.length : Int) (i : Int)) ((l.drop i).all fun n => decide (a ≤ n) && decide (n ≤ b)) := by
 induction d with
 | zero =>
  intro i hi hd
  refine Ev.step (f := fun k => _) (fun k => by rw [qg.l0]) (Ev.neg (by omega) (Ev.some_ ?_))
  rw [List.drop_eq_nil_of_le (by omega)]; rfl
 | succ d ih =>
  intro i hi hd
  have h : i < l.length := by omega
  refine Ev.step (f := fun k => _) (fun k => by rw [qg.l0]) (Ev.pos (by omega) (Ev.pos (by omega) (Ev.pos (by omega) (Ev.bindc (qfA _ _ _) ?_))))
  rw [rdn l i h, List.drop_eq_getElem_cons h, List.all_cons, show wrap64 ((i : Int) + 1) = ((i + 1 : Nat) : Int) by unfold wrap64; omega]
  cases hb : (decide (a ≤ l[i]) && decide (l[i] ≤ b)) with
  | true => exact Ev.pos rfl (ih (i + 1) (by omega) (by omega))
  | false => exact Ev.neg (by decide) (Ev.some_ rfl)
theorem spec_l1All_ev (l : List Int) (a b : Int) (hl : l.length ≤ 140737488355328) : Ev (fun k => qg.f k l a b) (l.all fun n => decide (a ≤ n) && decide (n ≤ b)) := by
 have := l1All_loop l a b hl l.length 0 (by omega) (by omega)
 simpa [qg.f] using this
theorem spec_diGood_ev (a b c d e f : Int) : Ev (fun k => qMA.f k a b c d e f) (dieB a b c d e f) := by
 unfold qMA.f
 exact Ev.bindc rfl (Ev.bind (spec_l1All_ev [a, b, c, d, e, f] 0 9 (by simp)) (Ev.some_ rfl))
theorem isDie1_eq (n : Int) : qJA.f n = some (!inFace n) := by
 unfold qJA.f
 rw [impl_in_eq]; rfl
theorem idxDie_loop (l : List Int) (hl : l.length ≤ 140737488355328) (d : Nat) : ∀ i : Nat, i ≤ l.length → l.length - i = d →
  ∃ r : Int, Ev (fun k => qE.l0 k l (l.length : Int) (i : Int)) r ∧ decide (r ≥ 0) = !((l.drop i).all inFace) := by
 induction d with
 | zero =>
  intro i hi hd
  refine ⟨-1, Ev.step (f := fun k => _) (fun k => by rw [qE.l0]) (Ev.neg (by omega) (Ev.some_ rfl)), ?_⟩
  rw [List.drop_eq_nil_of_le (by omega)]; rfl
 | succ d ih =>
  intro i hi hd
  have h : i < l.length := by omega
  rw [List.drop_eq_getElem_cons h, List.all_cons]
  cases hb : inFace l[i] with
  | true =>
   obtain ⟨r, h1, h2⟩ := ih (i + 1) (by omega) (by omega)
   refine ⟨r, Ev.step (f := fun k => _) (fun k => by rw [qE.l0]) (Ev.pos (by omega) (Ev.pos (by omega) (Ev.pos (by omega) (Ev.bindc (isDie1_eq _) ?_)))), by rw [Bool.true_and]; exact h2⟩
   rw [rdn l i h, hb, show wrap64 ((i : Int) + 1) = ((i + 1 : Nat) : Int) by unfold wrap64; omega]
   exact Ev.neg (by decide) h1
  | false =>
   refine ⟨(i : Int), Ev.step (f := fun k => _) (fun k => by rw [qE.l0]) (Ev.pos (by omega) (Ev.pos (by omega) (Ev.pos (by omega) (Ev.bindc (isDie1_eq _) ?_)))), ?_⟩
   ·rw [rdn l i h, hb]
    exact Ev.pos rfl (Ev.now _)
   ·rw [Bool.false_and]; exact decide_eq_true (by omega)
theorem impl_IsDie_ev (a b c d e f : Int) : Ev (fun k => qQA.f k a b c d e f) (dieB a b c d e f) := by
 obtain ⟨r, h1, h2⟩ := idxDie_loop [a, b, c, d, e, f] (by simp) 6 0 (by simp) (by simp)
 unfold qQA.f qK.f qE.f
 refine Ev.bindc rfl (Ev.bind (a := decide (r ≥ 0)) (Ev.bind h1 (Ev.now _)) (Ev.some_ ?_))
 rw [h2]
 simp [dieB]
theorem dieB_face {a b c d e f : Int} (h : dieB a b c d e f = true) : ∀ n ∈ [a, b, c, d, e, f], 0 ≤ n ∧ n ≤ 9 := by
 intro n hn
 have := List.all_eq_true.1 h n hn
 simpa [inFace] using this
end Go.Proofs.Ytbnpplakmihhbaa
